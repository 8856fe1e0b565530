/- made, Live, TrailingZeros64. -/
import Derived.Test.YtffjaaolcphonaaDoorSlot2
import Derived.Shelf.Spec.TrailingZeros
namespace Go.Proofs.YtffjaaolcphonaaDoor
open Go.RowKit
theorem SAt.f0 {w : World} {B : SB} {s : SS} (h : SAt w B s) : w.cell? ⟨B.P, 0, none⟩ = some (.slice (some ⟨B.A, 0, none⟩) s.ages.length B.c) := by
  obtain ⟨W, _, hb⟩ := h.hp
  rw [hb.cell]; rfl
theorem SAt.fn {w : World} {B : SB} {s : SS} (h : SAt w B s) : w.cell? ⟨B.P, 65, none⟩ = some (.int .i64 s.n) := by
  obtain ⟨W, _, hb⟩ := h.hp
  rw [hb.cell]; exact cellsS_n
theorem SAt.cA {w : World} {B : SB} {s : SS} (h : SAt w B s) {i : Nat} (hi : i < s.ages.length) : w.cell? ⟨B.A, i, none⟩ = some (.int .i64 (s.ages.getD i 0)) := h.ha.cell hi
theorem smade (w : World) (B : SB) (s : SS) (h : SAt w B s) : Calls Tryd.prog 85 #[.pointer (some ⟨B.P, 0, none⟩)] w fun e w' => e = .returned (.bool true) ∧ w = w' := by
  have F0 := h.f0
  have t0 := h.T0
  have t1 : (0 : Int) < (s.ages.length : Int) := by omega
  have d : decide (0 < s.ages.length) = true := decide_eq_true t0
  go_enter Tryd.func85, Tryd.ntmps85
  go_wp2
  go_ret
  exact ⟨rfl, rfl⟩
/-- The library's table lies in its variable. -/
def TabD (w : World) : Prop := TabAt 7 Lib.deBruijn64tab w
theorem TabD.fr {w w' : World} (h : TabD w) {F : Nat → Prop} (hf : Fr F w w') (hn : ¬ F 7) : TabD w' := fun j hj => hf.cellK (h j hj) hn
set_option maxRecDepth 100000 in
set_option maxHeartbeats 1000000 in
theorem tz_core (x k idx : Nat) (w : World) (hx0 : ((x : Int) == 0) = false)
    (key : IntKind.u64.wrap (bits BinOp.and IntKind.u64 (x : Int) (IntKind.u64.wrap (-(x : Int))) * 285870213051353865) / 288230376151711744 = (idx : Int))
    (hi : idx < 64) (hk : k < 64) (hcell : w.cell? ⟨7, idx, none⟩ = some (.int .u8 k)) :
    Calls Tryd.prog 122 #[.int .u64 x] w fun e w' => e = .returned (.int .i64 k) ∧ w = w' := by
  go_enter Tryd.func122, Tryd.ntmps122
  go_wp2_with (simp only [key])
  go_ret
  exact ⟨rfl, rfl⟩
theorem stz (x : Nat) (hx : x < 18446744073709551616) (hx0 : x ≠ 0) (w : World) (hT : TabD w) :
    Calls Tryd.prog 122 #[.int .u64 x] w fun e w' => e = .returned (.int .i64 (Lib.ctz 64 x)) ∧ w = w' := by
  obtain ⟨hlow, hk⟩ := Lib.lowest_bit 64 x hx0 hx
  obtain ⟨hi, htab⟩ := Lib.deBruijn64_at _ hk
  have hcell := hT _ hi
  rw [htab] at hcell
  exact tz_core x _ _ w (by simp; omega) (tz64_key x _ hx hx0 hlow) hi hk hcell
end Go.Proofs.YtffjaaolcphonaaDoor
