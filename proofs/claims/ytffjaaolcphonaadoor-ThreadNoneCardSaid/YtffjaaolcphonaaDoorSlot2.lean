/- mark. -/
import Derived.Test.YtffjaaolcphonaaDoorSlot1
namespace Go.Proofs.YtffjaaolcphonaaDoor
open Go.RowKit
theorem SAt.put {w : World} {B : SB} {s : SS} (h : SAt w B s) {W' : Nat → Nat} {k v : Nat} {fr : List Bool} (hk : k < 64) {W : Nat → Nat} (h2 : Blk w B.P (cellsS B s W) 53) (hW : W' = up W k v) (h3 : WAt W' fr) (hl : fr.length = s.ages.length) :
    SAt (w.setCell ⟨B.P, 1 + k, none⟩ (.int .u64 ((v : Nat) : Int))) B { s with fr := fr } :=
  { h with
    hp := ⟨W', h3, by have := h2.put (1 + k) (.int .u64 ((v : Nat) : Int)); rw [cellsS_put hk, ← hW] at this; exact this⟩
    ha := h.ha.other (fun e => h.PA e.symm) _
    lf := hl }
theorem pow_lt {r : Nat} (hr : r < 64) : 2 ^ r < 18446744073709551616 := by
  have h : 2 ^ r < 2 ^ 64 := Nat.pow_lt_pow_right (by omega) hr
  exact h
theorem pow_u64 (r : Nat) (hr : r < 64) : IntKind.u64.wrap (2 ^ r) = ((2 ^ r : Nat) : Int) := by
  have hp := pow_lt hr
  have e2 : ((2 : Int) ^ r) = ((2 ^ r : Nat) : Int) := by simp
  rw [e2, IntKind.wrap_u64]
  generalize 2 ^ r = x at hp
  omega
set_option maxRecDepth 100000 in
set_option maxHeartbeats 1000000 in
theorem smark (w : World) (B : SB) (s : SS) (h : SAt w B s) (i : Nat) (hi : i < s.ages.length) :
    Calls Tryd.prog 84 #[.pointer (some ⟨B.P, 0, none⟩), .int .i64 (i : Int), .bool true] w fun e w' => e = .returned (.tuple #[]) ∧ SAt w' B { s with fr := s.fr.set i true } ∧ Fr (fun k => k = B.P) w w' := by
  obtain ⟨W, hW, hb⟩ := h.hp
  have t1 := h.T1
  obtain ⟨r, hr⟩ : ∃ r : Nat, i % 64 = r := ⟨_, rfl⟩
  obtain ⟨q, hq⟩ : ∃ q : Nat, i / 64 = q := ⟨_, rfl⟩
  have e1 : (i : Int) % 64 = (r : Int) := by omega
  have e2 : (i : Int) / 64 = (q : Int) := by omega
  have q1 : q < 64 := by omega
  have r1 : r < 64 := by omega
  have q2 : (q : Int) < 64 := by omega
  have r2 : (r : Int) < 64 := by omega
  have C1 : w.cell? ⟨B.P, 1 + q, none⟩ = some (.int .u64 ((W q : Nat) : Int)) := by rw [hb.cell]; exact cellsS_word q1
  have Z1 := hb.frozen (1 + q)
  have hs := pow_u64 r r1
  go_enter Tryd.func84, Tryd.ntmps84
  go_wp2_with (simp only [e1])

  go_region
  go_wp2
  go_end0
  refine ⟨rfl, ?_, ((Fr.refl (fun k => k = B.P) w).setCell (.inl rfl) _).drew⟩
  have ev : bits BinOp.or IntKind.u64 (↑(W q)) (2 ^ r) = ((W q ||| 2 ^ r : Nat) : Int) := by
    rw [show ((2 : Int) ^ r) = ((2 ^ r : Nat) : Int) by simp]
    exact u64_or_nat _ _ (hW.lt _) (pow_lt r1)
  rw [ev]
  subst hr hq
  exact (h.put q1 hb rfl (hW.on (by rw [h.lf]; exact hi)) (by simp [h.lf])).still ((Fr.refl _ _).drew)
set_option maxRecDepth 100000 in
set_option maxHeartbeats 1000000 in
theorem sunmark (w : World) (B : SB) (s : SS) (h : SAt w B s) (i : Nat) (hi : i < s.ages.length) :
    Calls Tryd.prog 84 #[.pointer (some ⟨B.P, 0, none⟩), .int .i64 (i : Int), .bool false] w fun e w' => e = .returned (.tuple #[]) ∧ SAt w' B { s with fr := s.fr.set i false } ∧ Fr (fun k => k = B.P) w w' := by
  obtain ⟨W, hW, hb⟩ := h.hp
  have t1 := h.T1
  obtain ⟨r, hr⟩ : ∃ r : Nat, i % 64 = r := ⟨_, rfl⟩
  obtain ⟨q, hq⟩ : ∃ q : Nat, i / 64 = q := ⟨_, rfl⟩
  have e1 : (i : Int) % 64 = (r : Int) := by omega
  have e2 : (i : Int) / 64 = (q : Int) := by omega
  have q1 : q < 64 := by omega
  have r1 : r < 64 := by omega
  have q2 : (q : Int) < 64 := by omega
  have r2 : (r : Int) < 64 := by omega
  have C1 : w.cell? ⟨B.P, 1 + q, none⟩ = some (.int .u64 ((W q : Nat) : Int)) := by rw [hb.cell]; exact cellsS_word q1
  have Z1 := hb.frozen (1 + q)
  have hs := pow_u64 r r1
  go_enter Tryd.func84, Tryd.ntmps84
  go_wp2_with (simp only [e1])

  go_region
  go_wp2
  go_end0
  refine ⟨rfl, ?_, ((Fr.refl (fun k => k = B.P) w).setCell (.inl rfl) _).drew⟩
  have ev : bits BinOp.andNot IntKind.u64 (↑(W q)) (2 ^ r) = ((W q &&& (18446744073709551615 - 2 ^ r) : Nat) : Int) := by
    rw [show ((2 : Int) ^ r) = ((2 ^ r : Nat) : Int) by simp]
    exact u64_andNot_nat _ _ (hW.lt _) (pow_lt r1)
  rw [ev]
  subst hr hq
  exact (h.put q1 hb rfl (hW.off (by rw [h.lf]; exact hi)) (by simp [h.lf])).still ((Fr.refl _ _).drew)
end Go.Proofs.YtffjaaolcphonaaDoor
