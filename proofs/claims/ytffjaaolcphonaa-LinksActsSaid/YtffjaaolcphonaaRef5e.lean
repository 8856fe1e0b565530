/- The document's links: Pop. -/
import Derived.Test.YtffjaaolcphonaaRef5d
namespace Go.Proofs.Ytffjaaolcphonaa
open Go.RowKit
section
variable {w : World} {lo p R T : Nat} {L : List (List Nat)}
set_option maxRecDepth 100000 in
set_option maxHeartbeats 2000000 in
theorem rpop_ok (h : RefAt w lo p R T L) (i x : Nat) (ys : List Nat) (hi : i < L.length) (hl : gl L i = x :: ys) :
    Calls Try.prog 87 #[.pointer (some ⟨p, 0, none⟩), .int .i64 i] w fun e w' => e = .returned (.tuple #[.int .i64 x, .int .i64 0]) ∧ RefAt w' lo p R T (L.set i ys) ∧ Fr (fun k => k = R) w w' := by
  have F1 := h.f1
  have hi' : (i : Int) < (L.length : Int) := by omega
  have HD := hid (decide_eq_true (p := inR i L.length) ⟨by omega, hi'⟩)
  obtain ⟨a, c, C1, hr⟩ := h.row hi
  have Z := h.frz i
  have hs := h.sh i hi
  have hRl : R < w.heap.size := World.block_lt_of_cell? _ _ C1
  have hpl : p < w.heap.size := World.block_lt_of_cell? _ _ F1
  have hpR := h.pR
  have HL := hid hl
  have hcap := hr.2.2 _ _ _ rfl
  rw [hl] at C1 hs hr hcap
  clear hl
  rcases hr.1 with ⟨h0, _⟩ | ⟨_, b, off, c', hv, hcell⟩
  · simp [zi] at h0
  have hx := hcell 0 (by simp [zi])
  simp only [zi, List.map_cons, List.getD_cons_zero, Nat.add_zero] at hx
  obtain ⟨rfl, rfl⟩ : a = some ⟨b, off, none⟩ ∧ c = c' := by injection hv with h1 h2 h3; exact ⟨h1, h3⟩
  simp only [List.length_cons] at C1 hcap hs
  have hys : IRow w (if c = 1 then .slice (some ⟨b, off, none⟩) ys.length (c - 1) else .slice (some ⟨b, off + 1, none⟩) ys.length (c - 1)) (zi ys) := by
    by_cases e : ys.length = 0
    · have : ys = [] := List.length_eq_zero_iff.1 e
      subst this
      split <;> exact .inl ⟨rfl, _, _, rfl⟩
    · rw [if_neg (by omega)]
      refine .inr ⟨by rw [zi_len]; omega, b, off + 1, c - 1, by rw [zi_len], fun j hj => ?_⟩
      rw [zi_len] at hj
      have := hcell (j + 1) (by simp [zi]; omega)
      rw [show off + 1 + j = off + (j + 1) by omega, this]
      simp [zi]
  have hbl : b < w.heap.size := World.block_lt_of_cell? _ _ hx
  clear hcell hv hr
  by_cases hc1 : c = 1
  all_goals
    first | (subst hc1; rw [if_pos rfl, show ys.length = 0 by omega, show (1 - 1 : Nat) = 0 from rfl] at hys) | rw [if_neg hc1] at hys
    have hn0 : (1 : Int) ≤ ((ys.length + 1 : Nat) : Int) := by omega
    have hn1 : ((ys.length + 1 : Nat) : Int) ≠ 0 := by omega
    go_enter Try.func87, Try.ntmps87
    go_wp2_with (first | (go_at_call 90; refine (rlist h _).mono ?_; rw [HD.out]; rintro e w' ⟨rfl, rfl⟩))
    go_region_held3 (fun w' => w'.cell? ⟨p, 1, none⟩ = some (.slice (some ⟨R, 0, none⟩) L.length L.length))
      (first | exact Still.cell ‹Still w _› F1 | exact put_far (Still.cell ‹Still w _› F1) hpR | go_keep)
      (first
        | (refine step_append_irow rfl (.tmp 34) (.tmp 42) rfl w.heap.size 0 [] (zi ys) (.slice (some ⟨_, 0, none⟩) 0 0) _ rfl rfl ?_ ?_ ?_ ?_ ?_
           · exact (owns_b w _ (Nat.le_refl _)).drew
           · exact (hys.alloc _).drew
           · rw [zi_len]; omega
           · simp; try omega
           intro v2 w2 ho2 hg2 _
           obtain ⟨a2, c2, rfl⟩ := own_shape ho2 ys.length (by simp [zi_len])
           have s2 : Still w w2 := Fr.of_own ((Fr.refl _ w).alloc _).drew (owns_b w _ (Nat.le_refl _)).drew hg2 (Nat.le_refl _)
           have C2 := Still.cell s2 C1
           have Z2 := Still.frz s2 hRl Z))
    all_goals
      go_wp2
      go_ret2
      refine ⟨rfl, ?_, Fr.putR (s2.fr _) _ _⟩
      refine (h.still s2).put (RowIn.own (by simpa using ho2) (by simp [zi_len]) hRl (by have := h.lp; omega) rfl) (fun x hx => ?_) (by omega)
      exact h.bd i hi x (by rw [HL.out]; simp [hx])
end
end Go.Proofs.Ytffjaaolcphonaa
