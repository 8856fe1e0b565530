/- The ages' bounds, whatever is done; as many live as are taken. -/
import Derived.Test.YtffjaaolcphonaaDoorRef4e
namespace Go.Proofs.YtffjaaolcphonaaDoor
open Go.RowKit
theorem SI2.zero (n : Nat) : SI2 (zeroS n n) := by
  refine ⟨fun i hi => ?_, fun i hi hf => ?_⟩
  · have hi' : i < n := by simpa [zeroS] using hi
    show (List.replicate n (0 : Int)).getD i 0 ≤ _
    simp [List.getD_eq_getElem?_getD, hi']
  · have hi' : i < n := by simpa [zeroS] using hi
    have : (upto n n).getD i false = true := by simp [upto, List.getD_eq_getElem?_getD, hi']
    rw [show (zeroS n n).fr = upto n n from rfl, this] at hf
    cases hf
theorem SI2.take {s : SS} (h : SI s) (h2 : SI2 s) : SI2 (takeS s) := by
  cases hl : leastS s with
  | none =>
    have e : takeS s = s := by unfold takeS; rw [hl]
    rw [e]; exact h2
  | some i =>
    have e : takeS s = ⟨s.ages.set i (s.ages.getD i 0 + 1), s.fr.set i false, s.n + 1⟩ := by unfold takeS; rw [hl]
    obtain ⟨hi, hm, _⟩ := leastS_lt hl
    have ha : s.ages.getD i 0 < 2147483647 := by unfold may at hm; rw [Bool.and_eq_true] at hm; exact of_decide_eq_true hm.2
    have h0 := h.age i hi
    rw [e]
    refine ⟨fun j hj => ?_, fun j hj hf => ?_⟩
    · simp only [List.length_set] at hj
      by_cases ej : i = j
      · subst ej; show (s.ages.set i _).getD i 0 ≤ _
        rw [getD_set_at hi]; omega
      · show (s.ages.set i _).getD j 0 ≤ _
        rw [getD_set_ne ej]; exact h2.up j hj
    · simp only [List.length_set] at hj
      by_cases ej : i = j
      · subst ej; show 1 ≤ (s.ages.set i _).getD i 0
        rw [getD_set_at hi]; omega
      · show 1 ≤ (s.ages.set i _).getD j 0
        rw [getD_set_ne ej]
        have hf' : (s.fr.set i false).getD j false = false := hf
        rw [getD_set_ne ej] at hf'
        exact h2.tk j hj hf'
theorem SI2.free {s : SS} (h2 : SI2 s) (id : Int) : SI2 (freeS s id) := by
  unfold freeS
  by_cases hn : noneB s id = true
  · rw [if_pos hn]; exact h2
  · rw [if_neg hn]
    by_cases hl : liveB s id = true
    · rw [if_pos hl]
      refine ⟨h2.up, fun j hj hf => ?_⟩
      have hf' : (s.fr.set (idxI id).toNat true).getD j false = false := hf
      by_cases ej : (idxI id).toNat = j
      · by_cases hlt : (idxI id).toNat < s.fr.length
        · subst ej
          rw [getD_set_at' hlt] at hf'; cases hf'
        · rw [List.set_eq_of_length_le (by omega)] at hf'
          exact h2.tk j hj hf'
      · rw [getD_set_ne ej] at hf'
        exact h2.tk j hj hf'
    · rw [if_neg hl]; exact h2
end Go.Proofs.YtffjaaolcphonaaDoor
