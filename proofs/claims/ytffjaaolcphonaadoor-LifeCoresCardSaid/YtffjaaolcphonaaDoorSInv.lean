/- What holds of slots, whatever is done. -/
import Derived.Test.YtffjaaolcphonaaDoorAll4
namespace Go.Proofs.YtffjaaolcphonaaDoor
open Go.RowKit
structure SI (s : SS) : Prop where
  cnt : s.n = ((s.fr.count false : Nat) : Int)
  age : ∀ i, i < s.ages.length → 0 ≤ s.ages.getD i 0
  len : s.fr.length = s.ages.length
  T1 : s.ages.length ≤ 4096
theorem SI.n {s : SS} (h : SI s) : 0 ≤ s.n ∧ s.n ≤ 1000000 := by
  have h1 := h.cnt
  have h2 := List.count_le_length (a := false) (l := s.fr)
  have h3 := h.len
  have h4 := h.T1
  omega
theorem SI.zero (n : Nat) (h : n ≤ 4096) : SI (zeroS n n) := by
  refine ⟨?_, fun i hi => ?_, by simp [zeroS, upto_len], by simpa [zeroS] using h⟩
  · show (0 : Int) = (((upto n n).count false : Nat) : Int)
    have : (upto n n).count false = 0 := List.count_eq_zero.2 fun hm => by
      obtain ⟨m, h1, h2⟩ := List.mem_map.1 hm
      have := List.mem_range.1 h1
      simp at h2; omega
    omega
  · simp [zeroS, List.getD_eq_getElem?_getD] at hi ⊢
    simp [hi]
theorem getD_set_ne {α : Type} {l : List α} {i j : Nat} (h : i ≠ j) (v d : α) : (l.set i v).getD j d = l.getD j d := by simp only [List.getD_eq_getElem?_getD, List.getElem?_set_ne h]
theorem SI.take {s : SS} (h : SI s) : SI (takeS s) := by
  cases hl : leastS s with
  | none => have e : takeS s = s := by unfold takeS; rw [hl]
            rw [e]; exact h
  | some i =>
    have e : takeS s = ⟨s.ages.set i (s.ages.getD i 0 + 1), s.fr.set i false, s.n + 1⟩ := by unfold takeS; rw [hl]
    obtain ⟨hi, hm, _⟩ := leastS_lt hl
    have hf : s.fr.getD i false = true := by unfold may at hm; revert hm; cases s.fr.getD i false <;> simp
    have hi' : i < s.fr.length := by rw [h.len]; exact hi
    have hg : s.fr[i] = true := by simpa [List.getD_eq_getElem?_getD, hi'] using hf
    rw [e]
    refine ⟨?_, fun j hj => ?_, by simp [h.len], by simpa using h.T1⟩
    · show s.n + 1 = (((s.fr.set i false).count false : Nat) : Int)
      rw [List.count_set hi', hg, h.cnt]; simp
    · simp only [List.length_set] at hj
      by_cases ej : i = j
      · subst ej; show 0 ≤ (s.ages.set i _).getD i 0
        rw [getD_set_at hi]; have := h.age i hi; omega
      · show 0 ≤ (s.ages.set i _).getD j 0
        rw [getD_set_ne ej]; exact h.age j hj
theorem SI.free {s : SS} (h : SI s) (id : Int) : SI (freeS s id) := by
  unfold freeS
  by_cases hn : noneB s id = true
  · rw [if_pos hn]; exact h
  · rw [if_neg hn]
    by_cases hl : liveB s id = true
    · rw [if_pos hl]
      have hr : inR (idxI id) s.ages.length ∧ s.fr.getD (idxI id).toNat false = false := by
        unfold liveB at hl
        rw [Bool.and_eq_true, Bool.and_eq_true] at hl
        exact ⟨of_decide_eq_true hl.1, by simpa using hl.2.2⟩
      obtain ⟨⟨r0, r1⟩, hf⟩ := hr
      have hi' : (idxI id).toNat < s.fr.length := by rw [h.len]; omega
      have hg : s.fr[(idxI id).toNat] = false := by simpa [List.getD_eq_getElem?_getD, hi'] using hf
      refine ⟨?_, h.age, by simp [h.len], h.T1⟩
      show s.n - 1 = (((s.fr.set (idxI id).toNat true).count false : Nat) : Int)
      have hpos : 0 < s.fr.count false := List.count_pos_iff.2 (by rw [← hg]; exact List.getElem_mem hi')
      rw [List.count_set hi', hg, h.cnt]; simp; omega
    · rw [if_neg hl]; exact h
theorem takeS_len (s : SS) : (takeS s).ages.length = s.ages.length := by unfold takeS; split <;> simp
theorem freeS_len (s : SS) (id : Int) : (freeS s id).ages.length = s.ages.length := by unfold freeS; split <;> (try split) <;> simp
theorem stake' {w : World} {B : SB} {s : SS} (h : SAt w B s) (hT : TabD w) (h7 : ¬ B.foot 7) (hI : SI s) : Calls Tryd.prog 27 #[.pointer (some ⟨B.P, 0, none⟩)] w fun e w' =>
    e = .returned (.tuple #[.int .i64 (takeV s), .int .i64 (takeE s)]) ∧ SAt w' B (takeS s) ∧ Fr B.foot w w' := stake w B s h hT h7 hI.age hI.n
theorem sfree' {w : World} {B : SB} {s : SS} (h : SAt w B s) (id : Int) (hi : inI id) (hI : SI s) : Calls Tryd.prog 29 #[.pointer (some ⟨B.P, 0, none⟩), .int .i64 id] w fun e w' =>
    e = .returned (.int .i64 (freeE s id)) ∧ SAt w' B (freeS s id) ∧ Fr (fun k => k = B.P) w w' := sfree w B s h id hi hI.n
theorem idsS_len (s : SS) : (idsS s).length ≤ s.ages.length := by unfold idsS; rw [sortI_len]; exact preI_len s _
theorem idsS_in (s : SS) : ∀ x ∈ idsS s, inI x := by
  intro x hx
  have h1 : x ∈ preI s s.ages.length := List.mem_mergeSort.1 hx
  obtain ⟨i, _, rfl⟩ := List.mem_map.1 (List.mem_filter.1 h1).1
  exact idMk_in _ _
/-- The row that All tells: its shape, its cells. -/
theorem own_cells {w : World} {base m : Nat} {v : Value} {xs : List Int} (h : w.ownsRow base 3 1 v m (ints xs)) (hm : m = xs.length) : (∃ a c, v = .slice a m c ∧ m = 0) ∨ (∃ b c, v = .slice (some ⟨b, 0, none⟩) m c ∧ 0 < m ∧ base ≤ b ∧ b < w.heap.size ∧ ∀ i, i < m → w.cell? ⟨b, i, none⟩ = some (.int .i64 (xs.getD i 0))) := by
  by_cases h0 : 0 < m
  · obtain ⟨g, c, rfl, hg, _, hI⟩ := IBlk.of_owns h h0
    exact .inr ⟨g, c, rfl, h0, hg, hI.lt, fun i hi => hI.cell (by omega)⟩
  · obtain ⟨a, c, rfl⟩ := own_shape h m rfl
    exact .inl ⟨a, c, rfl, by omega⟩
end Go.Proofs.YtffjaaolcphonaaDoor
