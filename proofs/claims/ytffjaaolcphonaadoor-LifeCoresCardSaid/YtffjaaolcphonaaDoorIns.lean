/- Insertion from the right, in a row of the call's own; the plain law. -/
import Derived.Test.YtffjaaolcphonaaDoorAll4
namespace Go.Proofs.YtffjaaolcphonaaDoor
open Go.RowKit
theorem own_put {w : World} {base g cap n : Nat} {xs : List Int} (h : w.ownsRow base 3 1 (.slice (some ⟨g, 0, none⟩) n cap) n (ints xs)) (i : Nat) (v : Int) :
    (w.setCell ⟨g, i, none⟩ (.int .i64 v)).ownsRow base 3 1 (.slice (some ⟨g, 0, none⟩) n cap) n (ints (xs.set i v)) := by
  obtain ⟨h1, ⟨hv, _⟩ | ⟨g', cap', cur, ev, hg, hb, ha, hc, hs, ht⟩⟩ := h
  · cases hv
  · cases ev
    have hB : Blk w g cur.toList 3 := by unfold Blk; rw [Array.toArray_toList]; exact hb
    have hP := hB.put i (.int .i64 v)
    refine ⟨by rw [← h1]; simp [ints], .inr ⟨g, cap, _, rfl, hg, hP, ha, hc, by simp [hs], ?_⟩⟩
    show ((cur.toList.set i (.int .i64 v)).take (n * 1)) = ints (xs.set i v)
    rw [List.take_set, ht]
    simp [ints, List.map_set]
/-- What the shifts have made: k places stand, then a hole, then the rest. -/
def holeL (L : List Int) (k : Nat) (y : Int) : List Int := L.take k ++ y :: L.drop k
theorem hole_len {L : List Int} {k : Nat} (hk : k ≤ L.length) (y : Int) : (holeL L k y).length = L.length + 1 := by simp [holeL]; omega
theorem hole_put {L : List Int} {k : Nat} (hk : k ≤ L.length) (y z : Int) : (holeL L k y).set k z = holeL L k z := by
  unfold holeL
  rw [List.set_append_right _ _ (by simp; omega)]
  simp [Nat.min_eq_left hk]
theorem hole_left {L : List Int} {k : Nat} (hk : k + 1 ≤ L.length) (y : Int) : (holeL L (k + 1) y).getD k 0 = L.getD k 0 := by
  unfold holeL
  simp only [List.getD_eq_getElem?_getD]
  rw [List.getElem?_append_left (by simp; omega), List.getElem?_take_of_lt (by omega)]
theorem hole_shift {L : List Int} {k : Nat} (hk : k + 1 ≤ L.length) : holeL L (k + 1) (L.getD k 0) = holeL L k (L.getD k 0) := by
  have hlt : k < L.length := by omega
  have e : L.getD k 0 = L[k] := by simp [List.getD_eq_getElem?_getD, hlt]
  unfold holeL
  have h1 := List.take_succ_eq_append_getElem hlt
  have h2 := List.drop_eq_getElem_cons hlt
  rw [e, h1, h2]
  simp only [List.append_assoc, List.cons_append, List.nil_append]
theorem hole_perm (L : List Int) (k : Nat) (x : Int) : (holeL L k x).Perm (L ++ [x]) := by
  unfold holeL
  have h1 : (L.take k ++ x :: L.drop k).Perm (x :: (L.take k ++ L.drop k)) := List.perm_middle
  rw [List.take_append_drop] at h1
  exact h1.trans (List.perm_append_singleton x L).symm
theorem hole_sorted {L : List Int} {k : Nat} {x : Int} (hL : L.Pairwise (· ≤ ·)) (hk : k ≤ L.length) (h1 : ∀ j, k ≤ j → j < L.length → x < L.getD j 0) (h2 : 0 < k → L.getD (k - 1) 0 ≤ x) : (holeL L k x).Pairwise (· ≤ ·) := by
  unfold holeL
  have hs : L = L.take k ++ L.drop k := (List.take_append_drop k L).symm
  rw [hs] at hL
  rw [List.pairwise_append] at hL
  obtain ⟨p1, p2, p3⟩ := hL
  have hx : ∀ a ∈ L.take k, a ≤ x := by
    intro a ha
    obtain ⟨i, hi, rfl⟩ := List.getElem_of_mem ha
    have hik : i < k := by simp at hi; omega
    have h3 := h2 (by omega)
    have hk1 : k - 1 < L.length := by omega
    have e : L.getD (k - 1) 0 = L[k - 1] := by simp [List.getD_eq_getElem?_getD, hk1]
    rw [e] at h3
    rw [List.getElem_take]
    by_cases e2 : i = k - 1
    · subst e2; exact h3
    · have hp := List.pairwise_iff_getElem.1 p1 i (k - 1) hi (by simp; omega) (by omega)
      rw [List.getElem_take, List.getElem_take] at hp
      omega
  have hy : ∀ b ∈ L.drop k, x ≤ b := by
    intro b hb
    obtain ⟨i, hi, rfl⟩ := List.getElem_of_mem hb
    rw [List.getElem_drop]
    have hlt : k + i < L.length := by simp at hi; omega
    have := h1 (k + i) (by omega) hlt
    have e : L.getD (k + i) 0 = L[k + i] := by simp [List.getD_eq_getElem?_getD, hlt]
    rw [e] at this; omega
  rw [List.pairwise_append]
  refine ⟨p1, List.pairwise_cons.2 ⟨hy, p2⟩, fun a ha b hb => ?_⟩
  rcases List.mem_cons.1 hb with rfl | hb
  · exact hx a ha
  · exact p3 a ha b hb
/-- A sorted list of the same things is the sorted list. -/
theorem sortI_of {L M : List Int} (hp : L.Perm M) (hs : L.Pairwise (· ≤ ·)) : L = sortI M := by
  unfold sortI
  have h1 : (M.mergeSort fun x y => decide (x ≤ y)).Pairwise (· ≤ ·) := by
    have := List.pairwise_mergeSort (le := fun x y : Int => decide (x ≤ y)) (by intro a b c h1 h2; simp at *; omega) (by intro a b; simp; omega) M
    exact this.imp (by intro a b h; simpa using h)
  exact List.Perm.eq_of_pairwise (by intro a b _ _ h1 h2; omega) hs h1 (hp.trans (List.mergeSort_perm M _).symm)
end Go.Proofs.YtffjaaolcphonaaDoor
