/- What the links' five blocks mean: lists of things. -/
import Derived.Test.YtffjaaolcphonaaMove
import Derived.Test.YtffjaaolcphonaaLk2
namespace Go.Proofs.Ytffjaaolcphonaa
open Lk (cyc cyc_push cyc_front cyc_del cyc_move)

/-- What 'Move' makes of the five blocks. -/
def Raw.mv (r : Raw) (f t : Nat) (xs : List Nat) (a z la : Nat) (n c : Nat) : Raw :=
  { r with next := ((r.next.set la a).set z (r.things + t : Nat)).set (r.things + f) (r.things + f : Nat), back := ((r.back.set a la).set (r.things + t) z).set (r.things + f) (r.things + f : Nat),
           list := xs.foldl (fun l x => l.set x (t : Int)) r.list, count := (r.count.set f 0).set t ((c : Int) + n) }
def gl (L : List (List Nat)) (i : Nat) : List Nat := L.getD i []
theorem gl_set (L : List (List Nat)) (i j : Nat) (x : List Nat) (h : i < L.length) : gl (L.set i x) j = if i = j then x else gl L j := by
  unfold gl
  by_cases e : i = j
  · subst e; simp [h]
  · simp [e]
structure Sz (r : Raw) : Prop where
  lnext : r.next.length = r.things + r.count.length
  lback : r.back.length = r.things + r.count.length
  llist : r.list.length = r.things
theorem RawAt.sz {w : World} {B : LB} {r : Raw} (h : RawAt w B r) : Sz r := ⟨h.lnext, h.lback, h.llist⟩
structure Inv (r : Raw) (L : List (List Nat)) : Prop where
  len : L.length = r.count.length
  lk : ∀ i, i < L.length → Lk.Lk r.next r.back (cyc (r.things + i) (gl L i))
  cnt : ∀ i, i < L.length → r.count.getD i 0 = ((gl L i).length : Int)
  yes : ∀ i t, i < L.length → t ∈ gl L i → t < r.things ∧ r.list.getD t 0 = (i : Int)
  no : ∀ t, t < r.things → (∀ i, i < L.length → t ∉ gl L i) → r.list.getD t 0 = -1
  nd : ∀ i, i < L.length → (gl L i).Nodup
theorem Inv.uniq {r : Raw} {L : List (List Nat)} (h : Inv r L) {i j t : Nat} (hi : i < L.length) (hj : j < L.length) (h1 : t ∈ gl L i) (h2 : t ∈ gl L j) : i = j := by
  have a := (h.yes i t hi h1).2
  have b := (h.yes j t hj h2).2
  rw [a] at b; omega
theorem Inv.ends {r : Raw} {L : List (List Nat)} (h : Inv r L) {i t : Nat} (hi : i < L.length) (j : Nat) (h1 : t ∈ gl L i) : t ≠ r.things + j := by
  have := (h.yes i t hi h1).1; omega
theorem Inv.nodupE {r : Raw} {L : List (List Nat)} (h : Inv r L) {i : Nat} (hi : i < L.length) (j : Nat) : ((r.things + j) :: gl L i).Nodup :=
  List.nodup_cons.2 ⟨fun hm => h.ends hi j hm rfl, h.nd i hi⟩
theorem Inv.bnd {r : Raw} {L : List (List Nat)} (h : Inv r L) (hz : Sz r) {i : Nat} (hi : i < L.length) : ∀ x ∈ (r.things + i) :: gl L i, x < r.next.length := by
  intro x hx
  rw [hz.lnext, ← h.len]
  rcases List.mem_cons.1 hx with rfl | hx
  · omega
  · have := (h.yes i x hi hx).1; omega
theorem nodup_le : ∀ (n : Nat) (l : List Nat), l.Nodup → (∀ x ∈ l, x < n) → l.length ≤ n
  | 0, l, _, h => by cases l with
    | nil => simp
    | cons a l => exact absurd (h a (by simp)) (by omega)
  | n + 1, l, hn, h => by
    have h1 := nodup_le n (l.erase n) (hn.erase n) (fun x hx => by
      have := h x (List.mem_of_mem_erase hx)
      have hne : x ≠ n := by rintro rfl; exact (hn.not_mem_erase) hx
      omega)
    have := List.length_erase (a := n) (l := l)
    split at this <;> omega
theorem Inv.le {r : Raw} {L : List (List Nat)} (h : Inv r L) {i : Nat} (hi : i < L.length) : (gl L i).length ≤ r.things :=
  nodup_le _ _ (h.nd i hi) fun x hx => (h.yes i x hi hx).1

theorem getD_set' (l : List Int) (i j : Nat) (v : Int) (h : i < l.length) : (l.set i v).getD j 0 = if i = j then v else l.getD j 0 := Lk.getD_set l i j v h

/-- A thing goes in, wherever in its list. -/
theorem inv_ins {r : Raw} {L : List (List Nat)} (h : Inv r L) (hz : Sz r) {i t p s : Nat} {X : List Nat} (hi : i < L.length) (ht : t < r.things) (hno : ∀ j, j < L.length → t ∉ gl L j)
    (hX : ∀ x, x ∈ X ↔ x = t ∨ x ∈ gl L i) (hXn : X.Nodup) (hXl : X.length = (gl L i).length + 1) (hp : p ∈ (r.things + i) :: gl L i) (hs : s ∈ (r.things + i) :: gl L i)
    (hlk : Lk.Lk ((r.next.set p t).set t s) ((r.back.set t p).set s t) (cyc (r.things + i) X)) : Inv (r.ins i t p s (gl L i).length) (L.set i X) := by
  have hic : i < r.count.length := h.len ▸ hi
  refine ⟨by simp [Raw.ins, h.len], ?_, ?_, ?_, ?_, ?_⟩
  · intro j hj
    rw [List.length_set] at hj
    rw [gl_set _ _ _ _ hi]
    by_cases e : i = j
    · subst e; rw [if_pos rfl]; exact hlk
    · rw [if_neg e]
      have hnot : ∀ x, x ∈ (r.things + i) :: gl L i → x ∉ cyc (r.things + j) (gl L j) := by
        intro x hx hx2
        simp only [cyc, List.mem_append, List.mem_cons, List.not_mem_nil, or_false] at hx2
        rcases List.mem_cons.1 hx with rfl | hx
        · rcases hx2 with (h1 | h1) | h1
          · omega
          · exact h.ends hj i h1 rfl
          · omega
        · rcases hx2 with (h1 | h1) | h1
          · exact h.ends hi j hx h1
          · exact e (h.uniq hi hj hx h1)
          · exact h.ends hi j hx h1
      have htn : t ∉ cyc (r.things + j) (gl L j) := by
        simp only [cyc, List.mem_append, List.mem_cons, List.not_mem_nil, or_false]
        rintro ((h1 | h1) | h1)
        · omega
        · exact hno j hj h1
        · omega
      exact ((h.lk j hj).other (hnot p hp) htn).other htn (hnot s hs)
  · intro j hj
    rw [List.length_set] at hj
    rw [gl_set _ _ _ _ hi]
    simp only [Raw.ins]
    rw [getD_set' _ _ _ _ hic]
    by_cases e : i = j
    · subst e; simp only [if_pos]; omega
    · simp only [if_neg e]; exact h.cnt j hj
  · intro j x hj hx
    rw [List.length_set] at hj
    rw [gl_set _ _ _ _ hi] at hx
    simp only [Raw.ins]
    rw [getD_set' _ _ _ _ (by rw [hz.llist]; exact ht)]
    by_cases e : i = j
    · subst e
      rw [if_pos rfl] at hx
      rcases (hX x).1 hx with rfl | hx
      · exact ⟨ht, by rw [if_pos rfl]⟩
      · have := h.yes i x hi hx
        refine ⟨this.1, ?_⟩
        rw [if_neg (by rintro rfl; exact hno i hi hx)]; exact this.2
    · rw [if_neg e] at hx
      have := h.yes j x hj hx
      refine ⟨this.1, ?_⟩
      rw [if_neg (by rintro rfl; exact hno j hj hx)]; exact this.2
  · intro x hx hno'
    simp only [Raw.ins] at hx ⊢
    rw [getD_set' _ _ _ _ (by rw [hz.llist]; exact ht)]
    have hxt : t ≠ x := by
      rintro rfl
      have := hno' i (by simpa using hi)
      rw [gl_set _ _ _ _ hi, if_pos rfl] at this
      exact this ((hX t).2 (.inl rfl))
    rw [if_neg hxt]
    refine h.no x hx fun j hj hm => ?_
    have := hno' j (by simpa using hj)
    rw [gl_set _ _ _ _ hi] at this
    by_cases e : i = j
    · subst e; rw [if_pos rfl] at this; exact this ((hX x).2 (.inr hm))
    · rw [if_neg e] at this; exact this hm
  · intro j hj
    rw [List.length_set] at hj
    rw [gl_set _ _ _ _ hi]
    by_cases e : i = j
    · subst e; rw [if_pos rfl]; exact hXn
    · rw [if_neg e]; exact h.nd j hj

theorem inv_push {r : Raw} {L : List (List Nat)} (h : Inv r L) (hz : Sz r) {i t : Nat} (hi : i < L.length) (ht : t < r.things) (hno : ∀ j, j < L.length → t ∉ gl L j) :
    ∃ p, p < r.next.length ∧ r.back.getD (r.things + i) 0 = (p : Int) ∧ r.next.getD p 0 = ((r.things + i : Nat) : Int) ∧ Inv (r.ins i t p (r.things + i) (gl L i).length) (L.set i (gl L i ++ [t])) := by
  have hb := h.bnd hz hi
  obtain ⟨p, hp⟩ : ∃ p, ((r.things + i) :: gl L i).getLast (by simp) = p := ⟨_, rfl⟩
  have hpm : p ∈ (r.things + i) :: gl L i := hp ▸ List.getLast_mem _
  have hP : ((r.things + i) :: gl L i) = ((r.things + i) :: gl L i).dropLast ++ [p] := by rw [← hp]; exact (List.dropLast_concat_getLast (by simp)).symm
  have hk := Lk.Lk.at (xs := ((r.things + i) :: gl L i).dropLast) (a := p) (b := r.things + i) (ys := []) (nx := r.next) (bk := r.back) (by
    have e : cyc (r.things + i) (gl L i) = ((r.things + i) :: gl L i) ++ [r.things + i] := rfl
    have := h.lk i hi
    rw [e, hP] at this
    simpa using this)
  have htE : t ∉ (r.things + i) :: gl L i := by
    simp only [List.mem_cons, not_or]; exact ⟨by omega, hno i hi⟩
  refine ⟨p, hb p hpm, hk.2, hk.1, ?_⟩
  refine inv_ins h hz hi ht hno (fun x => by simp [or_comm]) ?_ (by simp) hpm (by simp) (cyc_push (by rw [hz.lnext, hz.lback]) (h.lk i hi) (h.nodupE hi i) htE hp hb (by rw [hz.lnext]; omega))
  refine List.nodup_append.2 ⟨h.nd i hi, by simp, ?_⟩
  rintro x hx y hy rfl
  simp at hy; subst hy; exact hno i hi hx
theorem inv_front {r : Raw} {L : List (List Nat)} (h : Inv r L) (hz : Sz r) {i t : Nat} (hi : i < L.length) (ht : t < r.things) (hno : ∀ j, j < L.length → t ∉ gl L j) :
    ∃ s, s < r.next.length ∧ r.next.getD (r.things + i) 0 = (s : Int) ∧ Inv (r.ins i t (r.things + i) s (gl L i).length) (L.set i (t :: gl L i)) := by
  have hb := h.bnd hz hi
  obtain ⟨s, hs⟩ : ∃ s, (gl L i ++ [r.things + i]).head (by simp) = s := ⟨_, rfl⟩
  have hsm : s ∈ (r.things + i) :: gl L i := by
    have : s ∈ gl L i ++ [r.things + i] := hs ▸ List.head_mem _
    simp only [List.mem_append, List.mem_cons, List.not_mem_nil, or_false] at this ⊢
    exact this.symm
  have hS : gl L i ++ [r.things + i] = s :: (gl L i ++ [r.things + i]).tail := by rw [← hs]; simp
  have hk := Lk.Lk.at (xs := []) (a := r.things + i) (b := s) (ys := (gl L i ++ [r.things + i]).tail) (nx := r.next) (bk := r.back) (by
    have e : cyc (r.things + i) (gl L i) = (r.things + i) :: (gl L i ++ [r.things + i]) := rfl
    have := h.lk i hi
    rw [e, hS] at this
    simpa using this)
  have htE : t ∉ (r.things + i) :: gl L i := by
    simp only [List.mem_cons, not_or]; exact ⟨by omega, hno i hi⟩
  refine ⟨s, hb s hsm, hk.1, ?_⟩
  exact inv_ins h hz hi ht hno (fun x => by simp) (List.nodup_cons.2 ⟨hno i hi, h.nd i hi⟩) (by simp) (by simp) hsm (cyc_front (by rw [hz.lnext, hz.lback]) (h.lk i hi) (h.nodupE hi i) htE hs hb (by rw [hz.lnext]; omega))
end Go.Proofs.Ytffjaaolcphonaa
