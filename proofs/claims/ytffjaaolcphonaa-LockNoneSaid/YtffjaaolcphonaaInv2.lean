/- What the links' five blocks mean: a thing goes; a list moves; new ones; the order of All. -/
import Derived.Test.YtffjaaolcphonaaInv
namespace Go.Proofs.Ytffjaaolcphonaa
open Lk (cyc cyc_push cyc_front cyc_del cyc_move)

theorem inv_del {r : Raw} {L : List (List Nat)} (h : Inv r L) (hz : Sz r) {i t : Nat} {xs ys : List Nat} (hi : i < L.length) (hL : gl L i = xs ++ t :: ys) :
    ∃ a b, a < r.next.length ∧ b < r.next.length ∧ r.back.getD t 0 = (a : Int) ∧ r.next.getD t 0 = (b : Int) ∧ ((r.things + i) :: xs).getLast (by simp) = a ∧ Inv (r.del t a b i (gl L i).length) (L.set i (xs ++ ys)) := by
  have hb := h.bnd hz hi
  obtain ⟨a, ha⟩ : ∃ a, ((r.things + i) :: xs).getLast (by simp) = a := ⟨_, rfl⟩
  obtain ⟨b, hbb⟩ : ∃ b, (ys ++ [r.things + i]).head (by simp) = b := ⟨_, rfl⟩
  have ham : a ∈ (r.things + i) :: gl L i := by
    have : a ∈ (r.things + i) :: xs := ha ▸ List.getLast_mem _
    rw [hL]; simp only [List.mem_cons, List.mem_append] at this ⊢
    rcases this with h | h <;> simp [h]
  have hbm : b ∈ (r.things + i) :: gl L i := by
    have : b ∈ ys ++ [r.things + i] := hbb ▸ List.head_mem _
    rw [hL]; simp only [List.mem_cons, List.mem_append, List.not_mem_nil, or_false] at this ⊢
    rcases this with h | h <;> simp [h]
  have htm : t ∈ gl L i := by rw [hL]; simp
  have ht := h.yes i t hi htm
  obtain ⟨k1, k2, k3⟩ := cyc_del (by rw [hz.lnext, hz.lback]) (hL ▸ h.lk i hi) (hL ▸ h.nodupE hi i) ha hbb (hL ▸ hb)
  have hic : i < r.count.length := h.len ▸ hi
  have hnd := h.nd i hi
  rw [hL] at hnd
  have htx : t ∉ xs ++ ys := by
    have h1 := List.nodup_append.1 hnd
    simp only [List.mem_append, not_or]
    exact ⟨fun hx => h1.2.2 t hx t (by simp) rfl, (List.nodup_cons.1 h1.2.1).1⟩
  have hsub : ∀ x, x ∈ xs ++ ys → x ∈ gl L i := by
    intro x hx; rw [hL]; simp only [List.mem_append, List.mem_cons] at hx ⊢
    rcases hx with h | h <;> simp [h]
  refine ⟨a, b, hb a ham, hb b hbm, k2, k3, ha, by simp [Raw.del, h.len], ?_, ?_, ?_, ?_, ?_⟩
  · intro j hj
    rw [List.length_set] at hj
    rw [gl_set _ _ _ _ hi]
    by_cases e : i = j
    · subst e; rw [if_pos rfl]; exact k1
    · rw [if_neg e]
      have hnot : ∀ x, x ∈ (r.things + i) :: gl L i → x ∉ cyc (r.things + j) (gl L j) := by
        intro x hx hx2
        simp only [cyc, List.mem_append, List.mem_cons, List.not_mem_nil, or_false] at hx2
        rcases List.mem_cons.1 hx with rfl | hx
        · rcases hx2 with (h1 | h1) | h1
          · omega
          · exact h.ends hj i h1 rfl
          · omega
        · rcases hx2 with (h1 | h1) | h1
          · exact h.ends hi j hx h1
          · exact e (h.uniq hi hj hx h1)
          · exact h.ends hi j hx h1
      exact (h.lk j hj).other (hnot a ham) (hnot b hbm)
  · intro j hj
    rw [List.length_set] at hj
    rw [gl_set _ _ _ _ hi]
    simp only [Raw.del]
    rw [getD_set' _ _ _ _ hic]
    by_cases e : i = j
    · subst e; simp only [if_pos]; rw [hL]; simp; omega
    · simp only [if_neg e]; exact h.cnt j hj
  · intro j x hj hx
    rw [List.length_set] at hj
    rw [gl_set _ _ _ _ hi] at hx
    simp only [Raw.del]
    rw [getD_set' _ _ _ _ (by rw [hz.llist]; exact ht.1)]
    by_cases e : i = j
    · subst e
      rw [if_pos rfl] at hx
      have := h.yes i x hi (hsub x hx)
      exact ⟨this.1, by rw [if_neg (by rintro rfl; exact htx hx)]; exact this.2⟩
    · rw [if_neg e] at hx
      have := h.yes j x hj hx
      exact ⟨this.1, by rw [if_neg (by rintro rfl; exact e (h.uniq hi hj htm hx))]; exact this.2⟩
  · intro x hx hno'
    simp only [Raw.del] at hx ⊢
    rw [getD_set' _ _ _ _ (by rw [hz.llist]; exact ht.1)]
    by_cases hxt : t = x
    · rw [if_pos hxt]
    · rw [if_neg hxt]
      refine h.no x hx fun j hj hm => ?_
      have := hno' j (by simpa using hj)
      rw [gl_set _ _ _ _ hi] at this
      by_cases e : i = j
      · subst e; rw [if_pos rfl] at this
        rw [hL] at hm
        simp only [List.mem_append, List.mem_cons, not_or] at hm this
        rcases hm with h | h | h
        · exact this.1 h
        · exact hxt h.symm
        · exact this.2 h
      · rw [if_neg e] at this; exact this hm
  · intro j hj
    rw [List.length_set] at hj
    rw [gl_set _ _ _ _ hi]
    by_cases e : i = j
    · subst e; rw [if_pos rfl]
      have h1 := List.nodup_append.1 hnd
      exact List.nodup_append.2 ⟨h1.1, (List.nodup_cons.1 h1.2.1).2, fun x hx y hy => h1.2.2 x hx y (by simp [hy])⟩
    · rw [if_neg e]; exact h.nd j hj

theorem foldl_set_len (xs : List Nat) (v : Int) : ∀ l : List Int, (xs.foldl (fun l x => l.set x v) l).length = l.length := by
  induction xs with
  | nil => intro l; rfl
  | cons x xs ih => intro l; rw [List.foldl_cons, ih]; simp
theorem foldl_set_get (v : Int) (j : Nat) : ∀ (xs : List Nat) (l : List Int), (∀ x ∈ xs, x < l.length) → (xs.foldl (fun l x => l.set x v) l).getD j 0 = if j ∈ xs then v else l.getD j 0
  | [], l, _ => by simp
  | x :: xs, l, h => by
    rw [List.foldl_cons, foldl_set_get v j xs (l.set x v) (by intro y hy; simpa using h y (by simp [hy])), getD_set' _ _ _ _ (h x (by simp))]
    by_cases h1 : j ∈ xs
    · simp [h1]
    · by_cases h2 : x = j
      · subst h2; simp
      · have : j ≠ x := fun e => h2 e.symm
        simp [h1, h2, this]

theorem inv_move {r : Raw} {L : List (List Nat)} (h : Inv r L) (hz : Sz r) {f t : Nat} (hf : f < L.length) (ht : t < L.length) (hft : f ≠ t) (hF : gl L f ≠ []) :
    ∃ a z la, a < r.next.length ∧ z < r.next.length ∧ la < r.next.length ∧ r.next.getD (r.things + f) 0 = (a : Int) ∧ r.back.getD (r.things + f) 0 = (z : Int) ∧ r.back.getD (r.things + t) 0 = (la : Int) ∧
      Inv (r.mv f t (gl L f) a z la (gl L f).length (gl L t).length) ((L.set f []).set t (gl L t ++ gl L f)) := by
  have hbf := h.bnd hz hf
  have hbt := h.bnd hz ht
  have hne : r.things + f ≠ r.things + t := by omega
  have hn : ((r.things + f) :: (r.things + t) :: (gl L f ++ gl L t)).Nodup := by
    simp only [List.nodup_cons, List.mem_cons, List.mem_append, not_or]
    refine ⟨⟨hne, fun hm => h.ends hf f hm rfl, fun hm => h.ends ht f hm rfl⟩, ⟨fun hm => h.ends hf t hm rfl, fun hm => h.ends ht t hm rfl⟩, ?_⟩
    exact List.nodup_append.2 ⟨h.nd f hf, h.nd t ht, fun x hx y hy e => hft (h.uniq hf ht hx (e ▸ hy))⟩
  have hb : ∀ x ∈ (r.things + f) :: (r.things + t) :: (gl L f ++ gl L t), x < r.next.length := by
    intro x hx
    simp only [List.mem_cons, List.mem_append] at hx
    rcases hx with rfl | rfl | hx | hx
    · exact hbf _ (by simp)
    · exact hbt _ (by simp)
    · exact hbf _ (by simp [hx])
    · exact hbt _ (by simp [hx])
  obtain ⟨k1, k2, k3, k4, k5, ma, mz, ml⟩ := cyc_move (by rw [hz.lnext, hz.lback]) (h.lk f hf) (h.lk t ht) hn hF rfl rfl rfl hb
  have hfc : f < r.count.length := h.len ▸ hf
  have htc : t < r.count.length := h.len ▸ ht
  have hg : ∀ j, gl ((L.set f []).set t (gl L t ++ gl L f)) j = if t = j then gl L t ++ gl L f else if f = j then [] else gl L j := fun j => by
    rw [gl_set _ _ _ _ (by simpa using ht), gl_set _ _ _ _ hf]
  refine ⟨_, _, _, hbf _ (List.mem_cons_of_mem _ ma), hbf _ (List.mem_cons_of_mem _ mz), hbt _ ml, k3, k4, k5, by simp [Raw.mv, h.len], ?_, ?_, ?_, ?_, ?_⟩
  · intro j hj
    simp only [List.length_set] at hj
    rw [hg]
    by_cases e : t = j
    · subst e; rw [if_pos rfl]; exact k1
    · rw [if_neg e]
      by_cases e2 : f = j
      · subst e2; rw [if_pos rfl]; exact k2
      · rw [if_neg e2]
        have hnf : ∀ x, x ∈ (r.things + f) :: gl L f → x ∉ cyc (r.things + j) (gl L j) := by
          intro x hx hx2
          simp only [cyc, List.mem_append, List.mem_cons, List.not_mem_nil, or_false] at hx2
          rcases List.mem_cons.1 hx with rfl | hx
          · rcases hx2 with (h1 | h1) | h1
            · omega
            · exact h.ends hj f h1 rfl
            · omega
          · rcases hx2 with (h1 | h1) | h1
            · exact h.ends hf j hx h1
            · exact e2 (h.uniq hf hj hx h1)
            · exact h.ends hf j hx h1
        have hnt : ∀ x, x ∈ (r.things + t) :: gl L t → x ∉ cyc (r.things + j) (gl L j) := by
          intro x hx hx2
          simp only [cyc, List.mem_append, List.mem_cons, List.not_mem_nil, or_false] at hx2
          rcases List.mem_cons.1 hx with rfl | hx
          · rcases hx2 with (h1 | h1) | h1
            · omega
            · exact h.ends hj t h1 rfl
            · omega
          · rcases hx2 with (h1 | h1) | h1
            · exact h.ends ht j hx h1
            · exact e (h.uniq ht hj hx h1)
            · exact h.ends ht j hx h1
        exact (((h.lk j hj).other (hnt _ ml) (hnf _ (List.mem_cons_of_mem _ ma))).other (hnf _ (List.mem_cons_of_mem _ mz)) (hnt _ (by simp))).other (hnf _ (by simp)) (hnf _ (by simp))
  · intro j hj
    simp only [List.length_set] at hj
    rw [hg]
    simp only [Raw.mv]
    rw [getD_set' _ _ _ _ (by simpa using htc), getD_set' _ _ _ _ hfc]
    by_cases e : t = j
    · subst e; simp
    · by_cases e2 : f = j
      · subst e2; simp [e]
      · simp only [if_neg e, if_neg e2]; exact h.cnt j hj
  · intro j x hj hx
    simp only [List.length_set] at hj
    rw [hg] at hx
    simp only [Raw.mv]
    rw [foldl_set_get _ _ _ _ (fun y hy => by rw [hz.llist]; exact (h.yes f y hf hy).1)]
    by_cases e : t = j
    · subst e
      rw [if_pos rfl] at hx
      rcases List.mem_append.1 hx with hx | hx
      · have := h.yes t x ht hx
        exact ⟨this.1, by rw [if_neg (fun hm => hft (h.uniq hf ht hm hx))]; exact this.2⟩
      · exact ⟨(h.yes f x hf hx).1, by rw [if_pos hx]⟩
    · rw [if_neg e] at hx
      by_cases e2 : f = j
      · subst e2; simp at hx
      · rw [if_neg e2] at hx
        have := h.yes j x hj hx
        exact ⟨this.1, by rw [if_neg (fun hm => e2 (h.uniq hf hj hm hx))]; exact this.2⟩
  · intro x hx hno
    simp only [Raw.mv] at hx ⊢
    rw [foldl_set_get _ _ _ _ (fun y hy => by rw [hz.llist]; exact (h.yes f y hf hy).1)]
    have ht' := hno t (by simpa using ht)
    rw [hg, if_pos rfl] at ht'
    rw [if_neg (fun hm => ht' (List.mem_append.2 (.inr hm)))]
    refine h.no x hx fun j hj hm => ?_
    have hj' := hno j (by simpa using hj)
    rw [hg] at hj'
    by_cases e : t = j
    · subst e; exact ht' (List.mem_append.2 (.inl hm))
    · rw [if_neg e] at hj'
      by_cases e2 : f = j
      · subst e2; exact ht' (List.mem_append.2 (.inr hm))
      · rw [if_neg e2] at hj'; exact hj' hm
  · intro j hj
    simp only [List.length_set] at hj
    rw [hg]
    by_cases e : t = j
    · subst e; rw [if_pos rfl]
      exact List.nodup_append.2 ⟨h.nd t ht, h.nd f hf, fun x hx y hy e => hft (h.uniq hf ht (e ▸ hy) hx)⟩
    · rw [if_neg e]
      by_cases e2 : f = j
      · subst e2; simp
      · rw [if_neg e2]; exact h.nd j hj

theorem inv_new (t m : Nat) : Inv (Raw.new t m) (List.replicate m []) := by
  have hg : ∀ i, gl (List.replicate m []) i = [] := fun i => by
    unfold gl; by_cases h : i < m <;> simp [h]
  refine ⟨by simp [Raw.new], ?_, ?_, ?_, ?_, ?_⟩
  · intro i hi
    simp only [List.length_replicate] at hi
    rw [hg]
    have e : (idU (t + m) (t + m)).getD (t + i) 0 = ((t + i : Nat) : Int) := by simp [idU, show t + i < t + m by omega]
    exact ⟨e, e, trivial⟩
  · intro i hi
    simp only [List.length_replicate] at hi
    rw [hg]; simp [Raw.new, hi]
  · intro i x _ hx
    rw [hg] at hx; simp at hx
  · intro x hx _
    have hx' : x < t := hx
    simp [Raw.new, noU, hx']
  · intro i _; rw [hg]; simp

theorem seq_lk {nx bk : List Int} {E : Nat} : ∀ {l : List Nat} {q : Nat}, Lk.Lk nx bk (q :: l ++ [E]) → E ∉ l → (∀ x ∈ l, x < nx.length) → ∃ q', nx.getD q 0 = ((q' : Nat) : Int) ∧ Seq nx E q' l
  | [], q, h, _, _ => ⟨E, h.1, rfl⟩
  | a :: l, q, h, hE, hb => by
    obtain ⟨q', h1, h2⟩ := seq_lk (l := l) (q := a) h.2.2 (fun hm => hE (by simp [hm])) (fun x hx => hb x (by simp [hx]))
    exact ⟨a, h.1, rfl, fun e => hE (by simp [e]), hb a (by simp), q', h1, h2⟩
theorem Inv.seq {r : Raw} {L : List (List Nat)} (h : Inv r L) (hz : Sz r) {i : Nat} (hi : i < L.length) : ∃ q0, r.next.getD (r.things + i) 0 = ((q0 : Nat) : Int) ∧ Seq r.next (r.things + i) q0 (gl L i) :=
  seq_lk (h.lk i hi) (fun hm => h.ends hi i hm rfl) (fun x hx => h.bnd hz hi x (by simp [hx]))
end Go.Proofs.Ytffjaaolcphonaa
