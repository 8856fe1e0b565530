/- The ends: what holds whatever is done. -/
import Derived.Test.YtffjaaolcphonaaJoinZ
import Derived.Test.YtffjaaolcphonaaBdN
namespace Go.Proofs.Ytffjaaolcphonaa
open Go.RowKit
structure JInv (s : JS) : Prop where
  T1 : s.T ≤ 1024
  ll : s.L.length = s.T
  lr : s.rw.length = s.T * 3
  ly : s.yb.length = s.T
  nc : Nice s.L
  bd : ∀ i, i < s.T → ∀ x ∈ gl s.L i, x < s.T
  yo : ∀ i, i < s.T → ∀ p ∈ gl s.L i, idxI (s.yb.getD p 0) = (p : Int)
  go : ∀ i, i < s.T → gl s.L i ≠ [] → s.rw.getD (i * 3 + 1) 0 = 1 ∧ idxI (s.rw.getD (i * 3) 0) = (i : Int)
  v0 : ∀ i, i < s.T → s.rw.getD (i * 3 + 1) 0 = 1 → s.rw.getD (i * 3 + 2) 0 = 0
  st : ∀ i, i < s.T → s.rw.getD (i * 3) 0 ≠ 0 → s.rw.getD (i * 3 + 1) 0 = 1 ∨ s.rw.getD (i * 3 + 1) 0 = 2
  iy : ∀ p, inI (s.yb.getD p 0)
  ir : ∀ i, i < s.T → inI (s.rw.getD (i * 3) 0)
theorem rw_at {l : List Int} {i j f : Nat} {a b c : Int} (hj : j * 3 + f < l.length) (hf : f < 3) : (setRow l i a b c).getD (j * 3 + f) 0 = if j = i then (if f = 0 then a else if f = 1 then b else c) else l.getD (j * 3 + f) 0 := by
  unfold setRow
  rw [getD_set (by simpa using hj), getD_set (by simpa using hj), getD_set hj]
  by_cases e : j = i
  · subst e
    rcases (show f = 0 ∨ f = 1 ∨ f = 2 by omega) with rfl | rfl | rfl
    · rw [if_neg (by omega), if_neg (by omega), if_pos (by omega), if_pos rfl, if_pos rfl]
    · rw [if_neg (by omega), if_pos rfl, if_pos rfl, if_neg (by omega), if_pos rfl]
    · rw [if_pos rfl, if_pos rfl, if_neg (by omega), if_neg (by omega)]
  · rw [if_neg (by omega), if_neg (by omega), if_neg (by omega), if_neg e]
theorem rw_len (l : List Int) (i : Nat) (a b c : Int) : (setRow l i a b c).length = l.length := by simp [setRow]
section
variable {s : JS}
theorem JInv.r0 (h : JInv s) {i j : Nat} (a b c : Int) (hj : j < s.T) : (setRow s.rw i a b c).getD (j * 3) 0 = if j = i then a else s.rw.getD (j * 3) 0 := by
  have := rw_at (l := s.rw) (i := i) (j := j) (f := 0) (a := a) (b := b) (c := c) (by rw [h.lr]; omega) (by omega)
  simpa using this
theorem JInv.r1 (h : JInv s) {i j : Nat} (a b c : Int) (hj : j < s.T) : (setRow s.rw i a b c).getD (j * 3 + 1) 0 = if j = i then b else s.rw.getD (j * 3 + 1) 0 := by
  have := rw_at (l := s.rw) (i := i) (j := j) (f := 1) (a := a) (b := b) (c := c) (by rw [h.lr]; omega) (by omega)
  simpa using this
theorem JInv.r2 (h : JInv s) {i j : Nat} (a b c : Int) (hj : j < s.T) : (setRow s.rw i a b c).getD (j * 3 + 2) 0 = if j = i then c else s.rw.getD (j * 3 + 2) 0 := by
  have := rw_at (l := s.rw) (i := i) (j := j) (f := 2) (a := a) (b := b) (c := c) (by rw [h.lr]; omega) (by omega)
  simpa using this
/-- Fewer wait. -/
theorem JInv.sub (h : JInv s) {L' : List (List Nat)} (hl : L'.length = s.L.length) (hs : ∀ i, (gl L' i).Sublist (gl s.L i)) : JInv { s with L := L' } :=
  { h with ll := hl.trans h.ll, nc := nice_sub h.nc hl hs, bd := fun i hi x hx => h.bd i hi x ((hs i).subset hx), yo := fun i hi p hp => h.yo i hi p ((hs i).subset hp)
           go := fun i hi hne => h.go i hi fun e => hne (List.eq_nil_of_sublist_nil (e ▸ hs i)) }
theorem JInv.start (h : JInv s) (id : Int) (hi : inI id) : JInv (startS s id) := by
  unfold startS
  split
  · rename_i e
    unfold startE at e
    split at e
    · rename_i hp
      obtain ⟨i, hx, hiT, _⟩ := plc_nat hp
      rw [hx, Int.toNat_natCast] at e ⊢
      have hst : s.rw.getD (i * 3 + 1) 0 ≠ 1 := fun h1 => by rw [if_pos h1] at e; omega
      have hnil : gl s.L i = [] := Classical.byContradiction fun hne => hst (h.go i hiT hne).1
      exact { h with
        lr := by rw [← h.lr]; exact rw_len _ _ _ _ _
        go := fun j hj hne => by
          have hj' : j < s.T := hj
          show (setRow s.rw i id 1 0).getD (j * 3 + 1) 0 = 1 ∧ idxI ((setRow s.rw i id 1 0).getD (j * 3) 0) = (j : Int)
          rw [h.r1 _ _ _ hj', h.r0 _ _ _ hj']
          by_cases e : j = i
          · subst e; exact absurd hnil hne
          · rw [if_neg e, if_neg e]; exact h.go j hj' hne
        v0 := fun j hj => by
          have hj' : j < s.T := hj
          show (setRow s.rw i id 1 0).getD (j * 3 + 1) 0 = 1 → (setRow s.rw i id 1 0).getD (j * 3 + 2) 0 = 0
          rw [h.r1 _ _ _ hj', h.r2 _ _ _ hj']
          split
          · exact fun _ => rfl
          · exact h.v0 j hj'
        st := fun j hj => by
          have hj' : j < s.T := hj
          show (setRow s.rw i id 1 0).getD (j * 3) 0 ≠ 0 → (setRow s.rw i id 1 0).getD (j * 3 + 1) 0 = 1 ∨ (setRow s.rw i id 1 0).getD (j * 3 + 1) 0 = 2
          rw [h.r1 _ _ _ hj', h.r0 _ _ _ hj']
          split
          · exact fun _ => .inl rfl
          · exact h.st j hj'
        ir := fun j hj => by
          have hj' : j < s.T := hj
          show inI ((setRow s.rw i id 1 0).getD (j * 3) 0)
          rw [h.r0 _ _ _ hj']
          split
          · exact hi
          · exact h.ir j hj' }
    · omega
  · exact h
theorem remAll_sub (T : Nat) (ys : List Int) : ∀ (L : List (List Nat)) (i : Nat), (gl (remAll T ys L) i).Sublist (gl L i) := by
  induction ys with
  | nil => exact fun L i => List.Sublist.refl _
  | cons y ys ih => exact fun L i => (ih _ i).trans (remL_sub T L _ i)
/-- Who was removed stands nowhere. -/
theorem remAll_out (T : Nat) (ys : List Int) : ∀ (L : List (List Nat)), Nice L → ∀ y ∈ ys, ∀ p : Nat, idxI y = (p : Int) → p < T → wh (remAll T ys L) p = -1 := by
  induction ys with
  | nil => exact fun L _ y hy => by simp at hy
  | cons z ys ih =>
    intro L hn y hy p hp hpT
    have hn2 : Nice (remL T L (idxI z)) := nice_sub hn (remL_len _ _ _) (remL_sub _ _ _)
    rcases List.mem_cons.1 hy with rfl | hy
    · refine wh_sub (remAll_len T ys _) (remAll_sub T ys _) ?_
      rw [hp]
      refine wh_no.2 fun i hi hm => ?_
      rw [remL_len] at hi
      rw [rem_out hn hpT hi] at hm
      unfold outL at hm
      have := (List.mem_filter.1 hm).2
      simp at this
    · exact ih _ hn2 y hy p hp hpT
theorem JInv.join (h : JInv s) (id y : Int) (hy : inI y) : JInv (joinS s id y) := by
  unfold joinS
  cases hw : joinW s id y with
  | false => rw [if_neg (by decide)]; exact h
  | true =>
    rw [if_pos rfl]
    unfold joinW at hw
    simp only [Bool.and_eq_true, Bool.not_eq_true', Bool.or_eq_false_iff] at hw
    obtain ⟨hp, ⟨hwa, _⟩, hk, h2⟩ := hw
    obtain ⟨p, hx, hpT, _⟩ := plc_nat hp
    obtain ⟨i, hxi, hiT, _, hid0⟩ := kn_nat hk
    have hwI : whI s.T s.L (p : Int) < 0 := by
      unfold waB at hwa; rw [hx] at hwa
      have := of_decide_eq_false hwa; omega
    have hid1 : id ≠ 0 := by
      rcases idxI_cases id with ⟨_, e⟩ | ⟨hok, _⟩
      · omega
      · have := hok.1; omega
    have hst1 : s.rw.getD (i * 3 + 1) 0 = 1 := by
      rw [hxi, Int.toNat_natCast] at h2
      rcases h.st i hiT (by rw [hid0]; exact hid1) with e | e
      · exact e
      · rw [e] at h2; exact absurd h2 (by decide)
    have hpR : inR (p : Int) s.T := ⟨by omega, by omega⟩
    have hw0 : wh s.L p = -1 := by simpa using whI_neg hpR hwI
    have hn := wh_no.1 hw0
    rw [hx, hxi, Int.toNat_natCast, pushL_0 (by rw [h.ll]; exact hiT) hpR hwI]
    have hg : ∀ j, j < s.T → gl (s.L.set i (gl s.L i ++ [p])) j = if j = i then gl s.L i ++ [p] else gl s.L j := fun j hj => gl_set_any _ _ _ _ (by rw [h.ll]; exact hj)
    have hyb : ∀ q, q ≠ p → (s.yb.set p y).getD q 0 = s.yb.getD q 0 := fun q hq => by simp [List.getD, Ne.symm hq]
    have hybp : (s.yb.set p y).getD p 0 = y := by simp [List.getD, h.ly, hpT]
    exact { h with
      ll := by simpa using h.ll
      ly := by simpa using h.ly
      nc := nice_push h.nc hw0
      bd := fun j hj x hx => by
        have hj' : j < s.T := hj
        rw [hg j hj'] at hx
        split at hx
        · rcases List.mem_append.1 hx with hx | hx
          · exact h.bd i hiT x hx
          · simp at hx; subst hx; exact hpT
        · exact h.bd j hj' x hx
      yo := fun j hj q hq => by
        have hj' : j < s.T := hj
        show idxI ((s.yb.set p y).getD q 0) = (q : Int)
        rw [hg j hj'] at hq
        have old : ∀ k, k < s.T → q ∈ gl s.L k → idxI ((s.yb.set p y).getD q 0) = (q : Int) := fun k hk hm => by
          rw [hyb q (fun e => by subst e; exact hn k (by rw [h.ll]; exact hk) hm)]; exact h.yo k hk q hm
        split at hq
        · rcases List.mem_append.1 hq with hq | hq
          · exact old i hiT hq
          · simp at hq; subst hq; rw [hybp]; exact hx
        · exact old j hj' hq
      go := fun j hj hne => by
        have hj' : j < s.T := hj
        by_cases e : j = i
        · subst e; exact ⟨hst1, by rw [hid0]; exact hxi⟩
        · refine h.go j hj' fun e2 => hne ?_
          show gl (s.L.set i (gl s.L i ++ [p])) j = []
          rw [hg j hj', if_neg e]; exact e2
      iy := fun q => by
        show inI ((s.yb.set p y).getD q 0)
        by_cases e : q = p
        · subst e; rw [hybp]; exact hy
        · rw [hyb q e]; exact h.iy q }
theorem JInv.drop (h : JInv s) (y : Int) : JInv (dropJ s y) := by
  unfold dropJ; split
  · exact h.sub (remL_len _ _ _) (remL_sub _ _ _)
  · exact h
/-- What ends, in the words of who waits. -/
theorem JInv.endB (h : JInv s) (id : Int) : goB s id = Go.Proofs.Ytffjaaolcphonaa.endB s id := by
  unfold goB Go.Proofs.Ytffjaaolcphonaa.endB
  cases hk : kn s id with
  | false => rfl
  | true =>
    obtain ⟨i, hx, hiT, _, _⟩ := kn_nat hk
    rw [hx, Int.toNat_natCast, Bool.true_and, Bool.true_and]
    by_cases e : s.rw.getD (i * 3 + 1) 0 = 1
    · have := h.v0 i hiT e
      rw [e, this]; rfl
    · rw [show (s.rw.getD (i * 3 + 1) 0 == 1) = false by simpa using e]; rfl
theorem JInv.waits (h : JInv s) (id : Int) : wtJ s id = endT s id := by unfold wtJ endT; rw [h.endB]
theorem JInv.end_out (h : JInv s) {i : Nat} (hi : i < s.T) {y : Int} (hy : y ∈ idL s i) : ∃ p : Nat, idxI y = (p : Int) ∧ p < s.T ∧ p ∈ gl s.L i := by
  unfold idL at hy
  obtain ⟨p, hp, rfl⟩ := List.mem_map.1 hy
  exact ⟨p, h.yo i hi p hp, h.bd i hi p hp, hp⟩
theorem JInv.ends (h : JInv s) (id v : Int) (hi : inI id) : JInv (endS s id v) := by
  unfold endS
  split
  · rename_i hb
    have hk : kn s id = true := by unfold Go.Proofs.Ytffjaaolcphonaa.endB at hb; rw [Bool.and_eq_true] at hb; exact hb.1
    obtain ⟨i, hx, hiT, _, hid0⟩ := kn_nat hk
    rw [hx, Int.toNat_natCast]
    have h1 := h.sub (remAll_len s.T (idL s i) s.L) (remAll_sub s.T (idL s i) s.L)
    have hnil : gl (remAll s.T (idL s i) s.L) i = [] := Classical.byContradiction fun hne => by
      obtain ⟨p, ps, hpp⟩ := List.exists_cons_of_ne_nil hne
      have hm : p ∈ gl (remAll s.T (idL s i) s.L) i := by rw [hpp]; simp
      have hm0 := (remAll_sub s.T (idL s i) s.L i).subset hm
      have := remAll_out s.T (idL s i) s.L h.nc (s.yb.getD p 0) (List.mem_map.2 ⟨p, hm0, rfl⟩) p (h.yo i hiT p hm0) (h.bd i hiT p hm0)
      exact wh_no.1 this i (by rw [remAll_len, h.ll]; exact hiT) hm
    exact { h1 with
      lr := by rw [← h.lr]; exact rw_len _ _ _ _ _
      go := fun j hj hne => by
        have hj' : j < s.T := hj
        show (setRow s.rw i id 2 v).getD (j * 3 + 1) 0 = 1 ∧ idxI ((setRow s.rw i id 2 v).getD (j * 3) 0) = (j : Int)
        rw [h.r1 _ _ _ hj', h.r0 _ _ _ hj']
        by_cases e : j = i
        · subst e; exact absurd hnil hne
        · rw [if_neg e, if_neg e]; exact h1.go j hj' hne
      v0 := fun j hj => by
        have hj' : j < s.T := hj
        show (setRow s.rw i id 2 v).getD (j * 3 + 1) 0 = 1 → (setRow s.rw i id 2 v).getD (j * 3 + 2) 0 = 0
        rw [h.r1 _ _ _ hj', h.r2 _ _ _ hj']
        split
        · intro e; omega
        · exact h.v0 j hj'
      st := fun j hj => by
        have hj' : j < s.T := hj
        show (setRow s.rw i id 2 v).getD (j * 3) 0 ≠ 0 → (setRow s.rw i id 2 v).getD (j * 3 + 1) 0 = 1 ∨ (setRow s.rw i id 2 v).getD (j * 3 + 1) 0 = 2
        rw [h.r1 _ _ _ hj', h.r0 _ _ _ hj']
        split
        · exact fun _ => .inr rfl
        · exact h.st j hj'
      ir := fun j hj => by
        have hj' : j < s.T := hj
        show inI ((setRow s.rw i id 2 v).getD (j * 3) 0)
        rw [h.r0 _ _ _ hj']
        split
        · exact hi
        · exact h.ir j hj' }
  · exact h
/-- Who was told waits no more. -/
theorem JInv.told (h : JInv s) (id v : Int) : ∀ y ∈ endT s id, atB (endS s id v) y = false := by
  intro y hy
  unfold endT at hy
  split at hy
  · rename_i hb
    have hk : kn s id = true := by unfold Go.Proofs.Ytffjaaolcphonaa.endB at hb; rw [Bool.and_eq_true] at hb; exact hb.1
    obtain ⟨i, hx, hiT, _, _⟩ := kn_nat hk
    rw [hx, Int.toNat_natCast] at hy
    obtain ⟨p, hp, hpT, hpm⟩ := h.end_out hiT hy
    have hS : endS s id v = { s with rw := setRow s.rw i id 2 v, L := remAll s.T (idL s i) s.L } := by unfold endS; rw [if_pos hb, hx, Int.toNat_natCast]
    rw [hS]
    have hw := remAll_out s.T (idL s i) s.L h.nc y hy p hp hpT
    unfold atB
    show (plc _ y && (decide (0 ≤ whI s.T (remAll s.T (idL s i) s.L) (idxI y)) && _)) = false
    have : whI s.T (remAll s.T (idL s i) s.L) (idxI y) = -1 := by unfold whI; rw [hp, if_pos ⟨by omega, by omega⟩, Int.toNat_natCast, hw]
    rw [this]
    simp
  · simp at hy
/-- For whom one waits goes. -/
theorem JInv.awaited (h : JInv s) (y : Int) (hne : whJ s y ≠ 0) : stI s (whJ s y) = 1 ∧ inI (whJ s y) := by
  unfold whJ at hne ⊢
  cases hb : atB s y with
  | false => rw [hb] at hne; exact absurd rfl hne
  | true =>
    rw [if_pos rfl]
    obtain ⟨p, i, hx, hpT, _, hi, hiT, hai⟩ := atB_nat h.ll hb
    rw [hai, Int.toNat_natCast]
    have hw : wh s.L p = (i : Int) := by unfold whI at hi; rw [if_pos ⟨by omega, by omega⟩, Int.toNat_natCast] at hi; exact hi
    obtain ⟨hiL, hpm⟩ := wh_yes hw
    obtain ⟨h1, h2⟩ := h.go i hiT (fun e => by rw [e] at hpm; simp at hpm)
    refine ⟨?_, h.ir i hiT⟩
    have hk : kn s (s.rw.getD (i * 3) 0) = true := by
      unfold kn plc; rw [h2, Int.toNat_natCast]
      rw [decide_eq_true (show inR (i : Int) s.T from ⟨by omega, by omega⟩)]; simp
    unfold stI; rw [if_pos hk, h2, Int.toNat_natCast]; exact h1
end
theorem JInv.new {T : Nat} (_ : 1 ≤ T) (T1 : T ≤ 1024) : JInv (newJS T) := by
  have hg : ∀ i, gl (List.replicate T []) i = [] := gl_rep _
  have hz : ∀ n i, (List.replicate n (0 : Int)).getD i 0 = 0 := fun n i => by
    rw [List.getD_eq_getElem?_getD, List.getElem?_replicate]; split <;> rfl
  exact {
    T1 := T1, ll := by simp [newJS], lr := by simp [newJS], ly := by simp [newJS], nc := nice_rep _
    bd := fun i _ x hx => by rw [show gl (newJS T).L i = [] from hg i] at hx; simp at hx
    yo := fun i _ x hx => by rw [show gl (newJS T).L i = [] from hg i] at hx; simp at hx
    go := fun i _ hne => absurd (hg i) hne
    v0 := fun i _ _ => hz _ _
    st := fun i _ h => absurd (hz _ _) h
    iy := fun p => by show inI ((List.replicate T (0 : Int)).getD p 0); rw [hz]; unfold inI; omega
    ir := fun i _ => by show inI ((List.replicate (T * 3) (0 : Int)).getD (i * 3) 0); rw [hz]; unfold inI; omega }
end Go.Proofs.Ytffjaaolcphonaa
