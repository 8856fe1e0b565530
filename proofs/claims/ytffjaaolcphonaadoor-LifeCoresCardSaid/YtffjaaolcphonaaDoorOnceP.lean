/- SlotsOnce: what holds of the ids that were told, and of those that live. -/
import Derived.Test.YtffjaaolcphonaaDoorSInv3
namespace Go.Proofs.YtffjaaolcphonaaDoor
open Go.RowKit
def ToldBy (s : SS) (x : Int) : Prop := ∃ (i : Nat) (a : Int), i < s.ages.length ∧ 1 ≤ a ∧ a ≤ s.ages.getD i 0 ∧ x = idMk i a
def HeldBy (s : SS) (x : Int) : Prop := ∃ i, i < s.ages.length ∧ s.fr.getD i false = false ∧ x = idAt s i
structure OI (s : SS) (N k : Nat) (told live : List Int) : Prop where
  i : SI s
  j : SI2 s
  len : s.ages.length = N
  N20 : N ≤ 20
  k2 : k ≤ 400
  ag : ∀ i, i < N → s.ages.getD i 0 ≤ (k : Int)
  td : ∀ x ∈ told, ToldBy s x
  lv : ∀ x ∈ live, HeldBy s x
  nd : live.Pairwise (· ≠ ·)
  cnt : (live.length : Int) = s.n
theorem leastFrom_no (s : SS) : ∀ k i, leastFrom s i k = none → ∀ m, i ≤ m → m < i + k → may s m = false := by
  intro k
  induction k with
  | zero => intro i _ m h1 h2; omega
  | succ k ih =>
    intro i h m h1 h2
    rw [leastFrom] at h
    by_cases hm : may s i = true
    · rw [if_pos hm] at h; cases h
    · rw [if_neg hm] at h
      by_cases e : m = i
      · subst e; simpa using hm
      · exact ih _ h m (by omega) (by omega)
theorem all_false {fr : List Bool} (h : fr.count false = fr.length) {i : Nat} (hi : i < fr.length) : fr.getD i false = false := by
  have h2 := (List.count_eq_length.1 h) fr[i] (List.getElem_mem hi)
  simp [List.getD_eq_getElem?_getD, hi, ← h2]
theorem some_true {fr : List Bool} (h : fr.count false < fr.length) : ∃ i, i < fr.length ∧ fr.getD i false = true := by
  by_cases hc : ∃ i, i < fr.length ∧ fr.getD i false = true
  · exact hc
  · refine absurd (List.count_eq_length.2 fun x hx => ?_) (Nat.ne_of_lt h)
    obtain ⟨i, hi, rfl⟩ := List.getElem_of_mem hx
    cases e : fr[i] with
    | false => rfl
    | true => exact absurd ⟨i, hi, by simp [List.getD_eq_getElem?_getD, hi, e]⟩ hc
theorem OI.le {s : SS} {N k : Nat} {told live : List Int} (h : OI s N k told live) : live.length ≤ N := by
  have h1 := h.i.cnt
  have h2 := h.cnt
  have h3 := List.count_le_length (a := false) (l := s.fr)
  have h4 := h.i.len
  have h5 := h.len
  omega
theorem OI.full {s : SS} {N k : Nat} {told live : List Int} (h : OI s N k told live) (hn : ¬ live.length < N) : takeE s = 3 ∧ takeS s = s := by
  have e : leastS s = none := leastS_none fun m hm => by
    have h1 := h.i.cnt
    have h2 := h.cnt
    have h3 := List.count_le_length (a := false) (l := s.fr)
    have h4 := h.i.len
    have h5 := h.len
    unfold may
    rw [all_false (by omega) (by omega)]; rfl
  unfold takeE takeS
  rw [e]; exact ⟨rfl, rfl⟩
theorem OI.room {s : SS} {N k : Nat} {told live : List Int} (h : OI s N k told live) (hn : live.length < N) : ∃ i, i < N ∧ s.fr.getD i false = true ∧ takeE s = 0 ∧ takeV s = idMk i (s.ages.getD i 0 + 1) ∧ takeS s = ⟨s.ages.set i (s.ages.getD i 0 + 1), s.fr.set i false, s.n + 1⟩ := by
  have h1 := h.i.cnt
  have h2 := h.cnt
  have h4 := h.i.len
  have h5 := h.len
  have hk := h.k2
  cases e : leastS s with
  | none =>
    obtain ⟨i, hi, ht⟩ := some_true (fr := s.fr) (by omega)
    have hm := leastFrom_no s _ _ e i (Nat.zero_le _) (by omega)
    have ha := h.ag i (by omega)
    unfold may at hm
    rw [ht, decide_eq_true (by omega)] at hm
    cases hm
  | some i =>
    obtain ⟨hi, hm, _⟩ := leastS_lt e
    have hf : s.fr.getD i false = true := by unfold may at hm; revert hm; cases s.fr.getD i false <;> simp
    refine ⟨i, by omega, hf, ?_, ?_, ?_⟩
    · unfold takeE; rw [e]
    · unfold takeV; rw [e]
    · unfold takeS; rw [e]
theorem idMk_val {i : Nat} {a : Int} (hi : i < 20) (h1 : 1 ≤ a) (h2 : a ≤ 2147483647) : idMk i a = a * 65536 + i := by
  unfold idMk; rw [if_neg (by omega)]
theorem idMk_idx {i : Nat} {a : Int} (hi : i < 20) (h1 : 1 ≤ a) (h2 : a ≤ 2147483647) : idxI (idMk i a) = i ∧ ageI (idMk i a) = a := by
  rw [idMk_val hi h1 h2]
  have ok : idOk (a * 65536 + i) := ⟨by omega, by omega⟩
  exact ⟨by unfold idxI; rw [if_pos ok]; omega, by unfold ageI; rw [if_pos ok]; omega⟩
theorem idMk_ne0 {i : Nat} {a : Int} (hi : i < 20) (h1 : 1 ≤ a) (h2 : a ≤ 2147483647) : idMk i a ≠ 0 := by
  rw [idMk_val hi h1 h2]; omega
/-- A held one's index, its age. -/
theorem OI.held {s : SS} {N k : Nat} {told live : List Int} (h : OI s N k told live) {x : Int} (hx : HeldBy s x) : ∃ i : Nat, i < N ∧ s.fr.getD i false = false ∧ 1 ≤ s.ages.getD i 0 ∧ s.ages.getD i 0 ≤ (k : Int) ∧ x = idMk i (s.ages.getD i 0) ∧ idxI x = i ∧ ageI x = s.ages.getD i 0 := by
  obtain ⟨i, hi, hf, rfl⟩ := hx
  have h5 := h.len
  have h6 := h.N20
  have hk := h.k2
  have a1 := h.j.tk i hi hf
  have a2 := h.ag i (by omega)
  obtain ⟨b1, b2⟩ := idMk_idx (i := i) (a := s.ages.getD i 0) (by omega) a1 (by omega)
  exact ⟨i, by omega, hf, a1, a2, rfl, b1, b2⟩
theorem OI.fresh {s : SS} {N k : Nat} {told live : List Int} (h : OI s N k told live) (hn : live.length < N) : (∀ x ∈ told, x ≠ takeV s) ∧ (∀ x ∈ live, idxI x ≠ idxI (takeV s)) ∧ inI (takeV s) ∧ OI (takeS s) N (k + 1) (told ++ [takeV s]) (live ++ [takeV s]) ∨ 400 < k + 1 := by
  by_cases hk1 : 400 < k + 1
  · exact .inr hk1
  left
  obtain ⟨i, hi, hf, e1, e2, e3⟩ := h.room hn
  have h5 := h.len
  have h6 := h.N20
  have hk := h.k2
  have ai := h.ag i hi
  have a0 := h.i.age i (by omega)
  obtain ⟨b1, b2⟩ := idMk_idx (i := i) (a := s.ages.getD i 0 + 1) (by omega) (by omega) (by omega)
  have hia : i < s.ages.length := by omega
  have hif : i < s.fr.length := by rw [h.i.len]; omega
  have L1 : ∀ x ∈ told, x ≠ takeV s := by
    intro x hx he
    obtain ⟨m, a, hm, ha1, ha2, rfl⟩ := h.td x hx
    have am := h.ag m (by omega)
    obtain ⟨c1, c2⟩ := idMk_idx (i := m) (a := a) (by omega) ha1 (by omega)
    rw [he, e2, b1] at c1
    rw [he, e2, b2] at c2
    obtain rfl : i = m := by omega
    omega
  have L2 : ∀ x ∈ live, idxI x ≠ idxI (takeV s) := by
    intro x hx
    obtain ⟨m, hm, hfm, _, _, _, c1, _⟩ := h.held (h.lv x hx)
    rw [e2, b1, c1]
    intro he
    obtain rfl : m = i := by omega
    rw [hf] at hfm; cases hfm
  refine ⟨L1, L2, by rw [e2]; exact idMk_in _ _, ?_⟩
  have hl : (takeS s).ages.length = s.ages.length := takeS_len s
  have gi : (takeS s).ages.getD i 0 = s.ages.getD i 0 + 1 := by rw [e3]; exact getD_set_at hia _
  have gn : ∀ m, m ≠ i → (takeS s).ages.getD m 0 = s.ages.getD m 0 := fun m hm => by rw [e3]; exact getD_set_ne (Ne.symm hm) _ _
  have fi : (takeS s).fr.getD i false = false := by rw [e3]; exact getD_set_at' hif _ _
  have fn : ∀ m, m ≠ i → (takeS s).fr.getD m false = s.fr.getD m false := fun m hm => by rw [e3]; exact getD_set_ne (Ne.symm hm) _ _
  refine ⟨h.i.take, h.j.take h.i, by omega, h6, by omega, fun m hm => ?_, fun x hx => ?_, fun x hx => ?_, ?_, ?_⟩
  · by_cases em : m = i
    · subst em; rw [gi]; omega
    · rw [gn m em]; have := h.ag m hm; omega
  · rcases List.mem_append.1 hx with hx | hx
    · obtain ⟨m, a, hm, ha1, ha2, rfl⟩ := h.td x hx
      refine ⟨m, a, by omega, ha1, ?_, rfl⟩
      by_cases em : m = i
      · subst em; rw [gi]; omega
      · rw [gn m em]; exact ha2
    · obtain rfl : x = takeV s := by simpa using hx
      exact ⟨i, s.ages.getD i 0 + 1, by omega, by omega, by rw [gi]; omega, e2⟩
  · rcases List.mem_append.1 hx with hx | hx
    · obtain ⟨m, hm, hfm, rfl⟩ := h.lv x hx
      have em : m ≠ i := by rintro rfl; rw [hf] at hfm; cases hfm
      exact ⟨m, by omega, by rw [fn m em]; exact hfm, by unfold idAt; rw [gn m em]⟩
    · obtain rfl : x = takeV s := by simpa using hx
      exact ⟨i, by omega, fi, by unfold idAt; rw [gi]; exact e2⟩
  · refine List.pairwise_append.2 ⟨h.nd, by simp, fun x hx y hy => ?_⟩
    obtain rfl : y = takeV s := by simpa using hy
    intro he
    exact L2 x hx (by rw [he])
  · have := h.cnt
    rw [e3]
    simp only [List.length_append, List.length_cons, List.length_nil]
    omega
theorem freeS_gone {s : SS} {x : Int} (h1 : noneB s x = false) (h2 : liveB s x = false) : freeS s x = s := by
  unfold freeS; rw [if_neg (by rw [h1]; decide), if_neg (by rw [h2]; decide)]
/-- One that lives is freed: told so, once. -/
theorem OI.gone {s : SS} {N k : Nat} {told live : List Int} (h : OI s N k told live) {i : Nat} (hi : i < live.length) :
    freeE s (live.getD i 0) = 0 ∧ liveB (freeS s (live.getD i 0)) (live.getD i 0) = false ∧ freeE (freeS s (live.getD i 0)) (live.getD i 0) = 7 ∧ freeS (freeS s (live.getD i 0)) (live.getD i 0) = freeS s (live.getD i 0) ∧
    inI (live.getD i 0) ∧ OI (freeS s (live.getD i 0)) N k told (live.take i ++ live.drop (i + 1)) := by
  obtain ⟨x, hx⟩ : ∃ x, live.getD i 0 = x := ⟨_, rfl⟩
  have hxe : live[i] = x := by rw [← hx]; simp [List.getD_eq_getElem?_getD, hi]
  have hm : x ∈ live := by rw [← hxe]; exact List.getElem_mem hi
  rw [hx]
  obtain ⟨m, hmN, hf, a1, a2, e0, c1, c2⟩ := h.held (h.lv x hm)
  have h5 := h.len
  have h6 := h.N20
  have hk := h.k2
  have hlb : liveB s x = true := by
    unfold liveB
    rw [c1, c2, decide_eq_true ⟨by omega, by omega⟩]
    simp only [Int.toNat_natCast, hf]; simp
  have hnb : noneB s x = false := by
    unfold noneB
    rw [c1, c2, decide_eq_true ⟨by omega, by omega⟩, decide_eq_false (by simp)]; rfl
  have eS : freeS s x = { s with fr := s.fr.set m true, n := s.n - 1 } := by
    unfold freeS
    rw [if_neg (by rw [hnb]; decide), if_pos hlb, c1]; simp
  have hmf : m < s.fr.length := by rw [h.i.len]; omega
  have ft : (s.fr.set m true).getD m false = true := getD_set_at' hmf _ _
  have hlb2 : liveB (freeS s x) x = false := by
    rw [eS]
    unfold liveB
    rw [c1, c2, decide_eq_true ⟨by show (0 : Int) ≤ m; omega, by show (m : Int) < s.ages.length; omega⟩]
    simp only [Int.toNat_natCast, ft]; simp
  have hnb2 : noneB (freeS s x) x = false := by
    rw [eS]
    unfold noneB
    rw [c1, c2, decide_eq_true ⟨by show (0 : Int) ≤ m; omega, by show (m : Int) < s.ages.length; omega⟩, decide_eq_false (by simp)]; rfl
  refine ⟨?_, hlb2, ?_, ?_, by rw [e0]; exact idMk_in _ _, ?_⟩
  · unfold freeE; rw [if_neg (by rw [hnb]; decide), if_pos hlb]
  · unfold freeE; rw [if_neg (by rw [hnb2]; decide), if_neg (by rw [hlb2]; decide)]
  · exact freeS_gone hnb2 hlb2
  · have hsub : (live.take i ++ live.drop (i + 1)).Sublist live := by
      rw [← List.eraseIdx_eq_take_drop_succ]; exact List.eraseIdx_sublist _ _
    refine ⟨h.i.free x, h.j.free x, by rw [freeS_len]; exact h5, h6, hk, ?_, ?_, ?_, h.nd.sublist hsub, ?_⟩
    · rw [eS]; exact h.ag
    · intro y hy; rw [eS]; exact h.td y hy
    · intro y hy
      have hyl := hsub.subset hy
      obtain ⟨m2, hm2, hf2, ey⟩ := h.lv y hyl
      have hne : y ≠ x := by
        intro he
        have hnd := h.nd
        rw [← List.take_append_drop i live, ← List.getElem_cons_drop hi, hxe] at hnd
        obtain ⟨_, n2, n3⟩ := List.pairwise_append.1 hnd
        rcases List.mem_append.1 hy with h1 | h1
        · exact n3 y h1 x (by simp) he
        · exact (List.pairwise_cons.1 n2).1 y h1 he.symm
      have em : m2 ≠ m := by
        rintro rfl
        exact hne (by rw [ey, e0]; rfl)
      refine ⟨m2, by rw [eS]; exact hm2, ?_, by rw [eS]; exact ey⟩
      rw [eS]
      show (s.fr.set m true).getD m2 false = false
      rw [getD_set_ne (Ne.symm em)]; exact hf2
    · have := h.cnt
      rw [eS]
      show _ = s.n - 1
      simp only [List.length_append, List.length_take, List.length_drop]
      omega
theorem OI.zero (N : Nat) (h : N ≤ 20) : OI (zeroS N N) N 0 [] [] := by
  refine ⟨SI.zero N (by omega), SI2.zero N, by simp [zeroS], h, by omega, fun i hi => ?_, by simp, by simp, by simp, rfl⟩
  simp [zeroS, List.getD_eq_getElem?_getD, hi]
end Go.Proofs.YtffjaaolcphonaaDoor
namespace Go.Proofs.YtffjaaolcphonaaDoor
theorem OI.mono {s : SS} {N k k' : Nat} {told live : List Int} (h : OI s N k told live) (hk : k ≤ k') (h4 : k' ≤ 400) : OI s N k' told live :=
  ⟨h.i, h.j, h.len, h.N20, h4, fun i hi => by have := h.ag i hi; omega, h.td, h.lv, h.nd, h.cnt⟩
end Go.Proofs.YtffjaaolcphonaaDoor
