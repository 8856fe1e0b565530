/- What holds of threads and their slots, whatever is done. -/
import Derived.Test.YtffjaaolcphonaaDoorRThr7
import Derived.Test.YtffjaaolcphonaaDoorOnceP
namespace Go.Proofs.YtffjaaolcphonaaDoor
open Go.RowKit Go.Maps
structure TInv (s : SS) (L : List Thr) : Prop where
  i : SI s
  j : SI2 s
  up : thrE.Up L
  mem : ∀ v, (∃ x ∈ L, x.i = v) ↔ HeldBy s v
  cnt : (L.length : Int) = s.n
  st : ∀ x ∈ L, 1 ≤ x.s ∧ x.s ≤ 4
  m32 : s.ages.length ≤ 32
theorem held_back {s : SS} (_ : SI s) (h2 : SI2 s) (hm : s.ages.length ≤ 32) {i : Nat} (hi : i < s.ages.length) (hf : s.fr.getD i false = false) : idxI (idAt s i) = i ∧ ageI (idAt s i) = s.ages.getD i 0 ∧ (Lit.int .i64 (idAt s i)).wf = true := by
  have a1 := h2.tk i hi hf
  have a2 := h2.up i hi
  have hne : idMk i (s.ages.getD i 0) = s.ages.getD i 0 * 65536 + i := by unfold idMk; rw [if_neg (by omega)]
  have ok : idOk (s.ages.getD i 0 * 65536 + i) := ⟨by omega, by omega⟩
  unfold idAt
  rw [hne]
  exact ⟨by unfold idxI; rw [if_pos ok]; omega, by unfold ageI; rw [if_pos ok]; omega, in_wf (by omega) (by omega)⟩
theorem TInv.len {s : SS} {L : List Thr} (h : TInv s L) : L.length ≤ 32 := by
  have h1 := h.i.cnt
  have h2 := List.count_le_length (a := false) (l := s.fr)
  have h3 := h.i.len
  have h4 := h.m32
  have h5 := h.cnt
  omega
theorem TInv.wf {s : SS} {L : List Thr} (h : TInv s L) : ∀ x ∈ L, (Lit.int .i64 x.i).wf = true := by
  intro x hx
  obtain ⟨i, hi, hf, e⟩ := (h.mem x.i).1 ⟨x, hx, rfl⟩
  rw [e]; exact (held_back h.i h.j h.m32 hi hf).2.2
/-- The slot that is taken. -/
theorem take_some {s : SS} (h : takeE s = 0) : ∃ i, i < s.ages.length ∧ s.fr.getD i false = true ∧ s.ages.getD i 0 < 2147483647 ∧ takeV s = idMk i (s.ages.getD i 0 + 1) ∧ takeS s = ⟨s.ages.set i (s.ages.getD i 0 + 1), s.fr.set i false, s.n + 1⟩ := by
  unfold takeE at h
  cases hl : leastS s with
  | none => rw [hl] at h; cases h
  | some i =>
    obtain ⟨hi, hm, _⟩ := leastS_lt hl
    have hf : s.fr.getD i false = true := by unfold may at hm; revert hm; cases s.fr.getD i false <;> simp
    have ha : s.ages.getD i 0 < 2147483647 := by unfold may at hm; rw [Bool.and_eq_true] at hm; exact of_decide_eq_true hm.2
    exact ⟨i, hi, hf, ha, by unfold takeV; rw [hl], by unfold takeS; rw [hl]⟩
theorem take_none {s : SS} (h : takeE s = 3) : takeS s = s := by
  unfold takeE at h
  unfold takeS
  split at h
  · rfl
  · cases h
theorem TInv.new {s : SS} {L : List Thr} (h : TInv s L) (ht : takeE s = 0) : ∀ y ∈ L, y.i ≠ takeV s := by
  intro y hy he
  obtain ⟨m, hm, hf, e⟩ := (h.mem y.i).1 ⟨y, hy, rfl⟩
  obtain ⟨i, hi, hfi, ha, e2, _⟩ := take_some ht
  have hb := (held_back h.i h.j h.m32 hm hf).1
  have a0 := h.i.age i hi
  have h4 := h.m32
  have ev : idMk i (s.ages.getD i 0 + 1) = (s.ages.getD i 0 + 1) * 65536 + i := by unfold idMk; rw [if_neg (by omega)]
  have ok : idOk ((s.ages.getD i 0 + 1) * 65536 + i) := ⟨by omega, by omega⟩
  have hx : idxI ((s.ages.getD i 0 + 1) * 65536 + i) = i := by unfold idxI; rw [if_pos ok]; omega
  rw [← e, he, e2, ev, hx] at hb
  obtain rfl : i = m := by omega
  rw [hfi] at hf; cases hf
theorem held_take {s : SS} (h : SI s) (ht : takeE s = 0) (v : Int) : HeldBy (takeS s) v ↔ HeldBy s v ∨ v = takeV s := by
  obtain ⟨i, hi, hfi, ha, e2, e3⟩ := take_some ht
  have hif : i < s.fr.length := by rw [h.len]; exact hi
  have gi : (takeS s).ages.getD i 0 = s.ages.getD i 0 + 1 := by rw [e3]; exact getD_set_at hi _
  have gn : ∀ m, m ≠ i → (takeS s).ages.getD m 0 = s.ages.getD m 0 := fun m hm => by rw [e3]; exact getD_set_ne (Ne.symm hm) _ _
  have fi : (takeS s).fr.getD i false = false := by rw [e3]; exact getD_set_at' hif _ _
  have fn : ∀ m, m ≠ i → (takeS s).fr.getD m false = s.fr.getD m false := fun m hm => by rw [e3]; exact getD_set_ne (Ne.symm hm) _ _
  have hl := takeS_len s
  constructor
  · rintro ⟨m, hm, hf, rfl⟩
    by_cases em : m = i
    · subst em; right; unfold idAt; rw [gi, e2]
    · left; exact ⟨m, by omega, by rw [← fn m em]; exact hf, by unfold idAt; rw [gn m em]⟩
  · rintro (⟨m, hm, hf, rfl⟩ | rfl)
    · have em : m ≠ i := by rintro rfl; rw [hfi] at hf; cases hf
      exact ⟨m, by omega, by rw [fn m em]; exact hf, by unfold idAt; rw [gn m em]⟩
    · exact ⟨i, by omega, fi, by unfold idAt; rw [gi, e2]⟩
theorem ins_new {x : Thr} : ∀ {L : List Thr}, (∀ y ∈ L, y.i ≠ x.i) → (thrE.ins x L).length = L.length + 1 ∧ ∀ z, z ∈ thrE.ins x L ↔ z = x ∨ z ∈ L
  | [], _ => by simp [El.ins]
  | y :: r, h => by
    have hy := h y (by simp)
    obtain ⟨i1, i2⟩ := ins_new (L := r) (x := x) (fun z hz => h z (List.mem_cons_of_mem _ hz))
    rw [El.ins]
    by_cases h1 : thrE.key x < thrE.key y
    · rw [if_pos h1]; simp
    · rw [if_neg h1, if_neg (show ¬ thrE.key x = thrE.key y from fun e => hy e.symm)]
      refine ⟨by simp [i1], fun z => ?_⟩
      rw [List.mem_cons, i2 z, List.mem_cons]
      constructor
      · rintro (h | h | h)
        · exact .inr (.inl h)
        · exact .inl h
        · exact .inr (.inr h)
      · rintro (h | h | h)
        · exact .inr (.inl h)
        · exact .inl h
        · exact .inr (.inr h)
theorem TInv.spawn {s : SS} {L : List Thr} (h : TInv s L) (c : Ctx) (tk : Int) : TInv (spS s tk) (spL s L c tk) := by
  unfold spS spL
  by_cases htk : tkB tk = true
  · rw [if_pos htk, if_pos htk]; exact h
  · rw [if_neg htk, if_neg htk]
    rcases takeE_cases s with ht | ht
    · rw [if_pos ht]
      obtain ⟨x, hx⟩ : ∃ x : Thr, ⟨takeV s, 1, tk, c, 0⟩ = x := ⟨_, rfl⟩
      have xi : x.i = takeV s := by rw [← hx]
      have xs : x.s = 1 := by rw [← hx]
      rw [hx]
      have hn : ∀ y ∈ L, y.i ≠ x.i := fun y hy => by rw [xi]; exact h.new ht y hy
      obtain ⟨i1, i2⟩ := ins_new hn
      refine ⟨h.i.take, h.j.take h.i, thrE.up_ins x L h.up, fun v => ?_, ?_, fun y hy => ?_, by rw [takeS_len]; exact h.m32⟩
      · rw [held_take h.i ht v, ← h.mem v]
        constructor
        · rintro ⟨z, hz, rfl⟩
          rcases (i2 z).1 hz with rfl | hz
          · exact .inr xi
          · exact .inl ⟨z, hz, rfl⟩
        · rintro (⟨z, hz, rfl⟩ | rfl)
          · exact ⟨z, (i2 z).2 (.inr hz), rfl⟩
          · exact ⟨x, (i2 x).2 (.inl rfl), xi⟩
      · obtain ⟨i, _, _, _, _, e3⟩ := take_some ht
        rw [i1, e3]
        have := h.cnt
        show ((L.length + 1 : Nat) : Int) = s.n + 1
        omega
      · rcases (i2 y).1 hy with rfl | hy
        · rw [xs]; omega
        · exact h.st y hy
    · rw [if_neg (by rw [ht]; decide), take_none ht]; exact h
theorem TInv.upd {s : SS} {L : List Thr} (h : TInv s L) (k : Int) (f : Thr → Thr) (h1 : ∀ x, (f x).i = x.i) (h2 : ∀ x ∈ L, 1 ≤ (f x).s ∧ (f x).s ≤ 4) : TInv s (updT L k f) := by
  unfold updT
  rcases pos_cases L k with ⟨i, _, hi, e1, e2, e3⟩ | ⟨_, e3, _, _⟩
  · rw [if_pos e3, e1]
    have hs := thrE.ins_set h.up hi (x := f L[i]) (h1 _)
    have hup := thrE.up_ins (f L[i]) L h.up
    rw [hs] at hup ⊢
    refine ⟨h.i, h.j, hup, fun v => ?_, by rw [List.length_set]; exact h.cnt, fun y hy => ?_, h.m32⟩
    · rw [← h.mem v]
      constructor
      · rintro ⟨z, hz, rfl⟩
        rcases List.mem_or_eq_of_mem_set hz with hz | rfl
        · exact ⟨z, hz, rfl⟩
        · exact ⟨L[i], List.getElem_mem hi, (h1 _).symm⟩
      · rintro ⟨z, hz, rfl⟩
        obtain ⟨m, hm, rfl⟩ := List.getElem_of_mem hz
        by_cases em : i = m
        · subst em; exact ⟨f L[i], List.mem_set hi _, h1 _⟩
        · refine ⟨L[m], ?_, rfl⟩
          rw [← List.getElem_set_ne em (by simpa using hm)]
          exact List.getElem_mem _
    · rcases List.mem_or_eq_of_mem_set hy with hy | rfl
      · exact h.st y hy
      · exact h2 _ (List.getElem_mem hi)
  · rw [if_neg (by rw [e3]; decide)]; exact h
theorem held_free {s : SS} (h : SI s) (h2 : SI2 s) (hm : s.ages.length ≤ 32) {k : Int} (hk : HeldBy s k) : freeE s k = 0 ∧ (∀ v, HeldBy (freeS s k) v ↔ HeldBy s v ∧ v ≠ k) ∧ (freeS s k).n = s.n - 1 := by
  obtain ⟨i, hi, hf, rfl⟩ := hk
  obtain ⟨b1, b2, _⟩ := held_back h h2 hm hi hf
  have hlb : liveB s (idAt s i) = true := by
    unfold liveB
    rw [b1, b2, decide_eq_true ⟨by omega, by omega⟩]
    simp only [Int.toNat_natCast, hf]; simp
  have hnb : noneB s (idAt s i) = false := by
    unfold noneB
    rw [b1, b2, decide_eq_true ⟨by omega, by omega⟩, decide_eq_false (by simp)]; rfl
  have eS : freeS s (idAt s i) = { s with fr := s.fr.set i true, n := s.n - 1 } := by
    unfold freeS
    rw [if_neg (by rw [hnb]; decide), if_pos hlb, b1]; simp
  have hif : i < s.fr.length := by rw [h.len]; exact hi
  refine ⟨by unfold freeE; rw [if_neg (by rw [hnb]; decide), if_pos hlb], fun v => ?_, by rw [eS]⟩
  constructor
  · rintro ⟨m, hm2, hfm, e⟩
    have hm3 : m < s.ages.length := by rw [freeS_len] at hm2; exact hm2
    rw [eS] at hfm e
    have hfm' : (s.fr.set i true).getD m false = false := hfm
    have em : i ≠ m := by
      rintro rfl
      rw [getD_set_at' hif] at hfm'; cases hfm'
    rw [getD_set_ne em] at hfm'
    refine ⟨⟨m, hm3, hfm', e⟩, ?_⟩
    intro he
    have e' : v = idAt s m := e
    have c1 := (held_back h h2 hm hm3 hfm').1
    rw [← e', he, b1] at c1
    omega
  · rintro ⟨⟨m, hm2, hfm, rfl⟩, hne⟩
    have em : i ≠ m := by rintro rfl; exact hne rfl
    refine ⟨m, by rw [freeS_len]; exact hm2, ?_, by rw [eS]; rfl⟩
    rw [eS]
    show (s.fr.set i true).getD m false = false
    rw [getD_set_ne em]; exact hfm
theorem TInv.stop {s : SS} {L : List Thr} (h : TInv s L) (k : Int) : TInv (endS s L k) (endL L k) ∧ endE s L k = rtE L k [2] := by
  unfold endS endL endE rtE
  rcases pos_cases L k with ⟨i, _, hi, e1, e2, e3⟩ | ⟨_, e3, _, _⟩
  · rw [e3, if_pos rfl, if_pos rfl, if_pos rfl, if_pos rfl, e1]
    have hk : HeldBy s k := (h.mem k).1 ⟨L[i], List.getElem_mem hi, e2⟩
    obtain ⟨f1, f2, f3⟩ := held_free h.i h.j h.m32 hk
    by_cases hs : L[i].s = 2
    · rw [if_pos hs, if_pos hs, if_pos hs, hs, f1]
      refine ⟨⟨h.i.free k, h.j.free k, thrE.up_del k h.up, fun v => ?_, ?_, fun y hy => h.st y (List.mem_filter.1 hy).1, by rw [freeS_len]; exact h.m32⟩, by simp⟩
      · rw [f2 v, ← h.mem v]
        constructor
        · rintro ⟨z, hz, rfl⟩
          have := List.mem_filter.1 hz
          exact ⟨⟨z, this.1, rfl⟩, by simpa [thrE] using this.2⟩
        · rintro ⟨⟨z, hz, rfl⟩, hne⟩
          exact ⟨z, List.mem_filter.2 ⟨hz, by simpa [thrE] using hne⟩, rfl⟩
      · rw [f3, del_pos h.up hi e2]
        have := h.cnt
        simp only [List.length_append, List.length_take, List.length_drop]
        omega
    · rw [if_neg hs, if_neg hs, if_neg hs]
      refine ⟨h, ?_⟩
      rw [if_neg (by simpa using hs)]
  · rw [e3]
    exact ⟨h, rfl⟩
/-- The document's change and the program's are one. -/
theorem turn_is {fr : Int} {fs : List Int} (hd : ∀ st : Int, 1 ≤ st → st ≤ 4 → turnN fr st = !fs.contains st) {s : SS} {L : List Thr} (h : TInv s L) (k tz : Int) : turnE L k fr = rtE L k fs ∧ turnL L k fr tz = rtL L k fs tz := by
  unfold turnE turnL rtE rtL
  rcases pos_cases L k with ⟨i, _, hi, e1, e2, e3⟩ | ⟨_, e3, _, _⟩
  · rw [e3, e1]
    obtain ⟨s1, s2⟩ := h.st L[i] (List.getElem_mem hi)
    rw [hd _ s1 s2]
    cases fs.contains L[i].s <;> simp
  · rw [e3]; exact ⟨rfl, rfl⟩
theorem TInv.turn {fr tz : Int} (h1 : 1 ≤ tz) (h2 : tz ≤ 4) {s : SS} {L : List Thr} (h : TInv s L) (k : Int) : TInv s (turnL L k fr tz) := by
  by_cases e : fndE L k = 0 ∧ ¬ turnN fr (fndT L k).s = true
  · have he : turnL L k fr tz = updT L k fun x => { x with s := tz } := by
      unfold turnL updT
      rw [if_pos e.1, if_neg e.2, if_pos e.1]
    rw [he]
    exact h.upd k _ (fun _ => rfl) (fun x hx => ⟨h1, h2⟩)
  · have he : turnL L k fr tz = L := by
      unfold turnL
      split
      · rename_i h3
        split
        · rfl
        · rename_i h4; exact absurd ⟨h3, h4⟩ e
      · rfl
    rw [he]; exact h
theorem d_run : ∀ st : Int, 1 ≤ st → st ≤ 4 → turnN 2 st = !([1] : List Int).contains st := by
  intro st h1 h2
  rcases (show st = 1 ∨ st = 2 ∨ st = 3 ∨ st = 4 by omega) with rfl | rfl | rfl | rfl <;> decide +kernel
theorem d_four : ∀ st : Int, 1 ≤ st → st ≤ 4 → turnN 4 st = !([2] : List Int).contains st := by
  intro st h1 h2
  rcases (show st = 1 ∨ st = 2 ∨ st = 3 ∨ st = 4 by omega) with rfl | rfl | rfl | rfl <;> decide +kernel
theorem d_wake : ∀ st : Int, 1 ≤ st → st ≤ 4 → turnN 24 st = !([3, 4] : List Int).contains st := by
  intro st h1 h2
  rcases (show st = 1 ∨ st = 2 ∨ st = 3 ∨ st = 4 by omega) with rfl | rfl | rfl | rfl <;> decide +kernel
theorem d_back : ∀ st : Int, 1 ≤ st → st ≤ 4 → turnN 16 st = !([4] : List Int).contains st := by
  intro st h1 h2
  rcases (show st = 1 ∨ st = 2 ∨ st = 3 ∨ st = 4 by omega) with rfl | rfl | rfl | rfl <;> decide +kernel
theorem TInv.zero (n : Nat) (h : n ≤ 32) : TInv (zeroS n n) [] := by
  refine ⟨SI.zero n (by omega), SI2.zero n, List.Pairwise.nil, fun v => ?_, rfl, by simp, by simpa [zeroS] using h⟩
  constructor
  · rintro ⟨x, hx, _⟩; cases hx
  · rintro ⟨i, hi, hf, _⟩
    have hi' : i < n := by simpa [zeroS] using hi
    have : (upto n n).getD i false = true := by simp [upto, List.getD_eq_getElem?_getD, hi']
    rw [show (zeroS n n).fr = upto n n from rfl, this] at hf
    cases hf
end Go.Proofs.YtffjaaolcphonaaDoor
