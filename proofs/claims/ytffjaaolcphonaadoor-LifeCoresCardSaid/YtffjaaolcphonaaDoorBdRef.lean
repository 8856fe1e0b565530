/- The document's slots: New, Take. -/
import Derived.Test.YtffjaaolcphonaaDoorSInv
namespace Go.Proofs.YtffjaaolcphonaaDoor
open Go.RowKit
/-- Block b begins with these, turned over. -/
def BBlk (w : World) (b : Nat) (fr : List Bool) : Prop := ∃ sp, Blk w b ((fr.map fun b => Value.bool !b) ++ sp) 4
theorem BBlk.lt {w : World} {b : Nat} {fr : List Bool} (h : BBlk w b fr) : b < w.heap.size := by obtain ⟨_, h⟩ := h; exact h.lt
theorem BBlk.cell {w : World} {b : Nat} {fr : List Bool} (h : BBlk w b fr) {i : Nat} (hi : i < fr.length) : w.cell? ⟨b, i, none⟩ = some (.bool !(fr.getD i false)) := by
  obtain ⟨_, h⟩ := h
  rw [Blk.cell h, List.getElem?_append_left (by simpa using hi)]; simp [hi]
theorem BBlk.frozen {w : World} {b : Nat} {fr : List Bool} (h : BBlk w b fr) (i : Nat) : w.frozen? ⟨b, i, none⟩ = false := by
  obtain ⟨_, h⟩ := h
  exact h.frozen i
theorem BBlk.put {w : World} {b : Nat} {fr : List Bool} (h : BBlk w b fr) (i : Nat) (v : Bool) : BBlk (w.setCell ⟨b, i, none⟩ (.bool !v)) b (fr.set i v) := by
  obtain ⟨sp, h⟩ := h
  have := Blk.put h i (.bool !v)
  rw [List.set_append] at this
  by_cases hi : i < (fr.map fun b => Value.bool !b).length
  · rw [if_pos hi] at this
    exact ⟨sp, by rw [List.map_set]; exact this⟩
  · rw [if_neg hi] at this
    refine ⟨sp.set (i - (fr.map fun b => Value.bool !b).length) (.bool !v), ?_⟩
    rw [List.set_eq_of_length_le (by simpa using hi)]
    exact this
theorem BBlk.other {w : World} {b : Nat} {fr : List Bool} (h : BBlk w b fr) {p : Addr} (hne : b ≠ p.block) (v : Value) : BBlk (w.setCell p v) b fr := by obtain ⟨sp, h⟩ := h; exact ⟨sp, h.other hne v⟩
theorem BBlk.fr {w w' : World} {b : Nat} {fr : List Bool} (h : BBlk w b fr) {F : Nat → Prop} (hf : Fr F w w') (hn : ¬ F b) : BBlk w' b fr := by obtain ⟨sp, h⟩ := h; exact ⟨sp, h.fr hf hn⟩
theorem BBlk.of {w : World} {b : Nat} {fr : List Bool} (h : Blk w b (fr.map fun b => Value.bool !b) 4) : BBlk w b fr := ⟨[], by simpa using h⟩
/-- The document's slots: ages and who is taken, the same state (fr = not taken). -/
structure RAt (w : World) (p A T : Nat) (cA cT : Nat) (s : SS) : Prop where
  hp : Blk w p [.slice (some ⟨A, 0, none⟩) s.ages.length cA, .slice (some ⟨T, 0, none⟩) s.ages.length cT] 136
  hA : IBlk w A s.ages
  hT : BBlk w T s.fr
  lf : s.fr.length = s.ages.length
  pA : p ≠ A
  pT : p ≠ T
  AT : A ≠ T
  T0 : 1 ≤ s.ages.length
  T1 : s.ages.length ≤ 4096
theorem RAt.fr {w w' : World} {p A T cA cT : Nat} {s : SS} (h : RAt w p A T cA cT s) {F : Nat → Prop} (hf : Fr F w w') (h1 : ¬ F p) (h2 : ¬ F A) (h3 : ¬ F T) : RAt w' p A T cA cT s :=
  { h with hp := h.hp.fr hf h1, hA := IBlk.fr h.hA hf h2, hT := h.hT.fr hf h3 }
theorem RAt.still {w w' : World} {p A T cA cT : Nat} {s : SS} (h : RAt w p A T cA cT s) (hf : Still w w') : RAt w' p A T cA cT s := h.fr hf id id id
theorem RAt.f0 {w : World} {p A T cA cT : Nat} {s : SS} (h : RAt w p A T cA cT s) : w.cell? ⟨p, 0, none⟩ = some (.slice (some ⟨A, 0, none⟩) s.ages.length cA) := by rw [h.hp.cell]; rfl
theorem RAt.f1 {w : World} {p A T cA cT : Nat} {s : SS} (h : RAt w p A T cA cT s) : w.cell? ⟨p, 1, none⟩ = some (.slice (some ⟨T, 0, none⟩) s.ages.length cT) := by rw [h.hp.cell]; rfl
theorem RAt.cA {w : World} {p A T cA cT : Nat} {s : SS} (h : RAt w p A T cA cT s) {i : Nat} (hi : i < s.ages.length) : w.cell? ⟨A, i, none⟩ = some (.int .i64 (s.ages.getD i 0)) := h.hA.cell hi
theorem RAt.cT {w : World} {p A T cA cT : Nat} {s : SS} (h : RAt w p A T cA cT s) {i : Nat} (hi : i < s.ages.length) : w.cell? ⟨T, i, none⟩ = some (.bool !(s.fr.getD i false)) := by
  have hi' : i < s.fr.length := by rw [h.lf]; exact hi
  exact h.hT.cell hi'
theorem RAt.putA {w : World} {p A T cA cT : Nat} {s : SS} (h : RAt w p A T cA cT s) (i : Nat) (v : Int) : RAt (w.setCell ⟨A, i, none⟩ (.int .i64 v)) p A T cA cT { s with ages := s.ages.set i v } := by
  refine ⟨?_, h.hA.put i v, h.hT.other (fun e => h.AT e.symm) _, by simp [h.lf], h.pA, h.pT, h.AT, by simpa using h.T0, by simpa using h.T1⟩
  have := h.hp.other (p := ⟨A, i, none⟩) h.pA (.int .i64 v)
  simpa using this
theorem RAt.putT {w : World} {p A T cA cT : Nat} {s : SS} (h : RAt w p A T cA cT s) (i : Nat) (b : Bool) : RAt (w.setCell ⟨T, i, none⟩ (.bool !b)) p A T cA cT { s with fr := s.fr.set i b } := by
  refine ⟨h.hp.other h.pT _, h.hA.other h.AT _, ?_, by simp [h.lf], h.pA, h.pT, h.AT, h.T0, h.T1⟩
  exact h.hT.put i b
set_option maxRecDepth 100000 in
set_option maxHeartbeats 4000000 in
theorem rlive {w : World} {p A T cA cT : Nat} {s : SS} (h : RAt w p A T cA cT s) (id : Int) (hi : inI id) : Calls Tryd.prog 32 #[.pointer (some ⟨p, 0, none⟩), .int .i64 id] w fun e w' => e = .returned (.bool (liveB s id)) ∧ Still w w' := by
  have X := hid (rindex w id hi)
  have G := fun u => hid (rage u id hi)
  have F0 := h.f0
  have F1 := h.f1
  by_cases hr : inR (idxI id) s.ages.length
  · obtain ⟨i, hi2⟩ := Int.eq_ofNat_of_zero_le hr.1
    have hlt : i < s.ages.length := by have := hr.2; omega
    have C1 := h.cA hlt
    have C2 := h.cT hlt
    have d0 : decide (0 ≤ (i : Int)) = true := decide_eq_true (by omega)
    have d1 : decide ((i : Int) < (s.ages.length : Int)) = true := decide_eq_true (by omega)
    have HL : Hid (liveB s id = (s.ages.getD i 0 == ageI id && !(s.fr.getD i false))) := hid (by
      unfold liveB
      rw [decide_eq_true hr, hi2]; rfl)
    rw [HL.out]
    rw [hi2] at X
    obtain ⟨a, ha⟩ : ∃ a, s.ages.getD i 0 = a := ⟨_, rfl⟩
    obtain ⟨f, hf⟩ : ∃ f, s.fr.getD i false = f := ⟨_, rfl⟩
    obtain ⟨g, hg⟩ : ∃ g, ageI id = g := ⟨_, rfl⟩
    rw [ha] at C1 ⊢
    rw [hf] at C2 ⊢
    rw [hg] at G ⊢
    clear ha hf hg hr hi2 h
    cases f with
    | true =>
      rw [show (!true) = false from rfl] at C2 ⊢
      rw [Bool.and_false]
      go_enter Tryd.func32, Tryd.ntmps32
      go_wp2_with (go_at_call 21; refine X.out.mono ?_; rintro e w' ⟨rfl, rfl⟩)
      go_quiet (first | (go_at_call 23; exact Calls.quiet_of_same (calls_flip (G _).out)))
      go_wp2_with fail
      go_ret
      exact ⟨rfl, (Fr.refl _ _).drewN _⟩
    | false =>
      rw [show (!false) = true from rfl] at C2 ⊢
      rw [Bool.and_true]
      go_enter Tryd.func32, Tryd.ntmps32
      go_wp2_with (go_at_call 21; refine X.out.mono ?_; rintro e w' ⟨rfl, rfl⟩)
      go_quiet (first | (go_at_call 23; exact Calls.quiet_of_same (calls_flip (G _).out)))
      go_wp2_with fail
      go_ret
      exact ⟨rfl, (Fr.refl _ _).drewN _⟩
  · have HL : Hid (liveB s id = false) := hid (by unfold liveB; rw [decide_eq_false hr]; rfl)
    rw [HL.out]
    rcases inR_no hr with h1 | h1
    · obtain ⟨x, hx⟩ : ∃ x, idxI id = x := ⟨_, rfl⟩
      rw [hx] at X h1
      have d0 : decide (0 ≤ x) = false := decide_eq_false (by omega)
      clear hr hx h
      go_enter Tryd.func32, Tryd.ntmps32
      go_wp2_with (go_at_call 21; refine X.out.mono ?_; rintro e w' ⟨rfl, rfl⟩)
      go_quiet (first | (go_at_call 23; exact Calls.quiet_of_same (calls_flip (G _).out)))
      go_wp2_with fail
      go_ret
      exact ⟨rfl, (Fr.refl _ _).drewN _⟩
    · obtain ⟨x, hx⟩ : ∃ x, idxI id = x := ⟨_, rfl⟩
      rw [hx] at X h1
      have d0 : decide (0 ≤ x) = true := decide_eq_true (by omega)
      have d1 : decide (x < (s.ages.length : Int)) = false := decide_eq_false (by omega)
      clear hr hx h
      go_enter Tryd.func32, Tryd.ntmps32
      go_wp2_with (go_at_call 21; refine X.out.mono ?_; rintro e w' ⟨rfl, rfl⟩)
      go_quiet (first | (go_at_call 23; exact Calls.quiet_of_same (calls_flip (G _).out)))
      go_wp2_with fail
      go_ret
      exact ⟨rfl, (Fr.refl _ _).drewN _⟩
end Go.Proofs.YtffjaaolcphonaaDoor
/- The document's slots: Free. -/
namespace Go.Proofs.YtffjaaolcphonaaDoor
open Go.RowKit
theorem RAt.setn {w : World} {p A T cA cT : Nat} {s : SS} (h : RAt w p A T cA cT s) (n : Int) : RAt w p A T cA cT { s with n := n } := ⟨h.hp, h.hA, h.hT, h.lf, h.pA, h.pT, h.AT, h.T0, h.T1⟩
set_option maxRecDepth 100000 in
set_option maxHeartbeats 4000000 in
theorem rfree {w : World} {p A T cA cT : Nat} {s : SS} (h : RAt w p A T cA cT s) (id : Int) (hi : inI id) : Calls Tryd.prog 30 #[.pointer (some ⟨p, 0, none⟩), .int .i64 id] w fun e w' =>
    e = .returned (.int .i64 (freeE s id)) ∧ RAt w' p A T cA cT (freeS s id) ∧ Fr (fun k => k = T) w w' := by
  have X := hid (rindex w id hi)
  have G := fun u => hid (rage u id hi)
  have F0 := h.f0
  have H := hid h
  by_cases hr : inR (idxI id) s.ages.length
  · obtain ⟨i, hi2⟩ := Int.eq_ofNat_of_zero_le hr.1
    have hlt : i < s.ages.length := by have := hr.2; omega
    have C1 := h.cA hlt
    have d0 : decide ((i : Int) < 0) = false := decide_eq_false (by omega)
    have i0 : ¬ (i : Int) < 0 := by omega
    have i1 : (i : Int) < (s.ages.length : Int) := by omega
    obtain ⟨a, ha⟩ : ∃ a, s.ages.getD i 0 = a := ⟨_, rfl⟩
    obtain ⟨g, hg⟩ : ∃ g, ageI id = g := ⟨_, rfl⟩
    have hN : Hid (noneB s id = decide (a < g)) := hid (by unfold noneB; rw [decide_eq_true hr, hi2, hg]; show (false || decide (s.ages.getD i 0 < g)) = _; rw [ha]; rfl)
    rw [ha] at C1
    rw [hi2] at X
    rw [hg] at G
    have Hi := hid hi2
    have L := fun (u : World) (hu : RAt u p A T cA cT s) => hid (rlive hu id hi)
    clear ha hg hr hi2 h
    by_cases hag : a < g
    · have e1 : Hid (freeE s id = 4) := hid (by unfold freeE; rw [hN.out, decide_eq_true hag]; rfl)
      have e2 : Hid (freeS s id = s) := hid (by unfold freeS; rw [hN.out, decide_eq_true hag]; rfl)
      rw [e1.out, e2.out]
      go_enter Tryd.func30, Tryd.ntmps30
      go_wp2_with (go_at_call 21; refine X.out.mono ?_; rintro e w' ⟨rfl, rfl⟩)
      go_quiet (first | (go_at_call 23; exact Calls.quiet_of_same (calls_flip (G _).out)))
      go_wp2_with fail
      go_ret
      exact ⟨rfl, H.out.still ((Fr.refl _ _).drewN _), (Fr.refl _ _).drewN _⟩
    · cases hL : liveB s id with
      | false =>
        have e1 : Hid (freeE s id = 7) := hid (by unfold freeE; rw [hN.out, decide_eq_false hag, hL]; rfl)
        have e2 : Hid (freeS s id = s) := hid (by unfold freeS; rw [hN.out, decide_eq_false hag, hL]; rfl)
        rw [e1.out, e2.out]
        rw [hL] at L
        clear hL
        go_enter Tryd.func30, Tryd.ntmps30
        go_wp2_with (go_at_call 21; refine X.out.mono ?_; rintro e w' ⟨rfl, rfl⟩)
        go_quiet (first | (go_at_call 23; exact Calls.quiet_of_same (calls_flip (G _).out)))
        go_wp2_with (go_at_call 32; refine (L _ (H.out.still ((Fr.refl _ _).drewN _))).out.mono ?_; rintro e w2 ⟨rfl, s2⟩)
        go_ret
        have s3 := Still.trans ((Fr.refl _ _).drewN _) s2
        exact ⟨rfl, H.out.still s3, s3.fr _⟩
      | true =>
        have e1 : Hid (freeE s id = 0) := hid (by unfold freeE; rw [hN.out, decide_eq_false hag, hL]; rfl)
        have e2 : Hid (freeS s id = { s with fr := s.fr.set i true, n := s.n - 1 }) := hid (by unfold freeS; rw [hN.out, decide_eq_false hag, hL, Hi.out]; rfl)
        rw [e1.out, e2.out]
        rw [hL] at L
        clear hL
        go_enter Tryd.func30, Tryd.ntmps30
        go_wp2_with (go_at_call 21; refine X.out.mono ?_; rintro e w' ⟨rfl, rfl⟩)
        go_quiet (first | (go_at_call 23; exact Calls.quiet_of_same (calls_flip (G _).out)))
        go_wp2_with (go_at_call 32; refine (L _ (H.out.still ((Fr.refl _ _).drewN _))).out.mono ?_; rintro e w2 ⟨rfl, s2⟩; have s3 := hid (Still.trans ((Fr.refl _ _).drewN _) s2); clear s2; have H2 := hid (H.out.still s3.out); have F2 := H2.out.f1; have C3 := H2.out.cT hlt; have Z3 := H2.out.hT.frozen i)
        go_ret
        exact ⟨rfl, (H2.out.putT i true).setn _, Fr.setCell (F := fun k => k = T) (s3.out.fr _) (.inl rfl) _⟩
  · have hN : Hid (noneB s id = true) := hid (by unfold noneB; rw [decide_eq_false hr]; rfl)
    have e1 : Hid (freeE s id = 4) := hid (by unfold freeE; rw [hN.out]; rfl)
    have e2 : Hid (freeS s id = s) := hid (by unfold freeS; rw [hN.out]; rfl)
    rw [e1.out, e2.out]
    rcases inR_no hr with h1 | h1
    · obtain ⟨x, hx⟩ : ∃ x, idxI id = x := ⟨_, rfl⟩
      rw [hx] at X h1
      have d1 : decide (x < 0) = true := decide_eq_true h1
      clear hr hx h
      go_enter Tryd.func30, Tryd.ntmps30
      go_wp2_with (go_at_call 21; refine X.out.mono ?_; rintro e w' ⟨rfl, rfl⟩)
      go_quiet (first | (go_at_call 23; exact Calls.quiet_of_same (calls_flip (G _).out)))
      go_wp2_with fail
      go_ret
      exact ⟨rfl, H.out.still ((Fr.refl _ _).drewN _), (Fr.refl _ _).drewN _⟩
    · obtain ⟨x, hx⟩ : ∃ x, idxI id = x := ⟨_, rfl⟩
      rw [hx] at X h1
      have h2 : ¬ x < 0 := by omega
      have d1 : decide (x < 0) = false := decide_eq_false h2
      have d2 : decide ((s.ages.length : Int) ≤ x) = true := decide_eq_true h1
      clear hr hx h
      go_enter Tryd.func30, Tryd.ntmps30
      go_wp2_with (go_at_call 21; refine X.out.mono ?_; rintro e w' ⟨rfl, rfl⟩)
      go_quiet (first | (go_at_call 23; exact Calls.quiet_of_same (calls_flip (G _).out)))
      go_wp2_with fail
      go_ret
      exact ⟨rfl, H.out.still ((Fr.refl _ _).drewN _), (Fr.refl _ _).drewN _⟩
end Go.Proofs.YtffjaaolcphonaaDoor
/- The document's slots: Take. -/
namespace Go.Proofs.YtffjaaolcphonaaDoor
open Go.RowKit
theorem getD_set_at' {α : Type} {l : List α} {i : Nat} (h : i < l.length) (v d : α) : (l.set i v).getD i d = v := by simp [List.getD_eq_getElem?_getD, h]
set_option maxRecDepth 100000 in
set_option maxHeartbeats 4000000 in
theorem rtake {w : World} {p A T cA cT : Nat} {s : SS} (h : RAt w p A T cA cT s) (ho : ∀ i, i < s.ages.length → 0 ≤ s.ages.getD i 0) : Calls Tryd.prog 28 #[.pointer (some ⟨p, 0, none⟩)] w fun e w' =>
    e = .returned (.tuple #[.int .i64 (takeV s), .int .i64 (takeE s)]) ∧ RAt w' p A T cA cT (takeS s) ∧ Fr (fun k => k = A ∨ k = T) w w' := by
  have F0 := h.f0
  have F1 := h.f1
  have t1 := h.T1
  have HO := hid ho
  have H := hid h
  clear h ho
  go_enter Tryd.func28, Tryd.ntmps28
  go_wp2_with fail
  go_loopg [4, 10] s.ages.length (fun g s4 s10 wr => ∃ j : Nat, j + g = s.ages.length ∧ s10 = .int .i64 (j : Int) ∧ Hid (∀ m, m < j → may s m = false) ∧ wr = w)
  case atStart => exact ⟨0, by omega, rfl, hid (fun m hm => by omega), rfl⟩
  case round =>
    obtain ⟨j, hj, rfl, HM, rfl⟩ := hrel
    cases gk with
    | zero =>
      have hlt : ¬ (j : Int) < (s.ages.length : Int) := by omega
      have hl : leastS s = none := leastS_none fun m hm => HM.out m (by omega)
      have e1 : Hid (takeV s = 0) := hid (by unfold takeV; rw [hl])
      have e2 : Hid (takeE s = 3) := hid (by unfold takeE; rw [hl])
      have e3 : Hid (takeS s = s) := hid (by unfold takeS; rw [hl])
      clear hl
      go_wp2_with fail
      go_ret2
      rw [e1.out, e2.out, e3.out]
      exact ⟨rfl, H.out, Fr.refl _ _⟩
    | succ g =>
      have hlt : (j : Int) < (s.ages.length : Int) := by omega
      have hlt' : j < s.ages.length := by omega
      have C1 := H.out.cA hlt'
      have C2 := H.out.cT hlt'
      have Z1 := H.out.hA.frozen j
      have Z2 := H.out.hT.frozen j
      have d1 := H.out.pA
      have d2 := H.out.pT
      have d3 := H.out.AT
      have a0 := HO.out j hlt'
      obtain ⟨a, ha⟩ : ∃ a, s.ages.getD j 0 = a := ⟨_, rfl⟩
      obtain ⟨f, hf⟩ : ∃ f, s.fr.getD j false = f := ⟨_, rfl⟩
      rw [ha] at C1 a0
      rw [hf] at C2
      cases f with
      | false =>
        have hm : Hid (may s j = false) := hid (by unfold may; rw [hf]; rfl)
        rw [show (!false) = true from rfl] at C2
        clear ha hf
        go_wp2_with fail
        go_roundg g
        case measure => omega
        case rel => exact ⟨j + 1, by omega, by go_num, hid (fun m h1 => by
            by_cases e : m = j
            · subst e; exact hm.out
            · exact HM.out m (by omega)), rfl⟩
      | true =>
        rw [show (!true) = false from rfl] at C2
        by_cases hag : a < 2147483647
        · have hl : leastS s = some j := leastS_some hlt' (by unfold may; rw [hf, ha, decide_eq_true hag]; rfl) HM.out
          have e1 : Hid (takeV s = idMk j (a + 1)) := hid (by unfold takeV; rw [hl]; show idMk j (s.ages.getD j 0 + 1) = _; rw [ha])
          have e2 : Hid (takeE s = 0) := hid (by unfold takeE; rw [hl])
          have e3 : Hid (takeS s = { ages := s.ages.set j (a + 1), fr := s.fr.set j false, n := s.n + 1 }) := hid (by unfold takeS; rw [hl]; show (⟨s.ages.set j (s.ages.getD j 0 + 1), _, _⟩ : SS) = _; rw [ha])
          clear ha hf hl
          go_wp2_with (go_at_call 19; refine (rid _ _ _).mono ?_; rintro e w' ⟨rfl, rfl⟩)
          go_ret2
          rw [e1.out, e2.out, e3.out]
          refine ⟨rfl, ((H.out.putA j (a + 1)).putT j false).setn _, ?_⟩
          exact Fr.setCell (F := fun k => k = A ∨ k = T) (Fr.setCell (F := fun k => k = A ∨ k = T) (Fr.refl _ _) (.inl (.inl rfl)) _) (.inl (.inr rfl)) _
        · have hm : Hid (may s j = false) := hid (by unfold may; rw [ha, decide_eq_false hag]; simp)
          clear ha hf
          go_wp2_with fail
          go_roundg g
          case measure => omega
          case rel => exact ⟨j + 1, by omega, by go_num, hid (fun m h1 => by
              by_cases e : m = j
              · subst e; exact hm.out
              · exact HM.out m (by omega)), rfl⟩
end Go.Proofs.YtffjaaolcphonaaDoor
/- The document's slots: New. -/
namespace Go.Proofs.YtffjaaolcphonaaDoor
open Go.RowKit
theorem info4 : (Tryd.prog.info? 4).map (fun i => (i.zero, i.size, i.bytes)) = some (some (.bool false), 1, 1) := by kernel_rfl
theorem mk_bools (n : Nat) (hn : n ≤ 1000000) : ∀ w, (Instr.makeSlice 134 (.int .i64 (n : Int)) (.int .i64 (n : Int))).run Tryd.prog w = .ok (.slice (some ⟨w.heap.size, 0, none⟩) n n) (w.alloc (.cells (List.replicate n (.bool false)).toArray 4)) := by
  intro w
  obtain ⟨i0, hi, hz0, hz1, hz2⟩ := info_parts info4
  have := run_make (P := Tryd.prog) w 134 4 i0 _ Tryd.underlying134 hi hz0 .i64 .i64 (n : Int) (n : Int) (by omega) (by omega) (by rw [hz2]; omega) (by omega)
  rw [this, hz1, Int.toNat_natCast, Nat.mul_one]
  have e : madeCells (Value.bool false).cells n = (List.replicate n (.bool false)).toArray := by
    show madeCells #[.bool false] n = _
    apply Array.ext'
    rw [toList_madeCells_one]
  rw [e]
theorem upto_all (n : Nat) : (upto n n).map (fun b => Value.bool !b) = List.replicate n (.bool false) := by
  apply List.ext_getElem
  · simp [upto]
  · intro i h1 h2
    have : i < n := by simpa using h2
    simp [upto, this]
theorem rnew_at {w' : World} {p A T cA cT n : Nat} (h1 : 1 ≤ n) (h2 : n ≤ 4096) (hA : Blk w' A (ints (List.replicate n 0)) 3) (hT : Blk w' T (List.replicate n (.bool false)) 4) (hp : Blk w' p [.slice (some ⟨A, 0, none⟩) n cA, .slice (some ⟨T, 0, none⟩) n cT] 136)
    (pA : p ≠ A) (pT : p ≠ T) (AT : A ≠ T) : RAt w' p A T cA cT (zeroS n n) := by
  have e : (zeroS n n).ages.length = n := by simp [zeroS]
  refine ⟨by rw [e]; exact hp, ⟨[], by rw [List.append_nil]; exact hA⟩, ?_, by simp [zeroS, upto_len], pA, pT, AT, by omega, by omega⟩
  refine BBlk.of ?_
  show Blk w' T ((upto n n).map fun b => .bool !b) 4
  rw [upto_all]; exact hT
set_option maxRecDepth 100000 in
set_option maxHeartbeats 4000000 in
theorem rnew (w : World) (n : Nat) (h1 : 1 ≤ n) (h2 : n ≤ 4096) : Calls Tryd.prog 26 #[.int .i64 (n : Int)] w fun e w' =>
    ∃ p A T cA cT, e = .returned (.pointer (some ⟨p, 0, none⟩)) ∧ RAt w' p A T cA cT (zeroS n n) ∧ Still w w' ∧ w.heap.size ≤ p ∧ w.heap.size ≤ A ∧ w.heap.size ≤ T := by
  have hmk := mk_ints n (by omega)
  have hmb := mk_bools n (by omega)
  have g1 : ¬ (n : Int) < 1 := by omega
  have g2 : ¬ (4096 : Int) < (n : Int) := by omega
  go_enter Tryd.func26, Tryd.ntmps26
  go_wp2_with fail
  have er : Array.replicate n (Value.bool false) = (List.replicate n (Value.bool false)).toArray := by simp
  have ER := hid er
  clear er
  go_region
  · go_wp2_with fail
    go_ret
    rw [ER.out]
    have bA := ((Blk.new w (ints (List.replicate n 0)) 3).alloc (.cells (List.replicate n (Value.bool false)).toArray 4)).alloc (.cells #[.slice (some ⟨w.heap.size, 0, none⟩) n n, .slice (some ⟨w.heap.size + 1, 0, none⟩) n n] 136)
    have bT := (blk_new1 w (.cells (zr n) 3) (List.replicate n (Value.bool false)) 4).alloc (.cells #[.slice (some ⟨w.heap.size, 0, none⟩) n n, .slice (some ⟨w.heap.size + 1, 0, none⟩) n n] 136)
    have bp := Blk.new ((w.alloc (.cells (zr n) 3)).alloc (.cells (List.replicate n (Value.bool false)).toArray 4)) [.slice (some ⟨w.heap.size, 0, none⟩) n n, .slice (some ⟨w.heap.size + 1, 0, none⟩) n n] 136
    rw [World.size_alloc, World.size_alloc] at bp
    exact ⟨_, _, _, _, _, rfl, (rnew_at h1 h2 bA bT bp (by omega) (by omega) (by omega)).still ((Fr.refl _ _).drew), ((((Fr.refl _ w).alloc _).alloc _).alloc _).drew, by omega, by omega, by omega⟩
  · go_wp2_with fail
    go_ret
    rw [ER.out]
    have bT := ((Blk.new w (List.replicate n (Value.bool false)) 4).alloc (.cells (zr n) 3)).alloc (.cells #[.slice (some ⟨w.heap.size + 1, 0, none⟩) n n, .slice (some ⟨w.heap.size, 0, none⟩) n n] 136)
    have bA := (blk_new1 w (.cells (List.replicate n (Value.bool false)).toArray 4) (ints (List.replicate n 0)) 3).alloc (.cells #[.slice (some ⟨w.heap.size + 1, 0, none⟩) n n, .slice (some ⟨w.heap.size, 0, none⟩) n n] 136)
    have bp := Blk.new ((w.alloc (.cells (List.replicate n (Value.bool false)).toArray 4)).alloc (.cells (zr n) 3)) [.slice (some ⟨w.heap.size + 1, 0, none⟩) n n, .slice (some ⟨w.heap.size, 0, none⟩) n n] 136
    rw [World.size_alloc, World.size_alloc] at bp
    exact ⟨_, _, _, _, _, rfl, (rnew_at h1 h2 bA bT bp (by omega) (by omega) (by omega)).still ((Fr.refl _ _).drew), ((((Fr.refl _ w).alloc _).alloc _).alloc _).drew, by omega, by omega, by omega⟩
end Go.Proofs.YtffjaaolcphonaaDoor
