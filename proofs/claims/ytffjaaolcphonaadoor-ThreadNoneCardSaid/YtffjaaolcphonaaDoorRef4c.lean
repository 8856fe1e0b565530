/- The document's slots: Take. -/
import Derived.Test.YtffjaaolcphonaaDoorRef4b
namespace Go.Proofs.YtffjaaolcphonaaDoor
open Go.RowKit
theorem getD_set_at' {α : Type} {l : List α} {i : Nat} (h : i < l.length) (v d : α) : (l.set i v).getD i d = v := by simp [List.getD_eq_getElem?_getD, h]
set_option maxRecDepth 100000 in
set_option maxHeartbeats 4000000 in
theorem rtake {w : World} {p A T cA cT : Nat} {s : SS} (h : RAt w p A T cA cT s) (ho : ∀ i, i < s.ages.length → 0 ≤ s.ages.getD i 0) : Calls Tryd.prog 28 #[.pointer (some ⟨p, 0, none⟩)] w fun e w' =>
    e = .returned (.tuple #[.int .i64 (takeV s), .int .i64 (takeE s)]) ∧ RAt w' p A T cA cT (takeS s) ∧ Fr (fun k => k = A ∨ k = T) w w' := by
  have F0 := h.f0
  have F1 := h.f1
  have t1 := h.T1
  have HO := hid ho
  have H := hid h
  clear h ho
  go_enter Tryd.func28, Tryd.ntmps28
  go_wp2_with fail
  go_loopg [4, 10] s.ages.length (fun g s4 s10 wr => ∃ j : Nat, j + g = s.ages.length ∧ s10 = .int .i64 (j : Int) ∧ Hid (∀ m, m < j → may s m = false) ∧ wr = w)
  case atStart => exact ⟨0, by omega, rfl, hid (fun m hm => by omega), rfl⟩
  case round =>
    obtain ⟨j, hj, rfl, HM, rfl⟩ := hrel
    cases gk with
    | zero =>
      have hlt : ¬ (j : Int) < (s.ages.length : Int) := by omega
      have hl : leastS s = none := leastS_none fun m hm => HM.out m (by omega)
      have e1 : Hid (takeV s = 0) := hid (by unfold takeV; rw [hl])
      have e2 : Hid (takeE s = 3) := hid (by unfold takeE; rw [hl])
      have e3 : Hid (takeS s = s) := hid (by unfold takeS; rw [hl])
      clear hl
      go_wp2_with fail
      go_ret2
      rw [e1.out, e2.out, e3.out]
      exact ⟨rfl, H.out, Fr.refl _ _⟩
    | succ g =>
      have hlt : (j : Int) < (s.ages.length : Int) := by omega
      have hlt' : j < s.ages.length := by omega
      have C1 := H.out.cA hlt'
      have C2 := H.out.cT hlt'
      have Z1 := H.out.hA.frozen j
      have Z2 := H.out.hT.frozen j
      have d1 := H.out.pA
      have d2 := H.out.pT
      have d3 := H.out.AT
      have a0 := HO.out j hlt'
      obtain ⟨a, ha⟩ : ∃ a, s.ages.getD j 0 = a := ⟨_, rfl⟩
      obtain ⟨f, hf⟩ : ∃ f, s.fr.getD j false = f := ⟨_, rfl⟩
      rw [ha] at C1 a0
      rw [hf] at C2
      cases f with
      | false =>
        have hm : Hid (may s j = false) := hid (by unfold may; rw [hf]; rfl)
        rw [show (!false) = true from rfl] at C2
        clear ha hf
        go_wp2_with fail
        go_roundg g
        case measure => omega
        case rel => exact ⟨j + 1, by omega, by go_num, hid (fun m h1 => by
            by_cases e : m = j
            · subst e; exact hm.out
            · exact HM.out m (by omega)), rfl⟩
      | true =>
        rw [show (!true) = false from rfl] at C2
        by_cases hag : a < 2147483647
        · have hl : leastS s = some j := leastS_some hlt' (by unfold may; rw [hf, ha, decide_eq_true hag]; rfl) HM.out
          have e1 : Hid (takeV s = idMk j (a + 1)) := hid (by unfold takeV; rw [hl]; show idMk j (s.ages.getD j 0 + 1) = _; rw [ha])
          have e2 : Hid (takeE s = 0) := hid (by unfold takeE; rw [hl])
          have e3 : Hid (takeS s = { ages := s.ages.set j (a + 1), fr := s.fr.set j false, n := s.n + 1 }) := hid (by unfold takeS; rw [hl]; show (⟨s.ages.set j (s.ages.getD j 0 + 1), _, _⟩ : SS) = _; rw [ha])
          clear ha hf hl
          go_wp2_with (go_at_call 19; refine (rid _ _ _).mono ?_; rintro e w' ⟨rfl, rfl⟩)
          go_ret2
          rw [e1.out, e2.out, e3.out]
          refine ⟨rfl, ((H.out.putA j (a + 1)).putT j false).setn _, ?_⟩
          exact Fr.setCell (F := fun k => k = A ∨ k = T) (Fr.setCell (F := fun k => k = A ∨ k = T) (Fr.refl _ _) (.inl (.inl rfl)) _) (.inl (.inr rfl)) _
        · have hm : Hid (may s j = false) := hid (by unfold may; rw [ha, decide_eq_false hag]; simp)
          clear ha hf
          go_wp2_with fail
          go_roundg g
          case measure => omega
          case rel => exact ⟨j + 1, by omega, by go_num, hid (fun m h1 => by
              by_cases e : m = j
              · subst e; exact hm.out
              · exact HM.out m (by omega)), rfl⟩
end Go.Proofs.YtffjaaolcphonaaDoor
