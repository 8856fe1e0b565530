/- The document's slots: Free. -/
import Derived.Test.YtffjaaolcphonaaDoorRef4
namespace Go.Proofs.YtffjaaolcphonaaDoor
open Go.RowKit
theorem RAt.setn {w : World} {p A T cA cT : Nat} {s : SS} (h : RAt w p A T cA cT s) (n : Int) : RAt w p A T cA cT { s with n := n } := ⟨h.hp, h.hA, h.hT, h.lf, h.pA, h.pT, h.AT, h.T0, h.T1⟩
set_option maxRecDepth 100000 in
set_option maxHeartbeats 4000000 in
theorem rfree {w : World} {p A T cA cT : Nat} {s : SS} (h : RAt w p A T cA cT s) (id : Int) (hi : inI id) : Calls Tryd.prog 30 #[.pointer (some ⟨p, 0, none⟩), .int .i64 id] w fun e w' =>
    e = .returned (.int .i64 (freeE s id)) ∧ RAt w' p A T cA cT (freeS s id) ∧ Fr (fun k => k = T) w w' := by
  have X := hid (rindex w id hi)
  have G := fun u => hid (rage u id hi)
  have F0 := h.f0
  have H := hid h
  by_cases hr : inR (idxI id) s.ages.length
  · obtain ⟨i, hi2⟩ := Int.eq_ofNat_of_zero_le hr.1
    have hlt : i < s.ages.length := by have := hr.2; omega
    have C1 := h.cA hlt
    have d0 : decide ((i : Int) < 0) = false := decide_eq_false (by omega)
    have i0 : ¬ (i : Int) < 0 := by omega
    have i1 : (i : Int) < (s.ages.length : Int) := by omega
    obtain ⟨a, ha⟩ : ∃ a, s.ages.getD i 0 = a := ⟨_, rfl⟩
    obtain ⟨g, hg⟩ : ∃ g, ageI id = g := ⟨_, rfl⟩
    have hN : Hid (noneB s id = decide (a < g)) := hid (by unfold noneB; rw [decide_eq_true hr, hi2, hg]; show (false || decide (s.ages.getD i 0 < g)) = _; rw [ha]; rfl)
    rw [ha] at C1
    rw [hi2] at X
    rw [hg] at G
    have Hi := hid hi2
    have L := fun (u : World) (hu : RAt u p A T cA cT s) => hid (rlive hu id hi)
    clear ha hg hr hi2 h
    by_cases hag : a < g
    · have e1 : Hid (freeE s id = 4) := hid (by unfold freeE; rw [hN.out, decide_eq_true hag]; rfl)
      have e2 : Hid (freeS s id = s) := hid (by unfold freeS; rw [hN.out, decide_eq_true hag]; rfl)
      rw [e1.out, e2.out]
      go_enter Tryd.func30, Tryd.ntmps30
      go_wp2_with (go_at_call 21; refine X.out.mono ?_; rintro e w' ⟨rfl, rfl⟩)
      go_quiet (first | (go_at_call 23; exact Calls.quiet_of_same (calls_flip (G _).out)))
      go_wp2_with fail
      go_ret
      exact ⟨rfl, H.out.still ((Fr.refl _ _).drewN _), (Fr.refl _ _).drewN _⟩
    · cases hL : liveB s id with
      | false =>
        have e1 : Hid (freeE s id = 7) := hid (by unfold freeE; rw [hN.out, decide_eq_false hag, hL]; rfl)
        have e2 : Hid (freeS s id = s) := hid (by unfold freeS; rw [hN.out, decide_eq_false hag, hL]; rfl)
        rw [e1.out, e2.out]
        rw [hL] at L
        clear hL
        go_enter Tryd.func30, Tryd.ntmps30
        go_wp2_with (go_at_call 21; refine X.out.mono ?_; rintro e w' ⟨rfl, rfl⟩)
        go_quiet (first | (go_at_call 23; exact Calls.quiet_of_same (calls_flip (G _).out)))
        go_wp2_with (go_at_call 32; refine (L _ (H.out.still ((Fr.refl _ _).drewN _))).out.mono ?_; rintro e w2 ⟨rfl, s2⟩)
        go_ret
        have s3 := Still.trans ((Fr.refl _ _).drewN _) s2
        exact ⟨rfl, H.out.still s3, s3.fr _⟩
      | true =>
        have e1 : Hid (freeE s id = 0) := hid (by unfold freeE; rw [hN.out, decide_eq_false hag, hL]; rfl)
        have e2 : Hid (freeS s id = { s with fr := s.fr.set i true, n := s.n - 1 }) := hid (by unfold freeS; rw [hN.out, decide_eq_false hag, hL, Hi.out]; rfl)
        rw [e1.out, e2.out]
        rw [hL] at L
        clear hL
        go_enter Tryd.func30, Tryd.ntmps30
        go_wp2_with (go_at_call 21; refine X.out.mono ?_; rintro e w' ⟨rfl, rfl⟩)
        go_quiet (first | (go_at_call 23; exact Calls.quiet_of_same (calls_flip (G _).out)))
        go_wp2_with (go_at_call 32; refine (L _ (H.out.still ((Fr.refl _ _).drewN _))).out.mono ?_; rintro e w2 ⟨rfl, s2⟩; have s3 := hid (Still.trans ((Fr.refl _ _).drewN _) s2); clear s2; have H2 := hid (H.out.still s3.out); have F2 := H2.out.f1; have C3 := H2.out.cT hlt; have Z3 := H2.out.hT.frozen i)
        go_ret
        exact ⟨rfl, (H2.out.putT i true).setn _, Fr.setCell (F := fun k => k = T) (s3.out.fr _) (.inl rfl) _⟩
  · have hN : Hid (noneB s id = true) := hid (by unfold noneB; rw [decide_eq_false hr]; rfl)
    have e1 : Hid (freeE s id = 4) := hid (by unfold freeE; rw [hN.out]; rfl)
    have e2 : Hid (freeS s id = s) := hid (by unfold freeS; rw [hN.out]; rfl)
    rw [e1.out, e2.out]
    rcases inR_no hr with h1 | h1
    · obtain ⟨x, hx⟩ : ∃ x, idxI id = x := ⟨_, rfl⟩
      rw [hx] at X h1
      have d1 : decide (x < 0) = true := decide_eq_true h1
      clear hr hx h
      go_enter Tryd.func30, Tryd.ntmps30
      go_wp2_with (go_at_call 21; refine X.out.mono ?_; rintro e w' ⟨rfl, rfl⟩)
      go_quiet (first | (go_at_call 23; exact Calls.quiet_of_same (calls_flip (G _).out)))
      go_wp2_with fail
      go_ret
      exact ⟨rfl, H.out.still ((Fr.refl _ _).drewN _), (Fr.refl _ _).drewN _⟩
    · obtain ⟨x, hx⟩ : ∃ x, idxI id = x := ⟨_, rfl⟩
      rw [hx] at X h1
      have h2 : ¬ x < 0 := by omega
      have d1 : decide (x < 0) = false := decide_eq_false h2
      have d2 : decide ((s.ages.length : Int) ≤ x) = true := decide_eq_true h1
      clear hr hx h
      go_enter Tryd.func30, Tryd.ntmps30
      go_wp2_with (go_at_call 21; refine X.out.mono ?_; rintro e w' ⟨rfl, rfl⟩)
      go_quiet (first | (go_at_call 23; exact Calls.quiet_of_same (calls_flip (G _).out)))
      go_wp2_with fail
      go_ret
      exact ⟨rfl, H.out.still ((Fr.refl _ _).drewN _), (Fr.refl _ _).drewN _⟩
end Go.Proofs.YtffjaaolcphonaaDoor
