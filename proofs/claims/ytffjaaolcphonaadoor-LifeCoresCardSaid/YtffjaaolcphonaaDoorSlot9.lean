/- Free, Len. -/
import Derived.Test.YtffjaaolcphonaaDoorSlot8
namespace Go.Proofs.YtffjaaolcphonaaDoor
open Go.RowKit
def noneB (s : SS) (id : Int) : Bool := !(decide (inR (idxI id) s.ages.length)) || decide (s.ages.getD (idxI id).toNat 0 < ageI id)
def freeE (s : SS) (id : Int) : Int := if noneB s id then 4 else if liveB s id then 0 else 7
def freeS (s : SS) (id : Int) : SS := if noneB s id then s else if liveB s id then { s with fr := s.fr.set (idxI id).toNat true, n := s.n - 1 } else s
set_option maxRecDepth 100000 in
set_option maxHeartbeats 4000000 in
theorem sfree (w : World) (B : SB) (s : SS) (h : SAt w B s) (id : Int) (hi : inI id) (hn : 0 ≤ s.n ∧ s.n ≤ 1000000) : Calls Tryd.prog 29 #[.pointer (some ⟨B.P, 0, none⟩), .int .i64 id] w fun e w' =>
    e = .returned (.int .i64 (freeE s id)) ∧ SAt w' B (freeS s id) ∧ Fr (fun k => k = B.P) w w' := by
  have A := hid (xindex w id hi)
  have M := hid (smade w B s h)
  have G := fun u => hid (xage u id hi)
  have F0 := h.f0
  obtain ⟨hn0, hn1⟩ := hn
  by_cases hr : inR (idxI id) s.ages.length
  · obtain ⟨i, hi2⟩ := Int.eq_ofNat_of_zero_le hr.1
    have hlt : i < s.ages.length := by have := hr.2; omega
    have C2 := h.cA hlt
    have i0 : ¬ (i : Int) < 0 := by omega
    have i1 : (i : Int) < (s.ages.length : Int) := by omega
    obtain ⟨a, ha⟩ : ∃ a, s.ages.getD i 0 = a := ⟨_, rfl⟩
    obtain ⟨g, hg⟩ : ∃ g, ageI id = g := ⟨_, rfl⟩
    have hN : Hid (noneB s id = decide (a < g)) := hid (by unfold noneB; rw [decide_eq_true hr, hi2, hg]; show (false || decide (s.ages.getD i 0 < g)) = _; rw [ha]; rfl)
    rw [ha] at C2
    rw [hi2] at A
    rw [hg] at G
    have L := fun (u : World) (hu : SAt u B s) => hid (slive u B s hu id hi)
    have H := hid h
    have Hi := hid hi2
    clear ha hg hr hi2 h
    by_cases hag : a < g
    · have e1 : Hid (freeE s id = 4) := hid (by unfold freeE; rw [hN.out, decide_eq_true hag]; rfl)
      have e2 : Hid (freeS s id = s) := hid (by unfold freeS; rw [hN.out, decide_eq_true hag]; rfl)
      rw [e1.out, e2.out]
      go_enter Tryd.func29, Tryd.ntmps29
      go_wp2_with (first | (go_at_call 20; refine A.out.mono ?_; rintro e w' ⟨rfl, rfl⟩) | (go_at_call 85; refine M.out.mono ?_; rintro e w' ⟨rfl, rfl⟩))
      go_quiet (first | (go_at_call 22; exact Calls.quiet_of_same (calls_flip (G _).out)))
      go_wp2_with fail
      go_ret
      exact ⟨rfl, H.out.still ((Fr.refl _ _).drewN _), (Fr.refl _ _).drewN _⟩
    · cases hL : liveB s id with
      | false =>
        have e1 : Hid (freeE s id = 7) := hid (by unfold freeE; rw [hN.out, decide_eq_false hag, hL]; rfl)
        have e2 : Hid (freeS s id = s) := hid (by unfold freeS; rw [hN.out, decide_eq_false hag, hL]; rfl)
        rw [e1.out, e2.out]
        rw [hL] at L
        clear hL
        go_enter Tryd.func29, Tryd.ntmps29
        go_wp2_with (first | (go_at_call 20; refine A.out.mono ?_; rintro e w' ⟨rfl, rfl⟩) | (go_at_call 85; refine M.out.mono ?_; rintro e w' ⟨rfl, rfl⟩))
        go_quiet (first | (go_at_call 22; exact Calls.quiet_of_same (calls_flip (G _).out)))
        go_wp2_with (go_at_call 31; refine (L _ (H.out.still ((Fr.refl _ _).drewN _))).out.mono ?_; rintro e w2 ⟨rfl, s2⟩)
        go_ret
        have s3 := Still.trans ((Fr.refl _ _).drewN _) s2
        exact ⟨rfl, H.out.still s3, s3.fr _⟩
      | true =>
        have e1 : Hid (freeE s id = 0) := hid (by unfold freeE; rw [hN.out, decide_eq_false hag, hL]; rfl)
        have e2 : Hid (freeS s id = { s with fr := s.fr.set i true, n := s.n - 1 }) := hid (by unfold freeS; rw [hN.out, decide_eq_false hag, hL, Hi.out]; rfl)
        rw [e1.out, e2.out]
        rw [hL] at L
        clear hL
        go_enter Tryd.func29, Tryd.ntmps29
        go_wp2_with (first | (go_at_call 20; refine A.out.mono ?_; rintro e w' ⟨rfl, rfl⟩) | (go_at_call 85; refine M.out.mono ?_; rintro e w' ⟨rfl, rfl⟩))
        go_quiet (first | (go_at_call 22; exact Calls.quiet_of_same (calls_flip (G _).out)))
        go_wp2_with (first | (go_at_call 31; refine (L _ (H.out.still ((Fr.refl _ _).drewN _))).out.mono ?_; rintro e w2 ⟨rfl, s2⟩; have s3 := hid (Still.trans ((Fr.refl _ _).drewN _) s2); clear s2) | (go_at_call 84; refine (smark _ B _ (H.out.still s3.out) i hlt).mono ?_; rintro e w4 ⟨rfl, A2, G2⟩; have N2 := A2.fn; have Y2 := A2.fz; have HA2 := hid A2; have HG2 := hid G2; clear A2 G2))
        go_ret
        exact ⟨rfl, HA2.out.putN _, ((s3.out.fr _).trans HG2.out).setCell (.inl rfl) _⟩
  · have hN : Hid (noneB s id = true) := hid (by unfold noneB; rw [decide_eq_false hr]; rfl)
    have e1 : Hid (freeE s id = 4) := hid (by unfold freeE; rw [hN.out]; rfl)
    have e2 : Hid (freeS s id = s) := hid (by unfold freeS; rw [hN.out]; rfl)
    rw [e1.out, e2.out]
    have H := hid h
    rcases inR_no hr with h1 | h1
    · obtain ⟨x, hx⟩ : ∃ x, idxI id = x := ⟨_, rfl⟩
      rw [hx] at A h1
      have d1 : decide (x < 0) = true := decide_eq_true h1
      clear hr hx h
      go_enter Tryd.func29, Tryd.ntmps29
      go_wp2_with (first | (go_at_call 20; refine A.out.mono ?_; rintro e w' ⟨rfl, rfl⟩) | (go_at_call 85; refine M.out.mono ?_; rintro e w' ⟨rfl, rfl⟩))
      go_quiet (first | (go_at_call 22; exact Calls.quiet_of_same (calls_flip (G _).out)))
      go_wp2_with fail
      go_ret
      exact ⟨rfl, H.out.still ((Fr.refl _ _).drewN _), (Fr.refl _ _).drewN _⟩
    · obtain ⟨x, hx⟩ : ∃ x, idxI id = x := ⟨_, rfl⟩
      rw [hx] at A h1
      have h2 : ¬ x < 0 := by omega
      have d1 : decide (x < 0) = false := decide_eq_false h2
      have d2 : decide ((s.ages.length : Int) ≤ x) = true := decide_eq_true h1
      clear hr hx h
      go_enter Tryd.func29, Tryd.ntmps29
      go_wp2_with (first | (go_at_call 20; refine A.out.mono ?_; rintro e w' ⟨rfl, rfl⟩) | (go_at_call 85; refine M.out.mono ?_; rintro e w' ⟨rfl, rfl⟩))
      go_quiet (first | (go_at_call 22; exact Calls.quiet_of_same (calls_flip (G _).out)))
      go_wp2_with fail
      go_ret
      exact ⟨rfl, H.out.still ((Fr.refl _ _).drewN _), (Fr.refl _ _).drewN _⟩
theorem slen (w : World) (B : SB) (s : SS) (h : SAt w B s) : Calls Tryd.prog 33 #[.pointer (some ⟨B.P, 0, none⟩)] w fun e w' => e = .returned (.int .i64 s.n) ∧ w = w' := by
  have M := hid (smade w B s h)
  have F0 := h.fn
  clear h
  go_enter Tryd.func33, Tryd.ntmps33
  go_wp2_with (go_at_call 85; refine M.out.mono ?_; rintro e w' ⟨rfl, rfl⟩)
  go_ret
  exact ⟨rfl, rfl⟩
end Go.Proofs.YtffjaaolcphonaaDoor
