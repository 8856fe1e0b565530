/- The document's slots: New, Take. -/
import Derived.Test.YtffjaaolcphonaaDoorSInv
namespace Go.Proofs.YtffjaaolcphonaaDoor
open Go.RowKit
/-- The document's slots: ages and who is taken, the same state (fr = not taken). -/
structure RAt (w : World) (p A T : Nat) (cA cT : Nat) (s : SS) : Prop where
  hp : Blk w p [.slice (some ⟨A, 0, none⟩) s.ages.length cA, .slice (some ⟨T, 0, none⟩) s.ages.length cT] 136
  hA : IBlk w A s.ages
  hT : Blk w T (s.fr.map fun b => .bool !b) 4
  lf : s.fr.length = s.ages.length
  pA : p ≠ A
  pT : p ≠ T
  AT : A ≠ T
  T0 : 1 ≤ s.ages.length
  T1 : s.ages.length ≤ 4096
theorem RAt.fr {w w' : World} {p A T cA cT : Nat} {s : SS} (h : RAt w p A T cA cT s) {F : Nat → Prop} (hf : Fr F w w') (h1 : ¬ F p) (h2 : ¬ F A) (h3 : ¬ F T) : RAt w' p A T cA cT s :=
  { h with hp := h.hp.fr hf h1, hA := IBlk.fr h.hA hf h2, hT := h.hT.fr hf h3 }
theorem RAt.still {w w' : World} {p A T cA cT : Nat} {s : SS} (h : RAt w p A T cA cT s) (hf : Still w w') : RAt w' p A T cA cT s := h.fr hf id id id
theorem RAt.f0 {w : World} {p A T cA cT : Nat} {s : SS} (h : RAt w p A T cA cT s) : w.cell? ⟨p, 0, none⟩ = some (.slice (some ⟨A, 0, none⟩) s.ages.length cA) := by rw [h.hp.cell]; rfl
theorem RAt.f1 {w : World} {p A T cA cT : Nat} {s : SS} (h : RAt w p A T cA cT s) : w.cell? ⟨p, 1, none⟩ = some (.slice (some ⟨T, 0, none⟩) s.ages.length cT) := by rw [h.hp.cell]; rfl
theorem RAt.cA {w : World} {p A T cA cT : Nat} {s : SS} (h : RAt w p A T cA cT s) {i : Nat} (hi : i < s.ages.length) : w.cell? ⟨A, i, none⟩ = some (.int .i64 (s.ages.getD i 0)) := h.hA.cell hi
theorem RAt.cT {w : World} {p A T cA cT : Nat} {s : SS} (h : RAt w p A T cA cT s) {i : Nat} (hi : i < s.ages.length) : w.cell? ⟨T, i, none⟩ = some (.bool !(s.fr.getD i false)) := by
  have hi' : i < s.fr.length := by rw [h.lf]; exact hi
  rw [h.hT.cell]
  simp [List.getD_eq_getElem?_getD, hi']
theorem RAt.putA {w : World} {p A T cA cT : Nat} {s : SS} (h : RAt w p A T cA cT s) (i : Nat) (v : Int) : RAt (w.setCell ⟨A, i, none⟩ (.int .i64 v)) p A T cA cT { s with ages := s.ages.set i v } := by
  refine ⟨?_, h.hA.put i v, h.hT.other (fun e => h.AT e.symm) _, by simp [h.lf], h.pA, h.pT, h.AT, by simpa using h.T0, by simpa using h.T1⟩
  have := h.hp.other (p := ⟨A, i, none⟩) h.pA (.int .i64 v)
  simpa using this
theorem RAt.putT {w : World} {p A T cA cT : Nat} {s : SS} (h : RAt w p A T cA cT s) (i : Nat) (b : Bool) : RAt (w.setCell ⟨T, i, none⟩ (.bool !b)) p A T cA cT { s with fr := s.fr.set i b } := by
  refine ⟨h.hp.other h.pT _, h.hA.other h.AT _, ?_, by simp [h.lf], h.pA, h.pT, h.AT, h.T0, h.T1⟩
  have := h.hT.put i (.bool !b)
  rw [← List.map_set] at this
  exact this
set_option maxRecDepth 100000 in
set_option maxHeartbeats 4000000 in
theorem rlive {w : World} {p A T cA cT : Nat} {s : SS} (h : RAt w p A T cA cT s) (id : Int) (hi : inI id) : Calls Tryd.prog 32 #[.pointer (some ⟨p, 0, none⟩), .int .i64 id] w fun e w' => e = .returned (.bool (liveB s id)) ∧ Still w w' := by
  have X := hid (rindex w id hi)
  have G := fun u => hid (rage u id hi)
  have F0 := h.f0
  have F1 := h.f1
  by_cases hr : inR (idxI id) s.ages.length
  · obtain ⟨i, hi2⟩ := Int.eq_ofNat_of_zero_le hr.1
    have hlt : i < s.ages.length := by have := hr.2; omega
    have C1 := h.cA hlt
    have C2 := h.cT hlt
    have d0 : decide (0 ≤ (i : Int)) = true := decide_eq_true (by omega)
    have d1 : decide ((i : Int) < (s.ages.length : Int)) = true := decide_eq_true (by omega)
    have HL : Hid (liveB s id = (s.ages.getD i 0 == ageI id && !(s.fr.getD i false))) := hid (by
      unfold liveB
      rw [decide_eq_true hr, hi2]; rfl)
    rw [HL.out]
    rw [hi2] at X
    obtain ⟨a, ha⟩ : ∃ a, s.ages.getD i 0 = a := ⟨_, rfl⟩
    obtain ⟨f, hf⟩ : ∃ f, s.fr.getD i false = f := ⟨_, rfl⟩
    obtain ⟨g, hg⟩ : ∃ g, ageI id = g := ⟨_, rfl⟩
    rw [ha] at C1 ⊢
    rw [hf] at C2 ⊢
    rw [hg] at G ⊢
    clear ha hf hg hr hi2 h
    cases f with
    | true =>
      rw [show (!true) = false from rfl] at C2 ⊢
      rw [Bool.and_false]
      go_enter Tryd.func32, Tryd.ntmps32
      go_wp2_with (go_at_call 21; refine X.out.mono ?_; rintro e w' ⟨rfl, rfl⟩)
      go_quiet (first | (go_at_call 23; exact Calls.quiet_of_same (calls_flip (G _).out)))
      go_wp2_with fail
      go_ret
      exact ⟨rfl, (Fr.refl _ _).drewN _⟩
    | false =>
      rw [show (!false) = true from rfl] at C2 ⊢
      rw [Bool.and_true]
      go_enter Tryd.func32, Tryd.ntmps32
      go_wp2_with (go_at_call 21; refine X.out.mono ?_; rintro e w' ⟨rfl, rfl⟩)
      go_quiet (first | (go_at_call 23; exact Calls.quiet_of_same (calls_flip (G _).out)))
      go_wp2_with fail
      go_ret
      exact ⟨rfl, (Fr.refl _ _).drewN _⟩
  · have HL : Hid (liveB s id = false) := hid (by unfold liveB; rw [decide_eq_false hr]; rfl)
    rw [HL.out]
    rcases inR_no hr with h1 | h1
    · obtain ⟨x, hx⟩ : ∃ x, idxI id = x := ⟨_, rfl⟩
      rw [hx] at X h1
      have d0 : decide (0 ≤ x) = false := decide_eq_false (by omega)
      clear hr hx h
      go_enter Tryd.func32, Tryd.ntmps32
      go_wp2_with (go_at_call 21; refine X.out.mono ?_; rintro e w' ⟨rfl, rfl⟩)
      go_quiet (first | (go_at_call 23; exact Calls.quiet_of_same (calls_flip (G _).out)))
      go_wp2_with fail
      go_ret
      exact ⟨rfl, (Fr.refl _ _).drewN _⟩
    · obtain ⟨x, hx⟩ : ∃ x, idxI id = x := ⟨_, rfl⟩
      rw [hx] at X h1
      have d0 : decide (0 ≤ x) = true := decide_eq_true (by omega)
      have d1 : decide (x < (s.ages.length : Int)) = false := decide_eq_false (by omega)
      clear hr hx h
      go_enter Tryd.func32, Tryd.ntmps32
      go_wp2_with (go_at_call 21; refine X.out.mono ?_; rintro e w' ⟨rfl, rfl⟩)
      go_quiet (first | (go_at_call 23; exact Calls.quiet_of_same (calls_flip (G _).out)))
      go_wp2_with fail
      go_ret
      exact ⟨rfl, (Fr.refl _ _).drewN _⟩
end Go.Proofs.YtffjaaolcphonaaDoor
