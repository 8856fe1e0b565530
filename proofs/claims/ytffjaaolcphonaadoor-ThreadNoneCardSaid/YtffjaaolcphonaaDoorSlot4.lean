/- Live. -/
import Derived.Test.YtffjaaolcphonaaDoorSlot3
namespace Go.Proofs.YtffjaaolcphonaaDoor
open Go.RowKit
/-- Is an id taken? -/
def liveB (s : SS) (id : Int) : Bool := decide (inR (idxI id) s.ages.length) && (s.ages.getD (idxI id).toNat 0 == ageI id && !(s.fr.getD (idxI id).toNat false))
theorem shr_bit (x r : Nat) (hx : x < 18446744073709551616) : bits BinOp.and IntKind.u64 ((x : Int) / 2 ^ r) 1 = ((x.testBit r).toNat : Int) := by
  have e : (x : Int) / 2 ^ r = ((x / 2 ^ r : Nat) : Int) := by simp
  rw [e, show (1 : Int) = ((1 : Nat) : Int) from rfl, u64_and_nat _ _ (Nat.lt_of_le_of_lt (Nat.div_le_self _ _) hx) (by omega), Nat.and_one_is_mod, Nat.testBit_eq_decide_div_mod_eq]
  rcases Nat.mod_two_eq_zero_or_one (x / 2 ^ r) with h | h <;> simp [h]
set_option maxRecDepth 100000 in
set_option maxHeartbeats 1000000 in
theorem slive (w : World) (B : SB) (s : SS) (h : SAt w B s) (id : Int) (hi : inI id) : Calls Tryd.prog 31 #[.pointer (some ⟨B.P, 0, none⟩), .int .i64 id] w fun e w' => e = .returned (.bool (liveB s id)) ∧ Still w w' := by
  have A := hid (xindex w id hi)
  have M := hid (smade w B s h)
  have G := fun u => hid (xage u id hi)
  have F0 := h.f0
  by_cases hr : inR (idxI id) s.ages.length
  · obtain ⟨W, hW, hb⟩ := h.hp
    have t1 := h.T1
    obtain ⟨i, hi2⟩ := Int.eq_ofNat_of_zero_le hr.1
    have hlt : i < s.ages.length := by have := hr.2; omega
    obtain ⟨r, hr'⟩ : ∃ r : Nat, i % 64 = r := ⟨_, rfl⟩
    obtain ⟨q, hq⟩ : ∃ q : Nat, i / 64 = q := ⟨_, rfl⟩
    have e1 : (i : Int) % 64 = (r : Int) := by omega
    have e2 : (i : Int) / 64 = (q : Int) := by omega
    have q1 : q < 64 := by omega
    have r1 : r < 64 := by omega
    have q2 : (q : Int) < 64 := by omega
    have r2 : (r : Int) < 64 := by omega
    have C1 : w.cell? ⟨B.P, 1 + q, none⟩ = some (.int .u64 ((W q : Nat) : Int)) := by rw [hb.cell]; exact cellsS_word q1
    have C2 := h.cA hlt
    have i0 : ¬ (i : Int) < 0 := by omega
    have i1 : (i : Int) < (s.ages.length : Int) := by omega
    have HL : Hid (liveB s id = (s.ages.getD i 0 == ageI id && !(W q).testBit r)) := hid (by
      unfold liveB
      rw [decide_eq_true hr, hi2, hW.bit q r q1 r1, show 64 * q + r = i by omega]; rfl)
    rw [HL.out]
    rw [hi2] at A
    have HX := hid (hW.lt q)
    clear hr hr' hq hi2
    have hb2 := shr_bit (W q) r HX.out
    have r0 : (0 : Int) ≤ (r : Int) := by omega
    have r64 : (r : Int) ≤ 64 := by omega
    obtain ⟨a, ha⟩ : ∃ a, s.ages.getD i 0 = a := ⟨_, rfl⟩
    rw [ha] at C2 ⊢
    by_cases hg : a = ageI id
    · have HE : Hid ((a == ageI id) = true) := hid (by simp [hg])
      have d1 := HE.out
      rw [HE.out]
      clear hg ha HE
      go_enter Tryd.func31, Tryd.ntmps31
      go_wp2_with (first | (go_at_call 20; refine A.out.mono ?_; rintro e w' ⟨rfl, rfl⟩) | (go_at_call 85; refine M.out.mono ?_; rintro e w' ⟨rfl, rfl⟩))
      go_quiet (first | (go_at_call 22; exact Calls.quiet_of_same (calls_flip (G _).out)))
      go_wp2_with fail
      go_ret
      exact ⟨by cases (W q).testBit r <;> rfl, (Fr.refl _ _).drewN _⟩
    · have HE : Hid ((a == ageI id) = false) := hid (by simp [hg])
      have d1 := HE.out
      rw [HE.out]
      clear hg ha HE
      go_enter Tryd.func31, Tryd.ntmps31
      go_wp2_with (first | (go_at_call 20; refine A.out.mono ?_; rintro e w' ⟨rfl, rfl⟩) | (go_at_call 85; refine M.out.mono ?_; rintro e w' ⟨rfl, rfl⟩))
      go_quiet (first | (go_at_call 22; exact Calls.quiet_of_same (calls_flip (G _).out)))
      go_wp2_with fail
      go_ret
      exact ⟨rfl, (Fr.refl _ _).drewN _⟩
  · have HL : Hid (liveB s id = false) := hid (by unfold liveB; rw [decide_eq_false hr]; rfl)
    rw [HL.out]
    rcases inR_no hr with h1 | h1
    · obtain ⟨x, hx⟩ : ∃ x, idxI id = x := ⟨_, rfl⟩
      rw [hx] at A h1
      clear hr hx
      go_enter Tryd.func31, Tryd.ntmps31
      go_wp2_with (first | (go_at_call 20; refine A.out.mono ?_; rintro e w' ⟨rfl, rfl⟩) | (go_at_call 85; refine M.out.mono ?_; rintro e w' ⟨rfl, rfl⟩))
      go_ret
      exact ⟨rfl, Fr.refl _ _⟩
    · obtain ⟨x, hx⟩ : ∃ x, idxI id = x := ⟨_, rfl⟩
      rw [hx] at A h1
      have h2 : ¬ x < 0 := by omega
      clear hr hx
      go_enter Tryd.func31, Tryd.ntmps31
      go_wp2_with (first | (go_at_call 20; refine A.out.mono ?_; rintro e w' ⟨rfl, rfl⟩) | (go_at_call 85; refine M.out.mono ?_; rintro e w' ⟨rfl, rfl⟩))
      go_ret
      exact ⟨rfl, Fr.refl _ _⟩
end Go.Proofs.YtffjaaolcphonaaDoor
