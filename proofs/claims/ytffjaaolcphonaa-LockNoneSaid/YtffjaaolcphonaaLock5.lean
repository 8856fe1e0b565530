/- The locks: Lock, Unlock, Owner. -/
import Derived.Test.YtffjaaolcphonaaLock4
namespace Go.Proofs.Ytffjaaolcphonaa
open Go.RowKit
section
variable {w : World} {K : KB} {s : LS}
theorem askE_zero {l : List (Bool × Int)} (h : askE l = 0) (hz : ∀ p ∈ l, p.1 = false → p.2 ≠ 0) : ∀ p ∈ l, p.1 = true := by
  induction l with
  | nil => simp
  | cons p l ih =>
    obtain ⟨b, e⟩ := p
    cases b with
    | false => exact absurd h (hz (false, e) (by simp) rfl)
    | true =>
      intro q hq
      rcases List.mem_cons.1 hq with rfl | hq
      · rfl
      · exact ih h (fun p hp => hz p (by simp [hp])) q hq
def lockE (s : LS) (o t : Int) : Int := askE [(allR [o] s.n, 8), idleR s t, ((s.ow.getD o.toNat 0 == t) == false, 5)]
def lockB (s : LS) (o t : Int) : Bool := if lockE s o t = 0 then getB s o.toNat else false
def lockS (s : LS) (o t : Int) : LS := if lockE s o t = 0 then getS s o.toNat t else s
theorem idleR_e {s : LS} {t : Int} : (idleR s t).2 ≠ 0 := by unfold idleR; split <;> simp
theorem ask3_ok {n : Nat} {s : LS} {xs : List Int} {t : Int} {b : Bool} {e0 : Int} (he0 : e0 ≠ 0) (h : askE [(allR xs n, 8), idleR s t, (b, e0)] = 0) : allR xs n = true ∧ inR t s.T ∧ whI s.T s.L t < 0 ∧ b = true := by
  have := askE_zero h (fun p hp _ => by
    simp at hp
    rcases hp with rfl | rfl | rfl
    · simp
    · exact idleR_e
    · exact he0)
  have h1 := this (allR xs n, 8) (by simp)
  have h2 := this (idleR s t) (by simp)
  have h3 := this (b, e0) (by simp)
  simp at h1 h3
  have h2' : inR t s.T ∧ whI s.T s.L t < 0 := by
    unfold idleR at h2
    split at h2
    · rename_i ht; exact ⟨ht, by simpa using h2⟩
    · simp at h2
  exact ⟨h1, h2'.1, h2'.2, h3⟩
theorem lockE_ok {s : LS} {o t : Int} (h : lockE s o t = 0) : inR o s.n ∧ inR t s.T ∧ whI s.T s.L t < 0 ∧ s.ow.getD o.toNat 0 ≠ t := by
  obtain ⟨h1, h2, h3, h4⟩ := ask3_ok (by omega) h
  exact ⟨by simpa [allR] using h1, h2, h3, by simpa using h4⟩
set_option maxRecDepth 100000 in
set_option maxHeartbeats 1000000 in
theorem lklock (h : LkAt w K s) (o t : Int) : Calls Try.prog 54 #[.pointer (some ⟨K.P, 0, none⟩), .int .i64 o, .int .i64 t] w fun e w' =>
    e = .returned (.tuple #[.bool (lockB s o t), .int .i64 (lockE s o t)]) ∧ LkAt w' K (lockS s o t) ∧ Fr K.foot w w' := by
  by_cases h0 : lockE s o t = 0
  · obtain ⟨ho, _, _, _⟩ := lockE_ok h0
    have HB : Hid (lockB s o t = getB s o.toNat) := by unfold lockB; rw [if_pos h0]; exact rfl
    have HS : Hid (lockS s o t = getS s o.toNat t) := by unfold lockS; rw [if_pos h0]; exact rfl
    rw [HB.out, HS.out, h0]
    have A3 := ask3 h [o] o t false 5 (by simp) (by simp) (by simp)
    rw [show askE [(allR [o] s.n, 8), idleR s t, ((s.ow.getD o.toNat 0 == t) == false, 5)] = 0 from h0] at A3
    obtain ⟨o, rfl⟩ := Int.eq_ofNat_of_zero_le ho.1
    have ho' : o < s.n := by have := ho.2; omega
    rw [Int.toNat_natCast] at HB HS ⊢
    have HA := hid A3
    clear h0 ho A3
    go_enter Try.func54, Try.ntmps54
    go_wp2_with (first
      | (go_at_call 108; refine (are_made _ _ _ ⟨_, rfl⟩ ⟨_, _, _, rfl⟩).mono ?_; rintro e w' ⟨rfl, rfl⟩)
      | (go_at_call 109; refine (idle_made _ _ _).mono ?_; rintro e w' ⟨rfl, rfl⟩)
      | (go_at_call 110; refine (owns_made _ _ _ _ _ _).mono ?_; rintro e w' ⟨rfl, rfl⟩)
      | (go_at_call 107; refine HA.out.mono ?_; rintro e w1 ⟨rfl, hs1⟩; have h1 := h.still hs1)
      | (go_at_call 111; refine (lkget h1 o t ho').mono ?_; rintro e w2 ⟨rfl, h2, f2⟩))
    go_ret2
    exact ⟨rfl, h2, (hs1.fr _).trans f2⟩
  · have HB : Hid (lockB s o t = false) := by unfold lockB; rw [if_neg h0]; exact rfl
    have HS : Hid (lockS s o t = s) := by unfold lockS; rw [if_neg h0]; exact rfl
    rw [HB.out, HS.out]
    have A3 := ask3 h [o] o t false 5 (by simp) (by simp) (by simp)
    obtain ⟨z, hz⟩ : ∃ z, lockE s o t = z := ⟨_, rfl⟩
    rw [show askE [(allR [o] s.n, 8), idleR s t, ((s.ow.getD o.toNat 0 == t) == false, 5)] = z from hz] at A3
    rw [hz] at h0 ⊢
    have HA := hid A3
    clear A3 hz
    go_enter Try.func54, Try.ntmps54
    go_wp2_with (first
      | (go_at_call 108; refine (are_made _ _ _ ⟨_, rfl⟩ ⟨_, _, _, rfl⟩).mono ?_; rintro e w' ⟨rfl, rfl⟩)
      | (go_at_call 109; refine (idle_made _ _ _).mono ?_; rintro e w' ⟨rfl, rfl⟩)
      | (go_at_call 110; refine (owns_made _ _ _ _ _ _).mono ?_; rintro e w' ⟨rfl, rfl⟩)
      | (go_at_call 107; refine HA.out.mono ?_; rintro e w1 ⟨rfl, hs1⟩; have h1 := h.still hs1))
    go_ret2
    exact ⟨rfl, h1, hs1.fr _⟩
end
end Go.Proofs.Ytffjaaolcphonaa
