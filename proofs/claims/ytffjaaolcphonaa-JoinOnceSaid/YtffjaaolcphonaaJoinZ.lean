/- Ends that no call made; the parts of an act. -/
import Derived.Test.YtffjaaolcphonaaBdQ
namespace Go.Proofs.Ytffjaaolcphonaa
open Go.RowKit
set_option linter.unusedSimpArgs false
/-- Ends that no call made: none, or with no lists. -/
def JNone (w : World) (v : Value) : Prop := v = .pointer none ∨ ∃ P, v = .pointer (some ⟨P, 0, none⟩) ∧ w.cell? ⟨P, 2, none⟩ = some (.pointer none)
theorem JNone.still {w w' : World} {v : Value} (h : JNone w v) (hs : Still w w') : JNone w' v := by
  rcases h with h | ⟨P, h, hc⟩
  · exact .inl h
  · exact .inr ⟨P, h, Still.cell hs hc⟩
theorem jz_made (w : World) (v : Value) (h : JNone w v) : Calls Try.prog 99 #[v] w fun e w' => e = .returned (.bool false) ∧ w = w' := by
  rcases h with rfl | ⟨P, rfl, hc⟩
  all_goals
    go_enter Try.func99, Try.ntmps99
    go_wp2
    go_ret
    exact ⟨rfl, rfl⟩
theorem jz_start (w : World) (v : Value) (h : JNone w v) (id : Int) : Calls Try.prog 46 #[v, .int .i64 id] w fun e w' => e = .returned (.int .i64 1) ∧ w = w' := by
  have HM := hid (jz_made w v h)
  rcases h with rfl | ⟨P, rfl, hc⟩
  all_goals
    go_enter Try.func46, Try.ntmps46
    go_wp2_with (go_at_call 99; refine HM.out.mono ?_; rintro e w' ⟨rfl, rfl⟩)
    go_ret
    exact ⟨rfl, rfl⟩
theorem jz_end (w : World) (v : Value) (h : JNone w v) (id x : Int) : Calls Try.prog 49 #[v, .int .i64 id, .int .i64 x] w fun e w' => e = .returned (.tuple #[.slice none 0 0, .int .i64 1]) ∧ w = w' := by
  have HM := hid (jz_made w v h)
  rcases h with rfl | ⟨P, rfl, hc⟩
  all_goals
    go_enter Try.func49, Try.ntmps49
    go_wp2_with (go_at_call 99; refine HM.out.mono ?_; rintro e w' ⟨rfl, rfl⟩)
    go_ret2
    exact ⟨rfl, rfl⟩
theorem jz_join (w : World) (v : Value) (h : JNone w v) (id y : Int) : Calls Try.prog 47 #[v, .int .i64 id, .int .i64 y] w fun e w' => e = .returned (.tuple #[.int .i64 0, .bool false, .int .i64 1]) ∧ Still w w' := by
  have HM := hid (fun W (hs : Still w W) => jz_made W v (h.still hs))
  rcases h with rfl | ⟨P, rfl, hc⟩
  all_goals
    go_enter Try.func47, Try.ntmps47
    go_wp2_with (go_at_call 99; refine (HM.out _ ((Fr.refl _ w).alloc _)).mono ?_; rintro e w' ⟨rfl, rfl⟩)
    go_ret3
    exact ⟨rfl, (Fr.refl _ w).alloc _⟩
theorem jz_find (w : World) (v : Value) (h : JNone w v) (id : Int) : Calls Try.prog 102 #[v, .int .i64 id] w fun e w' => e = .returned (.pointer none) ∧ w = w' := by
  have HM := hid (jz_made w v h)
  rcases h with rfl | ⟨P, rfl, hc⟩
  all_goals
    go_enter Try.func102, Try.ntmps102
    go_wp2_with (go_at_call 99; refine HM.out.mono ?_; rintro e w' ⟨rfl, rfl⟩)
    go_ret
    exact ⟨rfl, rfl⟩
theorem jz_at (w : World) (v : Value) (h : JNone w v) (id : Int) : Calls Try.prog 103 #[v, .int .i64 id] w fun e w' => e = .returned (.tuple #[.int .i64 0, .bool false]) ∧ w = w' := by
  have HM := hid (jz_made w v h)
  rcases h with rfl | ⟨P, rfl, hc⟩
  all_goals
    go_enter Try.func103, Try.ntmps103
    go_wp2_with (go_at_call 99; refine HM.out.mono ?_; rintro e w' ⟨rfl, rfl⟩)
    go_ret2
    exact ⟨rfl, rfl⟩
theorem jz_waiters (w : World) (v : Value) (h : JNone w v) (id : Int) : Calls Try.prog 59 #[v, .int .i64 id] w fun e w' => e = .returned (.slice none 0 0) ∧ w = w' := by
  have HM := hid (jz_find w v h id)
  rcases h with rfl | ⟨P, rfl, hc⟩
  all_goals
    go_enter Try.func59, Try.ntmps59
    go_wp2_with (go_at_call 102; refine HM.out.mono ?_; rintro e w' ⟨rfl, rfl⟩)
    go_ret
    exact ⟨rfl, rfl⟩
theorem jz_state (w : World) (v : Value) (h : JNone w v) (id : Int) : Calls Try.prog 50 #[v, .int .i64 id] w fun e w' => e = .returned (.int .i64 0) ∧ w = w' := by
  have HM := hid (jz_find w v h id)
  rcases h with rfl | ⟨P, rfl, hc⟩
  all_goals
    go_enter Try.func50, Try.ntmps50
    go_wp2_with (go_at_call 102; refine HM.out.mono ?_; rintro e w' ⟨rfl, rfl⟩)
    go_ret
    exact ⟨rfl, rfl⟩
theorem jz_where (w : World) (v : Value) (h : JNone w v) (id : Int) : Calls Try.prog 48 #[v, .int .i64 id] w fun e w' => e = .returned (.int .i64 0) ∧ w = w' := by
  have HM := hid (jz_at w v h id)
  rcases h with rfl | ⟨P, rfl, hc⟩
  all_goals
    go_enter Try.func48, Try.ntmps48
    go_wp2_with (go_at_call 103; refine HM.out.mono ?_; rintro e w' ⟨rfl, rfl⟩)
    go_ret
    exact ⟨rfl, rfl⟩
theorem jz_drop (w : World) (v : Value) (h : JNone w v) (id : Int) : Calls Try.prog 62 #[v, .int .i64 id] w fun e w' => e = .returned (.bool false) ∧ Still w w' := by
  have HM := hid (jz_at w v h id)
  rcases h with rfl | ⟨P, rfl, hc⟩
  all_goals
    go_enter Try.func62, Try.ntmps62
    go_wp2_with (go_at_call 103; refine HM.out.mono ?_; rintro e w' ⟨rfl, rfl⟩)
    go_quiet (fail)
    go_wp2_with fail
    go_ret
    exact ⟨rfl, (Fr.refl _ w).drewN _⟩
theorem jz_copy (w : World) (v : Value) (h : JNone w v) : Calls Try.prog 63 #[v] w fun e w' => e = .returned (.pointer none) ∧ w = w' := by
  have HM := hid (jz_made w v h)
  rcases h with rfl | ⟨P, rfl, hc⟩
  all_goals
    go_enter Try.func63, Try.ntmps63
    go_wp2_with (go_at_call 99; refine HM.out.mono ?_; rintro e w' ⟨rfl, rfl⟩)
    go_ret
    exact ⟨rfl, rfl⟩
def idMk (i a : Int) : Int := if i < 0 ∨ 65535 < i ∨ a < 1 ∨ 2147483647 < a then 0 else a * 65536 + i
theorem idMk_in (i a : Int) : inI (idMk i a) := by unfold inI idMk; split <;> omega
theorem rid (w : World) (i a : Int) : Calls Try.prog 113 #[.int .i64 i, .int .i64 a] w fun e w' => e = .returned (.int .i64 (idMk i a)) ∧ w = w' := by
  by_cases h0 : i < 0 ∨ 65535 < i ∨ a < 1 ∨ 2147483647 < a
  · have HI : Hid (idMk i a = 0) := hid (if_pos h0)
    rw [HI.out]
    by_cases h1 : i < 0
    · clear h0
      go_enter Try.func113, Try.ntmps113
      go_wp2
      go_ret
      exact ⟨rfl, rfl⟩
    by_cases h2 : 65535 < i
    · clear h0
      go_enter Try.func113, Try.ntmps113
      go_wp2
      go_ret
      exact ⟨rfl, rfl⟩
    by_cases h3 : a < 1
    · clear h0
      go_enter Try.func113, Try.ntmps113
      go_wp2
      go_ret
      exact ⟨rfl, rfl⟩
    have h4 : 2147483647 < a := by omega
    clear h0
    go_enter Try.func113, Try.ntmps113
    go_wp2
    go_ret
    exact ⟨rfl, rfl⟩
  · have HI : Hid (idMk i a = a * 65536 + i) := hid (if_neg h0)
    rw [HI.out]
    have h1 : ¬ i < 0 := by omega
    have h2 : ¬ 65535 < i := by omega
    have h3 : ¬ a < 1 := by omega
    have h4 : ¬ 2147483647 < a := by omega
    clear h0
    go_enter Try.func113, Try.ntmps113
    go_wp2
    go_ret
    exact ⟨rfl, rfl⟩
def actV (k p a y b : Int) (r : Bool) (v : Int) : Value := .agg #[.int .i64 k, .int .i64 p, .int .i64 a, .int .i64 y, .int .i64 b, .bool r, .int .i64 v]
theorem jids58 (w : World) (k p a y b : Int) (r : Bool) (v : Int) : Calls Try.prog 58 #[.agg #[.int .i64 k, .int .i64 p, .int .i64 a, .int .i64 y, .int .i64 b, .bool r, .int .i64 v]] w fun e w' =>
    e = .returned (.tuple #[.int .i64 (if r then p else idMk p a), .int .i64 (if r then y else idMk y b)]) ∧ Still w w' := by
  cases r with
  | true =>
    rw [if_pos rfl, if_pos rfl]
    go_enter Try.func58, Try.ntmps58
    go_wp2_with fail
    go_quiet (fail)
    go_wp2_with fail
    go_ret2
    exact ⟨rfl, ((Fr.refl _ w).alloc _).drewN _⟩
  | false =>
    rw [if_neg (by decide), if_neg (by decide)]
    go_enter Try.func58, Try.ntmps58
    go_wp2_with fail
    go_quiet (first | (go_at_call 113; exact Calls.quiet_of_same (calls_flip (rid _ _ _))))
    go_wp2_with fail
    go_ret2
    exact ⟨rfl, ((Fr.refl _ w).alloc _).drewN _⟩
end Go.Proofs.Ytffjaaolcphonaa
