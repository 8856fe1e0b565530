/- Locks that were never made. -/
import Derived.Test.YtffjaaolcphonaaLockL
import Derived.Test.YtffjaaolcphonaaLock8
namespace Go.Proofs.Ytffjaaolcphonaa
open Go.RowKit
/-- A pointer to no locks, or to some that nothing made. -/
def KNone (w : World) (v : Value) : Prop := v = .pointer none ∨ ∃ P, v = .pointer (some ⟨P, 0, none⟩) ∧ w.cell? ⟨P, 2, none⟩ = some (.pointer none)
theorem KNone.still {w w' : World} {v : Value} (h : KNone w v) (hs : Still w w') : KNone w' v := by
  rcases h with h | ⟨P, h, c⟩
  · exact .inl h
  · exact .inr ⟨P, h, Still.cell hs c⟩
theorem kn_made (w : World) (v : Value) (h : KNone w v) : Calls Try.prog 130 #[v] w fun e w' => e = .returned (.bool false) ∧ w = w' := by
  rcases h with rfl | ⟨P, rfl, c⟩
  all_goals
    go_enter Try.func130, Try.ntmps130
    go_wp2
    go_ret
    exact ⟨rfl, rfl⟩
theorem kn_ask (w : World) (v : Value) (h : KNone w v) (a : Option Addr) (n c : Nat) : Calls Try.prog 107 #[v, .slice a n c] w fun e w' => e = .returned (.int .i64 1) ∧ w = w' := by
  go_enter Try.func107, Try.ntmps107
  go_wp2_with (go_at_call 130; refine (kn_made _ v h).mono ?_; rintro e w' ⟨rfl, rfl⟩)
  go_ret
  exact ⟨rfl, rfl⟩
theorem kn_lock (w : World) (v : Value) (h : KNone w v) (o t : Int) : Calls Try.prog 54 #[v, .int .i64 o, .int .i64 t] w fun e w' => e = .returned (.tuple #[.bool false, .int .i64 1]) ∧ Still w w' := by
  obtain ⟨a, rfl⟩ : ∃ a, v = .pointer a := by
    rcases h with h | ⟨_, h, _⟩
    · exact ⟨_, h⟩
    · exact ⟨_, h⟩
  go_enter Try.func54, Try.ntmps54
  go_wp2_with (first
      | (go_at_call 108; refine (are_made _ _ _ ⟨_, rfl⟩ ⟨_, _, _, rfl⟩).mono ?_; rintro e w' ⟨rfl, rfl⟩)
      | (go_at_call 109; refine (idle_made _ _ _).mono ?_; rintro e w' ⟨rfl, rfl⟩)
      | (go_at_call 110; refine (owns_made _ _ _ _ _ _).mono ?_; rintro e w' ⟨rfl, rfl⟩)
      | (go_at_call 107; refine (kn_ask _ _ (h.still ((((((((((((Fr.refl _ w).alloc _).alloc _).alloc _).alloc _).alloc _).alloc _).alloc _).alloc _).alloc _).alloc _).alloc _)) _ _ _).mono ?_; rintro e w' ⟨rfl, rfl⟩)
      | (go_at_call 130; refine (kn_made _ _ h).mono ?_; rintro e w' ⟨rfl, rfl⟩))
  go_ret2
  exact ⟨rfl, ((((((((((((Fr.refl _ w).alloc _).alloc _).alloc _).alloc _).alloc _).alloc _).alloc _).alloc _).alloc _).alloc _).alloc _)⟩
theorem kn_unlock (w : World) (v : Value) (h : KNone w v) (o t : Int) : Calls Try.prog 55 #[v, .int .i64 o, .int .i64 t] w fun e w' => e = .returned (.tuple #[.int .i64 (-1), .int .i64 1]) ∧ Still w w' := by
  obtain ⟨a, rfl⟩ : ∃ a, v = .pointer a := by
    rcases h with h | ⟨_, h, _⟩
    · exact ⟨_, h⟩
    · exact ⟨_, h⟩
  go_enter Try.func55, Try.ntmps55
  go_wp2_with (first
      | (go_at_call 108; refine (are_made _ _ _ ⟨_, rfl⟩ ⟨_, _, _, rfl⟩).mono ?_; rintro e w' ⟨rfl, rfl⟩)
      | (go_at_call 109; refine (idle_made _ _ _).mono ?_; rintro e w' ⟨rfl, rfl⟩)
      | (go_at_call 110; refine (owns_made _ _ _ _ _ _).mono ?_; rintro e w' ⟨rfl, rfl⟩)
      | (go_at_call 107; refine (kn_ask _ _ (h.still ((((((((((((Fr.refl _ w).alloc _).alloc _).alloc _).alloc _).alloc _).alloc _).alloc _).alloc _).alloc _).alloc _).alloc _)) _ _ _).mono ?_; rintro e w' ⟨rfl, rfl⟩)
      | (go_at_call 130; refine (kn_made _ _ h).mono ?_; rintro e w' ⟨rfl, rfl⟩))
  go_ret2
  exact ⟨rfl, ((((((((((((Fr.refl _ w).alloc _).alloc _).alloc _).alloc _).alloc _).alloc _).alloc _).alloc _).alloc _).alloc _).alloc _)⟩
theorem kn_wait (w : World) (v : Value) (h : KNone w v) (c o t : Int) : Calls Try.prog 64 #[v, .int .i64 c, .int .i64 o, .int .i64 t] w fun e w' => e = .returned (.tuple #[.int .i64 (-1), .int .i64 1]) ∧ Still w w' := by
  obtain ⟨a, rfl⟩ : ∃ a, v = .pointer a := by
    rcases h with h | ⟨_, h, _⟩
    · exact ⟨_, h⟩
    · exact ⟨_, h⟩
  go_enter Try.func64, Try.ntmps64
  go_wp2_with (first
      | (go_at_call 108; refine (are_made _ _ _ ⟨_, rfl⟩ ⟨_, _, _, rfl⟩).mono ?_; rintro e w' ⟨rfl, rfl⟩)
      | (go_at_call 109; refine (idle_made _ _ _).mono ?_; rintro e w' ⟨rfl, rfl⟩)
      | (go_at_call 110; refine (owns_made _ _ _ _ _ _).mono ?_; rintro e w' ⟨rfl, rfl⟩)
      | (go_at_call 107; refine (kn_ask _ _ (h.still ((((((((((((Fr.refl _ w).alloc _).alloc _).alloc _).alloc _).alloc _).alloc _).alloc _).alloc _).alloc _).alloc _).alloc _)) _ _ _).mono ?_; rintro e w' ⟨rfl, rfl⟩)
      | (go_at_call 130; refine (kn_made _ _ h).mono ?_; rintro e w' ⟨rfl, rfl⟩))
  go_ret2
  exact ⟨rfl, ((((((((((((Fr.refl _ w).alloc _).alloc _).alloc _).alloc _).alloc _).alloc _).alloc _).alloc _).alloc _).alloc _).alloc _)⟩
theorem kn_signal (w : World) (v : Value) (h : KNone w v) (c : Int) : Calls Try.prog 72 #[v, .int .i64 c] w fun e w' => e = .returned (.tuple #[.int .i64 (-1), .int .i64 1]) ∧ Still w w' := by
  obtain ⟨a, rfl⟩ : ∃ a, v = .pointer a := by
    rcases h with h | ⟨_, h, _⟩
    · exact ⟨_, h⟩
    · exact ⟨_, h⟩
  go_enter Try.func72, Try.ntmps72
  go_wp2_with (first
      | (go_at_call 108; refine (are_made _ _ _ ⟨_, rfl⟩ ⟨_, _, _, rfl⟩).mono ?_; rintro e w' ⟨rfl, rfl⟩)
      | (go_at_call 109; refine (idle_made _ _ _).mono ?_; rintro e w' ⟨rfl, rfl⟩)
      | (go_at_call 110; refine (owns_made _ _ _ _ _ _).mono ?_; rintro e w' ⟨rfl, rfl⟩)
      | (go_at_call 107; refine (kn_ask _ _ (h.still (((((Fr.refl _ w).alloc _).alloc _).alloc _).alloc _)) _ _ _).mono ?_; rintro e w' ⟨rfl, rfl⟩)
      | (go_at_call 130; refine (kn_made _ _ h).mono ?_; rintro e w' ⟨rfl, rfl⟩))
  go_ret2
  exact ⟨rfl, (((((Fr.refl _ w).alloc _).alloc _).alloc _).alloc _)⟩
theorem kn_cast (w : World) (v : Value) (h : KNone w v) (c : Int) : Calls Try.prog 66 #[v, .int .i64 c] w fun e w' => e = .returned (.tuple #[.slice none 0 0, .int .i64 1]) ∧ Still w w' := by
  obtain ⟨a, rfl⟩ : ∃ a, v = .pointer a := by
    rcases h with h | ⟨_, h, _⟩
    · exact ⟨_, h⟩
    · exact ⟨_, h⟩
  go_enter Try.func66, Try.ntmps66
  go_wp2_with (first
      | (go_at_call 108; refine (are_made _ _ _ ⟨_, rfl⟩ ⟨_, _, _, rfl⟩).mono ?_; rintro e w' ⟨rfl, rfl⟩)
      | (go_at_call 109; refine (idle_made _ _ _).mono ?_; rintro e w' ⟨rfl, rfl⟩)
      | (go_at_call 110; refine (owns_made _ _ _ _ _ _).mono ?_; rintro e w' ⟨rfl, rfl⟩)
      | (go_at_call 107; refine (kn_ask _ _ (h.still (((((Fr.refl _ w).alloc _).alloc _).alloc _).alloc _)) _ _ _).mono ?_; rintro e w' ⟨rfl, rfl⟩)
      | (go_at_call 130; refine (kn_made _ _ h).mono ?_; rintro e w' ⟨rfl, rfl⟩))
  go_ret2
  exact ⟨rfl, (((((Fr.refl _ w).alloc _).alloc _).alloc _).alloc _)⟩
theorem kn_owner (w : World) (v : Value) (h : KNone w v) (c : Int) : Calls Try.prog 56 #[v, .int .i64 c] w fun e w' => e = .returned (.int .i64 (-1)) ∧ Still w w' := by
  obtain ⟨a, rfl⟩ : ∃ a, v = .pointer a := by
    rcases h with h | ⟨_, h, _⟩
    · exact ⟨_, h⟩
    · exact ⟨_, h⟩
  go_enter Try.func56, Try.ntmps56
  go_wp2_with (first
      | (go_at_call 108; refine (are_made _ _ _ ⟨_, rfl⟩ ⟨_, _, _, rfl⟩).mono ?_; rintro e w' ⟨rfl, rfl⟩)
      | (go_at_call 109; refine (idle_made _ _ _).mono ?_; rintro e w' ⟨rfl, rfl⟩)
      | (go_at_call 110; refine (owns_made _ _ _ _ _ _).mono ?_; rintro e w' ⟨rfl, rfl⟩)
      | (go_at_call 107; refine (kn_ask _ _ (h.still (((((Fr.refl _ w).alloc _).alloc _).alloc _).alloc _)) _ _ _).mono ?_; rintro e w' ⟨rfl, rfl⟩)
      | (go_at_call 130; refine (kn_made _ _ h).mono ?_; rintro e w' ⟨rfl, rfl⟩))
  go_ret
  exact ⟨rfl, (((((Fr.refl _ w).alloc _).alloc _).alloc _).alloc _)⟩
theorem kn_waiters (w : World) (v : Value) (h : KNone w v) (c : Int) : Calls Try.prog 70 #[v, .int .i64 c] w fun e w' => e = .returned (.slice none 0 0) ∧ Still w w' := by
  obtain ⟨a, rfl⟩ : ∃ a, v = .pointer a := by
    rcases h with h | ⟨_, h, _⟩
    · exact ⟨_, h⟩
    · exact ⟨_, h⟩
  go_enter Try.func70, Try.ntmps70
  go_wp2_with (first
      | (go_at_call 108; refine (are_made _ _ _ ⟨_, rfl⟩ ⟨_, _, _, rfl⟩).mono ?_; rintro e w' ⟨rfl, rfl⟩)
      | (go_at_call 109; refine (idle_made _ _ _).mono ?_; rintro e w' ⟨rfl, rfl⟩)
      | (go_at_call 110; refine (owns_made _ _ _ _ _ _).mono ?_; rintro e w' ⟨rfl, rfl⟩)
      | (go_at_call 107; refine (kn_ask _ _ (h.still (((((Fr.refl _ w).alloc _).alloc _).alloc _).alloc _)) _ _ _).mono ?_; rintro e w' ⟨rfl, rfl⟩)
      | (go_at_call 130; refine (kn_made _ _ h).mono ?_; rintro e w' ⟨rfl, rfl⟩))
  go_ret
  exact ⟨rfl, (((((Fr.refl _ w).alloc _).alloc _).alloc _).alloc _)⟩
theorem kn_sleepers (w : World) (v : Value) (h : KNone w v) (c : Int) : Calls Try.prog 65 #[v, .int .i64 c] w fun e w' => e = .returned (.slice none 0 0) ∧ Still w w' := by
  obtain ⟨a, rfl⟩ : ∃ a, v = .pointer a := by
    rcases h with h | ⟨_, h, _⟩
    · exact ⟨_, h⟩
    · exact ⟨_, h⟩
  go_enter Try.func65, Try.ntmps65
  go_wp2_with (first
      | (go_at_call 108; refine (are_made _ _ _ ⟨_, rfl⟩ ⟨_, _, _, rfl⟩).mono ?_; rintro e w' ⟨rfl, rfl⟩)
      | (go_at_call 109; refine (idle_made _ _ _).mono ?_; rintro e w' ⟨rfl, rfl⟩)
      | (go_at_call 110; refine (owns_made _ _ _ _ _ _).mono ?_; rintro e w' ⟨rfl, rfl⟩)
      | (go_at_call 107; refine (kn_ask _ _ (h.still (((((Fr.refl _ w).alloc _).alloc _).alloc _).alloc _)) _ _ _).mono ?_; rintro e w' ⟨rfl, rfl⟩)
      | (go_at_call 130; refine (kn_made _ _ h).mono ?_; rintro e w' ⟨rfl, rfl⟩))
  go_ret
  exact ⟨rfl, (((((Fr.refl _ w).alloc _).alloc _).alloc _).alloc _)⟩
theorem kn_where (w : World) (v : Value) (h : KNone w v) (c : Int) : Calls Try.prog 71 #[v, .int .i64 c] w fun e w' => e = .returned (.tuple #[.int .i64 0, .int .i64 (-1)]) ∧ Still w w' := by
  obtain ⟨a, rfl⟩ : ∃ a, v = .pointer a := by
    rcases h with h | ⟨_, h, _⟩
    · exact ⟨_, h⟩
    · exact ⟨_, h⟩
  go_enter Try.func71, Try.ntmps71
  go_wp2_with (first
      | (go_at_call 108; refine (are_made _ _ _ ⟨_, rfl⟩ ⟨_, _, _, rfl⟩).mono ?_; rintro e w' ⟨rfl, rfl⟩)
      | (go_at_call 109; refine (idle_made _ _ _).mono ?_; rintro e w' ⟨rfl, rfl⟩)
      | (go_at_call 110; refine (owns_made _ _ _ _ _ _).mono ?_; rintro e w' ⟨rfl, rfl⟩)
      | (go_at_call 107; refine (kn_ask _ _ (h.still (Fr.refl _ w)) _ _ _).mono ?_; rintro e w' ⟨rfl, rfl⟩)
      | (go_at_call 130; refine (kn_made _ _ h).mono ?_; rintro e w' ⟨rfl, rfl⟩))
  go_ret2
  exact ⟨rfl, (Fr.refl _ w)⟩
theorem kn_drop (w : World) (v : Value) (h : KNone w v) (c : Int) : Calls Try.prog 73 #[v, .int .i64 c] w fun e w' => e = .returned (.slice none 0 0) ∧ Still w w' := by
  obtain ⟨a, rfl⟩ : ∃ a, v = .pointer a := by
    rcases h with h | ⟨_, h, _⟩
    · exact ⟨_, h⟩
    · exact ⟨_, h⟩
  go_enter Try.func73, Try.ntmps73
  go_wp2_with (first
      | (go_at_call 108; refine (are_made _ _ _ ⟨_, rfl⟩ ⟨_, _, _, rfl⟩).mono ?_; rintro e w' ⟨rfl, rfl⟩)
      | (go_at_call 109; refine (idle_made _ _ _).mono ?_; rintro e w' ⟨rfl, rfl⟩)
      | (go_at_call 110; refine (owns_made _ _ _ _ _ _).mono ?_; rintro e w' ⟨rfl, rfl⟩)
      | (go_at_call 107; refine (kn_ask _ _ (h.still (Fr.refl _ w)) _ _ _).mono ?_; rintro e w' ⟨rfl, rfl⟩)
      | (go_at_call 130; refine (kn_made _ _ h).mono ?_; rintro e w' ⟨rfl, rfl⟩))
  go_ret
  exact ⟨rfl, (Fr.refl _ w)⟩
theorem kn_copy (w : World) (v : Value) (h : KNone w v) : Calls Try.prog 74 #[v] w fun e w' => e = .returned (.pointer none) ∧ Still w w' := by
  obtain ⟨a, rfl⟩ : ∃ a, v = .pointer a := by
    rcases h with h | ⟨_, h, _⟩
    · exact ⟨_, h⟩
    · exact ⟨_, h⟩
  go_enter Try.func74, Try.ntmps74
  go_wp2_with (first
      | (go_at_call 108; refine (are_made _ _ _ ⟨_, rfl⟩ ⟨_, _, _, rfl⟩).mono ?_; rintro e w' ⟨rfl, rfl⟩)
      | (go_at_call 109; refine (idle_made _ _ _).mono ?_; rintro e w' ⟨rfl, rfl⟩)
      | (go_at_call 110; refine (owns_made _ _ _ _ _ _).mono ?_; rintro e w' ⟨rfl, rfl⟩)
      | (go_at_call 107; refine (kn_ask _ _ (h.still (Fr.refl _ w)) _ _ _).mono ?_; rintro e w' ⟨rfl, rfl⟩)
      | (go_at_call 130; refine (kn_made _ _ h).mono ?_; rintro e w' ⟨rfl, rfl⟩))
  go_ret
  exact ⟨rfl, (Fr.refl _ w)⟩
end Go.Proofs.Ytffjaaolcphonaa
