/- Links that were never made. -/
import Derived.Test.YtffjaaolcphonaaSmall
namespace Go.Proofs.Ytffjaaolcphonaa
open Go.RowKit
theorem Still.at {w w' : World} (hs : Still w w') {a : Addr} {v : Value} (h : w.cell? a = some v) : w'.cell? a = some v := ((hs.below (Nat.le_refl _) (fun _ h => h.elim)).cell (World.block_lt_of_cell? _ _ h)).trans h

/-- A pointer to no links, or to some that nothing made. -/
def LNone (w : World) (v : Value) : Prop := v = .pointer none ∨ ∃ P, v = .pointer (some ⟨P, 0, none⟩) ∧ w.cell? ⟨P, 0, none⟩ = some (.int .i64 0) ∧ w.cell? ⟨P, 4, none⟩ = some (.slice none 0 0)
theorem LNone.still {w w' : World} {v : Value} (h : LNone w v) (hs : Still w w') : LNone w' v := by
  rcases h with h | ⟨P, h, c, d⟩
  · exact .inl h
  · exact .inr ⟨P, h, hs.at c, hs.at d⟩
theorem ln_made (w : World) (v : Value) (h : LNone w v) : Calls Try.prog 83 #[v] w fun e w' => e = .returned (.bool false) ∧ w = w' := by
  rcases h with rfl | ⟨P, rfl, c, d⟩
  all_goals
    go_enter Try.func83, Try.ntmps83
    go_wp2
    go_ret
    exact ⟨rfl, rfl⟩
theorem ln_first (w : World) (v : Value) (h : LNone w v) (a : Option Addr) (len cap : Nat) : Calls Try.prog 79 #[v, .slice a len cap] w fun e w' => e = .returned (.int .i64 1) ∧ w = w' := by
  go_enter Try.func79, Try.ntmps79
  go_wp2_with (go_at_call 83; refine (ln_made _ v h).mono ?_; rintro e w' ⟨rfl, rfl⟩)
  go_ret
  exact ⟨rfl, rfl⟩
theorem ln_may (w : World) (v : Value) (h : LNone w v) (i t : Int) : Calls Try.prog 75 #[v, .int .i64 i, .int .i64 t] w fun e w' => e = .returned (.int .i64 1) ∧ Still w w' := by
  have hh := h
  rcases hh with rfl | ⟨P, rfl, c, d⟩
  all_goals
   go_enter Try.func75, Try.ntmps75
   go_wp2_with fail
   refine (ln_first _ _ (h.still ?_) _ _ _).mono ?_
   · exact ((((Fr.refl _ _).alloc _).alloc _).alloc _).alloc _
   rintro e w' ⟨rfl, rfl⟩
   go_wp2
   go_ret
   exact ⟨rfl, ((((Fr.refl _ _).alloc _).alloc _).alloc _).alloc _⟩
theorem ln_push (w : World) (v : Value) (h : LNone w v) (i t : Int) : Calls Try.prog 21 #[v, .int .i64 i, .int .i64 t] w fun e w' => e = .returned (.int .i64 1) ∧ Still w w' := by
  go_enter Try.func21, Try.ntmps21
  go_wp2_with (go_at_call 75; refine (ln_may _ v h _ _).mono ?_; rintro e w' ⟨rfl, hs⟩)
  go_ret
  exact ⟨rfl, hs⟩
theorem ln_front (w : World) (v : Value) (h : LNone w v) (i t : Int) : Calls Try.prog 22 #[v, .int .i64 i, .int .i64 t] w fun e w' => e = .returned (.int .i64 1) ∧ Still w w' := by
  go_enter Try.func22, Try.ntmps22
  go_wp2_with (go_at_call 75; refine (ln_may _ v h _ _).mono ?_; rintro e w' ⟨rfl, hs⟩)
  go_ret
  exact ⟨rfl, hs⟩
theorem ln_remove (w : World) (v : Value) (h : LNone w v) (t : Int) : Calls Try.prog 42 #[v, .int .i64 t] w fun e w' => e = .returned (.int .i64 1) ∧ Still w w' := by
  have hh := h
  rcases hh with rfl | ⟨P, rfl, c, d⟩
  all_goals
   go_enter Try.func42, Try.ntmps42
   go_wp2_with fail
   refine (ln_first _ _ (h.still ?_) _ _ _).mono ?_
   · exact (((Fr.refl _ _).alloc _).alloc _).alloc _
   rintro e w' ⟨rfl, rfl⟩
   go_wp2
   go_ret
   exact ⟨rfl, (((Fr.refl _ _).alloc _).alloc _).alloc _⟩
theorem ln_pop (w : World) (v : Value) (h : LNone w v) (t : Int) : Calls Try.prog 41 #[v, .int .i64 t] w fun e w' => e = .returned (.tuple #[.int .i64 0, .int .i64 1]) ∧ Still w w' := by
  have hh := h
  rcases hh with rfl | ⟨P, rfl, c, d⟩
  all_goals
   go_enter Try.func41, Try.ntmps41
   go_wp2_with fail
   refine (ln_first _ _ (h.still ?_) _ _ _).mono ?_
   · exact (((Fr.refl _ _).alloc _).alloc _).alloc _
   rintro e w' ⟨rfl, rfl⟩
   go_wp2
   go_ret2
   exact ⟨rfl, (((Fr.refl _ _).alloc _).alloc _).alloc _⟩
theorem ln_len (w : World) (v : Value) (h : LNone w v) (t : Int) : Calls Try.prog 25 #[v, .int .i64 t] w fun e w' => e = .returned (.int .i64 0) ∧ w = w' := by
  go_enter Try.func25, Try.ntmps25
  go_wp2_with (go_at_call 83; refine (ln_made _ v h).mono ?_; rintro e w' ⟨rfl, rfl⟩)
  go_ret
  exact ⟨rfl, rfl⟩
theorem ln_where (w : World) (v : Value) (h : LNone w v) (t : Int) : Calls Try.prog 29 #[v, .int .i64 t] w fun e w' => e = .returned (.int .i64 (-1)) ∧ w = w' := by
  go_enter Try.func29, Try.ntmps29
  go_wp2_with (first | (go_at_call 83; refine (ln_made _ v h).mono ?_; rintro e w' ⟨rfl, rfl⟩))
  go_ret
  exact ⟨rfl, rfl⟩
theorem ln_copy (w : World) (v : Value) (h : LNone w v) : Calls Try.prog 38 #[v] w fun e w' => e = .returned (.pointer none) ∧ w = w' := by
  go_enter Try.func38, Try.ntmps38
  go_wp2_with (first | (go_at_call 83; refine (ln_made _ v h).mono ?_; rintro e w' ⟨rfl, rfl⟩))
  go_ret
  exact ⟨rfl, rfl⟩
end Go.Proofs.Ytffjaaolcphonaa
