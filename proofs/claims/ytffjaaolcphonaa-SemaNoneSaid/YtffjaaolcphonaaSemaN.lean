/- Semaphores that were never made. -/
import Derived.Test.YtffjaaolcphonaaSemaW
namespace Go.Proofs.Ytffjaaolcphonaa
open Go.RowKit

/-- A pointer to no semaphores, or to some that nothing made. -/
def SNone (w : World) (v : Value) : Prop := v = .pointer none ∨ ∃ P, v = .pointer (some ⟨P, 0, none⟩) ∧ w.cell? ⟨P, 66, none⟩ = some (.pointer none)
theorem nmade (w : World) (v : Value) (h : SNone w v) : Calls Try.prog 91 #[v] w fun e w' => e = .returned (.bool false) ∧ w = w' := by
  rcases h with rfl | ⟨P, rfl, c⟩
  all_goals
    go_enter Try.func91, Try.ntmps91
    go_wp2
    go_ret
    exact ⟨rfl, rfl⟩
theorem ndown (w : World) (v : Value) (h : SNone w v) (o t : Int) : Calls Try.prog 33 #[v, .int .i64 o, .int .i64 t] w fun e w' => e = .returned (.tuple #[.bool false, .int .i64 1]) ∧ w = w' := by
  go_enter Try.func33, Try.ntmps33
  go_wp2_with (go_at_call 91; refine (nmade _ v h).mono ?_; rintro e w' ⟨rfl, rfl⟩)
  go_ret2
  exact ⟨rfl, rfl⟩
theorem nup (w : World) (v : Value) (h : SNone w v) (o : Int) : Calls Try.prog 35 #[v, .int .i64 o] w fun e w' => e = .returned (.tuple #[.int .i64 (-1), .int .i64 1]) ∧ w = w' := by
  go_enter Try.func35, Try.ntmps35
  go_wp2_with (go_at_call 91; refine (nmade _ v h).mono ?_; rintro e w' ⟨rfl, rfl⟩)
  go_ret2
  exact ⟨rfl, rfl⟩
theorem nvalue (w : World) (v : Value) (h : SNone w v) (o : Int) : Calls Try.prog 36 #[v, .int .i64 o] w fun e w' => e = .returned (.int .i64 0) ∧ w = w' := by
  go_enter Try.func36, Try.ntmps36
  go_wp2_with (go_at_call 91; refine (nmade _ v h).mono ?_; rintro e w' ⟨rfl, rfl⟩)
  go_ret
  exact ⟨rfl, rfl⟩
theorem nwhere (w : World) (v : Value) (h : SNone w v) (t : Int) : Calls Try.prog 43 #[v, .int .i64 t] w fun e w' => e = .returned (.int .i64 (-1)) ∧ w = w' := by
  go_enter Try.func43, Try.ntmps43
  go_wp2_with (go_at_call 91; refine (nmade _ v h).mono ?_; rintro e w' ⟨rfl, rfl⟩)
  go_ret
  exact ⟨rfl, rfl⟩
theorem ndrop (w : World) (v : Value) (h : SNone w v) (t : Int) : Calls Try.prog 34 #[v, .int .i64 t] w fun e w' => e = .returned (.bool false) ∧ w = w' := by
  go_enter Try.func34, Try.ntmps34
  go_wp2_with (go_at_call 91; refine (nmade _ v h).mono ?_; rintro e w' ⟨rfl, rfl⟩)
  go_ret
  exact ⟨rfl, rfl⟩
theorem ncopy (w : World) (v : Value) (h : SNone w v) : Calls Try.prog 44 #[v] w fun e w' => e = .returned (.pointer none) ∧ w = w' := by
  go_enter Try.func44, Try.ntmps44
  go_wp2_with (go_at_call 91; refine (nmade _ v h).mono ?_; rintro e w' ⟨rfl, rfl⟩)
  go_ret
  exact ⟨rfl, rfl⟩
theorem nwaiters (w : World) (v : Value) (h : SNone w v) (i : Int) : Calls Try.prog 40 #[v, .int .i64 i] w fun e w' => e = .returned (.slice none 0 0) ∧ Still w w' := by
  go_enter Try.func40, Try.ntmps40
  go_wp2_with fail
  refine (nmade _ v ?_).mono ?_
  · rcases h with h | ⟨P, h, c⟩
    · exact .inl h
    · exact .inr ⟨P, h, by rw [World.cell?_alloc_lt _ _ _ (World.block_lt_of_cell? _ _ c)]; exact c⟩
  rintro e w' ⟨rfl, rfl⟩
  go_wp2
  go_ret
  exact ⟨rfl, (Fr.refl _ _).alloc _⟩
end Go.Proofs.Ytffjaaolcphonaa
