/- Slots that no call made. -/
import Derived.Test.YtffjaaolcphonaaDoorLivesD
namespace Go.Proofs.YtffjaaolcphonaaDoor
open Go.RowKit
def SNone (w : World) (v : Value) : Prop := v = .pointer none ∨ ∃ z, v = .pointer (some ⟨z, 0, none⟩) ∧ w.cell? ⟨z, 0, none⟩ = some (.slice none 0 0)
theorem kmade (w : World) (v : Value) (h : SNone w v) : Calls Tryd.prog 85 #[v] w fun e w' => e = .returned (.bool false) ∧ w = w' := by
  rcases h with rfl | ⟨z, rfl, hc⟩
  · go_enter Tryd.func85, Tryd.ntmps85
    go_wp2
    go_ret
    exact ⟨rfl, rfl⟩
  · go_enter Tryd.func85, Tryd.ntmps85
    go_wp2
    go_ret
    exact ⟨rfl, rfl⟩
theorem ktake (w : World) (v : Value) (h : SNone w v) : Calls Tryd.prog 27 #[v] w fun e w' => e = .returned (.tuple #[.int .i64 0, .int .i64 1]) ∧ w = w' := by
  have M := hid (kmade w v h)
  clear h
  go_enter Tryd.func27, Tryd.ntmps27
  go_wp2_with (go_at_call 85; refine M.out.mono ?_; rintro e w' ⟨rfl, rfl⟩)
  go_ret2
  exact ⟨rfl, rfl⟩
theorem kfree (w : World) (v : Value) (h : SNone w v) (id : Int) (hi : inI id) : Calls Tryd.prog 29 #[v, .int .i64 id] w fun e w' => e = .returned (.int .i64 1) ∧ w = w' := by
  have M := hid (kmade w v h)
  have A := hid (xindex w id hi)
  clear h
  go_enter Tryd.func29, Tryd.ntmps29
  go_wp2_with (first | (go_at_call 85; refine M.out.mono ?_; rintro e w' ⟨rfl, rfl⟩) | (go_at_call 20; refine A.out.mono ?_; rintro e w' ⟨rfl, rfl⟩))
  go_ret
  exact ⟨rfl, rfl⟩
theorem klive (w : World) (v : Value) (h : SNone w v) (id : Int) (hi : inI id) : Calls Tryd.prog 31 #[v, .int .i64 id] w fun e w' => e = .returned (.bool false) ∧ w = w' := by
  have M := hid (kmade w v h)
  have A := hid (xindex w id hi)
  clear h
  go_enter Tryd.func31, Tryd.ntmps31
  go_wp2_with (first | (go_at_call 85; refine M.out.mono ?_; rintro e w' ⟨rfl, rfl⟩) | (go_at_call 20; refine A.out.mono ?_; rintro e w' ⟨rfl, rfl⟩))
  go_ret
  exact ⟨rfl, rfl⟩
theorem klen (w : World) (v : Value) (h : SNone w v) : Calls Tryd.prog 33 #[v] w fun e w' => e = .returned (.int .i64 0) ∧ w = w' := by
  have M := hid (kmade w v h)
  clear h
  go_enter Tryd.func33, Tryd.ntmps33
  go_wp2_with (go_at_call 85; refine M.out.mono ?_; rintro e w' ⟨rfl, rfl⟩)
  go_ret
  exact ⟨rfl, rfl⟩
theorem kall (w : World) (v : Value) (h : SNone w v) : Calls Tryd.prog 36 #[v] w fun e w' => e = .returned (.slice none 0 0) ∧ w = w' := by
  have M := hid (kmade w v h)
  clear h
  go_enter Tryd.func36, Tryd.ntmps36
  go_wp2_with (go_at_call 85; refine M.out.mono ?_; rintro e w' ⟨rfl, rfl⟩)
  go_ret
  exact ⟨rfl, rfl⟩
theorem kcopy (w : World) (v : Value) (h : SNone w v) : Calls Tryd.prog 37 #[v] w fun e w' => e = .returned (.pointer none) ∧ w = w' := by
  have M := hid (kmade w v h)
  clear h
  go_enter Tryd.func37, Tryd.ntmps37
  go_wp2_with (go_at_call 85; refine M.out.mono ?_; rintro e w' ⟨rfl, rfl⟩)
  go_ret
  exact ⟨rfl, rfl⟩
theorem idx54_0 (u v : Value) : ∀ w, (Instr.index 54 (.agg #[u, v]) (.int .i64 0)).run Tryd.prog w = .ok u w := fun _ => by kernel_rfl
theorem idx54_1 (u v : Value) : ∀ w, (Instr.index 54 (.agg #[u, v]) (.int .i64 1)).run Tryd.prog w = .ok v w := fun _ => by kernel_rfl
end Go.Proofs.YtffjaaolcphonaaDoor
