/- Slots that may not be. -/
import Derived.Test.YtffjaaolcphonaaDoorSInv3
namespace Go.Proofs.YtffjaaolcphonaaDoor
open Go.RowKit
theorem snew_no (w : World) (n : Int) (h : n < 1 ∨ 4096 < n) : Calls Tryd.prog 25 #[.int .i64 n] w fun e w' => e = .returned (.pointer none) ∧ w = w' := by
  by_cases h1 : n < 1
  · clear h
    go_enter Tryd.func25, Tryd.ntmps25
    go_wp2
    go_ret
    exact ⟨rfl, rfl⟩
  · have h2 : 4096 < n := by omega
    clear h
    go_enter Tryd.func25, Tryd.ntmps25
    go_wp2
    go_ret
    exact ⟨rfl, rfl⟩
theorem rnew_no (w : World) (n : Int) (h : n < 1 ∨ 4096 < n) : Calls Tryd.prog 26 #[.int .i64 n] w fun e w' => e = .returned (.pointer none) ∧ w = w' := by
  by_cases h1 : n < 1
  · clear h
    go_enter Tryd.func26, Tryd.ntmps26
    go_wp2
    go_ret
    exact ⟨rfl, rfl⟩
  · have h2 : 4096 < n := by omega
    clear h
    go_enter Tryd.func26, Tryd.ntmps26
    go_wp2
    go_ret
    exact ⟨rfl, rfl⟩
end Go.Proofs.YtffjaaolcphonaaDoor
