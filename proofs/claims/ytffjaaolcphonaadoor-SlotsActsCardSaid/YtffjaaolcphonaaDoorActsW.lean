/- SlotsActs: the walk, where nothing is done. -/
import Derived.Test.YtffjaaolcphonaaDoorNewNo
import Derived.Test.YtffjaaolcphonaaDoorActs
import Derived.Test.YtffjaaolcphonaaDoorCopyW
namespace Go.Proofs.YtffjaaolcphonaaDoor
open Go.RowKit
theorem slotsActs_big (w : World) (hT : TabD w) (x d : Int) (a : Option Addr) (n c : Nat) (hn : 300 < n) : Calls Tryd.prog 4 #[.int .i64 x, .slice a n c, .int .i64 d] w fun e w' => e = .returned (.bool true) ∧ Still w w' := by
  have hn' : (300 : Int) < (n : Int) := by omega
  have L := hid (dlives w hT)
  clear hn hT
  go_enter Tryd.func4, Tryd.ntmps4
  go_wp2_with (go_at_call 24; refine L.out.mono ?_; rintro e w' ⟨rfl, hs⟩)
  go_ret
  exact ⟨rfl, hs⟩
theorem slotsActs_no (w : World) (hT : TabD w) (x d : Int) (a : Option Addr) (n c : Nat) (hn : n ≤ 300) (hx : x < 1 ∨ 4096 < x) : Calls Tryd.prog 4 #[.int .i64 x, .slice a n c, .int .i64 d] w fun e w' => e = .returned (.bool true) ∧ Still w w' := by
  have hn' : ¬ (300 : Int) < (n : Int) := by omega
  have L := hid (dlives w hT)
  have N1 := hid (snew_no w x hx)
  have N2 := hid (rnew_no w x hx)
  clear hn hT hx
  go_enter Tryd.func4, Tryd.ntmps4
  go_wp2_with (first | (go_at_call 24; refine L.out.mono ?_; rintro e w' ⟨rfl, hs⟩) | (go_at_call 25; refine N1.out.mono ?_; rintro e w' ⟨rfl, rfl⟩) | (go_at_call 26; refine N2.out.mono ?_; rintro e w' ⟨rfl, rfl⟩))
  go_ret
  exact ⟨rfl, hs⟩
end Go.Proofs.YtffjaaolcphonaaDoor
