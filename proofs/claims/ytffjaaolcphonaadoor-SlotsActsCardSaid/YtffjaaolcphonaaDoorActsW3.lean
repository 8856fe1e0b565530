/- SlotsActs: whatever comes in. -/
import Derived.Test.YtffjaaolcphonaaDoorActsW2
namespace Go.Proofs.YtffjaaolcphonaaDoor
open Go.RowKit
theorem slotsActs (w : World) (hT : TabD w) (x : Int) (a : Option Addr) (n c : Nat) (F : Nat → Nat → Int) (hF : IsRow3 2 w a n c F) (d : Int) (hd : inI d) : Calls Tryd.prog 4 #[.int .i64 x, .slice a n c, .int .i64 d] w fun e w' => e = .returned (.bool true) ∧ Still w w' := by
  by_cases hn : 300 < n
  · exact slotsActs_big w hT x d a n c hn
  · by_cases hx : x < 1 ∨ 4096 < x
    · exact slotsActs_no w hT x d a n c (by omega) hx
    · obtain ⟨k, rfl⟩ : ∃ k : Nat, x = (k : Int) := ⟨x.toNat, by omega⟩
      exact slotsActs_ok w hT k d hd a n c F hF (by omega) (by omega) (by omega)
end Go.Proofs.YtffjaaolcphonaaDoor
