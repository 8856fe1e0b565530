/- From the row's condition to the table in its variable. -/
import Derived.Test.YtffjaaolcphonaaDoorRows
import Derived.Test.YtffjaaolcphonaaDoorBdSlot
import Derived.Lib.LaidTab
import Derived.Lay
namespace Go.Proofs.YtffjaaolcphonaaDoor
open Go.RowKit
theorem tab_datum : Rows.laid_math_bits_deBruijn64tab (H := Unit) = Lib.tabData .u8 (Lib.deBruijn64tab.map fun n : Nat => (n : Int)) := by kernel_rfl
theorem tabD_of {W : World} {rest : List (String × DataW Unit)} (h : laidMet Tryd.prog (("math/bits.deBruijn64tab", Rows.laid_math_bits_deBruijn64tab) :: rest) W) : TabD W := by
  rw [tab_datum] at h
  have hT := Lib.tabIs_of_head (g := 7) (t := 169) (e := 5) (n := 64) (by kernel_rfl) (by kernel_rfl) Tryd.underlying169 Tryd.underlying5 (by kernel_rfl) (by kernel_rfl) h
  intro j hj
  have := hT.cell (g := 7) (by kernel_rfl) j (by simpa using hj)
  rw [this]
  simp [List.getD_eq_getElem?_getD, hj]
end Go.Proofs.YtffjaaolcphonaaDoor
