/- From the row's condition to life's table of states. -/
import Derived.Test.YtffjaaolcphonaaDoorTabTOf
import Derived.Test.YtffjaaolcphonaaDoorBdLf
namespace Go.Proofs.YtffjaaolcphonaaDoor
open Go.RowKit
theorem from_datum : Rows.laid_wherry_life_from (H := Unit) = Lib.tabData .i64 fromT := by kernel_rfl
set_option maxRecDepth 100000 in
theorem tabF_of {W : World} (h : laidMet Tryd.prog [("math/bits.deBruijn64tab", Rows.laid_math_bits_deBruijn64tab), ("wherry/life.from", Rows.laid_wherry_life_from)] W) : TabF W := by
  obtain ⟨ps, hl, _⟩ := h
  obtain ⟨q0, h0⟩ := laid_tail hl
  rw [from_datum] at h0
  obtain ⟨g', t', cs, fuel, p, q, hg', ht', hvar, hd, _, _⟩ := h0
  have hg : Tryd.prog.globalNamed "wherry/life.from" = some 6 := by kernel_rfl
  have hty : (Tryd.prog.globals[6]?).map (·.type) = some 165 := by kernel_rfl
  obtain rfl := Option.some.inj (hg.symm.trans hg')
  obtain rfl := Option.some.inj (hty.symm.trans ht')
  have hT : Lib.TabIs Tryd.prog W "wherry/life.from" .i64 fromT := by
    unfold Lib.TabIs
    rw [hvar, ← Lib.cells_of_tab (k := .i64) (zs := fromT) Tryd.underlying165 Tryd.underlying3 (by kernel_rfl) (by kernel_rfl) hd]
  intro i hi
  have := hT.cell (g := 6) (by kernel_rfl) i (by simpa [fromT] using hi)
  exact this
end Go.Proofs.YtffjaaolcphonaaDoor
