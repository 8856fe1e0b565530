/- From the row's condition to the table in its variable. -/
import Derived.Test.YtffjaaolcphonaaDoorRows
import Derived.Test.YtffjaaolcphonaaDoorBdSlot
import Derived.Lib.LaidTab
import Derived.Lay
import Derived.Test.YtffjaaolcphonaaDoorBdThr
import Derived.Test.YtffjaaolcphonaaDoorBdLA
import Derived.Test.YtffjaaolcphonaaDoorBdLf
namespace Go.Proofs.YtffjaaolcphonaaDoor
open Go.RowKit
theorem tab_datum : Rows.laid_math_bits_deBruijn64tab (H := Unit) = Lib.tabData .u8 (Lib.deBruijn64tab.map fun n : Nat => (n : Int)) := by kernel_rfl
theorem tabD_of {W : World} {rest : List (String × DataW Unit)} (h : laidMet Tryd.prog (("math/bits.deBruijn64tab", Rows.laid_math_bits_deBruijn64tab) :: rest) W) : TabD W := by
  rw [tab_datum] at h
  have hT := Lib.tabIs_of_head (g := 7) (t := 169) (e := 5) (n := 64) (by kernel_rfl) (by kernel_rfl) Tryd.underlying169 Tryd.underlying5 (by kernel_rfl) (by kernel_rfl) h
  intro j hj
  have := hT.cell (g := 7) (by kernel_rfl) j (by simpa using hj)
  rw [this]
  simp [List.getD_eq_getElem?_getD, hj]
end Go.Proofs.YtffjaaolcphonaaDoor
/- From the row's condition to the changes in their variables. -/
namespace Go.Proofs.YtffjaaolcphonaaDoor
open Go.RowKit
def chD (a b : Int) : DataW Unit := .agg [.lit (.int .i64 a), .lit (.int .i64 b)]
set_option maxRecDepth 100000 in
theorem change_cells {enc : TypeId × Value → Unit} {w : World} {base : Nat} {sp : Nat → Bool} {held : Bool} {fuel : Nat} {cs : List Value} {a b : Int} {p : List MemPlace} (h : DataW.trod enc Tryd.prog w base sp held fuel 150 cs = some (chD a b, p)) : cs = [.int .i64 a, .int .i64 b] := by
  obtain ⟨xs, m, _, hx, hl, hlen, hi⟩ := DataW.trod_struct Tryd.underlying150 h
  have hl' : cs.length = 2 := hl.trans (by kernel_rfl)
  have hlen' : xs.length = 2 := by simpa using hlen
  match cs, hl', xs, hlen' with
  | [c0, c1], _, [y0, y1], _ =>
    have h0 := hi 0 ⟨"from", 3, 0, false, "", "wherry/thread", 0⟩ rfl
    have h1 := hi 1 ⟨"to", 3, 1, false, "", "wherry/thread", 8⟩ rfl
    dsimp only at h0 h1
    rw [cells3] at h0 h1
    obtain ⟨z0, e0, f0, _⟩ := DataW.trod_int Tryd.underlying3 h0
    obtain ⟨z1, e1, f1, _⟩ := DataW.trod_int Tryd.underlying3 h1
    obtain rfl : c0 = .int .i64 z0 := by simpa using e0
    obtain rfl : c1 = .int .i64 z1 := by simpa using e1
    subst f0 f1
    have := congrArg Prod.fst hx
    simp [chD] at this
    rw [this.1, this.2]
set_option maxRecDepth 100000 in
theorem change_of {w : World} {name : String} {g : Nat} {a b : Int} {r : List (String × DataW Unit)} {ps : List MemPlace} (hg : Tryd.prog.globalNamed name = some g) (hty : (Tryd.prog.globals[g]?).map (·.type) = some 150) (h : DataW.LaidVars Tryd.prog w ((name, chD a b) :: r) ps) :
    (w.cell? ⟨g, 0, none⟩ = some (.int .i64 a) ∧ w.cell? ⟨g, 1, none⟩ = some (.int .i64 b)) ∧ ∃ q, DataW.LaidVars Tryd.prog w r q := by
  obtain ⟨g', t', cs, fuel, p, q, hg', ht', hvar, hd, hr, _⟩ := h
  obtain rfl := Option.some.inj (hg.symm.trans hg')
  obtain rfl := Option.some.inj (hty.symm.trans ht')
  have e := change_cells hd
  have c0 := World.var?_cell hg hvar 0
  have c1 := World.var?_cell hg hvar 1
  have ea : cs = #[.int .i64 a, .int .i64 b] := by
    apply Array.toList_inj.1; exact e
  subst ea
  exact ⟨⟨by simpa using c0, by simpa using c1⟩, q, hr⟩
theorem laid_tail {w : World} {n : String} {d : DataW Unit} {r : List (String × DataW Unit)} {ps : List MemPlace} (h : DataW.LaidVars Tryd.prog w ((n, d) :: r) ps) : ∃ q, DataW.LaidVars Tryd.prog w r q := by
  obtain ⟨g', t', cs, fuel, p, q, hg', ht', hvar, hd, hr, _⟩ := h
  exact ⟨q, hr⟩
set_option maxRecDepth 100000 in
theorem tabT_of {W : World} (h : laidMet Tryd.prog [("math/bits.deBruijn64tab", Rows.laid_math_bits_deBruijn64tab), ("wherry/thread.toRun", Rows.laid_wherry_thread_toRun), ("wherry/thread.toYield", Rows.laid_wherry_thread_toYield), ("wherry/thread.toWait", Rows.laid_wherry_thread_toWait), ("wherry/thread.toTrap", Rows.laid_wherry_thread_toTrap), ("wherry/thread.toWake", Rows.laid_wherry_thread_toWake), ("wherry/thread.toBack", Rows.laid_wherry_thread_toBack)] W) : TabT W := by
  obtain ⟨ps, hl, _⟩ := h
  obtain ⟨q0, h0⟩ := laid_tail hl
  obtain ⟨k0, q1, h1⟩ := change_of (g := 0) (a := 2) (b := 2) (by kernel_rfl) (by kernel_rfl) h0
  obtain ⟨k1, q2, h2⟩ := change_of (g := 1) (a := 4) (b := 1) (by kernel_rfl) (by kernel_rfl) h1
  obtain ⟨k2, q3, h3⟩ := change_of (g := 2) (a := 4) (b := 3) (by kernel_rfl) (by kernel_rfl) h2
  obtain ⟨k3, q4, h4⟩ := change_of (g := 3) (a := 4) (b := 4) (by kernel_rfl) (by kernel_rfl) h3
  obtain ⟨k4, q5, h5⟩ := change_of (g := 4) (a := 24) (b := 1) (by kernel_rfl) (by kernel_rfl) h4
  obtain ⟨k5, q6, h6⟩ := change_of (g := 5) (a := 16) (b := 2) (by kernel_rfl) (by kernel_rfl) h5
  intro i hi
  have hi' : i < 6 := hi
  rcases (show i = 0 ∨ i = 1 ∨ i = 2 ∨ i = 3 ∨ i = 4 ∨ i = 5 by omega) with rfl | rfl | rfl | rfl | rfl | rfl
  · exact k0
  · exact k1
  · exact k2
  · exact k3
  · exact k4
  · exact k5
end Go.Proofs.YtffjaaolcphonaaDoor
/- From the row's condition to life's table of states. -/
namespace Go.Proofs.YtffjaaolcphonaaDoor
open Go.RowKit
theorem from_datum : Rows.laid_wherry_life_from (H := Unit) = Lib.tabData .i64 fromT := by kernel_rfl
set_option maxRecDepth 100000 in
theorem tabF_of {W : World} (h : laidMet Tryd.prog [("math/bits.deBruijn64tab", Rows.laid_math_bits_deBruijn64tab), ("wherry/life.from", Rows.laid_wherry_life_from)] W) : TabF W := by
  obtain ⟨ps, hl, _⟩ := h
  obtain ⟨q0, h0⟩ := laid_tail hl
  rw [from_datum] at h0
  obtain ⟨g', t', cs, fuel, p, q, hg', ht', hvar, hd, _, _⟩ := h0
  have hg : Tryd.prog.globalNamed "wherry/life.from" = some 6 := by kernel_rfl
  have hty : (Tryd.prog.globals[6]?).map (·.type) = some 165 := by kernel_rfl
  obtain rfl := Option.some.inj (hg.symm.trans hg')
  obtain rfl := Option.some.inj (hty.symm.trans ht')
  have hT : Lib.TabIs Tryd.prog W "wherry/life.from" .i64 fromT := by
    unfold Lib.TabIs
    rw [hvar, ← Lib.cells_of_tab (k := .i64) (zs := fromT) Tryd.underlying165 Tryd.underlying3 (by kernel_rfl) (by kernel_rfl) hd]
  intro i hi
  have := hT.cell (g := 6) (by kernel_rfl) i (by simpa [fromT] using hi)
  exact this
end Go.Proofs.YtffjaaolcphonaaDoor
