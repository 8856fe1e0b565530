/- An array of two whole numbers that came in, opened. -/
import Derived.Test.YtffjaaolcphonaaBdA
import Derived.OpenShut
import Derived.Deep.Slices
import Derived.Lib.SmallJoins
namespace Go.Proofs.Ytffjaaolcphonaa
open Go.ChangeShapes Go.WideShapes Go.Deep Go.RowKit Go.Joins
set_option maxRecDepth 100000 in
theorem open_arr2 {H : Type} {enc : TypeId × Value → H} {w : World} {base b0 : Nat} {sp : Nat → Bool} {held : Bool} {r : Reach} {t e : TypeId} {K : IntKind} {v : Value} {d : DataW H} {p : List MemPlace}
    (ht : Try.prog.underlying t = some (.array 2 e)) (he : Try.prog.underlying e = some (.int K)) (hC : Try.prog.cellsOf e = 1) (hCt : Try.prog.cellsOf t = 2)
    (hv : Value.okWide Try.prog w r b0 t v) (h : DataW.Trod enc Try.prog w base sp held t v d p) :
    ∃ a b : Int, v = .agg #[.int K a, .int K b] ∧ (Lit.int K a).wf = true ∧ (Lit.int K b).wf = true := by
  unfold Value.okWide at hv
  rw [ht] at hv
  obtain ⟨cs, rfl, hsz, _⟩ := hv
  rw [hCt] at hsz
  obtain ⟨l⟩ := cs
  match l, hsz with
  | [c0, c1], _ =>
    obtain ⟨fuel, hf⟩ := h
    obtain ⟨xs, m, _, _, _, hlen, hi⟩ := DataW.trod_array ht hf
    rw [hC] at hi
    have h0 := hi 0 (by omega)
    have h1 := hi 1 (by omega)
    match xs, hlen with
    | [y0, y1], _ =>
      obtain ⟨a, ha, _, wa⟩ := DataW.trod_int he h0
      obtain ⟨b, hb, _, wb⟩ := DataW.trod_int he h1
      simp [Value.cells] at ha hb
      subst ha hb
      exact ⟨a, b, rfl, wa, wb⟩
end Go.Proofs.Ytffjaaolcphonaa
