/- LinksNone returns true, whatever comes in; no condition. (The frame of the row: after the kit's proof-skeleton.mjs.) -/
import Derived.Test.YtffjaaolcphonaaRows
import Derived.Test.YtffjaaolcphonaaLinksNo
import Derived.Test.YtffjaaolcphonaaActs
import Derived.WalkKit
import Derived.ProofKit
import Derived.OpenShut
import Derived.Below
import Derived.Lib.SmallJoins
namespace Go.Proofs.Ytffjaaolcphonaa.linksNone
open Go.Joins Go.ChangeShapes Go.WideShapes Go.ChangeAt Go.RowKit Go.Deep
set_option linter.unusedVariables false
theorem own : ownKnob Try.prog.godebug = none := by kernel_rfl

theorem walk (k o t : Int) (_ : (Lit.int .i64 k).wf = true) (_ : (Lit.int .i64 o).wf = true) (_ : (Lit.int .i64 t).wf = true) (w : World) :
    Calls Try.prog 9 #[.agg #[.int .i64 k, .int .i64 o, .int .i64 t]] w fun e w' => e = .returned (.bool true) ∧ Below w.heap.size w w' :=
  (linksNone w k o t).mono fun e w' ⟨h1, h2⟩ => ⟨h1, h2.below (Nat.le_refl _) (fun _ h => h.elim)⟩

set_option maxRecDepth 100000 in
theorem lifted (os : Os) (started : os.Started) (H : Type) (enc : TypeId × Value → H) :
    ReturnsInHanded {} Try.checked os 9 .any (Rows.linksNoneSpec.pre6 enc Try.prog Try.f9 Rows.linksNoneRow.domain false) (Rows.linksNoneSpec.post enc Try.prog Try.f9 false true false false) := by
  refine returnsInHanded_of_change (C := Try.checked) own started (by kernel_rfl) Try.func9
    (ChangeSpec.witness6 (enc := enc) (C := Try.checked) false ⟨#[], #[.agg #[.int .i64 0, .int .i64 0, .int .i64 0]], []⟩ 8 (by kernel_rfl) (by kernel_rfl) (by kernel_rfl) (by kernel_rfl)) ?_
  intro W base args ds gs before hval0 hW hcnd _
  have hval : ∀ (j : Nat) t v, Try.f9.params[j]? = some t → args[j]? = some v → Value.okWide Try.prog W .any base t v := hval0
  have hW' := hW
  obtain ⟨p, q, hA0, hV, rfl, hfz, hnd⟩ := hW
  have hA : DataW.TrodAll enc Try.prog W 0 (fun _ => true) true Try.f9.params.toList args.toList ds p := hA0
  rw [Try.params9] at hA hval
  obtain ⟨v0, vs0, d0, ds0, p0, q0, hargs, rfl, rfl, h0, r0⟩ := trodAll_cons hA
  obtain ⟨rfl, rfl, rfl⟩ := trodAll_nil r0
  obtain rfl : args = #[v0] := by cases args; simp_all
  obtain ⟨rfl, rfl⟩ := trodVars_none hV
  have k0 := h0
  have lt0 : ∀ x ∈ p0, x.block < W.heap.size := by obtain ⟨m, hm⟩ := k0; exact DataW.trod_lt m _ _ _ hm
  obtain ⟨x0_0, x0_1, x0_2, hx0⟩ : ∃ x0_0 x0_1 x0_2 : Int, v0 = .agg #[.int .i64 x0_0, .int .i64 x0_1, .int .i64 x0_2] ∧ (Lit.int .i64 x0_0).wf = true ∧ (Lit.int .i64 x0_1).wf = true ∧ (Lit.int .i64 x0_2).wf = true := by
    obtain ⟨u0, u1, u2, y0, y1, y2, m, hv, _, _, e0, e1, e2⟩ := open_agg3 Try.underlying39 (by kernel_rfl) (by kernel_rfl) (hval 0 39 v0 rfl rfl) h0
    obtain ⟨z0, hz0, _, g0⟩ := DataW.trod_int Try.underlying3 e0
    obtain ⟨z1, hz1, _, g1⟩ := DataW.trod_int Try.underlying3 e1
    obtain ⟨z2, hz2, _, g2⟩ := DataW.trod_int Try.underlying3 e2
    obtain rfl : u0 = .int .i64 z0 := by simpa using hz0
    obtain rfl : u1 = .int .i64 z1 := by simpa using hz1
    obtain rfl : u2 = .int .i64 z2 := by simpa using hz2
    exact ⟨z0, z1, z2, hv, g0, g1, g2⟩
  obtain ⟨rfl, g0_0, g0_1, g0_2⟩ := hx0
  clear hA0 hval0
  simp only [List.append_nil] at hW'
  refine (walk x0_0 x0_1 x0_2 g0_0 g0_1 g0_2 W).mono fun e W' ⟨he, bel⟩ => ?_
  subst he
  exact ⟨_, rfl, _, _, _, [], _, [], hW', trodAll_mk1 (shut_bool Try.underlying4 _), (trodAll_cons_mk (Below.trod laidOut (by kernel_rfl) (of_decide_eq_true (by kernel_rfl)) k0 bel lt0) trodAll_mk0), rfl, bel.frame _, fun h => by cases h⟩

theorem over : Rows.linksNoneRow.holds Try.pinned (OpenSpec.ofChange Rows.linksNoneSpec) :=
  OpenClaim.holds_of_wide 9 Try.f9 rfl rfl rfl rfl rfl rfl rfl ⟨rfl, rfl, rfl, rfl, rfl⟩ rfl rfl rfl rfl rfl (by kernel_rfl) Try.func9 (by kernel_rfl)
    (of_decide_eq_true (by kernel_rfl)) (by unfold Func.isWrapper; first | (rw [if_pos (by decide +kernel)]; kernel_rfl) | (rw [if_neg (by decide +kernel)]; exact ⟨rfl, rfl⟩))
    (fun os started H enc _ => lifted os started H enc)

/-- ████ THE STATEMENT ████ -/
theorem proved : Rows.LinksNoneSaid :=
  over
#print axioms proved
end Go.Proofs.Ytffjaaolcphonaa.linksNone
