/- LockNone returns true, whatever comes in; no condition. (The frame of the row: after the kit's proof-skeleton.mjs.) -/
import Derived.Test.YtffjaaolcphonaaRows
import Derived.Test.YtffjaaolcphonaaLockNo
import Derived.Test.YtffjaaolcphonaaActs
import Derived.WalkKit
import Derived.ProofKit
import Derived.OpenShut
import Derived.Below
import Derived.Lib.SmallJoins
namespace Go.Proofs.Ytffjaaolcphonaa.lockNone
open Go.Joins Go.ChangeShapes Go.WideShapes Go.ChangeAt Go.RowKit Go.Deep
set_option linter.unusedVariables false
theorem own : ownKnob Try.prog.godebug = none := by kernel_rfl

theorem walk (w : World) (k o c t : Int) (_ : (Lit.int .i64 k).wf = true) (_ : (Lit.int .i64 o).wf = true) (_ : (Lit.int .i64 c).wf = true) (_ : (Lit.int .i64 t).wf = true) :
    Calls Try.prog 18 #[.agg #[.int .i64 k, .int .i64 o, .int .i64 c, .int .i64 t]] w fun e w' => e = .returned (.bool true) ∧ Below w.heap.size w w' :=
  (lockNone w k o c t).mono fun e w' ⟨h1, h2⟩ => ⟨h1, h2.below (Nat.le_refl _) (fun _ h => h.elim)⟩

set_option maxRecDepth 100000 in
theorem lifted (os : Os) (started : os.Started) (H : Type) (enc : TypeId × Value → H) :
    ReturnsInHanded {} Try.checked os 18 .any (Rows.lockNoneSpec.pre6 enc Try.prog Try.f18 Rows.lockNoneRow.domain false) (Rows.lockNoneSpec.post enc Try.prog Try.f18 false true false false) := by
  refine returnsInHanded_of_change (C := Try.checked) own started (by kernel_rfl) Try.func18
    (ChangeSpec.witness6 (enc := enc) (C := Try.checked) false ⟨#[], #[.agg #[.int .i64 0, .int .i64 0, .int .i64 0, .int .i64 0]], []⟩ 8 (by kernel_rfl) (by kernel_rfl) (by kernel_rfl) (by kernel_rfl)) ?_
  intro W base args ds gs before hval0 hW hcnd _
  have hval : ∀ (j : Nat) t v, Try.f18.params[j]? = some t → args[j]? = some v → Value.okWide Try.prog W .any base t v := hval0
  have hW' := hW
  obtain ⟨p, q, hA0, hV, rfl, hfz, hnd⟩ := hW
  have hA : DataW.TrodAll enc Try.prog W 0 (fun _ => true) true Try.f18.params.toList args.toList ds p := hA0
  rw [Try.params18] at hA hval
  obtain ⟨v0, vs0, d0, ds0, p0, q0, hargs, rfl, rfl, h0, r0⟩ := trodAll_cons hA
  obtain ⟨rfl, rfl, rfl⟩ := trodAll_nil r0
  obtain rfl : args = #[v0] := by cases args; simp_all
  obtain ⟨rfl, rfl⟩ := trodVars_none hV
  have k0 := h0
  have lt0 : ∀ x ∈ p0, x.block < W.heap.size := by obtain ⟨m, hm⟩ := k0; exact DataW.trod_lt m _ _ _ hm
  obtain ⟨x0_0, x0_1, x0_2, x0_3, hx0⟩ : ∃ x0_0 x0_1 x0_2 x0_3 : Int, v0 = .agg #[.int .i64 x0_0, .int .i64 x0_1, .int .i64 x0_2, .int .i64 x0_3] ∧ (Lit.int .i64 x0_0).wf = true ∧ (Lit.int .i64 x0_1).wf = true ∧ (Lit.int .i64 x0_2).wf = true ∧ (Lit.int .i64 x0_3).wf = true := by
    obtain ⟨u0, u1, u2, u3, y0, y1, y2, y3, m, hv, _, _, e0, e1, e2, e3⟩ := open_agg4 Try.underlying107 (by kernel_rfl) (by kernel_rfl) (hval 0 107 v0 rfl rfl) h0
    obtain ⟨z0, hz0, _, g0⟩ := DataW.trod_int Try.underlying3 e0
    obtain ⟨z1, hz1, _, g1⟩ := DataW.trod_int Try.underlying3 e1
    obtain ⟨z2, hz2, _, g2⟩ := DataW.trod_int Try.underlying3 e2
    obtain ⟨z3, hz3, _, g3⟩ := DataW.trod_int Try.underlying3 e3
    obtain rfl : u0 = .int .i64 z0 := by simpa using hz0
    obtain rfl : u1 = .int .i64 z1 := by simpa using hz1
    obtain rfl : u2 = .int .i64 z2 := by simpa using hz2
    obtain rfl : u3 = .int .i64 z3 := by simpa using hz3
    exact ⟨z0, z1, z2, z3, hv, g0, g1, g2, g3⟩
  obtain ⟨rfl, g0_0, g0_1, g0_2, g0_3⟩ := hx0
  clear hA0 hval0
  simp only [List.append_nil] at hW'
  refine (walk W x0_0 x0_1 x0_2 x0_3 g0_0 g0_1 g0_2 g0_3).mono fun e W' ⟨he, bel⟩ => ?_
  subst he
  exact ⟨_, rfl, _, _, _, [], _, [], hW', trodAll_mk1 (shut_bool Try.underlying4 _), (trodAll_cons_mk (Below.trod laidOut (by kernel_rfl) (of_decide_eq_true (by kernel_rfl)) k0 bel lt0) trodAll_mk0), rfl, bel.frame _, fun h => by cases h⟩

theorem over : Rows.lockNoneRow.holds Try.pinned (OpenSpec.ofChange Rows.lockNoneSpec) :=
  OpenClaim.holds_of_wide 18 Try.f18 rfl rfl rfl rfl rfl rfl rfl ⟨rfl, rfl, rfl, rfl, rfl⟩ rfl rfl rfl rfl rfl (by kernel_rfl) Try.func18 (by kernel_rfl)
    (of_decide_eq_true (by kernel_rfl)) (by unfold Func.isWrapper; first | (rw [if_pos (by decide +kernel)]; kernel_rfl) | (rw [if_neg (by decide +kernel)]; exact ⟨rfl, rfl⟩))
    (fun os started H enc _ => lifted os started H enc)

/-- ████ THE STATEMENT ████ -/
theorem proved : Rows.LockNoneSaid :=
  over
#print axioms proved
end Go.Proofs.Ytffjaaolcphonaa.lockNone
