/- LinksActs returns true, whatever comes in; no condition. (The frame of the row: after the kit's proof-skeleton.mjs.) -/
import Derived.Test.YtffjaaolcphonaaRows
import Derived.Test.YtffjaaolcphonaaActs5
import Derived.Test.YtffjaaolcphonaaActs
import Derived.Test.YtffjaaolcphonaaArr2
import Derived.WalkKit
import Derived.ProofKit
import Derived.OpenShut
import Derived.Below
import Derived.Lib.SmallJoins
namespace Go.Proofs.Ytffjaaolcphonaa.linksActs
open Go.Joins Go.ChangeShapes Go.WideShapes Go.ChangeAt Go.RowKit Go.Deep
set_option linter.unusedVariables false
theorem own : ownKnob Try.prog.godebug = none := by kernel_rfl

theorem walk (w : World) (x y : Int) (a : Option Addr) (n c : Nat) (F : Nat → Nat → Int) (hF : IsRow3 3 w a n c F) (k i t : Int) (_ : (Lit.int .i64 k).wf = true) (_ : (Lit.int .i64 i).wf = true) (_ : (Lit.int .i64 t).wf = true) :
    Calls Try.prog 4 #[.agg #[.int .i64 x, .int .i64 y], .slice a n c, .agg #[.int .i64 k, .int .i64 i, .int .i64 t]] w fun e w' => e = .returned (.bool true) ∧ Below w.heap.size w w' :=
  (linksActs w x y a n c k i t F hF).mono fun e w' ⟨h1, h2⟩ => ⟨h1, h2.below (Nat.le_refl _) (fun _ h => h.elim)⟩

set_option maxRecDepth 100000 in
theorem lifted (os : Os) (started : os.Started) (H : Type) (enc : TypeId × Value → H) :
    ReturnsInHanded {} Try.checked os 4 .any (Rows.linksActsSpec.pre6 enc Try.prog Try.f4 Rows.linksActsRow.domain false) (Rows.linksActsSpec.post enc Try.prog Try.f4 false true false false) := by
  refine returnsInHanded_of_change (C := Try.checked) own started (by kernel_rfl) Try.func4
    (ChangeSpec.witness6 (enc := enc) (C := Try.checked) false ⟨#[], #[.agg #[.int .i64 0, .int .i64 0], .slice none 0 0, .agg #[.int .i64 0, .int .i64 0, .int .i64 0]], []⟩ 8 (by kernel_rfl) (by kernel_rfl) (by kernel_rfl) (by kernel_rfl)) ?_
  intro W base args ds gs before hval0 hW hcnd _
  have hval : ∀ (j : Nat) t v, Try.f4.params[j]? = some t → args[j]? = some v → Value.okWide Try.prog W .any base t v := hval0
  have hW' := hW
  obtain ⟨p, q, hA0, hV, rfl, hfz, hnd⟩ := hW
  have hA : DataW.TrodAll enc Try.prog W 0 (fun _ => true) true Try.f4.params.toList args.toList ds p := hA0
  rw [Try.params4] at hA hval
  obtain ⟨v0, vs0, d0, ds0, p0, q0, hargs, rfl, rfl, h0, r0⟩ := trodAll_cons hA
  obtain ⟨v1, vs1, d1, ds1, p1, q1, rfl, rfl, rfl, h1, r1⟩ := trodAll_cons r0
  obtain ⟨v2, vs2, d2, ds2, p2, q2, rfl, rfl, rfl, h2, r2⟩ := trodAll_cons r1
  obtain ⟨rfl, rfl, rfl⟩ := trodAll_nil r2
  obtain rfl : args = #[v0, v1, v2] := by cases args; simp_all
  obtain ⟨rfl, rfl⟩ := trodVars_none hV
  have k0 := h0
  have lt0 : ∀ x ∈ p0, x.block < W.heap.size := by obtain ⟨m, hm⟩ := k0; exact DataW.trod_lt m _ _ _ hm
  obtain ⟨x0_0, x0_1, rfl, g0_0, g0_1⟩ := open_arr2 Try.underlying36 Try.underlying3 (by kernel_rfl) (by kernel_rfl) (hval 0 36 v0 rfl rfl) h0
  obtain ⟨a1, len1, cap1, rfl⟩ := okWide_slice Try.underlying37 (hval 1 37 v1 rfl rfl)
  have k1 := h1
  have lt1 : ∀ x ∈ p1, x.block < W.heap.size := by obtain ⟨m, hm⟩ := k1; exact DataW.trod_lt m _ _ _ hm
  obtain ⟨F1, hF1⟩ : ∃ F, IsRow3 3 W a1 len1 cap1 F := by
    obtain ⟨fuel, hf⟩ := h1
    exact open_acts (by decide) Try.underlying37 Try.underlying39 (by kernel_rfl) (by kernel_rfl) rfl (fun j f hj => by
      match j, hj with
      | 0, hj => cases hj; exact Try.underlying3
      | 1, hj => cases hj; exact Try.underlying3
      | 2, hj => cases hj; exact Try.underlying3
      | j + 3, hj => simp at hj) hf
  have k2 := h2
  have lt2 : ∀ x ∈ p2, x.block < W.heap.size := by obtain ⟨m, hm⟩ := k2; exact DataW.trod_lt m _ _ _ hm
  obtain ⟨x2_0, x2_1, x2_2, hx2⟩ : ∃ x2_0 x2_1 x2_2 : Int, v2 = .agg #[.int .i64 x2_0, .int .i64 x2_1, .int .i64 x2_2] ∧ (Lit.int .i64 x2_0).wf = true ∧ (Lit.int .i64 x2_1).wf = true ∧ (Lit.int .i64 x2_2).wf = true := by
    obtain ⟨u0, u1, u2, y0, y1, y2, m, hv, _, _, e0, e1, e2⟩ := open_agg3 Try.underlying39 (by kernel_rfl) (by kernel_rfl) (hval 2 39 v2 rfl rfl) h2
    obtain ⟨z0, hz0, _, g0⟩ := DataW.trod_int Try.underlying3 e0
    obtain ⟨z1, hz1, _, g1⟩ := DataW.trod_int Try.underlying3 e1
    obtain ⟨z2, hz2, _, g2⟩ := DataW.trod_int Try.underlying3 e2
    obtain rfl : u0 = .int .i64 z0 := by simpa using hz0
    obtain rfl : u1 = .int .i64 z1 := by simpa using hz1
    obtain rfl : u2 = .int .i64 z2 := by simpa using hz2
    exact ⟨z0, z1, z2, hv, g0, g1, g2⟩
  obtain ⟨rfl, g2_0, g2_1, g2_2⟩ := hx2
  clear hA0 hval0
  simp only [List.append_nil] at hW'
  refine (walk W x0_0 x0_1 a1 len1 cap1 F1 hF1 x2_0 x2_1 x2_2 g2_0 g2_1 g2_2).mono fun e W' ⟨he, bel⟩ => ?_
  subst he
  exact ⟨_, rfl, _, _, _, [], _, [], hW', trodAll_mk1 (shut_bool Try.underlying4 _), (trodAll_cons_mk (Below.trod laidOut (by kernel_rfl) (of_decide_eq_true (by kernel_rfl)) k0 bel lt0) (trodAll_cons_mk (Below.trod laidOut (by kernel_rfl) (of_decide_eq_true (by kernel_rfl)) k1 bel lt1) (trodAll_cons_mk (Below.trod laidOut (by kernel_rfl) (of_decide_eq_true (by kernel_rfl)) k2 bel lt2) trodAll_mk0))), rfl, bel.frame _, fun h => by cases h⟩

theorem over : Rows.linksActsRow.holds Try.pinned (OpenSpec.ofChange Rows.linksActsSpec) :=
  OpenClaim.holds_of_wide 4 Try.f4 rfl rfl rfl rfl rfl rfl rfl ⟨rfl, rfl, rfl, rfl, rfl⟩ rfl rfl rfl rfl rfl (by kernel_rfl) Try.func4 (by kernel_rfl)
    (of_decide_eq_true (by kernel_rfl)) (by unfold Func.isWrapper; first | (rw [if_pos (by decide +kernel)]; kernel_rfl) | (rw [if_neg (by decide +kernel)]; exact ⟨rfl, rfl⟩))
    (fun os started H enc _ => lifted os started H enc)

/-- ████ THE STATEMENT ████ -/
theorem proved : Rows.LinksActsSaid :=
  over
#print axioms proved
end Go.Proofs.Ytffjaaolcphonaa.linksActs
