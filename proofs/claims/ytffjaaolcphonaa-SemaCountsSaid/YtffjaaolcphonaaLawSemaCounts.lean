/- SemaCounts of package wherrylaw20 returns true, whatever its acts are; no condition. (The frame of the row: after the kit's proof-skeleton.mjs.) -/
import Derived.Test.YtffjaaolcphonaaRows
import Derived.Test.YtffjaaolcphonaaSemaC
import Derived.Test.YtffjaaolcphonaaActs
import Derived.WalkKit
import Derived.ProofKit
import Derived.OpenShut
import Derived.Below
namespace Go.Proofs.Ytffjaaolcphonaa.semaCounts
open Go.ChangeShapes Go.WideShapes Go.ChangeAt Go.RowKit

theorem own : ownKnob Try.prog.godebug = none := by kernel_rfl

set_option maxRecDepth 100000 in
set_option maxHeartbeats 2000000 in
theorem walk0 (w : World) (a : Option Addr) (cap : Nat) :
    Calls Try.prog 8 #[.slice a 0 cap] w fun e w' => e = .returned (.bool true) ∧ Still w w' := by
  go_enter Try.func8, Try.ntmps8
  go_wp2_with fail
  refine (snew _ 1 8 (by omega) (by omega) (by omega) (by omega)).mono ?_
  rintro e w1 ⟨P, B, rfl, h1, hs, hnn⟩
  go_wp2_with (go_at_call 37; refine (slives _).mono ?_; rintro e w6 ⟨rfl, hs6⟩)
  go_loopw [4, 5, 27] (fun u t i wr => u = .int .i64 0 ∧ t = .int .i64 0 ∧ i = .int .i64 0 ∧ Still w wr) (fun _ _ _ _ => 0)
  case atStart => exact ⟨rfl, rfl, rfl, hs⟩
  case round =>
    obtain ⟨rfl, rfl, rfl, hst⟩ := hrel
    go_wp2_with (go_at_call 37; refine (slives _).mono ?_; rintro e w6 ⟨rfl, hs6⟩)
    go_ret
    exact ⟨rfl, hst.trans hs6⟩

theorem walk (a : Option Addr) (len cap : Nat) (F : Nat → Nat → Int) (w : World) (h : IsRow3 3 w a len cap F) :
    Calls Try.prog 8 #[.slice a len cap] w fun e w' => e = .returned (.bool true) ∧ Below w.heap.size w w' := by
  rcases h with rfl | ⟨b, off, rfl, h0, hl, hm, hb, hc⟩
  · exact (walk0 w a cap).mono fun e w' ⟨h1, h2⟩ => ⟨h1, h2.below (Nat.le_refl _) (fun _ h => h.elim)⟩
  · exact (semaCounts_row w b off len cap F hb (by have : maxLen = 9223372036854775807 := rfl; omega) hc).mono fun e w' ⟨h1, h2⟩ => ⟨h1, h2.below (Nat.le_refl _) (fun _ h => h.elim)⟩

set_option maxRecDepth 100000 in
theorem lifted (os : Os) (started : os.Started) (H : Type) (enc : TypeId × Value → H) :
    ReturnsInHanded {} Try.checked os 8 .any (Rows.semaCountsSpec.pre6 enc Try.prog Try.f8 Rows.semaCountsRow.domain false) (Rows.semaCountsSpec.post enc Try.prog Try.f8 false true false false) := by
  refine returnsInHanded_of_change (C := Try.checked) own started (by kernel_rfl) Try.func8
    (ChangeSpec.witness6 (enc := enc) (C := Try.checked) false ⟨#[], #[.slice none 0 0], []⟩ 8 (by kernel_rfl) (by kernel_rfl) (by kernel_rfl) (by kernel_rfl)) ?_
  intro W base args ds gs before hval0 hW hcnd _
  have hval : ∀ (j : Nat) t v, Try.f8.params[j]? = some t → args[j]? = some v → Value.okWide Try.prog W .any base t v := hval0
  have hW' := hW
  obtain ⟨p, q, hA0, hV, rfl, hfz, hnd⟩ := hW
  have hA : DataW.TrodAll enc Try.prog W 0 (fun _ => true) true Try.f8.params.toList args.toList ds p := hA0
  rw [Try.params8] at hA hval
  obtain ⟨v0, vs0, d0, ds0, p0, q0, hargs, rfl, rfl, h0, r0⟩ := trodAll_cons hA
  obtain ⟨rfl, rfl, rfl⟩ := trodAll_nil r0
  obtain rfl : args = #[v0] := by cases args; simp_all
  obtain ⟨rfl, rfl⟩ := trodVars_none hV
  obtain ⟨a0, len0, cap0, rfl⟩ := okWide_slice Try.underlying57 (hval 0 57 v0 rfl rfl)
  have k0 := h0
  have lt0 : ∀ x ∈ p0, x.block < W.heap.size := by obtain ⟨m, hm⟩ := k0; exact DataW.trod_lt m _ _ _ hm
  obtain ⟨F, hF⟩ : ∃ F, IsRow3 3 W a0 len0 cap0 F := by
    obtain ⟨fuel, hf⟩ := h0
    exact open_acts (by decide) Try.underlying57 Try.underlying59 (by kernel_rfl) (by kernel_rfl) rfl (fun j f hj => by
      match j, hj with
      | 0, hj => cases hj; exact Try.underlying3
      | 1, hj => cases hj; exact Try.underlying3
      | 2, hj => cases hj; exact Try.underlying3
      | j + 3, hj => simp at hj) hf
  clear hA0 hval0
  simp only [List.append_nil] at hW'
  refine (walk a0 len0 cap0 F W hF).mono fun e W' ⟨he, bel⟩ => ?_
  subst he
  exact ⟨_, rfl, _, _, _, [], _, [], hW', trodAll_mk1 (shut_bool Try.underlying4 _), (trodAll_cons_mk (Below.trod laidOut (by kernel_rfl) (of_decide_eq_true (by kernel_rfl)) k0 bel lt0) trodAll_mk0), rfl, bel.frame _, fun h => by cases h⟩

theorem over : Rows.semaCountsRow.holds Try.pinned (OpenSpec.ofChange Rows.semaCountsSpec) :=
  OpenClaim.holds_of_wide 8 Try.f8 rfl rfl rfl rfl rfl rfl rfl ⟨rfl, rfl, rfl, rfl, rfl⟩ rfl rfl rfl rfl rfl (by kernel_rfl) Try.func8 (by kernel_rfl)
    (of_decide_eq_true (by kernel_rfl)) (by unfold Func.isWrapper; first | (rw [if_pos (by decide +kernel)]; kernel_rfl) | (rw [if_neg (by decide +kernel)]; exact ⟨rfl, rfl⟩))
    (fun os started H enc _ => lifted os started H enc)

/-- ████ THE STATEMENT ████ -/
theorem proved : Rows.SemaCountsSaid :=
  over
#print axioms proved
end Go.Proofs.Ytffjaaolcphonaa.semaCounts
