/- JoinNone: the walk. -/
import Derived.Test.YtffjaaolcphonaaJoinZ
namespace Go.Proofs.Ytffjaaolcphonaa
open Go.RowKit
set_option linter.unusedSimpArgs false
theorem idx97_0 (u v : Value) : ∀ w, (Instr.index 97 (.agg #[u, v]) (.int .i64 0)).run Try.prog w = .ok u w := fun _ => by kernel_rfl
theorem idx97_1 (u v : Value) : ∀ w, (Instr.index 97 (.agg #[u, v]) (.int .i64 1)).run Try.prog w = .ok v w := fun _ => by kernel_rfl
set_option maxRecDepth 100000 in
set_option maxHeartbeats 8000000 in
theorem joinNone (w : World) (k p a y b : Int) (r : Bool) (v : Int) : Calls Try.prog 14 #[.agg #[.int .i64 k, .int .i64 p, .int .i64 a, .int .i64 y, .int .i64 b, .bool r, .int .i64 v]] w fun e w' => e = .returned (.bool true) ∧ Still w w' := by
  go_enter Try.func14, Try.ntmps14
  go_wp2_with fail
  obtain ⟨W, b1, z, hW, hb1, hz, hs, c6, cz⟩ : ∃ W b1 z, W = (w.alloc (.cells #[.int .i64 k, .int .i64 p, .int .i64 a, .int .i64 y, .int .i64 b, .bool r, .int .i64 v] 87)).alloc (.cells #[.slice none 0 0, .slice none 0 0, .pointer none] 96) ∧ b1 = w.heap.size ∧ z = w.heap.size + 1 ∧ Still w W ∧
      W.cell? ⟨b1, 6, none⟩ = some (.int .i64 v) ∧ W.cell? ⟨z, 2, none⟩ = some (.pointer none) :=
    ⟨_, _, _, rfl, rfl, rfl, ((Fr.refl _ w).alloc _).alloc _, ((Blk.new w [.int .i64 k, .int .i64 p, .int .i64 a, .int .i64 y, .int .i64 b, .bool r, .int .i64 v] 87).alloc _).cell 6, (blk_new1 w _ [.slice none 0 0, .slice none 0 0, .pointer none] 96).cell 2⟩
  rw [← hW, ← hz, ← hb1]
  clear hW hb1 hz
  refine (jids58 W k p a y b r v).mono ?_
  rintro e w1 ⟨rfl, hs1⟩
  obtain ⟨id, hid1⟩ : ∃ x, (if r = true then p else idMk p a) = x := ⟨_, rfl⟩
  obtain ⟨by', hby⟩ : ∃ x, (if r = true then y else idMk y b) = x := ⟨_, rfl⟩
  rw [hid1, hby]
  clear hid1 hby
  go_wp2_with fail
  go_loopw [19] (fun c wr => ∃ j : Nat, c = .int .i64 j ∧ j ≤ 2 ∧ Still W wr) (fun c _ => 2 - (intOf c).toNat)
  case atStart => exact ⟨0, rfl, by omega, hs1⟩
  case round =>
    clear hs1
    obtain ⟨j, rfl, hj, hst⟩ := hrel
    by_cases hlt : j < 2
    · have hlt' : (j : Int) < 2 := by omega
      have e6 := hid (Still.cell hst c6)
      obtain ⟨V, hV, HN⟩ : ∃ V, (∀ w, (Instr.index 97 (.agg #[.pointer none, .pointer (some ⟨z, 0, none⟩)]) (.int .i64 (j : Int))).run Try.prog w = .ok V w) ∧ JNone wr V := by
        rcases (show j = 0 ∨ j = 1 by omega) with rfl | rfl
        · exact ⟨_, idx97_0 _ _, .inl rfl⟩
        · exact ⟨_, idx97_1 _ _, .inr ⟨z, rfl, Still.cell hst cz⟩⟩
      have H1 := hid (fun W' (hs : Still wr W') x => jz_end W' V (HN.still hs) id x)
      have H2 := hid (fun W' (hs : Still wr W') => jz_join W' V (HN.still hs) id by')
      have H3 := hid (fun W' (hs : Still wr W') => jz_start W' V (HN.still hs) id)
      have H4 := hid (fun W' (hs : Still wr W') => jz_waiters W' V (HN.still hs) id)
      have H5 := hid (fun W' (hs : Still wr W') => jz_where W' V (HN.still hs) by')
      have H6 := hid (fun W' (hs : Still wr W') => jz_state W' V (HN.still hs) id)
      have H7 := hid (fun W' (hs : Still wr W') => jz_drop W' V (HN.still hs) by')
      have H8 := hid (fun W' (hs : Still wr W') => jz_copy W' V (HN.still hs))
      have e6' := e6.out
      clear HN
      go_wp2_with fail
      refine (H1.out _ (Still.refl _) _).mono ?_
      rintro e w' ⟨rfl, rfl⟩
      go_wp2_with fail
      refine (H2.out _ (Still.refl _)).mono ?_
      rintro e w2 ⟨rfl, q2⟩
      go_wp2_with (first
        | (go_at_call 46; refine (H3.out _ q2).mono ?_; rintro e w' ⟨rfl, rfl⟩)
        | (go_at_call 59; refine (H4.out _ q2).mono ?_; rintro e w' ⟨rfl, rfl⟩)
        | (go_at_call 48; refine (H5.out _ q2).mono ?_; rintro e w' ⟨rfl, rfl⟩)
        | (go_at_call 50; refine (H6.out _ q2).mono ?_; rintro e w' ⟨rfl, rfl⟩)
        | (go_at_call 62; refine (H7.out _ q2).mono ?_; rintro e w3 ⟨rfl, q3⟩)
        | (go_at_call 63; refine (H8.out _ (q2.trans q3)).mono ?_; rintro e w' ⟨rfl, rfl⟩))
      go_roundw
      case rel => exact ⟨j + 1, by go_num, by omega, (hst.trans q2).trans q3⟩
      case measure => simp [intOf]; omega
    · have hlt' : ¬ (j : Int) < 2 := by omega
      go_wp2_with (go_at_call 51; refine (jlives _).mono ?_; rintro e w' ⟨rfl, hs13⟩)
      go_ret
      exact ⟨rfl, (hs.trans hst).trans hs13⟩
end Go.Proofs.Ytffjaaolcphonaa
