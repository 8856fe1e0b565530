/- LinksNone: what was never made answers so. -/
import Derived.Test.YtffjaaolcphonaaLinksN2
import Derived.Test.YtffjaaolcphonaaLinksL
namespace Go.Proofs.Ytffjaaolcphonaa
open Go.RowKit
set_option maxRecDepth 100000 in
set_option maxHeartbeats 2000000 in
theorem linksNone (w : World) (k o t : Int) :
    Calls Try.prog 9 #[.agg #[.int .i64 k, .int .i64 o, .int .i64 t]] w fun e w' => e = .returned (.bool true) ∧ Still w w' := by
  go_enter Try.func9, Try.ntmps9
  go_wp2_with fail
  refine wp_abs (fun W => Still w W ∧ W.cell? ⟨w.heap.size, 1, none⟩ = some (.int .i64 o) ∧ W.cell? ⟨w.heap.size, 2, none⟩ = some (.int .i64 t) ∧ W.cell? ⟨w.heap.size + 1, 0, none⟩ = some (.int .i64 0) ∧ W.cell? ⟨w.heap.size + 1, 4, none⟩ = some (.slice none 0 0)) ?_ ?_
  · have e := (Blk.new w [.int .i64 k, .int .i64 o, .int .i64 t] 39).alloc (Obj.cells #[.int .i64 0, .slice none 0 0, .slice none 0 0, .slice none 0 0, .slice none 0 0] 63)
    have e2 := Blk.new (w.alloc (Obj.cells #[.int .i64 k, .int .i64 o, .int .i64 t] 39)) [.int .i64 0, .slice none 0 0, .slice none 0 0, .slice none 0 0, .slice none 0 0] 63
    rw [show (w.alloc (Obj.cells #[.int .i64 k, .int .i64 o, .int .i64 t] 39)).heap.size = w.heap.size + 1 from Array.size_push _] at e2
    exact ⟨((Fr.refl _ _).alloc _).alloc _, e.cell 1, e.cell 2, e2.cell 0, e2.cell 4⟩
  rintro W ⟨hW, c1, c2, c3, c4⟩
  have hn : LNone W (.pointer (some ⟨w.heap.size + 1, 0, none⟩)) := .inr ⟨_, rfl, c3, c4⟩
  have h0 : LNone W (.pointer none) := .inl rfl
  obtain ⟨v1, hv1⟩ : ∃ v, Value.pointer (some ⟨w.heap.size + 1, 0, none⟩) = v := ⟨_, rfl⟩
  rw [hv1] at hn ⊢
  clear hv1
  have i0 : ∀ w, (Instr.index 64 (.agg #[.pointer none, v1]) (.int .i64 0)).run Try.prog w = .ok (.pointer none) w := fun _ => by kernel_rfl
  have i1 : ∀ w, (Instr.index 64 (.agg #[.pointer none, v1]) (.int .i64 1)).run Try.prog w = .ok v1 w := fun _ => by kernel_rfl
  go_loopw [2, 13] (fun r i wr => r = .bool false ∧ (i = .int .i64 0 ∨ i = .int .i64 1 ∨ i = .int .i64 2) ∧ Still W wr) (fun _ i _ => 2 - (intOf i).toNat)
  case atStart => exact ⟨rfl, .inl rfl, Fr.refl _ _⟩
  case round =>
    obtain ⟨rfl, hi, hst⟩ := hrel
    replace hn := hn.still hst
    replace h0 := h0.still hst
    replace c1 := hst.at c1
    replace c2 := hst.at c2
    rcases hi with rfl | rfl | rfl
    · go_wp2_with fail
      refine (ln_pop _ _ h0 _).mono ?_
      rintro e w1 ⟨rfl, hs1⟩
      replace h0 := h0.still hs1
      replace c1 := hs1.at c1
      replace c2 := hs1.at c2
      go_wp2_with fail
      refine (ln_move _ _ h0 _ _).mono ?_
      rintro e w2 ⟨rfl, hs2⟩
      replace h0 := h0.still hs2
      replace c1 := hs2.at c1
      replace c2 := hs2.at c2
      go_wp2_with fail
      refine (all_none _ _ _ h0).mono ?_
      rintro e w3 ⟨a3, cp3, rfl, hs3⟩
      replace h0 := h0.still hs3
      replace c1 := hs3.at c1
      replace c2 := hs3.at c2
      go_wp2_with fail
      refine (ln_push _ _ h0 _ _).mono ?_
      rintro e w4 ⟨rfl, hs4⟩
      replace h0 := h0.still hs4
      replace c1 := hs4.at c1
      replace c2 := hs4.at c2
      go_wp2_with fail
      refine (ln_front _ _ h0 _ _).mono ?_
      rintro e w5 ⟨rfl, hs5⟩
      replace h0 := h0.still hs5
      replace c1 := hs5.at c1
      replace c2 := hs5.at c2
      go_wp2_with fail
      refine (ln_remove _ _ h0 _).mono ?_
      rintro e w6 ⟨rfl, hs6⟩
      replace h0 := h0.still hs6
      replace c1 := hs6.at c1
      replace c2 := hs6.at c2
      go_wp2_with (first | (go_at_call 25; refine (ln_len _ _ h0 _).mono ?_; rintro e w' ⟨rfl, rfl⟩) | (go_at_call 29; refine (ln_where _ _ h0 _).mono ?_; rintro e w' ⟨rfl, rfl⟩) | (go_at_call 38; refine (ln_copy _ _ h0).mono ?_; rintro e w' ⟨rfl, rfl⟩))
      go_roundw
      case rel => exact ⟨rfl, .inr (.inl rfl), hst.trans (hs1.trans (hs2.trans (hs3.trans (hs4.trans (hs5.trans hs6)))))⟩
      case measure => simp [intOf]
    · go_wp2_with fail
      refine (ln_pop _ _ hn _).mono ?_
      rintro e w1 ⟨rfl, hs1⟩
      replace hn := hn.still hs1
      replace c1 := hs1.at c1
      replace c2 := hs1.at c2
      go_wp2_with fail
      refine (ln_move _ _ hn _ _).mono ?_
      rintro e w2 ⟨rfl, hs2⟩
      replace hn := hn.still hs2
      replace c1 := hs2.at c1
      replace c2 := hs2.at c2
      go_wp2_with fail
      refine (all_none _ _ _ hn).mono ?_
      rintro e w3 ⟨a3, cp3, rfl, hs3⟩
      replace hn := hn.still hs3
      replace c1 := hs3.at c1
      replace c2 := hs3.at c2
      go_wp2_with fail
      refine (ln_push _ _ hn _ _).mono ?_
      rintro e w4 ⟨rfl, hs4⟩
      replace hn := hn.still hs4
      replace c1 := hs4.at c1
      replace c2 := hs4.at c2
      go_wp2_with fail
      refine (ln_front _ _ hn _ _).mono ?_
      rintro e w5 ⟨rfl, hs5⟩
      replace hn := hn.still hs5
      replace c1 := hs5.at c1
      replace c2 := hs5.at c2
      go_wp2_with fail
      refine (ln_remove _ _ hn _).mono ?_
      rintro e w6 ⟨rfl, hs6⟩
      replace hn := hn.still hs6
      replace c1 := hs6.at c1
      replace c2 := hs6.at c2
      go_wp2_with (first | (go_at_call 25; refine (ln_len _ _ hn _).mono ?_; rintro e w' ⟨rfl, rfl⟩) | (go_at_call 29; refine (ln_where _ _ hn _).mono ?_; rintro e w' ⟨rfl, rfl⟩) | (go_at_call 38; refine (ln_copy _ _ hn).mono ?_; rintro e w' ⟨rfl, rfl⟩))
      go_roundw
      case rel => exact ⟨rfl, .inr (.inr rfl), hst.trans (hs1.trans (hs2.trans (hs3.trans (hs4.trans (hs5.trans hs6)))))⟩
      case measure => simp [intOf]
    · go_wp2_with (go_at_call 20; refine (llives _).mono ?_; rintro e w6 ⟨rfl, hs6⟩)
      go_ret
      exact ⟨rfl, (hW.trans hst).trans hs6⟩
end Go.Proofs.Ytffjaaolcphonaa
