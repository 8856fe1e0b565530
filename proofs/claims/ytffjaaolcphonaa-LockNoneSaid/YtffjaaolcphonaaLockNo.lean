/- LockNone: what was never made does nothing. -/
import Derived.Test.YtffjaaolcphonaaLockZ
namespace Go.Proofs.Ytffjaaolcphonaa
open Go.RowKit
set_option maxRecDepth 100000 in
set_option maxHeartbeats 4000000 in
theorem lockNone (w : World) (k o c t : Int) :
    Calls Try.prog 18 #[.agg #[.int .i64 k, .int .i64 o, .int .i64 c, .int .i64 t]] w fun e w' => e = .returned (.bool true) ∧ Still w w' := by
  go_enter Try.func18, Try.ntmps18
  go_wp2_with fail
  refine wp_abs (fun W => Still w W ∧ W.cell? ⟨w.heap.size, 1, none⟩ = some (.int .i64 o) ∧ W.cell? ⟨w.heap.size, 2, none⟩ = some (.int .i64 c) ∧ W.cell? ⟨w.heap.size, 3, none⟩ = some (.int .i64 t) ∧ W.cell? ⟨w.heap.size + 1, 2, none⟩ = some (.pointer none)) ?_ ?_
  · have e := (Blk.new w [.int .i64 k, .int .i64 o, .int .i64 c, .int .i64 t] 107).alloc (.cells #[.slice none 0 0, .slice none 0 0, .pointer none] 114)
    have e2 := blk_new1 w (.cells #[.int .i64 k, .int .i64 o, .int .i64 c, .int .i64 t] 107) [.slice none 0 0, .slice none 0 0, .pointer none] 114
    exact ⟨((Fr.refl _ _).alloc _).alloc _, e.cell 1, e.cell 2, e.cell 3, e2.cell 2⟩
  rintro W ⟨hW, c1, c2, c3, c4⟩
  have hn : KNone W (.pointer (some ⟨w.heap.size + 1, 0, none⟩)) := .inr ⟨_, rfl, c4⟩
  have h0 : KNone W (.pointer none) := .inl rfl
  obtain ⟨v1, hv1⟩ : ∃ v, Value.pointer (some ⟨w.heap.size + 1, 0, none⟩) = v := ⟨_, rfl⟩
  rw [hv1] at hn ⊢
  clear hv1
  have i0 : ∀ w, (Instr.index 115 (.agg #[.pointer none, v1]) (.int .i64 0)).run Try.prog w = .ok (.pointer none) w := fun _ => by kernel_rfl
  have i1 : ∀ w, (Instr.index 115 (.agg #[.pointer none, v1]) (.int .i64 1)).run Try.prog w = .ok v1 w := fun _ => by kernel_rfl
  go_loopw [2, 19] (fun r i wr => r = .bool false ∧ (i = .int .i64 0 ∨ i = .int .i64 1 ∨ i = .int .i64 2) ∧ Still W wr) (fun _ i _ => 2 - (intOf i).toNat)
  case atStart => exact ⟨rfl, .inl rfl, Fr.refl _ _⟩
  case round =>
    obtain ⟨rfl, hi, hst⟩ := hrel
    replace hn := hn.still hst
    replace h0 := h0.still hst
    replace c1 := Still.cell hst c1
    replace c2 := Still.cell hst c2
    replace c3 := Still.cell hst c3
    rcases hi with rfl | rfl | rfl
    · go_wp2_with fail
      refine (kn_lock _ _ h0 _ _).mono ?_
      rintro e w1 ⟨rfl, hs1⟩
      replace h0 := h0.still hs1
      replace c1 := Still.cell hs1 c1
      replace c2 := Still.cell hs1 c2
      replace c3 := Still.cell hs1 c3
      go_wp2_with fail
      refine (kn_unlock _ _ h0 _ _).mono ?_
      rintro e w2 ⟨rfl, hs2⟩
      replace h0 := h0.still hs2
      replace c1 := Still.cell hs2 c1
      replace c2 := Still.cell hs2 c2
      replace c3 := Still.cell hs2 c3
      go_wp2_with fail
      refine (kn_wait _ _ h0 _ _ _).mono ?_
      rintro e w3 ⟨rfl, hs3⟩
      replace h0 := h0.still hs3
      replace c1 := Still.cell hs3 c1
      replace c2 := Still.cell hs3 c2
      replace c3 := Still.cell hs3 c3
      go_wp2_with fail
      refine (kn_signal _ _ h0 _).mono ?_
      rintro e w4 ⟨rfl, hs4⟩
      replace h0 := h0.still hs4
      replace c1 := Still.cell hs4 c1
      replace c2 := Still.cell hs4 c2
      replace c3 := Still.cell hs4 c3
      go_wp2_with fail
      refine (kn_cast _ _ h0 _).mono ?_
      rintro e w5 ⟨rfl, hs5⟩
      replace h0 := h0.still hs5
      replace c1 := Still.cell hs5 c1
      replace c2 := Still.cell hs5 c2
      replace c3 := Still.cell hs5 c3
      go_wp2_with fail
      refine (kn_where _ _ h0 _).mono ?_
      rintro e w6 ⟨rfl, hs6⟩
      replace h0 := h0.still hs6
      replace c1 := Still.cell hs6 c1
      replace c2 := Still.cell hs6 c2
      replace c3 := Still.cell hs6 c3
      go_wp2_with fail
      simp only [List.append_eq, List.cons_append, List.nil_append]
      go_region_held3 (fun w' => w'.cell? ⟨w.heap.size, 1, none⟩ = some (.int .i64 o) ∧ w'.cell? ⟨w.heap.size, 2, none⟩ = some (.int .i64 c) ∧ w'.cell? ⟨w.heap.size, 3, none⟩ = some (.int .i64 t))
        (first | exact ⟨c1, c2, c3⟩ | exact ⟨Still.cell ‹Still w6 _› c1, Still.cell ‹Still w6 _› c2, Still.cell ‹Still w6 _› c3⟩)
        (first
          | (go_at_call 73; refine (kn_drop _ _ (h0.still (Fr.drew (Fr.refl _ _))) _).mono ?_; rintro e w7 ⟨rfl, hs7'⟩; have hs7 : Still w6 w7 := (Fr.refl _ w6).drew.trans hs7')
          | (go_at_call 70; refine (kn_waiters _ _ (h0.still hs7) _).mono ?_; rintro e w8 ⟨rfl, hs8'⟩; have hs8 : Still w6 w8 := hs7.trans hs8')
          | (go_at_call 65; refine (kn_sleepers _ _ (h0.still hs8) _).mono ?_; rintro e w9 ⟨rfl, hs9'⟩; have hs9 : Still w6 w9 := hs8.trans hs9')
          | (go_at_call 56; refine (kn_owner _ _ (h0.still hs9) _).mono ?_; rintro e w10 ⟨rfl, hs10'⟩; have hs10 : Still w6 w10 := hs9.trans hs10')
          | (go_at_call 74; refine (kn_copy _ _ (h0.still hs10)).mono ?_; rintro e w11 ⟨rfl, hs11'⟩; have hs11 : Still w6 w11 := hs10.trans hs11'))
      go_wp2_with fail
      go_roundw
      case rel => exact ⟨rfl, .inr (.inl rfl), hst.trans (hs1.trans (hs2.trans (hs3.trans (hs4.trans (hs5.trans (hs6.trans hs11))))))⟩
      case measure => simp [intOf]
    · go_wp2_with fail
      refine (kn_lock _ _ hn _ _).mono ?_
      rintro e w1 ⟨rfl, hs1⟩
      replace hn := hn.still hs1
      replace c1 := Still.cell hs1 c1
      replace c2 := Still.cell hs1 c2
      replace c3 := Still.cell hs1 c3
      go_wp2_with fail
      refine (kn_unlock _ _ hn _ _).mono ?_
      rintro e w2 ⟨rfl, hs2⟩
      replace hn := hn.still hs2
      replace c1 := Still.cell hs2 c1
      replace c2 := Still.cell hs2 c2
      replace c3 := Still.cell hs2 c3
      go_wp2_with fail
      refine (kn_wait _ _ hn _ _ _).mono ?_
      rintro e w3 ⟨rfl, hs3⟩
      replace hn := hn.still hs3
      replace c1 := Still.cell hs3 c1
      replace c2 := Still.cell hs3 c2
      replace c3 := Still.cell hs3 c3
      go_wp2_with fail
      refine (kn_signal _ _ hn _).mono ?_
      rintro e w4 ⟨rfl, hs4⟩
      replace hn := hn.still hs4
      replace c1 := Still.cell hs4 c1
      replace c2 := Still.cell hs4 c2
      replace c3 := Still.cell hs4 c3
      go_wp2_with fail
      refine (kn_cast _ _ hn _).mono ?_
      rintro e w5 ⟨rfl, hs5⟩
      replace hn := hn.still hs5
      replace c1 := Still.cell hs5 c1
      replace c2 := Still.cell hs5 c2
      replace c3 := Still.cell hs5 c3
      go_wp2_with fail
      refine (kn_where _ _ hn _).mono ?_
      rintro e w6 ⟨rfl, hs6⟩
      replace hn := hn.still hs6
      replace c1 := Still.cell hs6 c1
      replace c2 := Still.cell hs6 c2
      replace c3 := Still.cell hs6 c3
      go_wp2_with fail
      simp only [List.append_eq, List.cons_append, List.nil_append]
      go_region_held3 (fun w' => w'.cell? ⟨w.heap.size, 1, none⟩ = some (.int .i64 o) ∧ w'.cell? ⟨w.heap.size, 2, none⟩ = some (.int .i64 c) ∧ w'.cell? ⟨w.heap.size, 3, none⟩ = some (.int .i64 t))
        (first | exact ⟨c1, c2, c3⟩ | exact ⟨Still.cell ‹Still w6 _› c1, Still.cell ‹Still w6 _› c2, Still.cell ‹Still w6 _› c3⟩)
        (first
          | (go_at_call 73; refine (kn_drop _ _ (hn.still (Fr.drew (Fr.refl _ _))) _).mono ?_; rintro e w7 ⟨rfl, hs7'⟩; have hs7 : Still w6 w7 := (Fr.refl _ w6).drew.trans hs7')
          | (go_at_call 70; refine (kn_waiters _ _ (hn.still hs7) _).mono ?_; rintro e w8 ⟨rfl, hs8'⟩; have hs8 : Still w6 w8 := hs7.trans hs8')
          | (go_at_call 65; refine (kn_sleepers _ _ (hn.still hs8) _).mono ?_; rintro e w9 ⟨rfl, hs9'⟩; have hs9 : Still w6 w9 := hs8.trans hs9')
          | (go_at_call 56; refine (kn_owner _ _ (hn.still hs9) _).mono ?_; rintro e w10 ⟨rfl, hs10'⟩; have hs10 : Still w6 w10 := hs9.trans hs10')
          | (go_at_call 74; refine (kn_copy _ _ (hn.still hs10)).mono ?_; rintro e w11 ⟨rfl, hs11'⟩; have hs11 : Still w6 w11 := hs10.trans hs11'))
      go_wp2_with fail
      go_roundw
      case rel => exact ⟨rfl, .inr (.inr rfl), hst.trans (hs1.trans (hs2.trans (hs3.trans (hs4.trans (hs5.trans (hs6.trans hs11))))))⟩
      case measure => simp [intOf]
    · go_wp2_with (go_at_call 53; refine (klives _).mono ?_; rintro e w6 ⟨rfl, hs6⟩)
      go_ret
      exact ⟨rfl, (hW.trans hst).trans hs6⟩
end Go.Proofs.Ytffjaaolcphonaa
