/- LinksActs: the walk. -/
import Derived.Test.YtffjaaolcphonaaAct5
import Derived.Test.YtffjaaolcphonaaAllOut
import Derived.Test.YtffjaaolcphonaaLinksL
namespace Go.Proofs.Ytffjaaolcphonaa
open Go.RowKit
theorem both_still {B : LB} {R : Nat} {w a b : World} (hs : Still w a) (hf : Fr (B.both R) a b) (hB : ∀ k, B.foot k → w.heap.size ≤ k) (hR : w.heap.size ≤ R) : Still w b :=
  hs.then hf fun k hk h => by
    rcases h with h | h
    · have := hB k h; omega
    · omega
set_option maxRecDepth 100000 in
set_option maxHeartbeats 2000000 in
theorem linksActs_big (w : World) (x y : Int) (a : Option Addr) (n c : Nat) (k i t : Int) (hn : 200 < n) :
    Calls Try.prog 4 #[.agg #[.int .i64 x, .int .i64 y], .slice a n c, .agg #[.int .i64 k, .int .i64 i, .int .i64 t]] w fun e w' => e = .returned (.bool true) ∧ Still w w' := by
  have hn' : (200 : Int) < (n : Int) := by omega
  go_enter Try.func4, Try.ntmps4
  go_wp2_with (go_at_call 20; refine (llives _).mono ?_; rintro e w' ⟨rfl, hs13⟩)
  go_ret
  exact ⟨rfl, (((Fr.refl _ _).alloc _).alloc _).trans hs13⟩
theorem acts_box (w : World) (x y k i t : Int) : ∃ W b, W = (w.alloc (.cells #[.int .i64 x, .int .i64 y] 36)).alloc (.cells #[.int .i64 k, .int .i64 i, .int .i64 t] 39) ∧ b = w.heap.size ∧ Still w W ∧
    W.cell? ⟨b, 0, none⟩ = some (.int .i64 x) ∧ W.cell? ⟨b, 1, none⟩ = some (.int .i64 y) ∧ W.cell? ⟨b + 1, 1, none⟩ = some (.int .i64 i) ∧ W.cell? ⟨b + 1, 2, none⟩ = some (.int .i64 t) := by
  have e := (Blk.new w [.int .i64 x, .int .i64 y] 36).alloc (.cells #[.int .i64 k, .int .i64 i, .int .i64 t] 39)
  have e2 := blk_new1 w (.cells #[.int .i64 x, .int .i64 y] 36) [.int .i64 k, .int .i64 i, .int .i64 t] 39
  exact ⟨_, _, rfl, rfl, ((Fr.refl _ _).alloc _).alloc _, e.cell 0, e.cell 1, e2.cell 1, e2.cell 2⟩
set_option maxRecDepth 100000 in
set_option maxHeartbeats 2000000 in
theorem linksActs_bad (w : World) (x y : Int) (a : Option Addr) (n c : Nat) (k i t : Int) (hn : n ≤ 200) (hb : badN x y) :
    Calls Try.prog 4 #[.agg #[.int .i64 x, .int .i64 y], .slice a n c, .agg #[.int .i64 k, .int .i64 i, .int .i64 t]] w fun e w' => e = .returned (.bool true) ∧ Still w w' := by
  have hn' : (n : Int) ≤ 200 := by omega
  have HB := hid hb
  clear hb
  go_enter Try.func4, Try.ntmps4
  go_wp2_with fail
  obtain ⟨W, b, hW, hbb, hs, c0, c1, c2, c3⟩ := acts_box w x y k i t
  rw [← hW, ← hbb]
  clear hW hbb
  go_region_held3 (fun w' => w'.cell? ⟨b, 0, none⟩ = some (.int .i64 x) ∧ w'.cell? ⟨b, 1, none⟩ = some (.int .i64 y))
    (exact ⟨c0, c1⟩)
    (first
      | (go_at_call 19; refine (new_nil _ _ _ (by have := HB.out; unfold badN at this; omega)).mono ?_; rintro e w' ⟨rfl, rfl⟩)
      | (go_at_call 27; refine (rnew_no _ _ _ HB.out).mono ?_; rintro e w' ⟨rfl, rfl⟩))
  go_wp2_with (go_at_call 20; refine (llives _).mono ?_; rintro e w' ⟨rfl, hs13⟩)
  go_ret
  exact ⟨rfl, hs.drew.trans hs13⟩
set_option maxRecDepth 100000 in
set_option maxHeartbeats 4000000 in
theorem linksActs_ok (w : World) (x y : Nat) (a : Option Addr) (n c : Nat) (k i t : Int) (F : Nat → Nat → Int) (hF : IsRow3 3 w a n c F) (hn : n ≤ 200) (x0 : 1 ≤ x) (x1 : x ≤ 4096) (y0 : 1 ≤ y) (y1 : y ≤ 4096) :
    Calls Try.prog 4 #[.agg #[.int .i64 x, .int .i64 y], .slice a n c, .agg #[.int .i64 k, .int .i64 i, .int .i64 t]] w fun e w' => e = .returned (.bool true) ∧ Still w w' := by
  have hn' : (n : Int) ≤ 200 := by omega
  have HF := hid hF
  clear hF
  go_enter Try.func4, Try.ntmps4
  go_wp2_with fail
  obtain ⟨W, b, hW, hbb, hs, c0, c1, c2, c3⟩ := acts_box w x y k i t
  rw [← hW, ← hbb]
  have hbW : b < W.heap.size := World.block_lt_of_cell? _ _ c0
  have hbW1 : b + 1 < W.heap.size := World.block_lt_of_cell? _ _ c2
  clear hW hbb
  go_region_held3 (fun w' => w'.cell? ⟨b, 0, none⟩ = some (.int .i64 x) ∧ w'.cell? ⟨b, 1, none⟩ = some (.int .i64 y))
    (first | exact ⟨c0, c1⟩ | exact ⟨Still.cell ‹Still W _› c0, Still.cell ‹Still W _› c1⟩)
    (first
      | (go_at_call 19; refine (new_ls _ x y x0 x1 y0 y1).mono ?_; rintro e w1 ⟨B, rfl, h1, hs1', hnn⟩; have hs1 : Still W w1 := (Fr.refl _ W).drew.trans hs1')
      | (go_at_call 27; refine (rnew_ok _ x y x0 x1 y0 y1).mono ?_; rintro e w2 ⟨p, R, rfl, h2, hs2'⟩; have hs2 : Still W w2 := hs1.trans hs2'))
  have hB : Both w2 B w1.heap.size p R x (List.replicate y []) (List.replicate y []) := ⟨h1.still hs2', h2, fun k hk => h1.lt hk⟩
  have hRl : W.heap.size ≤ R := Nat.le_trans hs1.size h2.lR
  have hBW : ∀ k, B.foot k → W.heap.size ≤ k := fun k hk => hnn k hk
  go_wp2_with fail
  go_loopw [37] (fun c wr => ∃ (j : Nat) (L : List (List Nat)), c = .int .i64 j ∧ j ≤ n ∧ Both wr B w1.heap.size p R x L L ∧ Still W wr) (fun c _ => n - (intOf c).toNat)
  case atStart => exact ⟨0, _, rfl, Nat.zero_le _, hB, hs2⟩
  case round =>
    clear hB h1 h2 hs2' hs1'
    obtain ⟨j, L, rfl, hj, hB, hst⟩ := hrel
    have e2 := Still.cell hst c2
    have e3 := Still.cell hst c3
    by_cases hlt : j < n
    · have hlt' : (j : Int) < (n : Int) := by omega
      rcases HF.out with h0 | ⟨b1, o1, rfl, _, _, _, _, hc⟩
      · omega
      have g0 := Still.cell hst (Still.cell hs (hc j hlt 0 (by omega)))
      have g1 := Still.cell hst (Still.cell hs (hc j hlt 1 (by omega)))
      have g2 := Still.cell hst (Still.cell hs (hc j hlt 2 (by omega)))
      clear hc
      simp only [Nat.add_zero] at g0
      rw [← Nat.add_assoc] at g1 g2
      go_wp2_with fail
      obtain ⟨W2, b2, hW2, hbb2, hB2, hb2, hbR2, hF2, f0, f1, f2⟩ := act_box hB (F j 0) (F j 1) (F j 2)
      rw [← hW2, ← hbb2]
      clear hW2 hbb2
      go_region_held3 (fun w' => w'.cell? ⟨b2, 0, none⟩ = some (.int .i64 (F j 0)) ∧ w'.cell? ⟨b2, 1, none⟩ = some (.int .i64 (F j 1)) ∧ w'.cell? ⟨b2, 2, none⟩ = some (.int .i64 (F j 2)))
        (first | exact ⟨f0, f1, f2⟩ | exact ⟨q0, q1, q2⟩ | exact ⟨Still.cell ‹Still w4 _› q0, Still.cell ‹Still w4 _› q1, Still.cell ‹Still w4 _› q2⟩)
        (first
          | (go_at_call 28; refine (act_any (hB2.still (Fr.drew (Fr.refl _ _))) (hB2.l.nice) (F j 0) (F j 1) (F j 2)).mono ?_; rintro e w4 ⟨he, hB4, hF4⟩; rw [decide_eq_true rfl] at he; subst he; have q0 := hF4.cellB f0 (fun h => h.elim hb2 hbR2); have q1 := hF4.cellB f1 (fun h => h.elim hb2 hbR2); have q2 := hF4.cellB f2 (fun h => h.elim hb2 hbR2))
          | (go_at_call 29; refine (where_ls hB4.l _).mono ?_; rintro e w' ⟨rfl, rfl⟩)
          | (go_at_call 30; refine (rwhere hB4.r _).mono ?_; rintro e w' ⟨rfl, rfl⟩)
          | (go_at_call 25; refine (len_lsI hB4.l _).mono ?_; rintro e w' ⟨rfl, rfl⟩)
          | (go_at_call 31; refine (rallI hB4.r _).mono ?_; rintro e w5 ⟨a5, c5, rfl, _, hs5⟩))
      go_wp2_with fail
      go_roundw
      case rel => exact ⟨j + 1, _, by go_num, by omega, hB4.still hs5, (both_still hst ((hF2.drew).then hF4 (fun _ _ h => h)) hBW hRl).trans hs5⟩
      case measure => simp [intOf]; omega
    · have hal := allL_short hB.l i
      go_wp2_with fail
      refine (all_lsI hB.l i).mono ?_
      rintro e w6 ⟨a6, c6, rfl, hr6, hs6⟩
      have hst6 := hst.trans hs6
      have m2 := Still.cell hs6 e2
      have m3 := Still.cell hs6 e3
      have hB6 := hB.still hs6
      have HAL := hid hal
      clear hal
      go_wp2_with fail
      go_region_held3 (fun w' => w'.cell? ⟨b + 1, 1, none⟩ = some (.int .i64 i) ∧ w'.cell? ⟨b + 1, 2, none⟩ = some (.int .i64 t))
        (first | exact ⟨m2, m3⟩ | exact ⟨Still.cell ‹Still w6 _› m2, Still.cell ‹Still w6 _› m3⟩)
        (first
          | (go_at_call 31; refine (rallI (hB6.still (Fr.drew (Fr.refl _ _))).r _).mono ?_; rintro e w7 ⟨a7, c7, rfl, hr7, hs7'⟩; have hs7 : Still w6 w7 := (Fr.refl _ w6).drew.trans hs7')
          | (go_at_call 26; refine (ints_ok _ _ _ _ _ (hr6.still hs7) hr7 (by rw [zi_len]; have := HAL.out; omega)).mono ?_; rintro e w8 ⟨he, hs8'⟩; rw [decide_eq_true rfl] at he; subst he; have hs8 : Still w6 w8 := hs7.trans hs8')
          | (go_at_call 29; refine (where_ls (hB6.still hs8).l _).mono ?_; rintro e w' ⟨rfl, rfl⟩)
          | (go_at_call 30; refine (rwhere (hB6.still hs8).r _).mono ?_; rintro e w' ⟨rfl, rfl⟩)
          | (go_at_call 20; refine (llives _).mono ?_; rintro e w9 ⟨rfl, hs9'⟩; have hs9 : Still w6 w9 := hs8.trans hs9'))
      go_wp2_with fail
      go_ret
      exact ⟨rfl, (hs.trans hst6).trans hs9⟩
theorem linksActs (w : World) (x y : Int) (a : Option Addr) (n c : Nat) (k i t : Int) (F : Nat → Nat → Int) (hF : IsRow3 3 w a n c F) :
    Calls Try.prog 4 #[.agg #[.int .i64 x, .int .i64 y], .slice a n c, .agg #[.int .i64 k, .int .i64 i, .int .i64 t]] w fun e w' => e = .returned (.bool true) ∧ Still w w' := by
  by_cases hn : n ≤ 200
  · by_cases hb : badN x y
    · exact linksActs_bad w x y a n c k i t hn hb
    · obtain ⟨x, rfl⟩ := Int.eq_ofNat_of_zero_le (show 0 ≤ x by unfold badN at hb; omega)
      obtain ⟨y, rfl⟩ := Int.eq_ofNat_of_zero_le (show 0 ≤ y by unfold badN at hb; omega)
      unfold badN at hb
      exact linksActs_ok w x y a n c k i t F hF hn (by omega) (by omega) (by omega) (by omega)
  · exact linksActs_big w x y a n c k i t (by omega)
end Go.Proofs.Ytffjaaolcphonaa
