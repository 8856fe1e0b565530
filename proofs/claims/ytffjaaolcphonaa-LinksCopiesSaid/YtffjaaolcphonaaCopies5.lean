/- LinksCopies: the walk. -/
import Derived.Test.YtffjaaolcphonaaActs5
namespace Go.Proofs.Ytffjaaolcphonaa
open Go.RowKit
set_option maxRecDepth 100000 in
set_option maxHeartbeats 2000000 in
theorem linksCopies_big (w : World) (a a' : Option Addr) (n c m d : Nat) (hn : 100 < n ∨ 100 < m) :
    Calls Try.prog 7 #[.slice a n c, .slice a' m d] w fun e w' => e = .returned (.bool true) ∧ Still w w' := by
  by_cases h1 : 100 < n
  · have hn' : (100 : Int) < (n : Int) := by omega
    clear hn
    go_enter Try.func7, Try.ntmps7
    go_wp2_with fail
    refine (new_ls _ 6 3 (by omega) (by omega) (by omega) (by omega)).mono ?_
    rintro e w1 ⟨B, rfl, h1, hs, hnn⟩
    go_wp2_with fail
    refine (rnew_ok _ 6 3 (by omega) (by omega) (by omega) (by omega)).mono ?_
    rintro e w2 ⟨p, R, rfl, h2, hs2⟩
    go_wp2_with (go_at_call 20; refine (llives _).mono ?_; rintro e w' ⟨rfl, hs13⟩)
    go_ret
    exact ⟨rfl, (hs.trans hs2).trans hs13⟩
  · have h2 : 100 < m := by omega
    have hn' : ¬ (100 : Int) < (n : Int) := by omega
    have hm' : (100 : Int) < (m : Int) := by omega
    clear hn
    go_enter Try.func7, Try.ntmps7
    go_wp2_with fail
    refine (new_ls _ 6 3 (by omega) (by omega) (by omega) (by omega)).mono ?_
    rintro e w1 ⟨B, rfl, h1, hs, hnn⟩
    go_wp2_with fail
    refine (rnew_ok _ 6 3 (by omega) (by omega) (by omega) (by omega)).mono ?_
    rintro e w2 ⟨p, R, rfl, h2, hs2⟩
    go_wp2_with (go_at_call 20; refine (llives _).mono ?_; rintro e w' ⟨rfl, hs13⟩)
    go_ret
    exact ⟨rfl, (hs.trans hs2).trans hs13⟩
set_option maxRecDepth 100000 in
set_option maxHeartbeats 4000000 in
theorem linksCopies_ok (w : World) (a a' : Option Addr) (n c m d : Nat) (F G : Nat → Nat → Int) (hF : IsRow3 3 w a n c F) (hG : IsRow3 3 w a' m d G) (hn : n ≤ 100) (hm : m ≤ 100) :
    Calls Try.prog 7 #[.slice a n c, .slice a' m d] w fun e w' => e = .returned (.bool true) ∧ Still w w' := by
  have hn' : (n : Int) ≤ 100 := by omega
  have hm' : (m : Int) ≤ 100 := by omega
  have HF := hid hF
  have HG := hid hG
  clear hF hG
  go_enter Try.func7, Try.ntmps7
  go_wp2_with fail
  refine (new_ls _ 6 3 (by omega) (by omega) (by omega) (by omega)).mono ?_
  rintro e w1 ⟨B, rfl, h1, hs1, hBW⟩
  go_wp2_with fail
  refine (rnew_ok _ 6 3 (by omega) (by omega) (by omega) (by omega)).mono ?_
  rintro e w2 ⟨p, R, rfl, h2, hs2⟩
  have hB : Both w2 B w1.heap.size p R 6 (List.replicate 3 []) (List.replicate 3 []) := ⟨h1.still hs2, h2, fun k hk => h1.lt hk⟩
  have hRl : w.heap.size ≤ R := Nat.le_trans hs1.size h2.lR
  have hst0 := hs1.trans hs2
  clear h1 h2 hs1 hs2
  go_wp2_with fail
  go_loopw [39] (fun c wr => ∃ (j : Nat) (L : List (List Nat)), c = .int .i64 j ∧ j ≤ n ∧ Both wr B w1.heap.size p R 6 L L ∧ Still w wr) (fun c _ => n - (intOf c).toNat)
  case atStart => exact ⟨0, _, rfl, Nat.zero_le _, hB, hst0⟩
  case round =>
    clear hB hst0
    obtain ⟨j, L, rfl, hj, hB, hst⟩ := hrel
    by_cases hlt : j < n
    · have hlt' : (j : Int) < (n : Int) := by omega
      rcases HF.out with h0 | ⟨b1, o1, rfl, _, _, _, _, hc⟩
      · omega
      have g0 := Still.cell hst (hc j hlt 0 (by omega))
      have g1 := Still.cell hst (hc j hlt 1 (by omega))
      have g2 := Still.cell hst (hc j hlt 2 (by omega))
      clear hc
      simp only [Nat.add_zero] at g0
      rw [← Nat.add_assoc] at g1 g2
      go_wp2_with fail
      obtain ⟨W2, b2, hW2, hbb2, hB2, hb2, hbR2, hF2, f0, f1, f2⟩ := act_box hB (F j 0) (F j 1) (F j 2)
      refine (act_any (hB.still ((Fr.refl _ _).alloc _)) hB.l.nice (F j 0) (F j 1) (F j 2)).mono ?_
      rintro e w4 ⟨he, hB4, hF4⟩
      rw [decide_eq_true rfl] at he
      subst he
      subst hW2
      go_wp2_with fail
      go_roundw
      case rel => exact ⟨j + 1, _, by go_num, by omega, hB4, both_still hst (hF2.then hF4 (fun _ _ h => h)) hBW hRl⟩
      case measure => simp [intOf]; omega
    · go_wp2_with fail
      refine (copy_ls hB.l).mono ?_
      rintro e w5 ⟨C, rfl, h5, hs5, hC5⟩
      go_wp2_with fail
      refine (rcopy (hB.still hs5).r).mono ?_
      rintro e w6 ⟨p', R', rfl, h6, hs6⟩
      have hs56 : Still wr w6 := hs5.trans hs6
      have hCB : Both w6 C w5.heap.size p' R' 6 L L := ⟨h5.still hs6, h6, fun k hk => h5.lt hk⟩
      have hRl' : wr.heap.size ≤ R' := Nat.le_trans hs5.size h6.lR
      clear h5 hs5 h6 hs6
      go_wp2_with fail
      go_loopw [54] (fun c wv => ∃ (j : Nat) (M : List (List Nat)), c = .int .i64 j ∧ j ≤ m ∧ Both wv C w5.heap.size p' R' 6 M M ∧ Still wr wv) (fun c _ => m - (intOf c).toNat)
      case atStart => exact ⟨0, _, rfl, Nat.zero_le _, hCB, hs56⟩
      case round =>
        clear hCB hs56
        obtain ⟨i, M, rfl, hi, hCB, hst2⟩ := hrel
        by_cases hlt : i < m
        · have hlt' : (i : Int) < (m : Int) := by omega
          rcases HG.out with h0 | ⟨b1, o1, rfl, _, _, _, _, hc⟩
          · omega
          have g0 := Still.cell hst2 (Still.cell hst (hc i hlt 0 (by omega)))
          have g1 := Still.cell hst2 (Still.cell hst (hc i hlt 1 (by omega)))
          have g2 := Still.cell hst2 (Still.cell hst (hc i hlt 2 (by omega)))
          clear hc
          simp only [Nat.add_zero] at g0
          rw [← Nat.add_assoc] at g1 g2
          go_wp2_with fail
          obtain ⟨W2, b2, hW2, hbb2, hB2, hb2, hbR2, hF2, f0, f1, f2⟩ := act_box hCB (G i 0) (G i 1) (G i 2)
          refine (act_any (hCB.still ((Fr.refl _ _).alloc _)) hCB.l.nice (G i 0) (G i 1) (G i 2)).mono ?_
          rintro e w4 ⟨he, hB4, hF4⟩
          rw [decide_eq_true rfl] at he
          subst he
          subst hW2
          go_wp2_with fail
          go_roundw
          case rel => exact ⟨i + 1, _, by go_num, by omega, hB4, both_still hst2 (hF2.then hF4 (fun _ _ h => h)) hC5 hRl'⟩
          case measure => simp [intOf]; omega
        · have hB' := hB.still hst2
          have s1 := fun i => allL_short hB'.l i
          have s2 := fun i => allL_short hCB.l i
          have S1 := hid s1
          have S2 := hid s2
          clear s1 s2
          have hst3 := hst.trans hst2
          go_wp2_with fail
          go_loopw [13] (fun c wz => ∃ j : Nat, c = .int .i64 j ∧ j ≤ 3 ∧ Still wr wz) (fun c _ => 3 - (intOf c).toNat)
          case atStart => exact ⟨0, rfl, by omega, Fr.refl _ _⟩
          case round =>
            obtain ⟨k, rfl, hk, hst4⟩ := hrel
            by_cases hlt : k < 3
            · have hlt' : (k : Int) < 3 := by omega
              go_wp2_with fail
              refine (all_lsI (hB'.still hst4).l k).mono ?_
              rintro e w7 ⟨a7, c7, rfl, hr7, hs7⟩
              go_wp2_with fail
              refine (all_lsI (hCB.still (hst4.trans hs7)).l k).mono ?_
              rintro e w8 ⟨a8, c8, rfl, hr8, hs8⟩
              have hs78 := hst4.trans (hs7.trans hs8)
              go_wp2_with fail
              refine (rallI (hB'.still hs78).r k).mono ?_
              rintro e w9 ⟨a9, c9, rfl, hr9, hs9⟩
              go_wp2_with fail
              refine (ints_ok _ _ _ _ _ ((hr7.still hs8).still hs9) hr9 (by rw [zi_len]; have := S1.out (k : Int); omega)).mono ?_
              rintro e w10 ⟨he, hs10⟩
              rw [decide_eq_true rfl] at he
              subst he
              go_wp2_with fail
              refine (rallI (hCB.still (hs78.trans (hs9.trans hs10))).r k).mono ?_
              rintro e w11 ⟨a11, c11, rfl, hr11, hs11⟩
              go_wp2_with fail
              refine (ints_ok _ _ _ _ _ (hr8.still (hs9.trans (hs10.trans hs11))) hr11 (by rw [zi_len]; have := S2.out (k : Int); omega)).mono ?_
              rintro e w12 ⟨he, hs12⟩
              rw [decide_eq_true rfl] at he
              subst he
              go_wp2_with fail
              go_roundw
              case rel => exact ⟨k + 1, by go_num, by omega, hs78.trans (hs9.trans (hs10.trans (hs11.trans hs12)))⟩
              case measure => simp [intOf]; omega
            · go_wp2_with (go_at_call 20; refine (llives _).mono ?_; rintro e w' ⟨rfl, hs13⟩)
              go_ret
              exact ⟨rfl, (hst3.trans hst4).trans hs13⟩
theorem linksCopies (w : World) (a a' : Option Addr) (n c m d : Nat) (F G : Nat → Nat → Int) (hF : IsRow3 3 w a n c F) (hG : IsRow3 3 w a' m d G) :
    Calls Try.prog 7 #[.slice a n c, .slice a' m d] w fun e w' => e = .returned (.bool true) ∧ Still w w' := by
  by_cases h : n ≤ 100 ∧ m ≤ 100
  · exact linksCopies_ok w a a' n c m d F G hF hG h.1 h.2
  · exact linksCopies_big w a a' n c m d (by omega)
end Go.Proofs.Ytffjaaolcphonaa
