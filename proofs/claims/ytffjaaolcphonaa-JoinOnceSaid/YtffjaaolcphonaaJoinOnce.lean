/- JoinOnce: the walk. -/
import Derived.Test.YtffjaaolcphonaaAct21
import Derived.Test.YtffjaaolcphonaaActs7
namespace Go.Proofs.Ytffjaaolcphonaa
open Go.RowKit
set_option linter.unusedSimpArgs false
theorem twj_still {J : JB} {R : Nat} {w a b : World} (hs : Still w a) (hf : Fr (J.both R) a b) (hK : ∀ k, J.both R k → w.heap.size ≤ k) : Still w b := hs.then hf fun _ hk h => by have := hK _ h; omega
set_option maxRecDepth 100000 in
set_option maxHeartbeats 2000000 in
theorem joinOnce_big (w : World) (a : Option Addr) (n c : Nat) (hn : 150 < n) :
    Calls Try.prog 13 #[.slice a n c] w fun e w' => e = .returned (.bool true) ∧ Still w w' := by
  have hn' : (150 : Int) < (n : Int) := by omega
  go_enter Try.func13, Try.ntmps13
  go_wp2_with (first
    | (go_at_call 45; refine (jnew _ 5 (by omega) (by omega)).mono ?_; rintro e w1 ⟨J, rfl, h1, hs1, hnn⟩)
    | (go_at_call 57; refine (re_new _ 5 (by omega) (by omega)).mono ?_; rintro e w2 ⟨P, R, rfl, h2, hs2⟩)
    | (go_at_call 51; refine (jlives _).mono ?_; rintro e w' ⟨rfl, hs3⟩))
  go_ret
  exact ⟨rfl, (hs1.trans hs2).trans hs3⟩
set_option maxRecDepth 100000 in
set_option maxHeartbeats 8000000 in
theorem joinOnce_ok (w : World) (a : Option Addr) (n c : Nat) (hF : IsActs7 w a n c) (hn : n ≤ 150) :
    Calls Try.prog 13 #[.slice a n c] w fun e w' => e = .returned (.bool true) ∧ Still w w' := by
  have hn' : (n : Int) ≤ 150 := by omega
  have HF := hid hF
  clear hF
  go_enter Try.func13, Try.ntmps13
  go_wp2_with (first
    | (go_at_call 45; refine (jnew _ 5 (by omega) (by omega)).mono ?_; rintro e w1 ⟨J, rfl, h1, hs1, hnn⟩)
    | (go_at_call 57; refine (re_new _ 5 (by omega) (by omega)).mono ?_; rintro e w2 ⟨P, R, rfl, h2, hs2⟩))
  have hB : TwinJ w2 J w1.heap.size P R 0 (newJS 5) := ⟨h1.still hs2, h2, fun k hk => h1.lt hk⟩
  have hBW : ∀ k, J.both R k → w.heap.size ≤ k := fun k hk => by
    rcases hk with hk | rfl
    · exact hnn k (.inr hk)
    · exact Nat.le_trans hs1.size h2.lR
  have hi0 := JInv.new (T := 5) (by omega) (by omega)
  go_loopw [30] (fun c wr => ∃ (j : Nat) (s : JS), c = .int .i64 j ∧ j ≤ n ∧ TwinJ wr J w1.heap.size P R j s ∧ JInv s ∧ s.T = 5 ∧ Still w wr) (fun c _ => n - (intOf c).toNat)
  case atStart => exact ⟨0, newJS 5, rfl, Nat.zero_le _, hB, hi0, rfl, hs1.trans hs2⟩
  case round =>
    clear hB h1 h2 hi0 hnn
    obtain ⟨j, s, rfl, hj, hB, hI, hT5, hst⟩ := hrel
    have HT5 := hid hT5
    clear hT5
    by_cases hlt : j < n
    · have hlt' : (j : Int) < (n : Int) := by omega
      rcases HF.out with h0 | ⟨b1, o1, rfl, _, _, _, _, hc⟩
      · omega
      obtain ⟨k, p, aa, yy, bb, q, v, i1, i2, m0, m1, m2, m3, m4, m5, m6⟩ := hc j hlt
      have g0 := Still.cell hst m0
      have g1 := Still.cell hst m1
      have g2 := Still.cell hst m2
      have g3 := Still.cell hst m3
      have g4 := Still.cell hst m4
      have g5 := Still.cell hst m5
      have g6 := Still.cell hst m6
      clear hc m0 m1 m2 m3 m4 m5 m6
      go_wp2_with fail
      obtain ⟨W2, g, hW2, hgg, hB2, hb2, hF2, f0, f1, f2, f3, f4, f5, f6⟩ := twj_box hB k p aa yy bb q v
      rw [← hW2, ← hgg]
      clear hW2 hgg g0 g1 g2 g3 g4 g5 g6 hB
      have hIi := idA_in (a := aa) (q := q) i1
      have hIy := idA_in (a := bb) (q := q) i2
      have HID := hid (jids58 W2 k p aa yy bb q v)
      rw [show (if q = true then p else idMk p aa) = idA p aa q from rfl, show (if q = true then yy else idMk yy bb) = idA yy bb q from rfl] at HID
      have HACT := hid (fun (W : World) (h : TwinJ W J w1.heap.size P R j s) (hk1 : k ≠ 1) => twj_act h (by omega) k p aa yy bb q v i1 i2 hk1)
      have HSTEP := hid (hI.step k (idA p aa q) (idA yy bb q) hIi hIy)
      generalize idA p aa q = id at HID hIi HACT HSTEP
      generalize idA yy bb q = y at HID hIy HACT HSTEP
      refine HID.out.mono ?_
      rintro e w3 ⟨rfl, hs3⟩
      have hB3 := hB2.still hs3
      have HWT := hid (jwaiters hB3.l id hIi)
      rw [hI.waits id] at HWT
      have HB3 := hid hB3
      have e0 := Still.cell hs3 f0
      have e1 := Still.cell hs3 f1
      have e2 := Still.cell hs3 f2
      have e3 := Still.cell hs3 f3
      have e4 := Still.cell hs3 f4
      have e5 := Still.cell hs3 f5
      have e6 := Still.cell hs3 f6
      have hF3 := hF2.trans (hs3.fr _)
      have hgl : ¬ J.foot g := fun h => hb2 (.inl h)
      clear hB2 hB3 f0 f1 f2 f3 f4 f5 f6 hF2
      go_wp2_with fail
      refine HWT.out.mono ?_
      rintro e w4 ⟨a4, c4, rfl, r4, hs4, n4⟩
      have HB4 := hid (HB3.out.still hs4)
      have q0 := Still.cell hs4 e0
      have q1 := Still.cell hs4 e1
      have q2 := Still.cell hs4 e2
      have q3 := Still.cell hs4 e3
      have q4 := Still.cell hs4 e4
      have q5 := Still.cell hs4 e5
      have q6 := Still.cell hs4 e6
      have hF4 := hF3.trans (hs4.fr _)
      have hXl : ∀ k, J.both R k → k < w3.heap.size := fun k hk => HB3.out.lt hk
      have hz34 := hs4.size
      clear e0 e1 e2 e3 e4 e5 e6
      by_cases hk1 : k = 1
      · subst hk1
        have hT2 := endS_T s id v
        have hI2 := hI.ends id v hIi
        have hTold := hid (hI.told id v)
        have hTin := hid (show ∀ y ∈ endT s id, inI y from fun y hy => by
          unfold endT at hy
          split at hy
          · unfold idL at hy; obtain ⟨p, _, rfl⟩ := List.mem_map.1 hy; exact hI.iy p
          · simp at hy)
        have hlen : (endT s id).length ≤ 9223372036854775807 := by
          unfold endT; split
          · rename_i hb
            have hk : kn s id = true := by unfold endB at hb; rw [Bool.and_eq_true] at hb; exact hb.1
            obtain ⟨i, hx, hiT, _, _⟩ := kn_nat hk
            rw [hx, Int.toNat_natCast]
            unfold idL; rw [List.length_map]
            have := ls_short HB4.out.l.hl i (by rw [HB4.out.l.ll]; exact hiT)
            omega
          · simp
        have HE := hid (jend HB4.out.l hI.iy id v hIi)
        unfold EndPost at HE
        have HT2 := hid (hT2.trans HT5.out)
        have HTS := hid hT2
        clear hT2
        generalize endS s id v = s2 at HE hI2 HT2 HTS hTold
        generalize endE s id = ee at HE
        generalize endT s id = told at HE r4 n4 hTold hTin hlen
        go_wp2_with fail
        refine HE.out.mono ?_
        rintro e w5 ⟨a3, c3, rfl, r5, hl5, f5, n5⟩
        have hB5 := HB4.out.stepl hl5 HTS.out f5
        have t6 := f5.cellK q6 hgl
        have r4' : IRow w5 (.slice a4 told.length c4) told := row_keep r4 n4 (fun k hk => hXl k (.inl hk)) f5
        go_wp2_with fail
        refine (rend hB5.r id v hIi).mono ?_
        rintro e w5' ⟨⟨x, rfl, z1, z2, z3, z4, rfl⟩, hr6, f6⟩
        have hB6' := (hB5.stepr hr6 f6).more (Nat.le_succ _) (by omega)
        have r4'' : IRow w5' (.slice a4 told.length c4) told := row_keep r4' n4 (fun k hk => hXl k (.inr hk)) f6
        have r5' : IRow w5' (.slice a3 told.length c3) told := row_keep r5 n5 (fun k hk => Nat.lt_of_lt_of_le (hXl k (.inr hk)) hz34) f6
        go_wp2_with fail
        refine (ints_ok _ _ _ told told r5' r4'' hlen).mono ?_
        rw [decide_eq_true rfl]
        rintro e w6 ⟨rfl, hs6⟩
        have hB6 := hB6'.still hs6
        have hst6 := twj_still hst (((hF4.trans (twj_frl f5)).trans (twj_frr f6)).trans (hs6.fr _)) hBW
        have R3 : Hid (∀ W, Fr (J.both R) w6 W → IRow W (.slice a3 told.length c3) told) := hid fun W hf => row_keep (r5'.still hs6) n5 (fun k hk => Nat.lt_of_lt_of_le (hXl k hk) hz34) hf
        clear r4 r4' r4'' r5 r5' n4 hB5 hB6' hr6 f5 f6 hl5 hF3 hF4 HACT HSTEP hst q0 q1 q2 q3 q4 q5 q6 t6 hI hs6
        obtain ⟨wo, rfl⟩ : ∃ wo : World, wo = wr := ⟨_, rfl⟩
        go_wp2_with fail
        go_loopw [68] (fun c wr => ∃ i : Nat, c = .int .i64 i ∧ i ≤ told.length ∧ TwinJ wr J w1.heap.size P R (j + 1) s2 ∧ Fr (J.both R) w6 wr) (fun c _ => told.length - (intOf c).toNat)
        case atStart => exact ⟨0, rfl, Nat.zero_le _, hB6, Fr.refl _ _⟩
        case round =>
          clear hB6
          obtain ⟨i, rfl, hi9, hB7, hf7⟩ := hrel
          by_cases hlt9 : i < told.length
          · have hlt9' : (i : Int) < (told.length : Int) := by omega
            rcases R3.out wr hf7 with ⟨e0, _⟩ | ⟨_, bb, off, c', hv, hcell⟩
            · exfalso; have e1 := congrArg List.length e0; have e2 : told.length = 0 := e1; omega
            obtain rfl : a3 = some ⟨bb, off, none⟩ := by injection hv
            clear hv
            have hx := hcell i hlt9
            rw [show told.getD i 0 = told[i] by simp [List.getD, hlt9]] at hx
            clear hcell
            have hmem : told[i] ∈ told := List.getElem_mem _
            have hat := hTold.out told[i] hmem
            have hxin := hTin.out told[i] hmem
            generalize told[i] = x at hx hat hxin
            clear hmem
            have hwj : whJ s2 x = 0 := by unfold whJ; rw [hat]; rfl
            have hdj : dropJ s2 x = s2 := by unfold dropJ; rw [hat, if_neg (by decide)]
            have HW1 := hid (jwhere hB7.l x hxin)
            rw [hwj] at HW1
            have HD1 := hid (fun W (hs : Still wr W) => jdrop (hB7.l.still hs) x hxin)
            rw [hat, hdj] at HD1
            have HB7 := hid hB7
            clear hB7 hwj hdj hat
            go_wp2_with fail
            refine HW1.out.mono ?_
            rintro e w8 ⟨rfl, hs8⟩
            go_wp2_with fail
            refine (HD1.out _ hs8).mono ?_
            rintro e w9 ⟨rfl, hl9, f9⟩
            have hB9 := (HB7.out.still hs8).stepl hl9 rfl f9
            have HB9 := hid hB9
            have HF9 := hid ((hf7.trans (hs8.fr _)).trans (twj_frl f9))
            clear hB9 hl9 f9
            go_wp2_with fail
            go_roundw
            case rel => exact ⟨i + 1, by go_num, by omega, HB9.out, HF9.out⟩
            case measure => simp [intOf]; omega
          · have hlt9' : ¬ (i : Int) < (told.length : Int) := by omega
            have HB7 := hid hB7
            have HWH := hid (jwhere hB7.l y hIy)
            have hst7 := twj_still hst6 hf7 hBW
            by_cases hne : whJ s2 y = 0
            · rw [hne] at HWH
              clear hB7 hne
              go_wp2_with fail
              refine HWH.out.mono ?_
              rintro e w8 ⟨rfl, hs8⟩
              have HB8 := hid (HB7.out.still hs8)
              go_wp2_with fail
              go_roundw
              case rel => exact ⟨j + 1, s2, by go_num, by omega, HB8.out, hI2, HT2.out, hst7.trans hs8⟩
              case measure => simp [intOf]; omega
            · obtain ⟨h1, h2⟩ := hI2.awaited y hne
              have HST := hid (fun W (hs : Still wr W) => jstate (HB7.out.l.still hs) (whJ s2 y) h2)
              rw [h1] at HST
              have d : (whJ s2 y != 0) = true := by simpa using hne
              generalize whJ s2 y = too at HWH HST d
              clear hB7 h1 h2 hne
              go_wp2_with fail
              refine HWH.out.mono ?_
              rintro e w8 ⟨rfl, hs8⟩
              go_wp2_with fail
              refine (HST.out _ hs8).mono ?_
              rintro e w9 ⟨rfl, hs9⟩
              have HB8 := hid ((HB7.out.still hs8).still hs9)
              go_wp2_with fail
              go_roundw
              case rel => exact ⟨j + 1, s2, by go_num, by omega, HB8.out, hI2, HT2.out, (hst7.trans hs8).trans hs9⟩
              case measure => simp [intOf]; omega
      · have hT2 := stepJ_T s k id y
        have b1 : (k == 1) = false := by simpa using hk1
        have HA := hid (HACT.out w4 HB4.out hk1)
        unfold TwjPost at HA
        have HT2 := hid (hT2.trans HT5.out)
        have hI2 := HSTEP.out
        clear hT2 HSTEP
        generalize stepJ s k id y = s2 at HA hI2 HT2
        clear HACT
        go_wp2_with fail
        refine HA.out.mono ?_
        rintro e w6 ⟨⟨x, rfl⟩, hB6, f6⟩
        have hst6 := twj_still hst (hF4.trans f6) hBW
        clear r4 n4 hF3 hF4 hst q0 q1 q2 q3 q4 q5 q6 hI HA
        obtain ⟨wo, rfl⟩ : ∃ wo : World, wo = wr := ⟨_, rfl⟩
        go_wp2_with fail
        go_loopw [68] (fun c wr => ∃ i : Nat, c = .int .i64 i ∧ i ≤ 0 ∧ TwinJ wr J w1.heap.size P R (j + 1) s2 ∧ Fr (J.both R) w6 wr) (fun c _ => 0 - (intOf c).toNat)
        case atStart => exact ⟨0, rfl, Nat.zero_le _, hB6, Fr.refl _ _⟩
        case round =>
          clear hB6
          obtain ⟨i, rfl, hi9, hB7, hf7⟩ := hrel
          obtain rfl : i = 0 := by omega
          · skip
            have HB7 := hid hB7
            have HWH := hid (jwhere hB7.l y hIy)
            have hst7 := twj_still hst6 hf7 hBW
            by_cases hne : whJ s2 y = 0
            · rw [hne] at HWH
              clear hB7 hne
              go_wp2_with fail
              refine HWH.out.mono ?_
              rintro e w8 ⟨rfl, hs8⟩
              have HB8 := hid (HB7.out.still hs8)
              go_wp2_with fail
              go_roundw
              case rel => exact ⟨j + 1, s2, by go_num, by omega, HB8.out, hI2, HT2.out, hst7.trans hs8⟩
              case measure => simp [intOf]; omega
            · obtain ⟨h1, h2⟩ := hI2.awaited y hne
              have HST := hid (fun W (hs : Still wr W) => jstate (HB7.out.l.still hs) (whJ s2 y) h2)
              rw [h1] at HST
              have d : (whJ s2 y != 0) = true := by simpa using hne
              generalize whJ s2 y = too at HWH HST d
              clear hB7 h1 h2 hne
              go_wp2_with fail
              refine HWH.out.mono ?_
              rintro e w8 ⟨rfl, hs8⟩
              go_wp2_with fail
              refine (HST.out _ hs8).mono ?_
              rintro e w9 ⟨rfl, hs9⟩
              have HB8 := hid ((HB7.out.still hs8).still hs9)
              go_wp2_with fail
              go_roundw
              case rel => exact ⟨j + 1, s2, by go_num, by omega, HB8.out, hI2, HT2.out, (hst7.trans hs8).trans hs9⟩
              case measure => simp [intOf]; omega
    · have hlt' : ¬ (j : Int) < (n : Int) := by omega
      go_wp2_with (go_at_call 51; refine (jlives _).mono ?_; rintro e w' ⟨rfl, hs13⟩)
      go_ret
      exact ⟨rfl, hst.trans hs13⟩
theorem joinOnce (w : World) (a : Option Addr) (n c : Nat) (hF : IsActs7 w a n c) :
    Calls Try.prog 13 #[.slice a n c] w fun e w' => e = .returned (.bool true) ∧ Still w w' := by
  by_cases hn : n ≤ 150
  · exact joinOnce_ok w a n c hF hn
  · exact joinOnce_big w a n c (by omega)
end Go.Proofs.Ytffjaaolcphonaa
