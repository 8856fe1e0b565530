/- LockWaits: the walk. -/
import Derived.Test.YtffjaaolcphonaaWaits19p
import Derived.Laws.Rows
namespace Go.Proofs.Ytffjaaolcphonaa
open Go.RowKit
set_option linter.unusedSimpArgs false
set_option maxRecDepth 100000 in
set_option maxHeartbeats 2000000 in
theorem lockWaits_big (w : World) (a : Option Addr) (n c : Nat) (hn : 150 < n) :
    Calls Try.prog 17 #[.slice a n c] w fun e w' => e = .returned (.bool true) ∧ Still w w' := by
  have hn' : (150 : Int) < (n : Int) := by omega
  go_enter Try.func17, Try.ntmps17
  go_wp2_with (first
    | (go_at_call 52; refine (lknew _ 3 6 (by omega) (by omega) (by omega) (by omega)).mono ?_; rintro e w1 ⟨K, rfl, h1, hs1, hnn⟩)
    | (go_at_call 67; refine (qnew _ 3 6 (by omega) (by omega) (by omega) (by omega)).mono ?_; rintro e w2 ⟨Q, rfl, h2, hs2⟩)
    | (go_at_call 53; refine (klives _).mono ?_; rintro e w' ⟨rfl, hs3⟩))
  go_ret
  exact ⟨rfl, (hs1.trans hs2).trans hs3⟩
theorem row_new' {w1 w2 : World} {a : Option Addr} {cp b7 : Nat} {xs : List Int} (h : IRow w1 (.slice a xs.length cp) xs) (hnew : 0 < xs.length → ∀ b o, a = some ⟨b, o, none⟩ → b7 < b) (hf : Fr (fun k => k = b7) w1 w2) : IRow w2 (.slice a xs.length cp) xs := by
  by_cases h0 : 0 < xs.length
  · refine h.fr hf fun b off c n e hx => ?_
    injection e with e1 _ _
    have := hnew h0 b off e1
    omega
  · have : xs = [] := List.eq_nil_of_length_eq_zero (by omega)
    subst this
    exact .inl ⟨rfl, _, _, rfl⟩
set_option maxRecDepth 100000 in
set_option maxHeartbeats 8000000 in
theorem lockWaits_ok (w : World) (a : Option Addr) (n c : Nat) (F : Nat → Nat → Int) (hF : IsRow3 4 w a n c F) (hn : n ≤ 150) :
    Calls Try.prog 17 #[.slice a n c] w fun e w' => e = .returned (.bool true) ∧ Still w w' := by
  have hn' : (n : Int) ≤ 150 := by omega
  have HF := hid hF
  clear hF
  go_enter Try.func17, Try.ntmps17
  go_wp2_with (first
    | (go_at_call 52; refine (lknew _ 3 6 (by omega) (by omega) (by omega) (by omega)).mono ?_; rintro e w1 ⟨K, rfl, h1, hs1, hnn⟩)
    | (go_at_call 67; refine (qnew _ 3 6 (by omega) (by omega) (by omega) (by omega)).mono ?_; rintro e w2 ⟨Q, rfl, h2, hs2⟩))
  have hB := two_new h1 h2 hs2
  have hBW : ∀ k, K.both Q k → w.heap.size ≤ k := fun k hk => by
    rcases hk with hk | hk
    · exact hnn k (.inr hk)
    · exact Nat.le_trans hs1.size (h2.lX k hk)
  have hi0 := LInv.new (n := 3) (T := 6) (by omega)
  go_loopw [40] (fun c wr => ∃ (j : Nat) (s : LS), c = .int .i64 j ∧ j ≤ n ∧ s.n = 3 ∧ s.T = 6 ∧ Twin wr K w1.heap.size Q s s ∧ LInv s ∧ Still w wr) (fun c _ => n - (intOf c).toNat)
  case atStart => exact ⟨0, newLS 3 6, rfl, Nat.zero_le _, rfl, rfl, hB, hi0, hs1.trans hs2⟩
  case round =>
    clear hB h1 h2 hi0 hnn
    obtain ⟨j, s, rfl, hj, hn3, hT6, hB, hi, hst⟩ := hrel
    by_cases hlt : j < n
    · have hlt' : (j : Int) < (n : Int) := by omega
      rcases HF.out with h0 | ⟨b1, o1, rfl, _, _, _, _, hc⟩
      · omega
      have g0 := Still.cell hst (hc j hlt 0 (by omega))
      have g1 := Still.cell hst (hc j hlt 1 (by omega))
      have g2 := Still.cell hst (hc j hlt 2 (by omega))
      have g3 := Still.cell hst (hc j hlt 3 (by omega))
      clear hc
      simp only [Nat.add_zero] at g0
      rw [← Nat.add_assoc] at g1 g2 g3
      have HN := hid hn3
      have HT := hid hT6
      clear hn3 hT6
      go_wp2_with fail
      obtain ⟨W2, b2, hW2, hbb2, hB2, hb2, hF2, f0, f1, f2, f3⟩ := two_box hB (F j 0) (F j 1) (F j 2) (F j 3)
      rw [← hW2, ← hbb2]
      clear hW2 hbb2 g0 g1 g2 g3
      have hi2 := hi.step (F j 0) (F j 1) (F j 2) (F j 3)
      have hnT := stepS_nT s (F j 0) (F j 1) (F j 2) (F j 3)
      have C68 := two_any hB2 hi (F j 0) (F j 1) (F j 2) (F j 3)
      unfold TwoPost at C68
      generalize F j 0 = k0 at *
      generalize F j 1 = k1 at *
      generalize F j 2 = k2 at *
      generalize F j 3 = k3 at *
      generalize stepS s k0 k1 k2 k3 = s1 at hi2 hnT C68
      have N3 : Hid (s1.n = 3) := hid (hnT.1.trans HN.out)
      have T6 : Hid (s1.T = 6) := hid (hnT.2.trans HT.out)
      have HC68 := hid C68
      clear hnT C68
      go_wp2_with fail
      refine HC68.out.mono ?_
      rintro e w4 ⟨rfl, hB4, hF4⟩
      have hst4 := two_still hst (hF2.then hF4 (fun _ _ h => h)) hBW
      clear hF2 hF4 hB2 f0 f1 f2 f3 hB HC68
      go_wp2_with fail
      have eB := Blk.new w4 [.int .i64 0, .int .i64 0, .int .i64 0, .int .i64 0, .int .i64 0, .int .i64 0] 110
      obtain ⟨wB, hwB⟩ : ∃ W, w4.alloc (.cells #[.int .i64 0, .int .i64 0, .int .i64 0, .int .i64 0, .int .i64 0, .int .i64 0] 110) = W := ⟨_, rfl⟩
      obtain ⟨b7, hb7⟩ : ∃ b, w4.heap.size = b := ⟨_, rfl⟩
      have hsB : Still w4 wB := by rw [← hwB]; exact (Fr.refl _ _).alloc _
      have hzB : b7 < wB.heap.size := by rw [← hwB, ← hb7]; simp
      have hz4 : b7 ≤ w4.heap.size := by omega
      have hbw : w.heap.size ≤ b7 := by have := hst4.size; omega
      change Blk (w4.alloc (.cells #[.int .i64 0, .int .i64 0, .int .i64 0, .int .i64 0, .int .i64 0, .int .i64 0] 110)) w4.heap.size (ints (TM [])) 110 at eB
      rw [hwB, hb7] at eB ⊢
      have hK7 : ∀ k, K.all k → k ≠ b7 := fun k hk e => by have := hB4.l.lt hk; omega
      have HLK := hid (fun W (hf : Fr (fun k => k = b7) wB W) => (hB4.l.still hsB).fr hf hK7)
      have HTW : Hid (∀ W, Fr (fun k => k = b7) wB W → Twin W K w1.heap.size Q s1 s1 ∧ Still w W) := hid fun W hf => by
        refine ⟨⟨HLK.out W hf, ?_, hB4.d⟩, (hst4.trans hsB).then hf (fun k hk e => by omega)⟩
        have hq : QAt wB w1.heap.size (Q.e (fun k => Q.E k ∨ k = b7)) s1 := hB4.q.frE (E' := fun k => Q.E k ∨ k = b7) (hsB.fr _) (fun k hk => hk.imp id (fun e => by omega)) (fun k hk => by
          rcases hk with hk | hk
          · exact Nat.lt_of_lt_of_le (hB4.q.eX k hk) hsB.size
          · omega)
        have hq2 : QAt W w1.heap.size (Q.e (fun k => Q.E k ∨ k = b7)) s1 := hq.frE (E' := fun k => Q.E k ∨ k = b7) (hf.mono fun _ _ h => .inr h) (fun k hk => .inl hk) (fun k hk => Nat.lt_of_lt_of_le (hq.eX k hk) hf.size)
        exact hq2.weak (fun k hk => .inl hk)
      clear hwB hb7 hB4 hst4 hst
      obtain ⟨wo, rfl⟩ : ∃ wo : World, wo = wr := ⟨_, rfl⟩
      go_loopw [8] (fun o wr => ∃ o' : Nat, o = .int .i64 o' ∧ o' ≤ 3 ∧ Blk wr b7 (ints (TM (preL s1 o'))) 110 ∧ Fr (fun k => k = b7) wB wr) (fun o _ => 3 - (intOf o).toNat)
      case atStart => exact ⟨0, rfl, by omega, eB, Fr.refl _ _⟩
      case round =>
        clear eB
        obtain ⟨o, rfl, ho, hT, hfr⟩ := hrel
        have HTT := hid hT
        clear hT
        by_cases ho3 : o < 3
        · have ho3' : (o : Int) < 3 := by omega
          have hos : o < s1.n := by rw [N3.out]; exact ho3
          have C1 := hid (fun W hf => lkowner (HLK.out W hf) (o : Int))
          have C2 := hid (fun W hf => lkwaiters (HLK.out W hf) (o : Int))
          have C3 := hid (fun W hf => lksleepers (HLK.out W hf) (o : Int))
          rw [ownerI_in hos] at C1
          rw [rowOf_in hos, Nat.zero_add] at C2
          rw [rowOf_in hos] at C3
          have hrg := hi2.rng o hos
          have hfree := hi2.free o hos
          have hW := hid (fun x hx => wait_where hi2 hos (x := x) hx)
          have hS := hid (fun x hx => sleep_where hi2 hos (x := x) hx)
          have hnd1 := hi2.nc.nd o (by rw [hi2.ll]; omega)
          have hnd2 := hi2.nc.nd (s1.n + o) (by rw [hi2.ll]; omega)
          have hc0 := hid (fun t => count_le hi2 (o := o) (by omega) t)
          have HP1 : Hid (preL s1 (o + 1) = preL s1 o ++ gl s1.L o ++ gl s1.L (s1.n + o)) := hid rfl
          rw [T6.out] at hrg hW hS
          generalize s1.ow.getD o 0 = ow at C1 hrg hfree hW
          generalize gl s1.L o = l1 at C2 hfree hW hnd1 HP1
          generalize gl s1.L (s1.n + o) = l2 at C3 hS hnd2 HP1
          generalize preL s1 o = p0 at HTT hc0 HP1
          have hl1 : l1.length ≤ 6 := by simpa using nodup_le 6 l1 hnd1 (fun x hx => by have := (hW.out x hx).1; omega)
          have hl2 : l2.length ≤ 6 := by simpa using nodup_le 6 l2 hnd2 (fun x hx => by have := (hS.out x hx).1; omega)
          have ow5 : ¬ (5 : Int) < ow := by omega
          have hcase : ¬ ow < 0 ∨ (ow < 0 ∧ decide (0 < l1.length) = false) := by
            by_cases e : ow < 0
            · exact .inr ⟨e, by rw [hfree (by omega)]; simp⟩
            · exact .inl e
          clear hfree hrg hos
          go_wp2_with fail
          refine (C1.out _ hfr).mono ?_
          rintro e w5 ⟨rfl, q5⟩
          have hfr5 := hfr.trans (q5.fr _)
          go_wp2_with fail
          refine (C2.out _ hfr5).mono ?_
          rintro e w6 ⟨a1, c1, rfl, r1, q6, n1⟩
          have hfr6 := hfr5.trans (q6.fr _)
          go_wp2_with fail
          refine (C3.out _ hfr6).mono ?_
          rintro e w7 ⟨a2, c2, rfl, r2, q7, n2⟩
          have hfr7 := hfr6.trans (q7.fr _)
          have hT7 : Hid (Blk w7 b7 (ints (TM p0)) 110) := ((HTT.out.still q5).still q6).still q7
          have R1 : Hid (∀ W, Fr (fun k => k = b7) w7 W → IRow W (.slice a1 l1.length c1) (zi l1)) := hid fun W hf => by
            have h5 := hfr5.size
            rw [← zi_len l1] at r1 n1 ⊢
            exact row_new' (r1.still q7) (fun h b o e => Nat.lt_of_lt_of_le hzB (Nat.le_trans h5 (n1 h b o e))) hf
          have R2 : Hid (∀ W, Fr (fun k => k = b7) w7 W → IRow W (.slice a2 l2.length c2) (zi l2)) := hid fun W hf => by
            have h6 := hfr6.size
            rw [← zi_len l2] at r2 n2 ⊢
            exact row_new' r2 (fun h b o e => Nat.lt_of_lt_of_le hzB (Nat.le_trans h6 (n2 h b o e))) hf
          clear r1 r2 n1 n2 q5 q6 q7 hfr hfr5 hfr6 HTT
          have HFR7 := hid hfr7
          clear hfr7
          obtain ⟨wq, rfl⟩ : ∃ wq : World, wq = wr := ⟨_, rfl⟩
          rcases hcase with hp | ⟨hp, hp0⟩
          all_goals
            go_wp2_with fail
            go_loopw [74] (fun i wr => ∃ j : Nat, i = .int .i64 j ∧ j ≤ l1.length ∧ Blk wr b7 (ints (TM (p0 ++ l1.take j))) 110 ∧ Fr (fun k => k = b7) w7 wr) (fun i _ => l1.length - (intOf i).toNat)
            case atStart => exact ⟨0, rfl, Nat.zero_le _, by rw [List.take_zero, List.append_nil]; exact hT7.out, Fr.refl _ _⟩
            case round =>
              obtain ⟨j1, rfl, hj1, hT, hfr⟩ := hrel
              by_cases hl : j1 < l1.length
              · have hl' : (j1 : Int) < (l1.length : Int) := by omega
                rcases R1.out wr hfr with ⟨e0, _⟩ | ⟨_, bb, off, c', hv, hcell⟩
                · exfalso; have e1 := congrArg List.length e0; rw [zi_len] at e1; have e2 : l1.length = 0 := e1; omega
                obtain rfl : a1 = some ⟨bb, off, none⟩ := by injection hv
                clear hv
                have hx := hcell j1 (by rw [zi_len]; exact hl)
                rw [show (zi l1).getD j1 0 = ((l1[j1] : Nat) : Int) by simp [zi, hl]] at hx
                clear hcell
                obtain ⟨x6, wk, wo, wn⟩ := hW.out l1[j1] (List.getElem_mem _)
                have hsn : Hid (p0 ++ l1.take (j1 + 1) = (p0 ++ l1.take j1) ++ [l1[j1]]) := hid (by rw [List.take_succ_eq_append_getElem hl, List.append_assoc])
                have hcn : (p0 ++ l1.take j1).count l1[j1] ≤ 2 := by
                  rw [List.count_append]
                  have := hc0.out l1[j1]
                  have := List.nodup_iff_count.1 (hnd1.sublist (List.take_sublist j1 l1)) l1[j1]
                  omega
                have hts : Hid ((ints (TM (p0 ++ l1.take j1))).set l1[j1] (.int .i64 (((p0 ++ l1.take j1).count l1[j1] : Nat) + 1 : Int)) = ints (TM (p0 ++ l1.take (j1 + 1)))) := hid (by rw [hsn.out, TM_snoc]; simp [ints])
                have hcc : wr.cell? ⟨b7, l1[j1], none⟩ = some (.int .i64 ((p0 ++ l1.take j1).count l1[j1])) := by
                  rw [hT.cell]; simp [ints, TM_at _ x6]
                have zz : wr.frozen? ⟨b7, l1[j1], none⟩ = false := hT.frozen _
                have CW := hid (fun W hf => lkwhere (HLK.out W hf) (l1[j1] : Int))
                rw [wk, wo] at CW
                have HT := hid hT
                have d1 : (((l1[j1] : Nat) : Int) == ow) = false := by simp; omega
                have x6' : ((l1[j1] : Nat) : Int) < 6 := by omega
                clear hT wk wo wn hsn
                generalize l1[j1] = x at *
                generalize (p0 ++ l1.take j1).count x = cnt at *
                go_wp2_with fail
                refine (CW.out _ (HFR7.out.trans hfr)).mono ?_
                rintro e w8 ⟨rfl, q8⟩
                have hfr8 := hfr.trans (q8.fr _)
                have hcc8 := Still.cell q8 hcc
                have zz8 := Still.frz q8 (World.block_lt_of_cell? _ _ hcc) zz
                have HPUT8 : Hid (Blk (w8.setCell ⟨b7, x, none⟩ (.int .i64 ((cnt : Int) + 1))) b7 (ints (TM (p0 ++ l1.take (j1 + 1)))) 110) := hid (by rw [← hts.out]; exact (HT.out.still q8).put x _)
                have hF8 := hid (hfr8.trans ((Fr.refl (fun k => k = b7) w8).setCell (p := ⟨b7, x, none⟩) (.inl rfl) (.int .i64 ((cnt : Int) + 1))))
                clear hcc zz
                go_wp2_with fail
                go_roundw
                case rel => exact ⟨j1 + 1, by go_num, by omega, HPUT8.out, hF8.out⟩
                case measure => simp [intOf]; omega
              · have hl' : ¬ (j1 : Int) < (l1.length : Int) := by omega
                obtain rfl : l1.length = j1 := by omega
                rw [List.take_length] at hT
                have HT := hid hT
                clear hT hW
                obtain ⟨wp, rfl⟩ : ∃ wp : World, wp = wr := ⟨_, rfl⟩
                go_wp2_with fail
                go_loopw [104] (fun i wr => ∃ j : Nat, i = .int .i64 j ∧ j ≤ l2.length ∧ Blk wr b7 (ints (TM ((p0 ++ l1) ++ l2.take j))) 110 ∧ Fr (fun k => k = b7) w7 wr) (fun i _ => l2.length - (intOf i).toNat)
                case atStart => exact ⟨0, rfl, Nat.zero_le _, by rw [List.take_zero, List.append_nil]; exact HT.out, hfr⟩
                case round =>
                  clear HT hfr
                  obtain ⟨j2, rfl, hj2, hT, hfr⟩ := hrel
                  by_cases hl : j2 < l2.length
                  · have hl' : (j2 : Int) < (l2.length : Int) := by omega
                    rcases R2.out wr hfr with ⟨e0, _⟩ | ⟨_, bb, off, c', hv, hcell⟩
                    · exfalso; have e1 := congrArg List.length e0; rw [zi_len] at e1; have e2 : l2.length = 0 := e1; omega
                    obtain rfl : a2 = some ⟨bb, off, none⟩ := by injection hv
                    clear hv
                    have hx := hcell j2 (by rw [zi_len]; exact hl)
                    rw [show (zi l2).getD j2 0 = ((l2[j2] : Nat) : Int) by simp [zi, hl]] at hx
                    clear hcell
                    obtain ⟨x6, wk, wo⟩ := hS.out l2[j2] (List.getElem_mem _)
                    have hsn : Hid ((p0 ++ l1) ++ l2.take (j2 + 1) = ((p0 ++ l1) ++ l2.take j2) ++ [l2[j2]]) := hid (by rw [List.take_succ_eq_append_getElem hl]; simp [List.append_assoc])
                    have hcn : ((p0 ++ l1) ++ l2.take j2).count l2[j2] ≤ 3 := by
                      rw [List.count_append, List.count_append]
                      have := hc0.out l2[j2]
                      have := List.nodup_iff_count.1 (hnd2.sublist (List.take_sublist j2 l2)) l2[j2]
                      have := List.nodup_iff_count.1 hnd1 l2[j2]
                      omega
                    have hts : Hid ((ints (TM ((p0 ++ l1) ++ l2.take j2))).set l2[j2] (.int .i64 ((((p0 ++ l1) ++ l2.take j2).count l2[j2] : Nat) + 1 : Int)) = ints (TM ((p0 ++ l1) ++ l2.take (j2 + 1)))) := hid (by rw [hsn.out, TM_snoc]; simp [ints])
                    have hcc : wr.cell? ⟨b7, l2[j2], none⟩ = some (.int .i64 (((p0 ++ l1) ++ l2.take j2).count l2[j2])) := by
                      rw [hT.cell]; simp [ints, TM_at _ x6]
                    have zz : wr.frozen? ⟨b7, l2[j2], none⟩ = false := hT.frozen _
                    have CW := hid (fun W hf => lkwhere (HLK.out W hf) (l2[j2] : Int))
                    rw [wk, wo] at CW
                    have HT := hid hT
                    have x6' : ((l2[j2] : Nat) : Int) < 6 := by omega
                    clear hT wk wo hsn
                    generalize l2[j2] = x at *
                    generalize ((p0 ++ l1) ++ l2.take j2).count x = cnt at *
                    go_wp2_with fail
                    refine (CW.out _ (HFR7.out.trans hfr)).mono ?_
                    rintro e w8 ⟨rfl, q8⟩
                    have hfr8 := hfr.trans (q8.fr _)
                    have hcc8 := Still.cell q8 hcc
                    have zz8 := Still.frz q8 (World.block_lt_of_cell? _ _ hcc) zz
                    have HPUT8 : Hid (Blk (w8.setCell ⟨b7, x, none⟩ (.int .i64 ((cnt : Int) + 1))) b7 (ints (TM ((p0 ++ l1) ++ l2.take (j2 + 1)))) 110) := hid (by rw [← hts.out]; exact (HT.out.still q8).put x _)
                    have hF8 := hid (hfr8.trans ((Fr.refl (fun k => k = b7) w8).setCell (p := ⟨b7, x, none⟩) (.inl rfl) (.int .i64 ((cnt : Int) + 1))))
                    clear hcc zz
                    go_wp2_with fail
                    go_roundw
                    case rel => exact ⟨j2 + 1, by go_num, by omega, HPUT8.out, hF8.out⟩
                    case measure => simp [intOf]; omega
                  · have hl' : ¬ (j2 : Int) < (l2.length : Int) := by omega
                    obtain rfl : l2.length = j2 := by omega
                    rw [List.take_length, ← HP1.out] at hT
                    have HT := hid hT
                    clear hT hS
                    go_wp2_with fail
                    go_roundw
                    case rel => exact ⟨o + 1, by go_num, by omega, HT.out, HFR7.out.trans hfr⟩
                    case measure => simp [intOf]; omega
        · have ho3' : ¬ (o : Int) < 3 := by omega
          obtain rfl : o = 3 := by omega
          have hT3 := HTT.out
          rw [← N3.out] at hT3
          have hw6 := hid (fun k (hk : k < 6) => times_where hi2 (t := k) (by rw [T6.out]; exact hk))
          generalize preL s1 s1.n = pl at hT3 hw6
          have hcells : Blk wr b7 [.int .i64 (pl.count 0 : Int), .int .i64 (pl.count 1 : Int), .int .i64 (pl.count 2 : Int), .int .i64 (pl.count 3 : Int), .int .i64 (pl.count 4 : Int), .int .i64 (pl.count 5 : Int)] 110 := hT3
          have hnk : Hid (∀ k, k < 6 → [(pl.count 0 : Int), pl.count 1, pl.count 2, pl.count 3, pl.count 4, pl.count 5].getD k 0 = (pl.count k : Int)) := hid fun k hk => by
            have h : k = 0 ∨ k = 1 ∨ k = 2 ∨ k = 3 ∨ k = 4 ∨ k = 5 := by omega
            rcases h with rfl | rfl | rfl | rfl | rfl | rfl <;> rfl
          have hix := hid (run_index6 (pl.count 0 : Int) (pl.count 1 : Int) (pl.count 2 : Int) (pl.count 3 : Int) (pl.count 4 : Int) (pl.count 5 : Int))
          unfold Blk at hcells
          clear hT3 HTT
          generalize (pl.count 0 : Int) = m0 at hcells hnk hix
          generalize (pl.count 1 : Int) = m1 at hcells hnk hix
          generalize (pl.count 2 : Int) = m2 at hcells hnk hix
          generalize (pl.count 3 : Int) = m3 at hcells hnk hix
          generalize (pl.count 4 : Int) = m4 at hcells hnk hix
          generalize (pl.count 5 : Int) = m5 at hcells hnk hix
          have HCE := hid hcells
          clear hcells
          obtain ⟨wq, rfl⟩ : ∃ wq : World, wq = wr := ⟨_, rfl⟩
          go_wp2_with (refine wpList_load_row rfl 110 _ rfl b7 rfl 110 _ (0, 0) _ HCE.out Try.underlying110 rfl (by kernel_rfl) ?_)
          go_loopw [128] (fun i wr => ∃ k : Nat, i = .int .i64 k ∧ k ≤ 6 ∧ Fr (fun k => k = b7) wB wr) (fun i _ => 6 - (intOf i).toNat)
          case atStart => exact ⟨0, rfl, by omega, hfr⟩
          case round =>
            clear hfr
            obtain ⟨k, rfl, hk, hfr⟩ := hrel
            by_cases hk6 : k < 6
            · have hk6' : (k : Int) < 6 := by omega
              have hrun := hix.out k hk6
              rw [hnk.out k hk6] at hrun
              have CW := hid (fun W hf => lkwhere (HLK.out W hf) (k : Int))
              rcases hw6.out k hk6 with ⟨e1, e2⟩ | ⟨e1, e2 | e2⟩
              all_goals
                rw [e1] at hrun
                rw [e2] at CW
                clear e1 e2
                go_wp2_with (go_at_call 71; refine (CW.out _ hfr).mono ?_; rintro e w9 ⟨rfl, q9⟩)
                go_roundw
                case rel => exact ⟨k + 1, by go_num, by omega, hfr.trans (q9.fr _)⟩
                case measure => simp [intOf]; omega
            · have hk6' : ¬ (k : Int) < 6 := by omega
              obtain ⟨hTw, hSt⟩ := HTW.out wr hfr
              have HTw := hid hTw
              have HSt := hid hSt
              clear hTw hSt
              go_wp2_with fail
              go_roundw
              case rel => exact ⟨j + 1, s1, by go_num, by omega, N3.out, T6.out, HTw.out, hi2, HSt.out⟩
              case measure => simp [intOf]; omega
    · have hlt' : ¬ (j : Int) < (n : Int) := by omega
      go_wp2_with (go_at_call 53; refine (klives _).mono ?_; rintro e w' ⟨rfl, hs13⟩)
      go_ret
      exact ⟨rfl, hst.trans hs13⟩
theorem lockWaits (w : World) (a : Option Addr) (n c : Nat) (F : Nat → Nat → Int) (hF : IsRow3 4 w a n c F) :
    Calls Try.prog 17 #[.slice a n c] w fun e w' => e = .returned (.bool true) ∧ Still w w' := by
  by_cases hn : n ≤ 150
  · exact lockWaits_ok w a n c F hF hn
  · exact lockWaits_big w a n c (by omega)
end Go.Proofs.Ytffjaaolcphonaa
