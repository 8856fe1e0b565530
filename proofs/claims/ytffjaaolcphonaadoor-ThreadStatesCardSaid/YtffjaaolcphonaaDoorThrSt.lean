/- ThreadStates: the walk. -/
import Derived.Test.YtffjaaolcphonaaDoorBdThrA
namespace Go.Proofs.YtffjaaolcphonaaDoor
open Go.RowKit Go.Maps
set_option linter.unusedSimpArgs false
theorem threadStates_big (w : World) (hT : TabD w) (hC : TabT w) (a : Option Addr) (n c : Nat) (hn : 100 < n) : Calls Tryd.prog 10 #[.slice a n c] w fun e w' => e = .returned (.bool true) ∧ Still w w' := by
  have hn' : (100 : Int) < (n : Int) := by omega
  have HT := hid hT
  have HC := hid hC
  have HN := hid (fun (u : World) => tnew u 8 (by omega) (by omega))
  have HR := hid (fun (u : World) => rtnew u 8 (by omega) (by omega))
  clear hn hT hC
  go_enter Tryd.func10, Tryd.ntmps10
  go_wp2_with fail
  refine (HN.out w).mono ?_
  rintro e w1 ⟨P, B, M, rfl, hA, hs1, hnn⟩
  clear hA hnn
  go_wp2_with fail
  refine (HR.out w1).mono ?_
  rintro e w2 ⟨Q, p, A, T, cA, cT, rfl, hR, hs2⟩
  clear hR
  have S2 := hid (hs1.trans hs2)
  clear hs1 hs2
  go_wp2_with (go_at_call 40; refine (tlives _ (HT.out.still S2.out) (HC.out.still S2.out)).mono ?_; rintro e w' ⟨rfl, hs⟩)
  go_ret
  exact ⟨rfl, S2.out.trans hs⟩
set_option maxRecDepth 100000 in
set_option maxHeartbeats 8000000 in
theorem threadStates_ok (w : World) (hT : TabD w) (hC : TabT w) (a : Option Addr) (n c : Nat) (F : Nat → LAct) (hF : IsLActs w a n c F) (hn : n ≤ 100) :
    Calls Tryd.prog 10 #[.slice a n c] w fun e w' => e = .returned (.bool true) ∧ Still w w' := by
  have hn' : ¬ (100 : Int) < (n : Int) := by omega
  have HF := hid hF
  have HT := hid hT
  have HC := hid hC
  have h7 := hid hT.lt
  have HN := hid (tnew w 8 (by omega) (by omega))
  have HR := hid (fun (u : World) => rtnew u 8 (by omega) (by omega))
  clear hF hT hC
  go_enter Tryd.func10, Tryd.ntmps10
  go_wp2_with fail
  refine HN.out.mono ?_
  rintro e w1 ⟨P, B, M, rfl, hA, hs1, hnn⟩
  have HA := hid hA
  have HS1 := hid hs1
  have HNN := hid hnn
  clear hA hs1 hnn
  go_wp2_with fail
  refine (HR.out w1).mono ?_
  rintro e w2 ⟨Q, p, A, T, cA, cT, rfl, hR, hs2⟩
  have TS := two_start (by omega) (by have := h7.out; omega) HA.out HNN.out HS1.out hR hs2
  obtain ⟨KB, hKB⟩ : ∃ K : TB, TB.mk P B M Q p A T cA cT = K := ⟨_, rfl⟩
  obtain ⟨O0, hO0⟩ : ∃ O : Nat → Prop, (fun k => w1.heap.size ≤ k ∧ k < w2.heap.size) = O := ⟨_, rfl⟩
  rw [hKB, hO0] at TS
  have KP : P = KB.P := by rw [← hKB]
  have KQ : Q = KB.Q := by rw [← hKB]
  have T0 := hid TS.1
  have FT0 := hid TS.2
  have S2 := hid (HS1.out.trans hs2)
  rw [KP, KQ]
  clear TS hR hs2 hKB hO0 KP KQ HA HNN HN HR
  have DB0 : Hid (DB [] 0) := hid (fun x hx => by cases hx)
  have L80 : Hid ((zeroS 8 8).ages.length = 8) := hid (by decide)
  go_wp2_with fail
  go_loopw [6, 7, 8, 9, 11, 12, 13, 30] (fun s6 s7 s8 s9 s11 s12 s13 cc wr => ∃ (j : Nat) (s : SS) (L : List Thr) (O : Nat → Prop), cc = .int .i64 j ∧ j ≤ n ∧ Hid (TwoT wr KB O s L) ∧ Hid (∀ k, KB.foot O k → w.heap.size ≤ k) ∧ Hid (Still w wr) ∧ Hid (DB L j) ∧ Hid (s.ages.length = 8)) (fun s6 s7 s8 s9 s11 s12 s13 cc _ => n - (intOf cc).toNat)
  case atStart => exact ⟨0, _, [], O0, rfl, Nat.zero_le _, T0, FT0, S2, DB0, L80⟩
  case round =>
    clear T0 FT0 S2 DB0 L80
    obtain ⟨j, s, L, O, rfl, hj, T1, FT, S1, D1, L8⟩ := hrel
    by_cases hlt : j < n
    · have hlt' : (j : Int) < (n : Int) := by omega
      rcases HF.out with h0 | ⟨b1, o1, rfl, _, _, _, _, hc⟩
      · omega
      obtain ⟨hx, hwx⟩ := hc j hlt
      obtain ⟨x, hxx⟩ : ∃ x, F j = x := ⟨_, rfl⟩
      rw [hxx] at hx hwx
      have HX : Hid (wr.rangeAt b1 (o1 + j * 15) [.int .i64 x.k, .int .i64 x.i, .int .i64 x.t, .bool x.re, .int .i64 x.c.p, .int .i64 x.c.q, .int .i64 x.c.r0, .int .i64 x.c.r1, .int .i64 x.c.r2, .int .i64 x.c.r3, .int .i64 x.c.r4, .int .i64 x.c.r5, .int .i64 x.c.r6, .int .i64 x.c.r7, .int .i64 x.c.d]) := hid fun k v hv => Still.cell S1.out (hx k v hv)
      have WX := hid hwx
      clear hc hx hwx hxx
      go_wp2_with (first
        | (refine wpList_load_mid rfl 60 (.tmp 32) rfl b1 (o1 + j * 15) rfl [.int .i64 x.k, .int .i64 x.i, .int .i64 x.t, .bool x.re, .int .i64 x.c.p, .int .i64 x.c.q, .int .i64 x.c.r0, .int .i64 x.c.r1, .int .i64 x.c.r2, .int .i64 x.c.r3, .int .i64 x.c.r4, .int .i64 x.c.r5, .int .i64 x.c.r6, .int .i64 x.c.r7, .int .i64 x.c.d] _ HX.out Tryd.underlying60 rfl I60 ?_)
        | (refine wpList_storeW rfl (.tmp 6) (.tmp 33) 60 rfl _ 60 [.int .i64 l0.k, .int .i64 l0.i, .int .i64 l0.t, .bool l0.re, .int .i64 l0.c.p, .int .i64 l0.c.q, .int .i64 l0.c.r0, .int .i64 l0.c.r1, .int .i64 l0.c.r2, .int .i64 l0.c.r3, .int .i64 l0.c.r4, .int .i64 l0.c.r5, .int .i64 l0.c.r6, .int .i64 l0.c.r7, .int .i64 l0.c.d] [.int .i64 x.k, .int .i64 x.i, .int .i64 x.t, .bool x.re, .int .i64 x.c.p, .int .i64 x.c.q, .int .i64 x.c.r0, .int .i64 x.c.r1, .int .i64 x.c.r2, .int .i64 x.c.r3, .int .i64 x.c.r4, .int .i64 x.c.r5, .int .i64 x.c.r6, .int .i64 x.c.r7, .int .i64 x.c.d] I60 (onesL x) rfl rfl (new_l _) rfl ?_; intro w3 b3 f3; have B3 := hid b3; have S3 : Hid (Still wr w3) := hid (Still.next ((Fr.refl _ _).alloc _) f3 (fun k hk => by rw [hk]; exact Nat.le_refl _)); clear b3 f3))
      have SW3 := hid (S1.out.trans S3.out)
      have T3 := hid (T1.out.still S3.out)
      have LN := hid T1.out.v.len
      refine (tall T3.out.t (by have := LN.out; omega) T3.out.v.wf).mono ?_
      rintro e w5 ⟨v5, rfl, o5, s5⟩
      obtain ⟨a5, c5, rfl⟩ := own_shape o5 _ rfl
      have N5 : Hid (∀ b off c n, Value.slice a5 L.length c5 = .slice (some ⟨b, off, none⟩) n c → ¬ KB.foot O b) := hid (fun b off c n e h => by
        have h1 := T3.out.lt b h
        obtain ⟨_, ⟨e2, _⟩ | ⟨g, cap, cur, e2, hg, _⟩⟩ := o5
        · rw [e2] at e; cases e
        · rw [e2] at e
          injection e with e3 _ _
          injection e3 with e3
          injection e3 with e3 _ _
          omega)
      have O5 := hid (SRow.own (S := S68) o5 rfl)
      have B5 := hid (B3.out.still s5)
      have T5 := hid (T3.out.still s5)
      have SW5 := hid (SW3.out.trans s5)
      clear o5 s5
      go_wp2_with (refine wpList_loadW rfl (.tmp 6) 60 rfl _ Tryd.underlying60 rfl _ 60 [.int .i64 x.k, .int .i64 x.i, .int .i64 x.t, .bool x.re, .int .i64 x.c.p, .int .i64 x.c.q, .int .i64 x.c.r0, .int .i64 x.c.r1, .int .i64 x.c.r2, .int .i64 x.c.r3, .int .i64 x.c.r4, .int .i64 x.c.r5, .int .i64 x.c.r6, .int .i64 x.c.r7, .int .i64 x.c.d] I60 rfl B5.out ?_)
      refine (tact T5.out (HT.out.still SW5.out) (HC.out.still SW5.out) x WX.out).mono ?_
      rintro e w4 ⟨rfl, t4, f4⟩
      have T4 := hid t4
      have SW4 : Hid (Still w w4) := hid (SW5.out.next f4 (fun k hk => FT.out k hk))
      have FT4 : Hid (∀ k, KB.foot (upO O w5 w4) k → w.heap.size ≤ k) := hid (upO_lo FT.out SW5.out.size)
      have O4 := hid (O5.out.fr f4 N5.out)
      have GA := grew_act T1.out.v D1.out (by omega) x
      have G4 := hid GA.1
      have D4 := hid GA.2
      have L4 := hid ((actS_len s L x).trans L8.out)
      obtain ⟨LL, hLL⟩ : ∃ M, actL s L x = M := ⟨_, rfl⟩
      obtain ⟨s4, hs4⟩ : ∃ M, actS s L x = M := ⟨_, rfl⟩
      rw [hLL] at T4 G4 D4
      rw [hs4] at T4 L4
      have LE := hid (by have := T4.out.v.le; rw [L4.out] at this; exact this)
      clear t4 f4 hLL hs4 GA N5 O5 B5 T5 T3 B3 S3 HX
      go_wp2_with fail
      go_loopw [8, 9] (fun s8 s9 wi => ∃ i : Nat, s9 = .int .i64 ((i : Int) + 1) ∧ i ≤ 4 ∧ s8 = .int .i64 (sumT LL i) ∧ Hid (Still w4 wi)) (fun s8 s9 _ => 6 - (intOf s9).toNat)
      case atStart => exact ⟨0, rfl, by omega, rfl, hid (Fr.refl _ _)⟩
      case round =>
        obtain ⟨i, rfl, hi, rfl, S6⟩ := hrel
        by_cases hi4 : i < 4
        · have hi4' : (i : Int) + 1 ≤ 4 := by omega
          go_wp2_with fail
          refine (tcount (T4.out.t.still S6.out) (by have := LE.out; omega) _).mono ?_
          rintro e w7 ⟨rfl, s7⟩
          have S7 := hid (S6.out.trans s7)
          clear s7
          have BS := sumT_le LL i
          have BC : cntT LL ((i : Int) + 1) ≤ LL.length := List.countP_le_length
          have BI : i * LL.length ≤ 4 * 8 := Nat.mul_le_mul hi LE.out
          have BL := LE.out
          go_wp2_with fail
          go_roundw
          case rel => exact ⟨i + 1, by go_num, by omega, by go_num, S7⟩
          case measure => simp [intOf]; omega
        · have hi4' : ¬ (i : Int) + 1 ≤ 4 := by omega
          obtain rfl : i = 4 := by omega
          have CS := cnt_sum T4.out.v.st
          have C4 := hid (sumT_four T4.out.v.st)
          have C0 := hid CS.2.1
          have C5 := hid CS.2.2
          rw [C4.out]
          clear CS
          have BL := LE.out
          go_wp2_with fail
          refine (tall (T4.out.t.still S6.out) (by have := LE.out; omega) T4.out.v.wf).mono ?_
          rintro e w7 ⟨v7, rfl, o7, s7⟩
          obtain ⟨a7, c7, rfl⟩ := own_shape o7 _ rfl
          have S7 := hid (S6.out.trans s7)
          clear o7 s7
          have B8 : ¬ (8 : Int) < (LL.length : Int) := by omega
          have BLL := LN.out
          go_wp2_with fail
          refine (tcount (T4.out.t.still S7.out) (by have := LE.out; omega) _).mono ?_
          rintro e w8 ⟨rfl, s8⟩
          have S8 := hid (S7.out.trans s8)
          clear s8
          rw [C0.out]
          go_wp2_with fail
          refine (tcount (T4.out.t.still S8.out) (by have := LE.out; omega) _).mono ?_
          rintro e w9 ⟨rfl, s9⟩
          have S9 := hid (S8.out.trans s9)
          clear s9
          rw [C5.out]
          go_wp2_with fail
          go_loopw [11, 12, 13, 70] (fun s11 s12 s13 c3 wr => ∃ i : Nat, c3 = .int .i64 i ∧ i ≤ L.length ∧ Hid (Still w4 wr)) (fun s11 s12 s13 c3 _ => L.length - (intOf c3).toNat)
          case atStart => exact ⟨0, rfl, Nat.zero_le _, S9⟩
          case round =>
            clear S9 S8 S7 S6
            obtain ⟨i, rfl, hi, S10⟩ := hrel
            by_cases hiL : i < L.length
            · have hiL' : (i : Int) < (L.length : Int) := by omega
              obtain ⟨b, off, c2, ev, hc⟩ := (O4.out.still S10.out).at hiL
              obtain ⟨rfl, rfl⟩ : a5 = some ⟨b, off, none⟩ ∧ c5 = c2 := by injection ev with e1 _ e3; exact ⟨e1, e3⟩
              obtain ⟨x, hx⟩ : ∃ x, L[i] = x := ⟨_, rfl⟩
              rw [hx] at hc
              have HM : Hid (x ∈ L) := hid (hx ▸ List.getElem_mem hiL)
              have HC : Hid (wr.rangeAt b (off + i * 15) [.int .i64 x.i, .int .i64 x.s, .int .i64 x.t, .int .i64 x.c.p, .int .i64 x.c.q, .int .i64 x.c.r0, .int .i64 x.c.r1, .int .i64 x.c.r2, .int .i64 x.c.r3, .int .i64 x.c.r4, .int .i64 x.c.r5, .int .i64 x.c.r6, .int .i64 x.c.r7, .int .i64 x.c.d, .int .i64 x.d]) := hid hc
              have GX := hid (G4.out.at HM.out)
              clear hx hc ev
              have NOTYET : True := trivial
              go_wp2_with (first
                | (refine wpList_load_mid rfl 77 (.tmp 72) rfl b (off + i * 15) rfl [.int .i64 x.i, .int .i64 x.s, .int .i64 x.t, .int .i64 x.c.p, .int .i64 x.c.q, .int .i64 x.c.r0, .int .i64 x.c.r1, .int .i64 x.c.r2, .int .i64 x.c.r3, .int .i64 x.c.r4, .int .i64 x.c.r5, .int .i64 x.c.r6, .int .i64 x.c.r7, .int .i64 x.c.d, .int .i64 x.d] _ HC.out Tryd.underlying77 rfl I77 ?_)
                | (clear NOTYET; refine wpList_storeW rfl (.tmp 11) (.tmp 73) 77 rfl _ 77 [.int .i64 t0.i, .int .i64 t0.s, .int .i64 t0.t, .int .i64 t0.c.p, .int .i64 t0.c.q, .int .i64 t0.c.r0, .int .i64 t0.c.r1, .int .i64 t0.c.r2, .int .i64 t0.c.r3, .int .i64 t0.c.r4, .int .i64 t0.c.r5, .int .i64 t0.c.r6, .int .i64 t0.c.r7, .int .i64 t0.c.d, .int .i64 t0.d] [.int .i64 x.i, .int .i64 x.s, .int .i64 x.t, .int .i64 x.c.p, .int .i64 x.c.q, .int .i64 x.c.r0, .int .i64 x.c.r1, .int .i64 x.c.r2, .int .i64 x.c.r3, .int .i64 x.c.r4, .int .i64 x.c.r5, .int .i64 x.c.r6, .int .i64 x.c.r7, .int .i64 x.c.d, .int .i64 x.d] I77 (ones x) rfl rfl (new_t _) rfl ?_; intro w11 b11 f11; have B11 := hid b11; have x0 : w11.cell? ⟨wr.heap.size, 0, none⟩ = some (.int .i64 x.i) := b11.cell 0; have S11 : Hid (Still wr w11) := hid (Still.next ((Fr.refl _ _).alloc _) f11 (fun k hk => by rw [hk]; exact Nat.le_refl _)); clear b11 f11))
              clear x0
              obtain ⟨z, hz⟩ : ∃ z, fndT LL x.i = z := ⟨_, rfl⟩
              obtain ⟨ze, hze⟩ : ∃ ze, fndE LL x.i = ze := ⟨_, rfl⟩
              have TG := tget (T4.out.t.still (S10.out.trans S11.out)) x.i (T1.out.v.wf x HM.out)
              rw [hz, hze] at TG
              rw [hz, hze] at GX
              refine TG.mono ?_
              rintro e w12 ⟨rfl, s12⟩
              have S12 := hid (S11.out.trans s12)
              have B12 := hid (B11.out.still s12)
              clear s12 TG hz
              by_cases hf : ze = 0
              · have e0 : (ze == 0) = true := by simp [hf]
                obtain ⟨g1, g2⟩ := GX.out hf
                have g3 : (z.t != x.t) = false := by simp [g2]
                clear g2
                rw [e0]
                have NOTYET : True := trivial
                clear hf hze
                go_wp2_with (clear NOTYET; refine wpList_storeW rfl (.tmp 12) (.tmp 79) 77 rfl _ 77 [.int .i64 t0.i, .int .i64 t0.s, .int .i64 t0.t, .int .i64 t0.c.p, .int .i64 t0.c.q, .int .i64 t0.c.r0, .int .i64 t0.c.r1, .int .i64 t0.c.r2, .int .i64 t0.c.r3, .int .i64 t0.c.r4, .int .i64 t0.c.r5, .int .i64 t0.c.r6, .int .i64 t0.c.r7, .int .i64 t0.c.d, .int .i64 t0.d] [.int .i64 z.i, .int .i64 z.s, .int .i64 z.t, .int .i64 z.c.p, .int .i64 z.c.q, .int .i64 z.c.r0, .int .i64 z.c.r1, .int .i64 z.c.r2, .int .i64 z.c.r3, .int .i64 z.c.r4, .int .i64 z.c.r5, .int .i64 z.c.r6, .int .i64 z.c.r7, .int .i64 z.c.d, .int .i64 z.d] I77 (ones z) rfl rfl (new_t _) rfl ?_; intro w13 b13 f13; have X13 := (B12.out.alloc (.cells #[.int .i64 0, .int .i64 0, .int .i64 0, .int .i64 0, .int .i64 0, .int .i64 0, .int .i64 0, .int .i64 0, .int .i64 0, .int .i64 0, .int .i64 0, .int .i64 0, .int .i64 0, .int .i64 0, .int .i64 0] 77)).fr f13 (by have := B12.out.lt; omega); have z14 : w13.cell? ⟨w12.heap.size, 14, none⟩ = some (.int .i64 z.d) := b13.cell 14; have z2 : w13.cell? ⟨w12.heap.size, 2, none⟩ = some (.int .i64 z.t) := b13.cell 2; have x14 : w13.cell? ⟨wr.heap.size, 14, none⟩ = some (.int .i64 x.d) := X13.cell 14; have x2 : w13.cell? ⟨wr.heap.size, 2, none⟩ = some (.int .i64 x.t) := X13.cell 2; have S13 : Hid (Still w4 w13) := hid ((S10.out.trans S12.out).trans (Still.next ((Fr.refl _ _).alloc _) f13 (fun k hk => by rw [hk]; exact Nat.le_refl _))); clear b13 f13 X13)
                go_roundw
                case rel => exact ⟨i + 1, by go_num, by omega, S13⟩
                case measure => simp [intOf]; omega
              · have e0 : (ze == 0) = false := by simp [hf]
                rw [e0]
                have NOTYET : True := trivial
                clear hf hze
                go_wp2_with (clear NOTYET; refine wpList_storeW rfl (.tmp 12) (.tmp 79) 77 rfl _ 77 [.int .i64 t0.i, .int .i64 t0.s, .int .i64 t0.t, .int .i64 t0.c.p, .int .i64 t0.c.q, .int .i64 t0.c.r0, .int .i64 t0.c.r1, .int .i64 t0.c.r2, .int .i64 t0.c.r3, .int .i64 t0.c.r4, .int .i64 t0.c.r5, .int .i64 t0.c.r6, .int .i64 t0.c.r7, .int .i64 t0.c.d, .int .i64 t0.d] [.int .i64 z.i, .int .i64 z.s, .int .i64 z.t, .int .i64 z.c.p, .int .i64 z.c.q, .int .i64 z.c.r0, .int .i64 z.c.r1, .int .i64 z.c.r2, .int .i64 z.c.r3, .int .i64 z.c.r4, .int .i64 z.c.r5, .int .i64 z.c.r6, .int .i64 z.c.r7, .int .i64 z.c.d, .int .i64 z.d] I77 (ones z) rfl rfl (new_t _) rfl ?_; intro w13 b13 f13; have S13 : Hid (Still w4 w13) := hid ((S10.out.trans S12.out).trans (Still.next ((Fr.refl _ _).alloc _) f13 (fun k hk => by rw [hk]; exact Nat.le_refl _))); clear b13 f13)
                go_roundw
                case rel => exact ⟨i + 1, by go_num, by omega, S13⟩
                case measure => simp [intOf]; omega
            · have hiL' : ¬ (i : Int) < (L.length : Int) := by omega
              have SW10 := hid (SW4.out.trans S10.out)
              have T10 := hid (T4.out.still S10.out)
              go_wp2_with fail
              go_roundw
              case rel => exact ⟨j + 1, _, _, _, by go_num, by omega, T10, FT4, SW10, D4, L4⟩
              case measure => simp [intOf]; omega
    · have hlt' : ¬ (j : Int) < (n : Int) := by omega
      go_wp2_with (go_at_call 40; refine (tlives _ (HT.out.still S1.out) (HC.out.still S1.out)).mono ?_; rintro e w' ⟨rfl, hs2⟩)
      go_ret
      exact ⟨rfl, S1.out.trans hs2⟩
theorem threadStates (w : World) (hT : TabD w) (hC : TabT w) (a : Option Addr) (n c : Nat) (F : Nat → LAct) (hF : IsLActs w a n c F) : Calls Tryd.prog 10 #[.slice a n c] w fun e w' => e = .returned (.bool true) ∧ Still w w' := by
  by_cases hn : 100 < n
  · exact threadStates_big w hT hC a n c hn
  · exact threadStates_ok w hT hC a n c F hF (by omega)
end Go.Proofs.YtffjaaolcphonaaDoor
