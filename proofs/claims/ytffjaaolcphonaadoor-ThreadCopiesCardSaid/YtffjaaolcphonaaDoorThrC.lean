/- ThreadCopies: the walk. -/
import Derived.Test.YtffjaaolcphonaaDoorBdCp
import Derived.Test.YtffjaaolcphonaaDoorThr9
import Derived.Test.YtffjaaolcphonaaDoorBdThrA
namespace Go.Proofs.YtffjaaolcphonaaDoor
open Go.RowKit Go.Maps
set_option linter.unusedSimpArgs false
/-- Both sides' copies. -/
theorem two_copy {w w1 w2 : World} {s : SS} {L : List Thr} (hv : TInv s L) (hw : 8 ≤ w.heap.size) {P : Nat} {B : SB} {M : Nat} (hA : TAt w1 P B M s L) (hn : TNew w P B M) (hs1 : Still w w1) {Q p A T cA cT : Nat} (hR : RTAt w2 (fun k => w1.heap.size ≤ k ∧ k < w2.heap.size) Q p A T cA cT s L) (hs2 : Still w1 w2) :
    TwoT w2 ⟨P, B, M, Q, p, A, T, cA, cT⟩ (fun k => w1.heap.size ≤ k ∧ k < w2.heap.size) s L ∧ ∀ k, (TB.mk P B M Q p A T cA cT).foot (fun k => w1.heap.size ≤ k ∧ k < w2.heap.size) k → w.heap.size ≤ k := by
  have lP := hA.ltP
  have lM := hA.m.lt
  have lB := fun k hk => hA.sl.lt (k := k) hk
  have z1 := hs1.size
  have hf : ∀ k, (TB.mk P B M Q p A T cA cT).foot (fun k => w1.heap.size ≤ k ∧ k < w2.heap.size) k → w.heap.size ≤ k := by
    rintro k ((h | rfl) | h)
    · exact hn.b k h
    · exact hn.m
    · omega
  refine ⟨⟨hA.still hs2, hR, hv, fun e => by have h1 : w1.heap.size ≤ P := e.1; omega, ?_, fun k hk => by have := hf k hk; omega⟩, hf⟩
  rintro k (h | h) e
  · have := lB k h; have := e.1; omega
  · have h1 := e.1
    have h2 : k = M := h
    omega
theorem upO_lo2 {O : Nat → Prop} {K : TB} {N : Nat} {w1 w2 : World} (h : ∀ k, K.foot O k → N ≤ k) (hz : N ≤ w1.heap.size) : ∀ k, K.foot (upO O w1 w2) k → N ≤ k := by
  rintro k (hk | hk | hk)
  · exact h k (.inl hk)
  · exact h k (.inr hk)
  · omega
theorem threadCopies_big1 (w : World) (hT : TabD w) (hC : TabT w) (a1 a2 : Option Addr) (n1 c1 n2 c2 : Nat) (hn : 80 < n1) : Calls Tryd.prog 11 #[.slice a1 n1 c1, .slice a2 n2 c2] w fun e w' => e = .returned (.bool true) ∧ Still w w' := by
  have hn1 : (80 : Int) < (n1 : Int) := by omega
  have HT := hid hT
  have HC := hid hC
  have HN := hid (fun (u : World) => tnew u 5 (by omega) (by omega))
  have HR := hid (fun (u : World) => rtnew u 5 (by omega) (by omega))
  clear hT hC
  go_enter Tryd.func11, Tryd.ntmps11
  go_wp2_with fail
  refine (HN.out w).mono ?_
  rintro e w1 ⟨P, B, M, rfl, hA, hs1, hnn⟩
  clear hA hnn
  go_wp2_with fail
  refine (HR.out w1).mono ?_
  rintro e w2 ⟨Q, p, A, T, cA, cT, rfl, hR, hs2⟩
  clear hR
  have S2 := hid (hs1.trans hs2)
  clear hs1 hs2
  go_wp2_with (go_at_call 40; refine (tlives _ (HT.out.still S2.out) (HC.out.still S2.out)).mono ?_; rintro e w' ⟨rfl, hs⟩)
  go_ret
  exact ⟨rfl, S2.out.trans hs⟩
theorem threadCopies_big2 (w : World) (hT : TabD w) (hC : TabT w) (a1 a2 : Option Addr) (n1 c1 n2 c2 : Nat) (hm : n1 ≤ 80) (hn : 80 < n2) : Calls Tryd.prog 11 #[.slice a1 n1 c1, .slice a2 n2 c2] w fun e w' => e = .returned (.bool true) ∧ Still w w' := by
  have hn1 : ¬ (80 : Int) < (n1 : Int) := by omega
  have hn2 : (80 : Int) < (n2 : Int) := by omega
  have HT := hid hT
  have HC := hid hC
  have HN := hid (fun (u : World) => tnew u 5 (by omega) (by omega))
  have HR := hid (fun (u : World) => rtnew u 5 (by omega) (by omega))
  clear hT hC
  go_enter Tryd.func11, Tryd.ntmps11
  go_wp2_with fail
  refine (HN.out w).mono ?_
  rintro e w1 ⟨P, B, M, rfl, hA, hs1, hnn⟩
  clear hA hnn
  go_wp2_with fail
  refine (HR.out w1).mono ?_
  rintro e w2 ⟨Q, p, A, T, cA, cT, rfl, hR, hs2⟩
  clear hR
  have S2 := hid (hs1.trans hs2)
  clear hs1 hs2
  go_wp2_with (go_at_call 40; refine (tlives _ (HT.out.still S2.out) (HC.out.still S2.out)).mono ?_; rintro e w' ⟨rfl, hs⟩)
  go_ret
  exact ⟨rfl, S2.out.trans hs⟩
set_option maxRecDepth 100000 in
set_option maxHeartbeats 8000000 in
theorem threadCopies_ok (w : World) (hT : TabD w) (hC : TabT w) (a1 a2 : Option Addr) (n1 c1 n2 c2 : Nat) (F1 F2 : Nat → LAct) (hF1 : IsLActs w a1 n1 c1 F1) (hF2 : IsLActs w a2 n2 c2 F2) (hn1 : n1 ≤ 80) (hn2 : n2 ≤ 80) :
    Calls Tryd.prog 11 #[.slice a1 n1 c1, .slice a2 n2 c2] w fun e w' => e = .returned (.bool true) ∧ Still w w' := by
  have hn1' : ¬ (80 : Int) < (n1 : Int) := by omega
  have hn2' : ¬ (80 : Int) < (n2 : Int) := by omega
  have HF1 := hid hF1
  have HF2 := hid hF2
  have HT := hid hT
  have HC := hid hC
  have h7 := hid hT.lt
  have HN := hid (tnew w 5 (by omega) (by omega))
  have HR := hid (fun (u : World) => rtnew u 5 (by omega) (by omega))
  clear hF1 hF2 hT hC
  go_enter Tryd.func11, Tryd.ntmps11
  go_wp2_with fail
  refine HN.out.mono ?_
  rintro e w1 ⟨P, B, M, rfl, hA, hs1, hnn⟩
  have HA := hid hA
  have HS1 := hid hs1
  have HNN := hid hnn
  clear hA hs1 hnn
  go_wp2_with fail
  refine (HR.out w1).mono ?_
  rintro e w2 ⟨Q, p, A, T, cA, cT, rfl, hR, hs2⟩
  have TS := two_start (by omega) (by have := h7.out; omega) HA.out HNN.out HS1.out hR hs2
  obtain ⟨KB, hKB⟩ : ∃ K : TB, TB.mk P B M Q p A T cA cT = K := ⟨_, rfl⟩
  obtain ⟨O0, hO0⟩ : ∃ O : Nat → Prop, (fun k => w1.heap.size ≤ k ∧ k < w2.heap.size) = O := ⟨_, rfl⟩
  rw [hKB, hO0] at TS
  have KP : P = KB.P := by rw [← hKB]
  have KQ : Q = KB.Q := by rw [← hKB]
  have T0 := hid TS.1
  have FT0 := hid TS.2
  have S2 := hid (HS1.out.trans hs2)
  rw [KP, KQ]
  clear TS hR hs2 hKB hO0 KP KQ HA HNN HN HR
  go_wp2_with fail
  go_loopw [8, 34] (fun s8 cc wr => ∃ (j : Nat) (s : SS) (L : List Thr) (O : Nat → Prop), cc = .int .i64 j ∧ j ≤ n1 ∧ Hid (TwoT wr KB O s L) ∧ Hid (∀ k, KB.foot O k → w.heap.size ≤ k) ∧ Hid (Still w wr)) (fun s8 cc _ => n1 - (intOf cc).toNat)
  case atStart => exact ⟨0, _, [], O0, rfl, Nat.zero_le _, T0, FT0, S2⟩
  case round =>
    clear T0 FT0 S2
    obtain ⟨j, s, L, O, rfl, hj, T1, FT, S1⟩ := hrel
    by_cases hlt : j < n1
    · have hlt' : (j : Int) < (n1 : Int) := by omega
      rcases HF1.out with h0 | ⟨b1, o1, rfl, _, _, _, _, hc⟩
      · omega
      obtain ⟨hx, hwx⟩ := hc j hlt
      obtain ⟨x, hxx⟩ : ∃ x, F1 j = x := ⟨_, rfl⟩
      rw [hxx] at hx hwx
      have HX : Hid (wr.rangeAt b1 (o1 + j * 15) [.int .i64 x.k, .int .i64 x.i, .int .i64 x.t, .bool x.re, .int .i64 x.c.p, .int .i64 x.c.q, .int .i64 x.c.r0, .int .i64 x.c.r1, .int .i64 x.c.r2, .int .i64 x.c.r3, .int .i64 x.c.r4, .int .i64 x.c.r5, .int .i64 x.c.r6, .int .i64 x.c.r7, .int .i64 x.c.d]) := hid fun k v hv => Still.cell S1.out (hx k v hv)
      have WX := hid hwx
      clear hc hx hwx hxx
      go_wp2_with (first
        | (refine wpList_load_mid rfl 60 (.tmp 36) rfl b1 (o1 + j * 15) rfl [.int .i64 x.k, .int .i64 x.i, .int .i64 x.t, .bool x.re, .int .i64 x.c.p, .int .i64 x.c.q, .int .i64 x.c.r0, .int .i64 x.c.r1, .int .i64 x.c.r2, .int .i64 x.c.r3, .int .i64 x.c.r4, .int .i64 x.c.r5, .int .i64 x.c.r6, .int .i64 x.c.r7, .int .i64 x.c.d] _ HX.out Tryd.underlying60 rfl I60 ?_)
        | (refine wpList_storeW rfl (.tmp 8) (.tmp 37) 60 rfl _ 60 [.int .i64 l0.k, .int .i64 l0.i, .int .i64 l0.t, .bool l0.re, .int .i64 l0.c.p, .int .i64 l0.c.q, .int .i64 l0.c.r0, .int .i64 l0.c.r1, .int .i64 l0.c.r2, .int .i64 l0.c.r3, .int .i64 l0.c.r4, .int .i64 l0.c.r5, .int .i64 l0.c.r6, .int .i64 l0.c.r7, .int .i64 l0.c.d] [.int .i64 x.k, .int .i64 x.i, .int .i64 x.t, .bool x.re, .int .i64 x.c.p, .int .i64 x.c.q, .int .i64 x.c.r0, .int .i64 x.c.r1, .int .i64 x.c.r2, .int .i64 x.c.r3, .int .i64 x.c.r4, .int .i64 x.c.r5, .int .i64 x.c.r6, .int .i64 x.c.r7, .int .i64 x.c.d] I60 (onesL x) rfl rfl (new_l _) rfl ?_; intro w3 b3 f3; have B3 := hid b3; have S3 : Hid (Still wr w3) := hid (Still.next ((Fr.refl _ _).alloc _) f3 (fun k hk => by rw [hk]; exact Nat.le_refl _)); clear b3 f3)
        | (refine wpList_loadW rfl (.tmp 8) 60 rfl _ Tryd.underlying60 rfl _ 60 [.int .i64 x.k, .int .i64 x.i, .int .i64 x.t, .bool x.re, .int .i64 x.c.p, .int .i64 x.c.q, .int .i64 x.c.r0, .int .i64 x.c.r1, .int .i64 x.c.r2, .int .i64 x.c.r3, .int .i64 x.c.r4, .int .i64 x.c.r5, .int .i64 x.c.r6, .int .i64 x.c.r7, .int .i64 x.c.d] I60 rfl B3.out ?_))
      have SW3 := hid (S1.out.trans S3.out)
      refine (tact (T1.out.still S3.out) (HT.out.still SW3.out) (HC.out.still SW3.out) x WX.out).mono ?_
      rintro e w4 ⟨rfl, t4, f4⟩
      have T4 := hid t4
      have SW4 : Hid (Still w w4) := hid (SW3.out.next f4 (fun k hk => FT.out k hk))
      have FT4 : Hid (∀ k, KB.foot (upO O w3 w4) k → w.heap.size ≤ k) := hid (upO_lo FT.out SW3.out.size)
      clear t4 f4
      go_wp2_with fail
      go_roundw
      case rel => exact ⟨j + 1, _, _, _, by go_num, by omega, T4, FT4, SW4⟩
      case measure => simp [intOf]; omega
    · have hlt' : ¬ (j : Int) < (n1 : Int) := by omega
      clear FT HF1
      have NB0 : Hid (∀ k, KB.foot O k → k < wr.heap.size) := hid T1.out.lt
      have NP0 : Hid (KB.P < wr.heap.size) := hid T1.out.t.ltP
      have WN := hid S1.out.size
      go_wp2_with fail
      refine (tcopy T1.out.t).mono ?_
      rintro e w5 ⟨P2, B2, M2, rfl, hA5, hs5, hn5⟩
      have HA5 := hid hA5
      have HS5 := hid hs5
      have HN5 := hid hn5
      have T5 := hid (T1.out.still hs5)
      clear hA5 hs5 hn5
      go_wp2_with fail
      refine (rtcopy T5.out.r).mono ?_
      rintro e w6 ⟨Q2, p2, A2, T2, cA2, cT2, rfl, hR6, hs6⟩
      have TS := two_copy T1.out.v (by have := h7.out; have := WN.out; omega) HA5.out HN5.out HS5.out hR6 hs6
      obtain ⟨KC, hKC⟩ : ∃ K : TB, TB.mk P2 B2 M2 Q2 p2 A2 T2 cA2 cT2 = K := ⟨_, rfl⟩
      obtain ⟨OC, hOC⟩ : ∃ O : Nat → Prop, (fun k => w5.heap.size ≤ k ∧ k < w6.heap.size) = O := ⟨_, rfl⟩
      rw [hKC, hOC] at TS
      have KP : P2 = KC.P := by rw [← hKC]
      have KQ : Q2 = KC.Q := by rw [← hKC]
      have TC0 := hid TS.1
      have FC0 := hid TS.2
      have T6 := hid (T5.out.still hs6)
      have S6 := hid (S1.out.trans (HS5.out.trans hs6))
      rw [KP, KQ]
      obtain ⟨NN, hNN⟩ : ∃ N : Nat, wr.heap.size = N := ⟨_, rfl⟩
      rw [hNN] at NB0 NP0 WN FC0
      clear TS hR6 hs6 hKC hOC KP KQ HA5 HN5 HS5 T5 T1 S1 hNN
      go_wp2_with fail
      go_loopw [12, 49] (fun s12 cc wr => ∃ (j2 : Nat) (s2 : SS) (L2 : List Thr) (O2 : Nat → Prop), cc = .int .i64 j2 ∧ j2 ≤ n2 ∧ Hid (TwoT wr KC O2 s2 L2) ∧ Hid (∀ k, KC.foot O2 k → NN ≤ k) ∧ Hid (TwoT wr KB O s L) ∧ Hid (Still w wr)) (fun s12 cc _ => n2 - (intOf cc).toNat)
      case atStart => exact ⟨0, _, _, OC, rfl, Nat.zero_le _, TC0, FC0, T6, S6⟩
      case round =>
        clear TC0 FC0 T6 S6
        obtain ⟨j2, s2, L2, O2, rfl, hj2, T1, FT, TK, S1⟩ := hrel
        by_cases hlt2 : j2 < n2
        · have hlt2' : (j2 : Int) < (n2 : Int) := by omega
          rcases HF2.out with h0 | ⟨b1, o1, rfl, _, _, _, _, hc⟩
          · omega
          obtain ⟨hx, hwx⟩ := hc j2 hlt2
          obtain ⟨x, hxx⟩ : ∃ x, F2 j2 = x := ⟨_, rfl⟩
          rw [hxx] at hx hwx
          have HX : Hid (wr.rangeAt b1 (o1 + j2 * 15) [.int .i64 x.k, .int .i64 x.i, .int .i64 x.t, .bool x.re, .int .i64 x.c.p, .int .i64 x.c.q, .int .i64 x.c.r0, .int .i64 x.c.r1, .int .i64 x.c.r2, .int .i64 x.c.r3, .int .i64 x.c.r4, .int .i64 x.c.r5, .int .i64 x.c.r6, .int .i64 x.c.r7, .int .i64 x.c.d]) := hid fun k v hv => Still.cell S1.out (hx k v hv)
          have WX := hid hwx
          clear hc hx hwx hxx
          go_wp2_with (first
            | (refine wpList_load_mid rfl 60 (.tmp 51) rfl b1 (o1 + j2 * 15) rfl [.int .i64 x.k, .int .i64 x.i, .int .i64 x.t, .bool x.re, .int .i64 x.c.p, .int .i64 x.c.q, .int .i64 x.c.r0, .int .i64 x.c.r1, .int .i64 x.c.r2, .int .i64 x.c.r3, .int .i64 x.c.r4, .int .i64 x.c.r5, .int .i64 x.c.r6, .int .i64 x.c.r7, .int .i64 x.c.d] _ HX.out Tryd.underlying60 rfl I60 ?_)
            | (refine wpList_storeW rfl (.tmp 12) (.tmp 52) 60 rfl _ 60 [.int .i64 l0.k, .int .i64 l0.i, .int .i64 l0.t, .bool l0.re, .int .i64 l0.c.p, .int .i64 l0.c.q, .int .i64 l0.c.r0, .int .i64 l0.c.r1, .int .i64 l0.c.r2, .int .i64 l0.c.r3, .int .i64 l0.c.r4, .int .i64 l0.c.r5, .int .i64 l0.c.r6, .int .i64 l0.c.r7, .int .i64 l0.c.d] [.int .i64 x.k, .int .i64 x.i, .int .i64 x.t, .bool x.re, .int .i64 x.c.p, .int .i64 x.c.q, .int .i64 x.c.r0, .int .i64 x.c.r1, .int .i64 x.c.r2, .int .i64 x.c.r3, .int .i64 x.c.r4, .int .i64 x.c.r5, .int .i64 x.c.r6, .int .i64 x.c.r7, .int .i64 x.c.d] I60 (onesL x) rfl rfl (new_l _) rfl ?_; intro w3 b3 f3; have B3 := hid b3; have S3 : Hid (Still wr w3) := hid (Still.next ((Fr.refl _ _).alloc _) f3 (fun k hk => by rw [hk]; exact Nat.le_refl _)); clear b3 f3)
            | (refine wpList_loadW rfl (.tmp 12) 60 rfl _ Tryd.underlying60 rfl _ 60 [.int .i64 x.k, .int .i64 x.i, .int .i64 x.t, .bool x.re, .int .i64 x.c.p, .int .i64 x.c.q, .int .i64 x.c.r0, .int .i64 x.c.r1, .int .i64 x.c.r2, .int .i64 x.c.r3, .int .i64 x.c.r4, .int .i64 x.c.r5, .int .i64 x.c.r6, .int .i64 x.c.r7, .int .i64 x.c.d] I60 rfl B3.out ?_))
          have SW3 := hid (S1.out.trans S3.out)
          refine (tact (T1.out.still S3.out) (HT.out.still SW3.out) (HC.out.still SW3.out) x WX.out).mono ?_
          rintro e w4 ⟨rfl, t4, f4⟩
          have T4 := hid t4
          have SW4 : Hid (Still w w4) := hid (SW3.out.next f4 (fun k hk => Nat.le_trans WN.out (FT.out k hk)))
          have FT4 : Hid (∀ k, KC.foot (upO O2 w3 w4) k → NN ≤ k) := hid (upO_lo2 FT.out (by
            have h1 := FT.out _ (.inl (.inr rfl)); have h2 := (T1.out.still S3.out).lt _ (.inl (.inr rfl)); omega))
          have TK4 : Hid (TwoT w4 KB O s L) := hid ((TK.out.still S3.out).fr f4 (fun k hk e => by have := NB0.out k hk; have := FT.out k e; omega) (fun e => by have := NP0.out; have := FT.out _ e; omega))
          clear t4 f4
          go_wp2_with fail
          go_roundw
          case rel => exact ⟨j2 + 1, _, _, _, by go_num, by omega, T4, FT4, TK4, SW4⟩
          case measure => simp [intOf]; omega
        · have hlt2' : ¬ (j2 : Int) < (n2 : Int) := by omega
          have LN := hid TK.out.v.len
          have LM := hid T1.out.v.len
          obtain ⟨rv, q1, ro, _⟩ := TK.out.r.ex
          have RO := hid (SRow.own (S := S66) ro rfl)
          obtain ⟨ra, rc, rfl⟩ := own_shape ro _ rfl
          obtain ⟨rv2, q2, ro2, _⟩ := T1.out.r.ex
          have RO2 := hid (SRow.own (S := S66) ro2 rfl)
          obtain ⟨ra2, rc2, rfl⟩ := own_shape ro2 _ rfl
          clear ro ro2 FT NB0 NP0 HF2
          go_wp2_with fail
          refine Held.wp_region_held_tail (S := (fun w' => w'.cell? ⟨KB.Q, 1, none⟩ = some (.slice ra L.length rc) ∧ w'.cell? ⟨KC.Q, 1, none⟩ = some (.slice ra2 L2.length rc2))) 21 (by kernel_rfl) (by kernel_rfl) (by decide) ?hS1 (fun hHeld => ?hR1)
          case hS1 =>
            exact ⟨q1, q2⟩
          simp only [List.take_succ_cons, List.take_zero, List.drop_succ_cons, List.drop_zero]
          refine wpAnyH_take (i := 0) (oi := _) (v := ?v2) rfl (by kernel_rfl) (by kernel_rfl) (by kernel_rfl) (fun _ _ _ h => h) (Or.inl ⟨by rfl, ?y2⟩) (by assumption) ?r2
          case y2 => ((intro w hSw); (try dsimp only at hSw); go_simp; (try with_reducible rfl))
          (try simp only [Act.put, List.setIfInBounds_toArray, List.set_cons_zero, List.set_cons_succ])
          refine wpAnyH_take (i := 3) (oi := _) (v := ?v3) rfl (by kernel_rfl) (by kernel_rfl) (by kernel_rfl) (fun _ _ _ h => h) (Or.inl ⟨by rfl, ?y3⟩) (by assumption) ?r3
          case y3 => ((intro w hSw); (try dsimp only at hSw); go_simp; (try with_reducible rfl))
          (try simp only [Act.put, List.setIfInBounds_toArray, List.set_cons_zero, List.set_cons_succ])
          refine wpAnyH_take (i := 4) (oi := _) (v := ?v4) rfl (by kernel_rfl) (by kernel_rfl) (by kernel_rfl) (fun _ _ _ h => h) (Or.inl ⟨by rfl, ?y4⟩) (by assumption) ?r4
          case y4 => ((intro w hSw); (try dsimp only at hSw); go_simp; (try with_reducible rfl))
          (try simp only [Act.put, List.setIfInBounds_toArray, List.set_cons_zero, List.set_cons_succ])
          (try simp only [Act.put, List.getElem_toArray, List.getElem_cons_zero, List.getElem_cons_succ, List.setIfInBounds_toArray, List.set_cons_zero, List.set_cons_succ])
          refine wpAnyH_take (i := 5) (oi := _) (v := ?v5) rfl (by kernel_rfl) (by kernel_rfl) (by kernel_rfl) (fun _ _ _ h => h) (Or.inl ⟨by rfl, ?y5⟩) (by assumption) ?r5
          case y5 => ((intro w hSw); (try dsimp only at hSw); go_simp; (try with_reducible rfl))
          (try simp only [Act.put, List.setIfInBounds_toArray, List.set_cons_zero, List.set_cons_succ])
          refine wpAnyH_take (i := 6) (oi := _) (v := ?v6) rfl (by kernel_rfl) (by kernel_rfl) (by kernel_rfl) (fun _ _ _ h => h) (Or.inl ⟨by rfl, ?y6⟩) (by assumption) ?r6
          case y6 => ((intro w hSw); (try dsimp only at hSw); go_simp; (try with_reducible rfl))
          (try simp only [Act.put, List.setIfInBounds_toArray, List.set_cons_zero, List.set_cons_succ])
          (try simp only [Act.put, List.getElem_toArray, List.getElem_cons_zero, List.getElem_cons_succ, List.setIfInBounds_toArray, List.set_cons_zero, List.set_cons_succ])
          refine wpAnyH_ready (rs := [1]) (by kernel_rfl) (by simp) ?_
          refine AllReadyH.cons rfl (fun K hK => ?st7) AllReadyH.nil
          go_simp
          go_at_call 43
          refine (tall (TK.out.t.still (by exact (Fr.refl _ _).drew)) (by have := LN.out; omega) TK.out.v.wf).mono ?_
          rintro e w5 ⟨v5, rfl, o5, s5⟩
          obtain ⟨a5, c5, rfl⟩ := own_shape o5 _ rfl
          have O5 := hid (SRow.own (S := S68) o5 rfl)
          have S5 : Hid (Still wr w5) := hid (Still.trans (Fr.refl _ _).drew s5)
          clear o5 s5
          refine hK.out _ _ ?k7 (fun hHeld7 => ?_)
          case k7 =>
            exact ⟨Still.cell S5.out q1, Still.cell S5.out q2⟩
          clear hK K
          (try simp only [Act.put, List.setIfInBounds_toArray, List.set_cons_zero, List.set_cons_succ])
          refine wpAnyH_ready (rs := [2]) (by kernel_rfl) (by simp) ?_
          refine AllReadyH.cons rfl (fun K hK => ?st8) AllReadyH.nil
          go_simp
          go_at_call 42
          refine (tplain _ O5.out (by have := LN.out; omega)).mono ?_
          rintro e w6 ⟨v6, rfl, o6, s6⟩
          obtain ⟨a6, c6, rfl⟩ := own_shape o6 _ rfl
          have O6 := hid (SRow.own (S := S66) o6 rfl)
          have S6 := hid (S5.out.trans s6)
          clear o6 s6
          refine hK.out _ _ ?k8 (fun hHeld8 => ?_)
          case k8 =>
            exact ⟨Still.cell S6.out q1, Still.cell S6.out q2⟩
          clear hK K
          (try simp only [Act.put, List.setIfInBounds_toArray, List.set_cons_zero, List.set_cons_succ])
          refine wpAnyH_ready (rs := [7]) (by kernel_rfl) (by simp) ?_
          refine AllReadyH.cons rfl (fun K hK => ?st9) AllReadyH.nil
          go_simp
          go_at_call 53
          refine (tsame _ _ O6.out (RO.out.still S6.out) (by have := LN.out; omega)).mono ?_
          rintro e w7 ⟨rfl, s7⟩
          have S7 := hid (S6.out.trans s7)
          clear s7
          refine hK.out _ _ ?k9 (fun hHeld9 => ?_)
          case k9 =>
            exact ⟨Still.cell S7.out q1, Still.cell S7.out q2⟩
          clear hK K
          (try simp only [Act.put, List.setIfInBounds_toArray, List.set_cons_zero, List.set_cons_succ])
          (try simp only [Act.put, List.getElem_toArray, List.getElem_cons_zero, List.getElem_cons_succ, List.setIfInBounds_toArray, List.set_cons_zero, List.set_cons_succ])
          refine wpAnyH_take (i := 8) (oi := _) (v := ?v10) rfl (by kernel_rfl) (by kernel_rfl) (by kernel_rfl) (fun _ _ _ h => h) (Or.inl ⟨by rfl, ?y10⟩) (by assumption) ?r10
          case y10 => ((intro w hSw); (try dsimp only at hSw); go_simp; (try with_reducible rfl))
          (try simp only [Act.put, List.setIfInBounds_toArray, List.set_cons_zero, List.set_cons_succ])
          refine wpAnyH_take (i := 9) (oi := _) (v := ?v11) rfl (by kernel_rfl) (by kernel_rfl) (by kernel_rfl) (fun _ _ _ h => h) (Or.inl ⟨by rfl, ?y11⟩) (by assumption) ?r11
          case y11 => ((intro w hSw); (try dsimp only at hSw); go_simp; (try with_reducible rfl))
          (try simp only [Act.put, List.setIfInBounds_toArray, List.set_cons_zero, List.set_cons_succ])
          refine wpAnyH_take (i := 12) (oi := _) (v := ?v12) rfl (by kernel_rfl) (by kernel_rfl) (by kernel_rfl) (fun _ _ _ h => h) (Or.inl ⟨by rfl, ?y12⟩) (by assumption) ?r12
          case y12 => ((intro w hSw); (try dsimp only at hSw); go_simp; (try with_reducible rfl))
          (try simp only [Act.put, List.setIfInBounds_toArray, List.set_cons_zero, List.set_cons_succ])
          (try simp only [Act.put, List.getElem_toArray, List.getElem_cons_zero, List.getElem_cons_succ, List.setIfInBounds_toArray, List.set_cons_zero, List.set_cons_succ])
          refine wpAnyH_take (i := 13) (oi := _) (v := ?v13) rfl (by kernel_rfl) (by kernel_rfl) (by kernel_rfl) (fun _ _ _ h => h) (Or.inl ⟨by rfl, ?y13⟩) (by assumption) ?r13
          case y13 => ((intro w hSw); (try dsimp only at hSw); go_simp; (try with_reducible rfl))
          (try simp only [Act.put, List.setIfInBounds_toArray, List.set_cons_zero, List.set_cons_succ])
          refine wpAnyH_take (i := 14) (oi := _) (v := ?v14) rfl (by kernel_rfl) (by kernel_rfl) (by kernel_rfl) (fun _ _ _ h => h) (Or.inl ⟨by rfl, ?y14⟩) (by assumption) ?r14
          case y14 => ((intro w hSw); (try dsimp only at hSw); go_simp; (try with_reducible rfl))
          (try simp only [Act.put, List.setIfInBounds_toArray, List.set_cons_zero, List.set_cons_succ])
          refine wpAnyH_take (i := 15) (oi := _) (v := ?v15) rfl (by kernel_rfl) (by kernel_rfl) (by kernel_rfl) (fun _ _ _ h => h) (Or.inl ⟨by rfl, ?y15⟩) (by assumption) ?r15
          case y15 => ((intro w hSw); (try dsimp only at hSw); go_simp; (try with_reducible rfl))
          (try simp only [Act.put, List.setIfInBounds_toArray, List.set_cons_zero, List.set_cons_succ])
          (try simp only [Act.put, List.getElem_toArray, List.getElem_cons_zero, List.getElem_cons_succ, List.setIfInBounds_toArray, List.set_cons_zero, List.set_cons_succ])
          refine wpAnyH_ready (rs := [10]) (by kernel_rfl) (by simp) ?_
          refine AllReadyH.cons rfl (fun K hK => ?st16) AllReadyH.nil
          go_simp
          go_at_call 43
          refine (tall (T1.out.t.still S7.out) (by have := LM.out; omega) T1.out.v.wf).mono ?_
          rintro e w8 ⟨v8, rfl, o8, s8⟩
          obtain ⟨a8, c8, rfl⟩ := own_shape o8 _ rfl
          have O8 := hid (SRow.own (S := S68) o8 rfl)
          have S8 := hid (S7.out.trans s8)
          clear o8 s8
          refine hK.out _ _ ?k16 (fun hHeld16 => ?_)
          case k16 =>
            exact ⟨Still.cell S8.out q1, Still.cell S8.out q2⟩
          clear hK K
          (try simp only [Act.put, List.setIfInBounds_toArray, List.set_cons_zero, List.set_cons_succ])
          refine wpAnyH_ready (rs := [11]) (by kernel_rfl) (by simp) ?_
          refine AllReadyH.cons rfl (fun K hK => ?st17) AllReadyH.nil
          go_simp
          go_at_call 42
          refine (tplain _ O8.out (by have := LM.out; omega)).mono ?_
          rintro e w9 ⟨v9, rfl, o9, s9⟩
          obtain ⟨a9, c9, rfl⟩ := own_shape o9 _ rfl
          have O9 := hid (SRow.own (S := S66) o9 rfl)
          have S9 := hid (S8.out.trans s9)
          clear o9 s9
          refine hK.out _ _ ?k17 (fun hHeld17 => ?_)
          case k17 =>
            exact ⟨Still.cell S9.out q1, Still.cell S9.out q2⟩
          clear hK K
          (try simp only [Act.put, List.setIfInBounds_toArray, List.set_cons_zero, List.set_cons_succ])
          refine wpAnyH_ready (rs := [16]) (by kernel_rfl) (by simp) ?_
          refine AllReadyH.cons rfl (fun K hK => ?st18) AllReadyH.nil
          go_simp
          go_at_call 53
          refine (tsame _ _ O9.out (RO2.out.still S9.out) (by have := LM.out; omega)).mono ?_
          rintro e w10 ⟨rfl, s10⟩
          have S10 := hid (S9.out.trans s10)
          clear s10
          refine hK.out _ _ ?k18 (fun hHeld18 => ?_)
          case k18 =>
            exact ⟨Still.cell S10.out q1, Still.cell S10.out q2⟩
          clear hK K
          (try simp only [Act.put, List.setIfInBounds_toArray, List.set_cons_zero, List.set_cons_succ])
          (try simp only [Act.put, List.getElem_toArray, List.getElem_cons_zero, List.getElem_cons_succ, List.setIfInBounds_toArray, List.set_cons_zero, List.set_cons_succ])
          refine wpAnyH_take (i := 17) (oi := _) (v := ?v19) rfl (by kernel_rfl) (by kernel_rfl) (by kernel_rfl) (fun _ _ _ h => h) (Or.inl ⟨by rfl, ?y19⟩) (by assumption) ?r19
          case y19 => ((intro w hSw); (try dsimp only at hSw); go_simp; (try with_reducible rfl))
          (try simp only [Act.put, List.setIfInBounds_toArray, List.set_cons_zero, List.set_cons_succ])
          refine wpAnyH_take (i := 18) (oi := _) (v := ?v20) rfl (by kernel_rfl) (by kernel_rfl) (by kernel_rfl) (fun _ _ _ h => h) (Or.inl ⟨by rfl, ?y20⟩) (by assumption) ?r20
          case y20 => ((intro w hSw); (try dsimp only at hSw); go_simp; (try with_reducible rfl))
          (try simp only [Act.put, List.setIfInBounds_toArray, List.set_cons_zero, List.set_cons_succ])
          (try simp only [Act.put, List.getElem_toArray, List.getElem_cons_zero, List.getElem_cons_succ, List.setIfInBounds_toArray, List.set_cons_zero, List.set_cons_succ])
          refine wpAnyH_ready (rs := [19]) (by kernel_rfl) (by simp) ?_
          refine AllReadyH.cons rfl (fun K hK => ?st21) AllReadyH.nil
          go_simp
          go_at_call 40
          refine (tlives _ (HT.out.still (S1.out.trans S10.out)) (HC.out.still (S1.out.trans S10.out))).mono ?_
          rintro e w11 ⟨rfl, s11⟩
          have S11 := hid (S10.out.trans s11)
          clear s11
          refine hK.out _ _ ?k21 (fun hHeld21 => ?_)
          case k21 =>
            exact ⟨Still.cell S11.out q1, Still.cell S11.out q2⟩
          clear hK K
          (try simp only [Act.put, List.setIfInBounds_toArray, List.set_cons_zero, List.set_cons_succ])
          refine wpAnyH_take (i := 20) (oi := _) (v := ?v22) rfl (by kernel_rfl) (by kernel_rfl) (by kernel_rfl) (fun _ _ _ h => h) (Or.inl ⟨by rfl, ?y22⟩) (by assumption) ?r22
          case y22 => ((intro w hSw); (try dsimp only at hSw); go_simp; (try with_reducible rfl))
          (try simp only [Act.put, List.setIfInBounds_toArray, List.set_cons_zero, List.set_cons_succ])
          refine wpAnyH_done (by kernel_rfl) (Held.tailQ_normal ?_) _
          (try simp only [Act.put, List.getElem_toArray, List.getElem_cons_zero, List.getElem_cons_succ, List.setIfInBounds_toArray, List.set_cons_zero, List.set_cons_succ])
          go_wp2_with fail
          go_ret
          exact ⟨rfl, S1.out.trans S11.out⟩
theorem threadCopies (w : World) (hT : TabD w) (hC : TabT w) (a1 : Option Addr) (n1 c1 : Nat) (F1 : Nat → LAct) (hF1 : IsLActs w a1 n1 c1 F1) (a2 : Option Addr) (n2 c2 : Nat) (F2 : Nat → LAct) (hF2 : IsLActs w a2 n2 c2 F2) : Calls Tryd.prog 11 #[.slice a1 n1 c1, .slice a2 n2 c2] w fun e w' => e = .returned (.bool true) ∧ Still w w' := by
  by_cases hn1 : 80 < n1
  · exact threadCopies_big1 w hT hC a1 a2 n1 c1 n2 c2 hn1
  · by_cases hn2 : 80 < n2
    · exact threadCopies_big2 w hT hC a1 a2 n1 c1 n2 c2 (by omega) hn2
    · exact threadCopies_ok w hT hC a1 a2 n1 c1 n2 c2 F1 F2 hF1 hF2 (by omega) (by omega)
end Go.Proofs.YtffjaaolcphonaaDoor
