/- ThreadWays: the walk. -/
import Derived.Test.YtffjaaolcphonaaDoorThrA
namespace Go.Proofs.YtffjaaolcphonaaDoor
open Go.RowKit Go.Maps
set_option linter.unusedSimpArgs false
theorem threadWays_big (w : World) (hT : TabD w) (hC : TabT w) (y : LAct) (a : Option Addr) (n c : Nat) (hn : 100 < n) : Calls Tryd.prog 8 #[.slice a n c, (Value.agg #[.int .i64 y.k, .int .i64 y.i, .int .i64 y.t, .bool y.re, .int .i64 y.c.p, .int .i64 y.c.q, .int .i64 y.c.r0, .int .i64 y.c.r1, .int .i64 y.c.r2, .int .i64 y.c.r3, .int .i64 y.c.r4, .int .i64 y.c.r5, .int .i64 y.c.r6, .int .i64 y.c.r7, .int .i64 y.c.d])] w fun e w' => e = .returned (.bool true) ∧ Still w w' := by
  have hn' : (100 : Int) < (n : Int) := by omega
  have HT := hid hT
  have HC := hid hC
  have HN := hid (fun (u : World) => tnew u 5 (by omega) (by omega))
  have HR := hid (fun (u : World) => rtnew u 5 (by omega) (by omega))
  clear hn hT hC
  go_enter Tryd.func8, Tryd.ntmps8
  go_wp2_with fail
  refine (HN.out _).mono ?_
  rintro e w1 ⟨P, B, M, rfl, hA, hs1, hnn⟩
  have S1 : Hid (Still w w1) := hid (((Fr.refl _ _).alloc _).trans hs1)
  clear hA hs1 hnn
  go_wp2_with fail
  refine (HR.out w1).mono ?_
  rintro e w2 ⟨Q, p, A, T, cA, cT, rfl, hR, hs2⟩
  have S2 := hid (S1.out.trans hs2)
  clear hR hs2
  go_wp2_with (go_at_call 40; refine (tlives _ (HT.out.still S2.out) (HC.out.still S2.out)).mono ?_; rintro e w' ⟨rfl, hs⟩)
  go_ret
  exact ⟨rfl, S2.out.trans hs⟩
theorem spL_same {s : SS} {L : List Thr} {c : Ctx} {tk : Int} (h : spE s tk ≠ 0) : spL s L c tk = L := by
  unfold spE at h
  unfold spL
  split
  · rfl
  · rename_i h1
    rw [if_neg h1] at h
    rw [if_neg h]
theorem turnL_same {L : List Thr} {k fr tz : Int} (h : turnE L k fr ≠ 0) : turnL L k fr tz = L := by
  unfold turnE at h
  unfold turnL
  split
  · rename_i h1
    rw [if_pos h1] at h
    split
    · rfl
    · rename_i h2; rw [if_neg h2] at h; exact absurd rfl h
  · rfl
theorem endL_same {s : SS} {L : List Thr} (hv : TInv s L) {k : Int} (h : endE s L k ≠ 0) : endL L k = L := by
  rw [(hv.stop k).2] at h
  unfold rtE at h
  unfold endL
  split
  · rename_i h1
    rw [if_pos h1] at h
    split
    · rename_i h2
      rw [if_pos (by simpa using h2)] at h
      exact absurd rfl h
    · rfl
  · rfl
set_option maxRecDepth 100000 in
set_option maxHeartbeats 8000000 in
theorem threadWays_ok (w : World) (hT : TabD w) (hC : TabT w) (y : LAct) (wy : (Lit.int .i64 y.i).wf = true) (a : Option Addr) (n c : Nat) (F : Nat → LAct) (hF : IsLActs w a n c F) (hn : n ≤ 100) :
    Calls Tryd.prog 8 #[.slice a n c, (Value.agg #[.int .i64 y.k, .int .i64 y.i, .int .i64 y.t, .bool y.re, .int .i64 y.c.p, .int .i64 y.c.q, .int .i64 y.c.r0, .int .i64 y.c.r1, .int .i64 y.c.r2, .int .i64 y.c.r3, .int .i64 y.c.r4, .int .i64 y.c.r5, .int .i64 y.c.r6, .int .i64 y.c.r7, .int .i64 y.c.d])] w fun e w' => e = .returned (.bool true) ∧ Still w w' := by
  have hn' : ¬ (100 : Int) < (n : Int) := by omega
  have HF := hid hF
  have HT := hid hT
  have HC := hid hC
  have h7 := hid hT.lt
  have WY := hid wy
  have HN := hid (fun (u : World) => tnew u 5 (by omega) (by omega))
  have HR := hid (fun (u : World) => rtnew u 5 (by omega) (by omega))
  clear hF hT hC wy
  go_enter Tryd.func8, Tryd.ntmps8
  go_wp2_with fail
  obtain ⟨w0, hw0⟩ : ∃ u, w.alloc (.cells [.int .i64 y.k, .int .i64 y.i, .int .i64 y.t, .bool y.re, .int .i64 y.c.p, .int .i64 y.c.q, .int .i64 y.c.r0, .int .i64 y.c.r1, .int .i64 y.c.r2, .int .i64 y.c.r3, .int .i64 y.c.r4, .int .i64 y.c.r5, .int .i64 y.c.r6, .int .i64 y.c.r7, .int .i64 y.c.d].toArray 60) = u := ⟨_, rfl⟩
  have S0 : Hid (Still w w0) := hid (hw0 ▸ (Fr.refl _ _).alloc _)
  have Y0 : Hid (Blk w0 w.heap.size [.int .i64 y.k, .int .i64 y.i, .int .i64 y.t, .bool y.re, .int .i64 y.c.p, .int .i64 y.c.q, .int .i64 y.c.r0, .int .i64 y.c.r1, .int .i64 y.c.r2, .int .i64 y.c.r3, .int .i64 y.c.r4, .int .i64 y.c.r5, .int .i64 y.c.r6, .int .i64 y.c.r7, .int .i64 y.c.d] 60) := hid (hw0 ▸ Blk.new w _ 60)
  rw [hw0]
  clear hw0
  refine (HN.out w0).mono ?_
  rintro e w1 ⟨P, B, M, rfl, hA, hs1, hnn⟩
  have HA := hid hA
  have HS1 := hid hs1
  have HNN := hid hnn
  clear hA hs1 hnn
  go_wp2_with fail
  refine (HR.out w1).mono ?_
  rintro e w2 ⟨Q, p, A, T, cA, cT, rfl, hR, hs2⟩
  have TS := two_start (by omega) (by have h1 := h7.out; have h2 := S0.out.size; omega) HA.out HNN.out HS1.out hR hs2
  obtain ⟨KB, hKB⟩ : ∃ K : TB, TB.mk P B M Q p A T cA cT = K := ⟨_, rfl⟩
  obtain ⟨O0, hO0⟩ : ∃ O : Nat → Prop, (fun k => w1.heap.size ≤ k ∧ k < w2.heap.size) = O := ⟨_, rfl⟩
  rw [hKB, hO0] at TS
  have KP : P = KB.P := by rw [← hKB]
  have KQ : Q = KB.Q := by rw [← hKB]
  have T0 := hid TS.1
  have FT0 := hid TS.2
  have S2 := hid (HS1.out.trans hs2)
  rw [KP, KQ]
  clear TS hR hs2 hKB hO0 KP KQ HA HNN HN HR
  go_wp2_with fail
  go_loopw [8, 28] (fun s8 cc wr => ∃ (j : Nat) (s : SS) (L : List Thr) (O : Nat → Prop), cc = .int .i64 j ∧ j ≤ n ∧ Hid (TwoT wr KB O s L) ∧ Hid (∀ k, KB.foot O k → w0.heap.size ≤ k) ∧ Hid (Still w0 wr)) (fun s8 cc _ => n - (intOf cc).toNat)
  case atStart => exact ⟨0, _, [], O0, rfl, Nat.zero_le _, T0, FT0, S2⟩
  case round =>
    clear T0 FT0 S2
    obtain ⟨j, s, L, O, rfl, hj, T1, FT, S1⟩ := hrel
    by_cases hlt : j < n
    · have hlt' : (j : Int) < (n : Int) := by omega
      rcases HF.out with h0 | ⟨b1, o1, rfl, _, _, _, _, hc⟩
      · omega
      obtain ⟨hx, hwx⟩ := hc j hlt
      obtain ⟨x, hxx⟩ : ∃ x, F j = x := ⟨_, rfl⟩
      rw [hxx] at hx hwx
      have HX : Hid (wr.rangeAt b1 (o1 + j * 15) [.int .i64 x.k, .int .i64 x.i, .int .i64 x.t, .bool x.re, .int .i64 x.c.p, .int .i64 x.c.q, .int .i64 x.c.r0, .int .i64 x.c.r1, .int .i64 x.c.r2, .int .i64 x.c.r3, .int .i64 x.c.r4, .int .i64 x.c.r5, .int .i64 x.c.r6, .int .i64 x.c.r7, .int .i64 x.c.d]) := hid fun k v hv => Still.cell (S0.out.trans S1.out) (hx k v hv)
      have WX := hid hwx
      clear hc hx hwx hxx
      go_wp2_with (first
        | (refine wpList_load_mid rfl 60 (.tmp 30) rfl b1 (o1 + j * 15) rfl [.int .i64 x.k, .int .i64 x.i, .int .i64 x.t, .bool x.re, .int .i64 x.c.p, .int .i64 x.c.q, .int .i64 x.c.r0, .int .i64 x.c.r1, .int .i64 x.c.r2, .int .i64 x.c.r3, .int .i64 x.c.r4, .int .i64 x.c.r5, .int .i64 x.c.r6, .int .i64 x.c.r7, .int .i64 x.c.d] _ HX.out Tryd.underlying60 rfl I60 ?_)
        | (refine wpList_storeW rfl (.tmp 8) (.tmp 31) 60 rfl _ 60 [.int .i64 l0.k, .int .i64 l0.i, .int .i64 l0.t, .bool l0.re, .int .i64 l0.c.p, .int .i64 l0.c.q, .int .i64 l0.c.r0, .int .i64 l0.c.r1, .int .i64 l0.c.r2, .int .i64 l0.c.r3, .int .i64 l0.c.r4, .int .i64 l0.c.r5, .int .i64 l0.c.r6, .int .i64 l0.c.r7, .int .i64 l0.c.d] [.int .i64 x.k, .int .i64 x.i, .int .i64 x.t, .bool x.re, .int .i64 x.c.p, .int .i64 x.c.q, .int .i64 x.c.r0, .int .i64 x.c.r1, .int .i64 x.c.r2, .int .i64 x.c.r3, .int .i64 x.c.r4, .int .i64 x.c.r5, .int .i64 x.c.r6, .int .i64 x.c.r7, .int .i64 x.c.d] I60 (onesL x) rfl rfl (new_l _) rfl ?_; intro w3 b3 f3; have B3 := hid b3; have S3 : Hid (Still wr w3) := hid (Still.next ((Fr.refl _ _).alloc _) f3 (fun k hk => by rw [hk]; exact Nat.le_refl _)); clear b3 f3)
        | (refine wpList_loadW rfl (.tmp 8) 60 rfl _ Tryd.underlying60 rfl _ 60 [.int .i64 x.k, .int .i64 x.i, .int .i64 x.t, .bool x.re, .int .i64 x.c.p, .int .i64 x.c.q, .int .i64 x.c.r0, .int .i64 x.c.r1, .int .i64 x.c.r2, .int .i64 x.c.r3, .int .i64 x.c.r4, .int .i64 x.c.r5, .int .i64 x.c.r6, .int .i64 x.c.r7, .int .i64 x.c.d] I60 rfl B3.out ?_))
      have SW3 := hid (S1.out.trans S3.out)
      refine (tact (T1.out.still S3.out) (HT.out.still (S0.out.trans SW3.out)) (HC.out.still (S0.out.trans SW3.out)) x WX.out).mono ?_
      rintro e w4 ⟨rfl, t4, f4⟩
      have T4 := hid t4
      have SW4 : Hid (Still w0 w4) := hid (SW3.out.next f4 (fun k hk => FT.out k hk))
      have FT4 : Hid (∀ k, KB.foot (upO O w3 w4) k → w0.heap.size ≤ k) := hid (upO_lo FT.out SW3.out.size)
      clear t4 f4
      go_wp2_with fail
      go_roundw
      case rel => exact ⟨j + 1, _, _, _, by go_num, by omega, T4, FT4, SW4⟩
      case measure => simp [intOf]; omega
    · have hlt' : ¬ (j : Int) < (n : Int) := by omega
      have LN := hid T1.out.v.len
      go_wp2_with fail
      refine (tall T1.out.t (by have := LN.out; omega) T1.out.v.wf).mono ?_
      rintro e w5 ⟨v5, rfl, o5, s5⟩
      obtain ⟨a5, c5, rfl⟩ := own_shape o5 _ rfl
      have O5 := hid (SRow.own (S := S68) o5 rfl)
      have S5 := hid s5
      clear o5 s5
      go_wp2_with fail
      refine (tplain _ O5.out (by have := LN.out; omega)).mono ?_
      rintro e w6 ⟨v6, rfl, o6, s6⟩
      obtain ⟨a6, c6, rfl⟩ := own_shape o6 _ rfl
      have N6 : Hid (∀ b off c n, Value.slice a6 L.length c6 = .slice (some ⟨b, off, none⟩) n c → ¬ KB.own b) := hid (fun b off c n e h => by
        have h1 := T1.out.lt b (.inl h)
        obtain ⟨_, ⟨e2, _⟩ | ⟨g, cap, cur, e2, hg, _⟩⟩ := o6
        · rw [e2] at e; cases e
        · rw [e2] at e
          injection e with e3 _ _
          injection e3 with e3
          injection e3 with e3 _ _
          have := S5.out.size
          omega)
      have O6 := hid (SRow.own (S := S66) o6 rfl)
      have S6 := hid (S5.out.trans s6)
      clear o6 s6
      have Y6 := hid (Y0.out.still (S1.out.trans S6.out))
      have T6 := hid (T1.out.still S6.out)
      go_wp2_with (refine wpList_loadW rfl (.tmp 3) 60 rfl _ Tryd.underlying60 rfl _ 60 [.int .i64 y.k, .int .i64 y.i, .int .i64 y.t, .bool y.re, .int .i64 y.c.p, .int .i64 y.c.q, .int .i64 y.c.r0, .int .i64 y.c.r1, .int .i64 y.c.r2, .int .i64 y.c.r3, .int .i64 y.c.r4, .int .i64 y.c.r5, .int .i64 y.c.r6, .int .i64 y.c.r7, .int .i64 y.c.d] I60 rfl Y6.out ?_)
      refine (tid T6.out.r y).mono ?_
      rintro e w7 ⟨rfl, s7⟩
      have S7 := hid (S6.out.trans s7)
      have T7 := hid (T6.out.still s7)
      have O7 := hid (O6.out.still s7)
      have WI := hid (idT_wf T7.out.v y WY.out)
      have k0 : w7.cell? ⟨w.heap.size, 0, none⟩ = some (.int .i64 y.k) := (Y6.out.still s7).cell 0
      have k2 : w7.cell? ⟨w.heap.size, 2, none⟩ = some (.int .i64 y.t) := (Y6.out.still s7).cell 2
      have Y7 := hid (Y6.out.still s7)
      have HT7 := hid (HT.out.still (S0.out.trans (S1.out.trans S7.out)))
      have HC7 := hid (HC.out.still (S0.out.trans (S1.out.trans S7.out)))
      have SW7 := hid (S1.out.trans S7.out)
      have LM : Hid (L.length < maxLen) := hid (by have := LN.out; unfold maxLen; omega)
      have H7 : Hid (¬ KB.B.foot 7) := hid (fun e => by have := T7.out.h8 7 (.inl (.inl e)); omega)
      obtain ⟨id, hid0⟩ : ∃ id, idT L y = id := ⟨_, rfl⟩
      rw [hid0] at WI ⊢
      clear s7 hid0
      by_cases hk : y.k = 0
      · skip
        have e0k : (y.k == 0) = true := by simp [hk]
        have e3k : (y.k == 3) = false := by simp [hk]
        have e4k : (y.k == 4) = false := by simp [hk]
        have e5k : (y.k == 5) = false := by simp [hk]
        have e6k : (y.k == 6) = false := by simp [hk]
        have e7k : (y.k == 7) = false := by simp [hk]
        have e8k : (y.k == 8) = false := by simp [hk]
        have e9k : (y.k == 9) = false := by simp [hk]
        clear hk
        obtain ⟨te, hte0⟩ : ∃ v, spE s y.t = v := ⟨_, rfl⟩
        have HTE := hid hte0
        clear hte0
        go_wp2_with (refine wpList_loadB rfl (.tmp 49) 58 rfl _ Tryd.underlying58 rfl _ 4 60 [.int .i64 y.k, .int .i64 y.i, .int .i64 y.t, .bool y.re, .int .i64 y.c.p, .int .i64 y.c.q, .int .i64 y.c.r0, .int .i64 y.c.r1, .int .i64 y.c.r2, .int .i64 y.c.r3, .int .i64 y.c.r4, .int .i64 y.c.r5, .int .i64 y.c.r6, .int .i64 y.c.r7, .int .i64 y.c.d] [.int .i64 y.c.p, .int .i64 y.c.q, .int .i64 y.c.r0, .int .i64 y.c.r1, .int .i64 y.c.r2, .int .i64 y.c.r3, .int .i64 y.c.r4, .int .i64 y.c.r5, .int .i64 y.c.r6, .int .i64 y.c.r7, .int .i64 y.c.d] I58 rfl Y7.out rfl ?_)
        refine (tspawn T7.out.t LM.out T7.out.v.i HT7.out H7.out y.c y.t).mono ?_
        rintro e w8 ⟨he, t8, f8'⟩
        rw [HTE.out] at he
        subst he
        have f8 : Fr KB.own w7 w8 := f8'
        have T8 := hid t8
        have SW8 : Hid (Still w0 w8) := hid (SW7.out.next f8 (fun k hk => FT.out k (.inl hk)))
        have O8 := hid (O7.out.fr f8 N6.out)
        have HT8 := hid (HT.out.still (S0.out.trans SW8.out))
        have HC8 := hid (HC.out.still (S0.out.trans SW8.out))
        clear t8 f8
        by_cases hte : te = 0
        · have e9 : (te == 0) = true := by simp [hte]
          clear hte
          go_wp2_with (go_at_call 40; refine (tlives _ HT8.out HC8.out).mono ?_; rintro e w' ⟨rfl, hs⟩)
          go_ret
          exact ⟨rfl, S0.out.trans (SW8.out.trans hs)⟩
        · have e9 : (te == 0) = false := by simp [hte]
          have EQ : Hid (spL s L y.c y.t = L) := hid (spL_same (by rw [HTE.out]; exact hte))
          have T9 := T8.out
          rw [EQ.out] at T9
          have HT9 := hid T9
          clear hte T9
          go_wp2_with fail
          refine (tall HT9.out (by have := LN.out; omega) T1.out.v.wf).mono ?_
          rintro e w10 ⟨v10, rfl, o10, s10⟩
          obtain ⟨a10, c10, rfl⟩ := own_shape o10 _ rfl
          have O10 := hid (SRow.own (S := S68) o10 rfl)
          have S10 := hid s10
          clear o10 s10
          go_wp2_with fail
          refine (tplain _ O10.out (by have := LN.out; omega)).mono ?_
          rintro e w11 ⟨v11, rfl, o11, s11⟩
          obtain ⟨a11, c11, rfl⟩ := own_shape o11 _ rfl
          have O11 := hid (SRow.own (S := S66) o11 rfl)
          have S11 := hid (S10.out.trans s11)
          clear o11 s11
          go_wp2_with fail
          refine (tsame _ _ O11.out (O8.out.still S11.out) (by have := LN.out; omega)).mono ?_
          rintro e w12 ⟨rfl, s12⟩
          have S12 := hid (S11.out.trans s12)
          clear s12
          go_wp2_with (go_at_call 40; refine (tlives _ (HT8.out.still S12.out) (HC8.out.still S12.out)).mono ?_; rintro e w' ⟨rfl, hs⟩)
          go_ret
          exact ⟨rfl, S0.out.trans ((SW8.out.trans S12.out).trans hs)⟩
      have n0 := hk
      clear hk
      by_cases hk : y.k = 3
      · skip
        have e0k : (y.k == 0) = false := by simp [hk]
        have e3k : (y.k == 3) = true := by simp [hk]
        have e4k : (y.k == 4) = false := by simp [hk]
        have e5k : (y.k == 5) = false := by simp [hk]
        have e6k : (y.k == 6) = false := by simp [hk]
        have e7k : (y.k == 7) = false := by simp [hk]
        have e8k : (y.k == 8) = false := by simp [hk]
        have e9k : (y.k == 9) = false := by simp [hk]
        clear hk
        obtain ⟨te, hte0⟩ : ∃ v, turnE L id 2 = v := ⟨_, rfl⟩
        have HTE := hid hte0
        clear hte0
        go_wp2_with fail
        refine (trun T7.out.t LM.out HC7.out id WI.out T7.out.v.st).mono ?_
        rintro e w8 ⟨he, t8, f8'⟩
        rw [HTE.out] at he
        subst he
        have f8 : Fr KB.own w7 w8 := f8'.mono fun k _ hk => .inr hk
        have T8 := hid t8
        have SW8 : Hid (Still w0 w8) := hid (SW7.out.next f8 (fun k hk => FT.out k (.inl hk)))
        have O8 := hid (O7.out.fr f8 N6.out)
        have HT8 := hid (HT.out.still (S0.out.trans SW8.out))
        have HC8 := hid (HC.out.still (S0.out.trans SW8.out))
        clear t8 f8
        by_cases hte : te = 0
        · have e9 : (te == 0) = true := by simp [hte]
          clear hte
          go_wp2_with (go_at_call 40; refine (tlives _ HT8.out HC8.out).mono ?_; rintro e w' ⟨rfl, hs⟩)
          go_ret
          exact ⟨rfl, S0.out.trans (SW8.out.trans hs)⟩
        · have e9 : (te == 0) = false := by simp [hte]
          have EQ : Hid (turnL L id 2 2 = L) := hid (turnL_same (by rw [HTE.out]; exact hte))
          have T9 := T8.out
          rw [EQ.out] at T9
          have HT9 := hid T9
          clear hte T9
          go_wp2_with fail
          refine (tall HT9.out (by have := LN.out; omega) T1.out.v.wf).mono ?_
          rintro e w10 ⟨v10, rfl, o10, s10⟩
          obtain ⟨a10, c10, rfl⟩ := own_shape o10 _ rfl
          have O10 := hid (SRow.own (S := S68) o10 rfl)
          have S10 := hid s10
          clear o10 s10
          go_wp2_with fail
          refine (tplain _ O10.out (by have := LN.out; omega)).mono ?_
          rintro e w11 ⟨v11, rfl, o11, s11⟩
          obtain ⟨a11, c11, rfl⟩ := own_shape o11 _ rfl
          have O11 := hid (SRow.own (S := S66) o11 rfl)
          have S11 := hid (S10.out.trans s11)
          clear o11 s11
          go_wp2_with fail
          refine (tsame _ _ O11.out (O8.out.still S11.out) (by have := LN.out; omega)).mono ?_
          rintro e w12 ⟨rfl, s12⟩
          have S12 := hid (S11.out.trans s12)
          clear s12
          go_wp2_with (go_at_call 40; refine (tlives _ (HT8.out.still S12.out) (HC8.out.still S12.out)).mono ?_; rintro e w' ⟨rfl, hs⟩)
          go_ret
          exact ⟨rfl, S0.out.trans ((SW8.out.trans S12.out).trans hs)⟩
      have n3 := hk
      clear hk
      by_cases hk : y.k = 4
      · skip
        have e0k : (y.k == 0) = false := by simp [hk]
        have e3k : (y.k == 3) = false := by simp [hk]
        have e4k : (y.k == 4) = true := by simp [hk]
        have e5k : (y.k == 5) = false := by simp [hk]
        have e6k : (y.k == 6) = false := by simp [hk]
        have e7k : (y.k == 7) = false := by simp [hk]
        have e8k : (y.k == 8) = false := by simp [hk]
        have e9k : (y.k == 9) = false := by simp [hk]
        clear hk
        obtain ⟨te, hte0⟩ : ∃ v, turnE L id 4 = v := ⟨_, rfl⟩
        have HTE := hid hte0
        clear hte0
        go_wp2_with fail
        refine (tyield T7.out.t LM.out HC7.out id WI.out T7.out.v.st).mono ?_
        rintro e w8 ⟨he, t8, f8'⟩
        rw [HTE.out] at he
        subst he
        have f8 : Fr KB.own w7 w8 := f8'.mono fun k _ hk => .inr hk
        have T8 := hid t8
        have SW8 : Hid (Still w0 w8) := hid (SW7.out.next f8 (fun k hk => FT.out k (.inl hk)))
        have O8 := hid (O7.out.fr f8 N6.out)
        have HT8 := hid (HT.out.still (S0.out.trans SW8.out))
        have HC8 := hid (HC.out.still (S0.out.trans SW8.out))
        clear t8 f8
        by_cases hte : te = 0
        · have e9 : (te == 0) = true := by simp [hte]
          clear hte
          go_wp2_with (go_at_call 40; refine (tlives _ HT8.out HC8.out).mono ?_; rintro e w' ⟨rfl, hs⟩)
          go_ret
          exact ⟨rfl, S0.out.trans (SW8.out.trans hs)⟩
        · have e9 : (te == 0) = false := by simp [hte]
          have EQ : Hid (turnL L id 4 1 = L) := hid (turnL_same (by rw [HTE.out]; exact hte))
          have T9 := T8.out
          rw [EQ.out] at T9
          have HT9 := hid T9
          clear hte T9
          go_wp2_with fail
          refine (tall HT9.out (by have := LN.out; omega) T1.out.v.wf).mono ?_
          rintro e w10 ⟨v10, rfl, o10, s10⟩
          obtain ⟨a10, c10, rfl⟩ := own_shape o10 _ rfl
          have O10 := hid (SRow.own (S := S68) o10 rfl)
          have S10 := hid s10
          clear o10 s10
          go_wp2_with fail
          refine (tplain _ O10.out (by have := LN.out; omega)).mono ?_
          rintro e w11 ⟨v11, rfl, o11, s11⟩
          obtain ⟨a11, c11, rfl⟩ := own_shape o11 _ rfl
          have O11 := hid (SRow.own (S := S66) o11 rfl)
          have S11 := hid (S10.out.trans s11)
          clear o11 s11
          go_wp2_with fail
          refine (tsame _ _ O11.out (O8.out.still S11.out) (by have := LN.out; omega)).mono ?_
          rintro e w12 ⟨rfl, s12⟩
          have S12 := hid (S11.out.trans s12)
          clear s12
          go_wp2_with (go_at_call 40; refine (tlives _ (HT8.out.still S12.out) (HC8.out.still S12.out)).mono ?_; rintro e w' ⟨rfl, hs⟩)
          go_ret
          exact ⟨rfl, S0.out.trans ((SW8.out.trans S12.out).trans hs)⟩
      have n4 := hk
      clear hk
      by_cases hk : y.k = 5
      · skip
        have e0k : (y.k == 0) = false := by simp [hk]
        have e3k : (y.k == 3) = false := by simp [hk]
        have e4k : (y.k == 4) = false := by simp [hk]
        have e5k : (y.k == 5) = true := by simp [hk]
        have e6k : (y.k == 6) = false := by simp [hk]
        have e7k : (y.k == 7) = false := by simp [hk]
        have e8k : (y.k == 8) = false := by simp [hk]
        have e9k : (y.k == 9) = false := by simp [hk]
        clear hk
        obtain ⟨te, hte0⟩ : ∃ v, turnE L id 4 = v := ⟨_, rfl⟩
        have HTE := hid hte0
        clear hte0
        go_wp2_with fail
        refine (twait T7.out.t LM.out HC7.out id WI.out T7.out.v.st).mono ?_
        rintro e w8 ⟨he, t8, f8'⟩
        rw [HTE.out] at he
        subst he
        have f8 : Fr KB.own w7 w8 := f8'.mono fun k _ hk => .inr hk
        have T8 := hid t8
        have SW8 : Hid (Still w0 w8) := hid (SW7.out.next f8 (fun k hk => FT.out k (.inl hk)))
        have O8 := hid (O7.out.fr f8 N6.out)
        have HT8 := hid (HT.out.still (S0.out.trans SW8.out))
        have HC8 := hid (HC.out.still (S0.out.trans SW8.out))
        clear t8 f8
        by_cases hte : te = 0
        · have e9 : (te == 0) = true := by simp [hte]
          clear hte
          go_wp2_with (go_at_call 40; refine (tlives _ HT8.out HC8.out).mono ?_; rintro e w' ⟨rfl, hs⟩)
          go_ret
          exact ⟨rfl, S0.out.trans (SW8.out.trans hs)⟩
        · have e9 : (te == 0) = false := by simp [hte]
          have EQ : Hid (turnL L id 4 3 = L) := hid (turnL_same (by rw [HTE.out]; exact hte))
          have T9 := T8.out
          rw [EQ.out] at T9
          have HT9 := hid T9
          clear hte T9
          go_wp2_with fail
          refine (tall HT9.out (by have := LN.out; omega) T1.out.v.wf).mono ?_
          rintro e w10 ⟨v10, rfl, o10, s10⟩
          obtain ⟨a10, c10, rfl⟩ := own_shape o10 _ rfl
          have O10 := hid (SRow.own (S := S68) o10 rfl)
          have S10 := hid s10
          clear o10 s10
          go_wp2_with fail
          refine (tplain _ O10.out (by have := LN.out; omega)).mono ?_
          rintro e w11 ⟨v11, rfl, o11, s11⟩
          obtain ⟨a11, c11, rfl⟩ := own_shape o11 _ rfl
          have O11 := hid (SRow.own (S := S66) o11 rfl)
          have S11 := hid (S10.out.trans s11)
          clear o11 s11
          go_wp2_with fail
          refine (tsame _ _ O11.out (O8.out.still S11.out) (by have := LN.out; omega)).mono ?_
          rintro e w12 ⟨rfl, s12⟩
          have S12 := hid (S11.out.trans s12)
          clear s12
          go_wp2_with (go_at_call 40; refine (tlives _ (HT8.out.still S12.out) (HC8.out.still S12.out)).mono ?_; rintro e w' ⟨rfl, hs⟩)
          go_ret
          exact ⟨rfl, S0.out.trans ((SW8.out.trans S12.out).trans hs)⟩
      have n5 := hk
      clear hk
      by_cases hk : y.k = 6
      · skip
        have e0k : (y.k == 0) = false := by simp [hk]
        have e3k : (y.k == 3) = false := by simp [hk]
        have e4k : (y.k == 4) = false := by simp [hk]
        have e5k : (y.k == 5) = false := by simp [hk]
        have e6k : (y.k == 6) = true := by simp [hk]
        have e7k : (y.k == 7) = false := by simp [hk]
        have e8k : (y.k == 8) = false := by simp [hk]
        have e9k : (y.k == 9) = false := by simp [hk]
        clear hk
        obtain ⟨te, hte0⟩ : ∃ v, turnE L id 4 = v := ⟨_, rfl⟩
        have HTE := hid hte0
        clear hte0
        go_wp2_with fail
        refine (ttrap T7.out.t LM.out HC7.out id WI.out T7.out.v.st).mono ?_
        rintro e w8 ⟨he, t8, f8'⟩
        rw [HTE.out] at he
        subst he
        have f8 : Fr KB.own w7 w8 := f8'.mono fun k _ hk => .inr hk
        have T8 := hid t8
        have SW8 : Hid (Still w0 w8) := hid (SW7.out.next f8 (fun k hk => FT.out k (.inl hk)))
        have O8 := hid (O7.out.fr f8 N6.out)
        have HT8 := hid (HT.out.still (S0.out.trans SW8.out))
        have HC8 := hid (HC.out.still (S0.out.trans SW8.out))
        clear t8 f8
        by_cases hte : te = 0
        · have e9 : (te == 0) = true := by simp [hte]
          clear hte
          go_wp2_with (go_at_call 40; refine (tlives _ HT8.out HC8.out).mono ?_; rintro e w' ⟨rfl, hs⟩)
          go_ret
          exact ⟨rfl, S0.out.trans (SW8.out.trans hs)⟩
        · have e9 : (te == 0) = false := by simp [hte]
          have EQ : Hid (turnL L id 4 4 = L) := hid (turnL_same (by rw [HTE.out]; exact hte))
          have T9 := T8.out
          rw [EQ.out] at T9
          have HT9 := hid T9
          clear hte T9
          go_wp2_with fail
          refine (tall HT9.out (by have := LN.out; omega) T1.out.v.wf).mono ?_
          rintro e w10 ⟨v10, rfl, o10, s10⟩
          obtain ⟨a10, c10, rfl⟩ := own_shape o10 _ rfl
          have O10 := hid (SRow.own (S := S68) o10 rfl)
          have S10 := hid s10
          clear o10 s10
          go_wp2_with fail
          refine (tplain _ O10.out (by have := LN.out; omega)).mono ?_
          rintro e w11 ⟨v11, rfl, o11, s11⟩
          obtain ⟨a11, c11, rfl⟩ := own_shape o11 _ rfl
          have O11 := hid (SRow.own (S := S66) o11 rfl)
          have S11 := hid (S10.out.trans s11)
          clear o11 s11
          go_wp2_with fail
          refine (tsame _ _ O11.out (O8.out.still S11.out) (by have := LN.out; omega)).mono ?_
          rintro e w12 ⟨rfl, s12⟩
          have S12 := hid (S11.out.trans s12)
          clear s12
          go_wp2_with (go_at_call 40; refine (tlives _ (HT8.out.still S12.out) (HC8.out.still S12.out)).mono ?_; rintro e w' ⟨rfl, hs⟩)
          go_ret
          exact ⟨rfl, S0.out.trans ((SW8.out.trans S12.out).trans hs)⟩
      have n6 := hk
      clear hk
      by_cases hk : y.k = 7
      · skip
        have e0k : (y.k == 0) = false := by simp [hk]
        have e3k : (y.k == 3) = false := by simp [hk]
        have e4k : (y.k == 4) = false := by simp [hk]
        have e5k : (y.k == 5) = false := by simp [hk]
        have e6k : (y.k == 6) = false := by simp [hk]
        have e7k : (y.k == 7) = true := by simp [hk]
        have e8k : (y.k == 8) = false := by simp [hk]
        have e9k : (y.k == 9) = false := by simp [hk]
        clear hk
        obtain ⟨te, hte0⟩ : ∃ v, turnE L id 24 = v := ⟨_, rfl⟩
        have HTE := hid hte0
        clear hte0
        go_wp2_with fail
        refine (twake T7.out.t LM.out HC7.out id WI.out T7.out.v.st).mono ?_
        rintro e w8 ⟨he, t8, f8'⟩
        rw [HTE.out] at he
        subst he
        have f8 : Fr KB.own w7 w8 := f8'.mono fun k _ hk => .inr hk
        have T8 := hid t8
        have SW8 : Hid (Still w0 w8) := hid (SW7.out.next f8 (fun k hk => FT.out k (.inl hk)))
        have O8 := hid (O7.out.fr f8 N6.out)
        have HT8 := hid (HT.out.still (S0.out.trans SW8.out))
        have HC8 := hid (HC.out.still (S0.out.trans SW8.out))
        clear t8 f8
        by_cases hte : te = 0
        · have e9 : (te == 0) = true := by simp [hte]
          clear hte
          go_wp2_with (go_at_call 40; refine (tlives _ HT8.out HC8.out).mono ?_; rintro e w' ⟨rfl, hs⟩)
          go_ret
          exact ⟨rfl, S0.out.trans (SW8.out.trans hs)⟩
        · have e9 : (te == 0) = false := by simp [hte]
          have EQ : Hid (turnL L id 24 1 = L) := hid (turnL_same (by rw [HTE.out]; exact hte))
          have T9 := T8.out
          rw [EQ.out] at T9
          have HT9 := hid T9
          clear hte T9
          go_wp2_with fail
          refine (tall HT9.out (by have := LN.out; omega) T1.out.v.wf).mono ?_
          rintro e w10 ⟨v10, rfl, o10, s10⟩
          obtain ⟨a10, c10, rfl⟩ := own_shape o10 _ rfl
          have O10 := hid (SRow.own (S := S68) o10 rfl)
          have S10 := hid s10
          clear o10 s10
          go_wp2_with fail
          refine (tplain _ O10.out (by have := LN.out; omega)).mono ?_
          rintro e w11 ⟨v11, rfl, o11, s11⟩
          obtain ⟨a11, c11, rfl⟩ := own_shape o11 _ rfl
          have O11 := hid (SRow.own (S := S66) o11 rfl)
          have S11 := hid (S10.out.trans s11)
          clear o11 s11
          go_wp2_with fail
          refine (tsame _ _ O11.out (O8.out.still S11.out) (by have := LN.out; omega)).mono ?_
          rintro e w12 ⟨rfl, s12⟩
          have S12 := hid (S11.out.trans s12)
          clear s12
          go_wp2_with (go_at_call 40; refine (tlives _ (HT8.out.still S12.out) (HC8.out.still S12.out)).mono ?_; rintro e w' ⟨rfl, hs⟩)
          go_ret
          exact ⟨rfl, S0.out.trans ((SW8.out.trans S12.out).trans hs)⟩
      have n7 := hk
      clear hk
      by_cases hk : y.k = 8
      · skip
        have e0k : (y.k == 0) = false := by simp [hk]
        have e3k : (y.k == 3) = false := by simp [hk]
        have e4k : (y.k == 4) = false := by simp [hk]
        have e5k : (y.k == 5) = false := by simp [hk]
        have e6k : (y.k == 6) = false := by simp [hk]
        have e7k : (y.k == 7) = false := by simp [hk]
        have e8k : (y.k == 8) = true := by simp [hk]
        have e9k : (y.k == 9) = false := by simp [hk]
        clear hk
        obtain ⟨te, hte0⟩ : ∃ v, turnE L id 16 = v := ⟨_, rfl⟩
        have HTE := hid hte0
        clear hte0
        go_wp2_with fail
        refine (tback T7.out.t LM.out HC7.out id WI.out T7.out.v.st).mono ?_
        rintro e w8 ⟨he, t8, f8'⟩
        rw [HTE.out] at he
        subst he
        have f8 : Fr KB.own w7 w8 := f8'.mono fun k _ hk => .inr hk
        have T8 := hid t8
        have SW8 : Hid (Still w0 w8) := hid (SW7.out.next f8 (fun k hk => FT.out k (.inl hk)))
        have O8 := hid (O7.out.fr f8 N6.out)
        have HT8 := hid (HT.out.still (S0.out.trans SW8.out))
        have HC8 := hid (HC.out.still (S0.out.trans SW8.out))
        clear t8 f8
        by_cases hte : te = 0
        · have e9 : (te == 0) = true := by simp [hte]
          clear hte
          go_wp2_with (go_at_call 40; refine (tlives _ HT8.out HC8.out).mono ?_; rintro e w' ⟨rfl, hs⟩)
          go_ret
          exact ⟨rfl, S0.out.trans (SW8.out.trans hs)⟩
        · have e9 : (te == 0) = false := by simp [hte]
          have EQ : Hid (turnL L id 16 2 = L) := hid (turnL_same (by rw [HTE.out]; exact hte))
          have T9 := T8.out
          rw [EQ.out] at T9
          have HT9 := hid T9
          clear hte T9
          go_wp2_with fail
          refine (tall HT9.out (by have := LN.out; omega) T1.out.v.wf).mono ?_
          rintro e w10 ⟨v10, rfl, o10, s10⟩
          obtain ⟨a10, c10, rfl⟩ := own_shape o10 _ rfl
          have O10 := hid (SRow.own (S := S68) o10 rfl)
          have S10 := hid s10
          clear o10 s10
          go_wp2_with fail
          refine (tplain _ O10.out (by have := LN.out; omega)).mono ?_
          rintro e w11 ⟨v11, rfl, o11, s11⟩
          obtain ⟨a11, c11, rfl⟩ := own_shape o11 _ rfl
          have O11 := hid (SRow.own (S := S66) o11 rfl)
          have S11 := hid (S10.out.trans s11)
          clear o11 s11
          go_wp2_with fail
          refine (tsame _ _ O11.out (O8.out.still S11.out) (by have := LN.out; omega)).mono ?_
          rintro e w12 ⟨rfl, s12⟩
          have S12 := hid (S11.out.trans s12)
          clear s12
          go_wp2_with (go_at_call 40; refine (tlives _ (HT8.out.still S12.out) (HC8.out.still S12.out)).mono ?_; rintro e w' ⟨rfl, hs⟩)
          go_ret
          exact ⟨rfl, S0.out.trans ((SW8.out.trans S12.out).trans hs)⟩
      have n8 := hk
      clear hk
      by_cases hk : y.k = 9
      · skip
        have e0k : (y.k == 0) = false := by simp [hk]
        have e3k : (y.k == 3) = false := by simp [hk]
        have e4k : (y.k == 4) = false := by simp [hk]
        have e5k : (y.k == 5) = false := by simp [hk]
        have e6k : (y.k == 6) = false := by simp [hk]
        have e7k : (y.k == 7) = false := by simp [hk]
        have e8k : (y.k == 8) = false := by simp [hk]
        have e9k : (y.k == 9) = true := by simp [hk]
        clear hk
        obtain ⟨te, hte0⟩ : ∃ v, endE s L id = v := ⟨_, rfl⟩
        have HTE := hid hte0
        clear hte0
        go_wp2_with fail
        refine (tend T7.out.t T7.out.v.i id WI.out).mono ?_
        rintro e w8 ⟨he, t8, f8'⟩
        rw [HTE.out] at he
        subst he
        have f8 : Fr KB.own w7 w8 := f8'.mono fun k _ hk => hk.elim .inr (fun e => .inl (.inl e))
        have T8 := hid t8
        have SW8 : Hid (Still w0 w8) := hid (SW7.out.next f8 (fun k hk => FT.out k (.inl hk)))
        have O8 := hid (O7.out.fr f8 N6.out)
        have HT8 := hid (HT.out.still (S0.out.trans SW8.out))
        have HC8 := hid (HC.out.still (S0.out.trans SW8.out))
        clear t8 f8
        by_cases hte : te = 0
        · have e9 : (te == 0) = true := by simp [hte]
          clear hte
          go_wp2_with (go_at_call 40; refine (tlives _ HT8.out HC8.out).mono ?_; rintro e w' ⟨rfl, hs⟩)
          go_ret
          exact ⟨rfl, S0.out.trans (SW8.out.trans hs)⟩
        · have e9 : (te == 0) = false := by simp [hte]
          have EQ : Hid (endL L id = L) := hid (endL_same T7.out.v (by rw [HTE.out]; exact hte))
          have T9 := T8.out
          rw [EQ.out] at T9
          have HT9 := hid T9
          clear hte T9
          go_wp2_with fail
          refine (tall HT9.out (by have := LN.out; omega) T1.out.v.wf).mono ?_
          rintro e w10 ⟨v10, rfl, o10, s10⟩
          obtain ⟨a10, c10, rfl⟩ := own_shape o10 _ rfl
          have O10 := hid (SRow.own (S := S68) o10 rfl)
          have S10 := hid s10
          clear o10 s10
          go_wp2_with fail
          refine (tplain _ O10.out (by have := LN.out; omega)).mono ?_
          rintro e w11 ⟨v11, rfl, o11, s11⟩
          obtain ⟨a11, c11, rfl⟩ := own_shape o11 _ rfl
          have O11 := hid (SRow.own (S := S66) o11 rfl)
          have S11 := hid (S10.out.trans s11)
          clear o11 s11
          go_wp2_with fail
          refine (tsame _ _ O11.out (O8.out.still S11.out) (by have := LN.out; omega)).mono ?_
          rintro e w12 ⟨rfl, s12⟩
          have S12 := hid (S11.out.trans s12)
          clear s12
          go_wp2_with (go_at_call 40; refine (tlives _ (HT8.out.still S12.out) (HC8.out.still S12.out)).mono ?_; rintro e w' ⟨rfl, hs⟩)
          go_ret
          exact ⟨rfl, S0.out.trans ((SW8.out.trans S12.out).trans hs)⟩
      have n9 := hk
      clear hk
      have e0k : (y.k == 0) = false := by simp [n0]
      have e3k : (y.k == 3) = false := by simp [n3]
      have e4k : (y.k == 4) = false := by simp [n4]
      have e5k : (y.k == 5) = false := by simp [n5]
      have e6k : (y.k == 6) = false := by simp [n6]
      have e7k : (y.k == 7) = false := by simp [n7]
      have e8k : (y.k == 8) = false := by simp [n8]
      have e9k : (y.k == 9) = false := by simp [n9]
      go_wp2_with (go_at_call 40; refine (tlives _ HT7.out HC7.out).mono ?_; rintro e w' ⟨rfl, hs⟩)
      go_ret
      exact ⟨rfl, S0.out.trans (SW7.out.trans hs)⟩
theorem threadWays (w : World) (hT : TabD w) (hC : TabT w) (a : Option Addr) (n c : Nat) (F : Nat → LAct) (hF : IsLActs w a n c F) (y : LAct) (wy : (Lit.int .i64 y.i).wf = true) : Calls Tryd.prog 8 #[.slice a n c, (Value.agg #[.int .i64 y.k, .int .i64 y.i, .int .i64 y.t, .bool y.re, .int .i64 y.c.p, .int .i64 y.c.q, .int .i64 y.c.r0, .int .i64 y.c.r1, .int .i64 y.c.r2, .int .i64 y.c.r3, .int .i64 y.c.r4, .int .i64 y.c.r5, .int .i64 y.c.r6, .int .i64 y.c.r7, .int .i64 y.c.d])] w fun e w' => e = .returned (.bool true) ∧ Still w w' := by
  by_cases hn : 100 < n
  · exact threadWays_big w hT hC y a n c hn
  · exact threadWays_ok w hT hC y wy a n c F hF (by omega)
end Go.Proofs.YtffjaaolcphonaaDoor
