/- ThreadActs: the walk. -/
import Derived.Test.YtffjaaolcphonaaDoorTAct
import Derived.Test.YtffjaaolcphonaaDoorBdLA
import Derived.Test.YtffjaaolcphonaaDoorThrL
namespace Go.Proofs.YtffjaaolcphonaaDoor
open Go.RowKit Go.Maps
set_option linter.unusedSimpArgs false
theorem threadActs_big (w : World) (hT : TabD w) (hC : TabT w) (x : Int) (a : Option Addr) (n c : Nat) (hn : 100 < n) : Calls Tryd.prog 9 #[.int .i64 x, .slice a n c] w fun e w' => e = .returned (.bool true) ∧ Still w w' := by
  have hn' : (100 : Int) < (n : Int) := by omega
  have L := hid (tlives w hT hC)
  clear hn hT hC
  go_enter Tryd.func9, Tryd.ntmps9
  go_wp2_with (go_at_call 40; refine L.out.mono ?_; rintro e w' ⟨rfl, hs⟩)
  go_ret
  exact ⟨rfl, hs⟩
theorem threadActs_no (w : World) (hT : TabD w) (hC : TabT w) (x : Int) (a : Option Addr) (n c : Nat) (hn : n ≤ 100) (hx : x < 1 ∨ 32 < x) : Calls Tryd.prog 9 #[.int .i64 x, .slice a n c] w fun e w' => e = .returned (.bool true) ∧ Still w w' := by
  have hn' : ¬ (100 : Int) < (n : Int) := by omega
  have L := hid (tlives w hT hC)
  have N1 := hid (tnew_no w x hx)
  have N2 := hid (rtnew_no w x hx)
  clear hn hT hC hx
  go_enter Tryd.func9, Tryd.ntmps9
  go_wp2_with (first | (go_at_call 40; refine L.out.mono ?_; rintro e w' ⟨rfl, hs⟩) | (go_at_call 38; refine N1.out.mono ?_; rintro e w' ⟨rfl, rfl⟩) | (go_at_call 39; refine N2.out.mono ?_; rintro e w' ⟨rfl, rfl⟩))
  go_ret
  exact ⟨rfl, hs⟩
/-- Both sides, as they are made. -/
theorem two_start {w w1 w2 : World} {x : Nat} (x1 : x ≤ 32) (hw : 8 ≤ w.heap.size) {P : Nat} {B : SB} {M : Nat} (hA : TAt w1 P B M (zeroS x x) []) (hn : TNew w P B M) (hs1 : Still w w1) {Q p A T cA cT : Nat} (hR : RTAt w2 (fun k => w1.heap.size ≤ k ∧ k < w2.heap.size) Q p A T cA cT (zeroS x x) []) (hs2 : Still w1 w2) :
    TwoT w2 ⟨P, B, M, Q, p, A, T, cA, cT⟩ (fun k => w1.heap.size ≤ k ∧ k < w2.heap.size) (zeroS x x) [] ∧ ∀ k, (TB.mk P B M Q p A T cA cT).foot (fun k => w1.heap.size ≤ k ∧ k < w2.heap.size) k → w.heap.size ≤ k := by
  have lP := hA.ltP
  have lM := hA.m.lt
  have lB := fun k hk => hA.sl.lt (k := k) hk
  have z1 := hs1.size
  have hf : ∀ k, (TB.mk P B M Q p A T cA cT).foot (fun k => w1.heap.size ≤ k ∧ k < w2.heap.size) k → w.heap.size ≤ k := by
    rintro k ((h | rfl) | h)
    · exact hn.b k h
    · exact hn.m
    · omega
  refine ⟨⟨hA.still hs2, hR, TInv.zero x x1, fun e => by have h1 : w1.heap.size ≤ P := e.1; omega, ?_, fun k hk => by have := hf k hk; omega⟩, hf⟩
  rintro k (h | h) e
  · have := lB k h; have := e.1; omega
  · have h1 := e.1
    have h2 : k = M := h
    omega
theorem new_l (w : World) : Blk (w.alloc (.cells #[.int .i64 0, .int .i64 0, .int .i64 0, .bool false, .int .i64 0, .int .i64 0, .int .i64 0, .int .i64 0, .int .i64 0, .int .i64 0, .int .i64 0, .int .i64 0, .int .i64 0, .int .i64 0, .int .i64 0] 60)) w.heap.size [.int .i64 l0.k, .int .i64 l0.i, .int .i64 l0.t, .bool l0.re, .int .i64 l0.c.p, .int .i64 l0.c.q, .int .i64 l0.c.r0, .int .i64 l0.c.r1, .int .i64 l0.c.r2, .int .i64 l0.c.r3, .int .i64 l0.c.r4, .int .i64 l0.c.r5, .int .i64 l0.c.r6, .int .i64 l0.c.r7, .int .i64 l0.c.d] 60 := Blk.new w _ 60
theorem onesL (x : LAct) : ∀ v ∈ ([.int .i64 x.k, .int .i64 x.i, .int .i64 x.t, .bool x.re, .int .i64 x.c.p, .int .i64 x.c.q, .int .i64 x.c.r0, .int .i64 x.c.r1, .int .i64 x.c.r2, .int .i64 x.c.r3, .int .i64 x.c.r4, .int .i64 x.c.r5, .int .i64 x.c.r6, .int .i64 x.c.r7, .int .i64 x.c.d] : List Value), v.oneCell' = true := by intro v hv; simp only [List.mem_cons, List.not_mem_nil, or_false] at hv; rcases hv with rfl | rfl | rfl | rfl | rfl | rfl | rfl | rfl | rfl | rfl | rfl | rfl | rfl | rfl | rfl <;> rfl
theorem upO_lo {O : Nat → Prop} {K : TB} {w w1 w2 : World} (h : ∀ k, K.foot O k → w.heap.size ≤ k) (hz : w.heap.size ≤ w1.heap.size) : ∀ k, K.foot (upO O w1 w2) k → w.heap.size ≤ k := by
  rintro k (hk | hk | hk)
  · exact h k (.inl hk)
  · exact h k (.inr hk)
  · omega
set_option maxRecDepth 100000 in
set_option maxHeartbeats 8000000 in
theorem threadActs_ok (w : World) (hT : TabD w) (hC : TabT w) (x : Nat) (a : Option Addr) (n c : Nat) (F : Nat → LAct) (hF : IsLActs w a n c F) (hn : n ≤ 100) (x0 : 1 ≤ x) (x1 : x ≤ 32) :
    Calls Tryd.prog 9 #[.int .i64 (x : Int), .slice a n c] w fun e w' => e = .returned (.bool true) ∧ Still w w' := by
  have hn' : ¬ (100 : Int) < (n : Int) := by omega
  have HF := hid hF
  have HT := hid hT
  have HC := hid hC
  have h7 := hid hT.lt
  have HN := hid (tnew w x x0 x1)
  clear hF hT hC
  go_enter Tryd.func9, Tryd.ntmps9
  go_wp2_with fail
  refine HN.out.mono ?_
  rintro e w1 ⟨P, B, M, rfl, hA, hs1, hnn⟩
  have HA := hid hA
  have HS1 := hid hs1
  have HNN := hid hnn
  clear hA hs1 hnn
  go_wp2_with fail
  refine (rtnew w1 x x0 x1).mono ?_
  rintro e w2 ⟨Q, p, A, T, cA, cT, rfl, hR, hs2⟩
  have TS := two_start x1 (by have := h7.out; omega) HA.out HNN.out HS1.out hR hs2
  obtain ⟨KB, hKB⟩ : ∃ K : TB, TB.mk P B M Q p A T cA cT = K := ⟨_, rfl⟩
  obtain ⟨O0, hO0⟩ : ∃ O : Nat → Prop, (fun k => w1.heap.size ≤ k ∧ k < w2.heap.size) = O := ⟨_, rfl⟩
  rw [hKB, hO0] at TS
  have KP : P = KB.P := by rw [← hKB]
  have KQ : Q = KB.Q := by rw [← hKB]
  have T0 := hid TS.1
  have FT0 := hid TS.2
  have S2 := hid (HS1.out.trans hs2)
  rw [KP, KQ]
  clear TS hR hs2 hKB hO0 KP KQ HA HNN HN
  go_wp2_with fail
  go_loopw [8, 9, 10, 11, 12, 31] (fun s8 s9 s10 s11 s12 cc wr => ∃ (j : Nat) (s : SS) (L : List Thr) (O : Nat → Prop), cc = .int .i64 j ∧ j ≤ n ∧ Hid (TwoT wr KB O s L) ∧ Hid (∀ k, KB.foot O k → w.heap.size ≤ k) ∧ Hid (Still w wr)) (fun s8 s9 s10 s11 s12 cc _ => n - (intOf cc).toNat)
  case atStart => exact ⟨0, _, [], O0, rfl, Nat.zero_le _, T0, FT0, S2⟩
  case round =>
    clear T0 FT0 S2
    obtain ⟨j, s, L, O, rfl, hj, T1, FT, S1⟩ := hrel
    by_cases hlt : j < n
    · have hlt' : (j : Int) < (n : Int) := by omega
      rcases HF.out with h0 | ⟨b1, o1, rfl, _, _, _, _, hc⟩
      · omega
      obtain ⟨hx, hwx⟩ := hc j hlt
      obtain ⟨x, hxx⟩ : ∃ x, F j = x := ⟨_, rfl⟩
      rw [hxx] at hx hwx
      have HX : Hid (wr.rangeAt b1 (o1 + j * 15) [.int .i64 x.k, .int .i64 x.i, .int .i64 x.t, .bool x.re, .int .i64 x.c.p, .int .i64 x.c.q, .int .i64 x.c.r0, .int .i64 x.c.r1, .int .i64 x.c.r2, .int .i64 x.c.r3, .int .i64 x.c.r4, .int .i64 x.c.r5, .int .i64 x.c.r6, .int .i64 x.c.r7, .int .i64 x.c.d]) := hid fun k v hv => Still.cell S1.out (hx k v hv)
      have WX := hid hwx
      clear hc hx hwx hxx
      go_wp2_with (first
        | (refine wpList_load_mid rfl 60 (.tmp 33) rfl b1 (o1 + j * 15) rfl [.int .i64 x.k, .int .i64 x.i, .int .i64 x.t, .bool x.re, .int .i64 x.c.p, .int .i64 x.c.q, .int .i64 x.c.r0, .int .i64 x.c.r1, .int .i64 x.c.r2, .int .i64 x.c.r3, .int .i64 x.c.r4, .int .i64 x.c.r5, .int .i64 x.c.r6, .int .i64 x.c.r7, .int .i64 x.c.d] _ HX.out Tryd.underlying60 rfl I60 ?_)
        | (refine wpList_storeW rfl (.tmp 8) (.tmp 34) 60 rfl _ 60 [.int .i64 l0.k, .int .i64 l0.i, .int .i64 l0.t, .bool l0.re, .int .i64 l0.c.p, .int .i64 l0.c.q, .int .i64 l0.c.r0, .int .i64 l0.c.r1, .int .i64 l0.c.r2, .int .i64 l0.c.r3, .int .i64 l0.c.r4, .int .i64 l0.c.r5, .int .i64 l0.c.r6, .int .i64 l0.c.r7, .int .i64 l0.c.d] [.int .i64 x.k, .int .i64 x.i, .int .i64 x.t, .bool x.re, .int .i64 x.c.p, .int .i64 x.c.q, .int .i64 x.c.r0, .int .i64 x.c.r1, .int .i64 x.c.r2, .int .i64 x.c.r3, .int .i64 x.c.r4, .int .i64 x.c.r5, .int .i64 x.c.r6, .int .i64 x.c.r7, .int .i64 x.c.d] I60 (onesL x) rfl rfl (new_l _) rfl ?_; intro w3 b3 f3; have B3 := hid b3; have S3 : Hid (Still wr w3) := hid (Still.next ((Fr.refl _ _).alloc _) f3 (fun k hk => by rw [hk]; exact Nat.le_refl _)); clear b3 f3))
      obtain ⟨ab, hab⟩ : ∃ ab, wr.heap.size = ab := ⟨_, rfl⟩
      have NAB : Hid (∀ k, KB.foot O k → k < ab) := hid fun k hk => by rw [← hab]; exact T1.out.lt k hk
      have LAB : Hid (w.heap.size ≤ ab) := hid (by rw [← hab]; exact S1.out.size)
      rw [hab] at B3 ⊢
      have T3 := hid (T1.out.still S3.out)
      have SW3 := hid (S1.out.trans S3.out)
      clear hab
      have RX : w3.rangeAt ab 0 [.int .i64 x.k, .int .i64 x.i, .int .i64 x.t, .bool x.re, .int .i64 x.c.p, .int .i64 x.c.q, .int .i64 x.c.r0, .int .i64 x.c.r1, .int .i64 x.c.r2, .int .i64 x.c.r3, .int .i64 x.c.r4, .int .i64 x.c.r5, .int .i64 x.c.r6, .int .i64 x.c.r7, .int .i64 x.c.d] := fun k v hv => by rw [Nat.zero_add, B3.out.cell k]; exact hv
      have i3 : w3.cell? ⟨ab, 1, none⟩ = some (.int .i64 x.i) := B3.out.cell 1
      refine Held.wp_region_held_tail (S := (fun w' => w'.rangeAt ab 0 [.int .i64 x.k, .int .i64 x.i, .int .i64 x.t, .bool x.re, .int .i64 x.c.p, .int .i64 x.c.q, .int .i64 x.c.r0, .int .i64 x.c.r1, .int .i64 x.c.r2, .int .i64 x.c.r3, .int .i64 x.c.r4, .int .i64 x.c.r5, .int .i64 x.c.r6, .int .i64 x.c.r7, .int .i64 x.c.d] ∧ w'.cell? ⟨ab, 1, none⟩ = some (.int .i64 x.i))) 26 (by kernel_rfl) (by kernel_rfl) (by decide) ?hS1 (fun hHeld => ?hR1)
      case hS1 =>
        exact ⟨RX, i3⟩
      simp only [List.take_succ_cons, List.take_zero, List.drop_succ_cons, List.drop_zero]
      refine wpAnyH_take (i := 2) (oi := _) (v := (Value.agg #[.int .i64 x.k, .int .i64 x.i, .int .i64 x.t, .bool x.re, .int .i64 x.c.p, .int .i64 x.c.q, .int .i64 x.c.r0, .int .i64 x.c.r1, .int .i64 x.c.r2, .int .i64 x.c.r3, .int .i64 x.c.r4, .int .i64 x.c.r5, .int .i64 x.c.r6, .int .i64 x.c.r7, .int .i64 x.c.d])) rfl (by kernel_rfl) (by kernel_rfl) (by kernel_rfl) (fun _ _ _ h => h) (yieldsIf_load_mid rfl 60 _ rfl ab 0 rfl [.int .i64 x.k, .int .i64 x.i, .int .i64 x.t, .bool x.re, .int .i64 x.c.p, .int .i64 x.c.q, .int .i64 x.c.r0, .int .i64 x.c.r1, .int .i64 x.c.r2, .int .i64 x.c.r3, .int .i64 x.c.r4, .int .i64 x.c.r5, .int .i64 x.c.r6, .int .i64 x.c.r7, .int .i64 x.c.d] _ (fun w h => h.1) Tryd.underlying60 rfl I60) (by assumption) ?rA
      simp only [Act.put, List.getElem_toArray, List.getElem_cons_zero, List.getElem_cons_succ, List.setIfInBounds_toArray, List.set_cons_zero, List.set_cons_succ]
      refine wpAnyH_take (i := 0) (oi := _) (v := ?v2) rfl (by kernel_rfl) (by kernel_rfl) (by kernel_rfl) (fun _ _ _ h => h) (Or.inl ⟨by rfl, ?y2⟩) (by assumption) ?r2
      case y2 => ((intro w hSw); (try dsimp only at hSw); go_simp; (try with_reducible rfl))
      (try simp only [Act.put, List.setIfInBounds_toArray, List.set_cons_zero, List.set_cons_succ])
      refine wpAnyH_take (i := 1) (oi := _) (v := ?v3) rfl (by kernel_rfl) (by kernel_rfl) (by kernel_rfl) (fun _ _ _ h => h) (Or.inl ⟨by rfl, ?y3⟩) (by assumption) ?r3
      case y3 => ((intro w hSw); (try dsimp only at hSw); go_simp; (try with_reducible rfl))
      (try simp only [Act.put, List.setIfInBounds_toArray, List.set_cons_zero, List.set_cons_succ])
      refine wpAnyH_ready (rs := [3]) (by kernel_rfl) (by simp) ?_
      refine AllReadyH.cons rfl (fun K hK => ?st4) AllReadyH.nil
      go_simp
      go_at_call 41
      refine (tact (T3.out.still (by exact (Fr.refl _ _).drew)) (HT.out.still (SW3.out.trans (Fr.refl _ _).drew)) (HC.out.still (SW3.out.trans (Fr.refl _ _).drew)) x WX.out).mono ?_
      rintro e w4 ⟨rfl, t4, f4⟩
      have z34 : w3.heap.size ≤ w4.heap.size := f4.size
      have F4 : Hid (Fr (KB.foot O) w3 w4) := hid (((Fr.refl _ w3).drew).trans f4)
      have T4 := hid t4
      have B4 := hid (B3.out.fr F4.out (fun e => by have := NAB.out _ e; omega))
      have NB4 : Hid (∀ k, KB.foot (upO O w3 w4) k → k ≠ ab) := hid (by
        have hl := B3.out.lt
        rintro k (hk | hk | hk) rfl
        · have := NAB.out _ (.inl hk); omega
        · have := NAB.out _ (.inr hk); omega
        · omega)
      have SW4 : Hid (Still w w4) := hid (SW3.out.next F4.out (fun k hk => FT.out k hk))
      have FT4 : Hid (∀ k, KB.foot (upO O w3 w4) k → w.heap.size ≤ k) := hid (upO_lo FT.out SW3.out.size)
      clear t4 f4
      refine hK.out _ _ ?k4 (fun hHeld4 => ?_)
      case k4 =>
        exact ⟨fun k v hv => by rw [Nat.zero_add, B4.out.cell k]; exact hv, B4.out.cell 1⟩
      clear hK K
      (try simp only [Act.put, List.setIfInBounds_toArray, List.set_cons_zero, List.set_cons_succ])
      refine wpAnyH_take (i := 4) (oi := _) (v := ?v5) rfl (by kernel_rfl) (by kernel_rfl) (by kernel_rfl) (fun _ _ _ h => h) (Or.inl ⟨by rfl, ?y5⟩) (by assumption) ?r5
      case y5 => ((intro w hSw); (try dsimp only at hSw); go_simp; (try with_reducible rfl))
      (try simp only [Act.put, List.setIfInBounds_toArray, List.set_cons_zero, List.set_cons_succ])
      refine wpAnyH_take (i := 5) (oi := _) (v := ?v6) rfl (by kernel_rfl) (by kernel_rfl) (by kernel_rfl) (fun _ _ _ h => h) (Or.inl ⟨by rfl, ?y6⟩) (by assumption) ?r6
      case y6 => ((intro w hSw); (try dsimp only at hSw); go_simp; (try with_reducible rfl))
      (try simp only [Act.put, List.setIfInBounds_toArray, List.set_cons_zero, List.set_cons_succ])
      simp only [Act.put, List.getElem_toArray, List.getElem_cons_zero, List.getElem_cons_succ, List.setIfInBounds_toArray, List.set_cons_zero, List.set_cons_succ]
      have R4 := T4.out.r
      obtain ⟨rv, q4, ro, _⟩ := R4.ex
      have RO := hid (SRow.own (S := S66) ro rfl)
      obtain ⟨ra, rc, rfl⟩ := own_shape ro _ rfl
      have i4 : w4.cell? ⟨ab, 1, none⟩ = some (.int .i64 x.i) := B4.out.cell 1
      have LN := hid T4.out.v.len
      obtain ⟨LL, hLL⟩ : ∃ M, actL s L x = M := ⟨_, rfl⟩
      obtain ⟨s4, hs4⟩ : ∃ M, actS s L x = M := ⟨_, rfl⟩
      rw [hLL] at q4 RO LN T4
      rw [hs4] at T4
      clear ro R4 hLL hs4
      refine wpAnyH_strong (S' := fun w' => w'.cell? ⟨ab, 1, none⟩ = some (.int .i64 x.i) ∧ w'.cell? ⟨KB.Q, 1, none⟩ = some (.slice ra LL.length rc) ∧ w'.rangeAt ab 0 [.int .i64 x.k, .int .i64 x.i, .int .i64 x.t, .bool x.re, .int .i64 x.c.p, .int .i64 x.c.q, .int .i64 x.c.r0, .int .i64 x.c.r1, .int .i64 x.c.r2, .int .i64 x.c.r3, .int .i64 x.c.r4, .int .i64 x.c.r5, .int .i64 x.c.r6, .int .i64 x.c.r7, .int .i64 x.c.d]) (fun w h => ⟨h.2.2, h.1⟩) _ _ _ _ ?_
      have hS' : w4.cell? ⟨ab, 1, none⟩ = some (.int .i64 x.i) ∧ w4.cell? ⟨KB.Q, 1, none⟩ = some (.slice ra LL.length rc) ∧ w4.rangeAt ab 0 [.int .i64 x.k, .int .i64 x.i, .int .i64 x.t, .bool x.re, .int .i64 x.c.p, .int .i64 x.c.q, .int .i64 x.c.r0, .int .i64 x.c.r1, .int .i64 x.c.r2, .int .i64 x.c.r3, .int .i64 x.c.r4, .int .i64 x.c.r5, .int .i64 x.c.r6, .int .i64 x.c.r7, .int .i64 x.c.d] := ⟨i4, q4, fun k v hv => by rw [Nat.zero_add, B4.out.cell k]; exact hv⟩
      refine wpAnyH_take (i := 6) (oi := _) (v := ?v7) rfl (by kernel_rfl) (by kernel_rfl) (by kernel_rfl) (fun _ _ _ h => h) (Or.inl ⟨by rfl, ?y7⟩) (by assumption) ?r7
      case y7 => ((intro w hSw); (try dsimp only at hSw); go_simp; (try with_reducible rfl))
      (try simp only [Act.put, List.setIfInBounds_toArray, List.set_cons_zero, List.set_cons_succ])
      refine wpAnyH_take (i := 9) (oi := _) (v := ?v8) rfl (by kernel_rfl) (by kernel_rfl) (by kernel_rfl) (fun _ _ _ h => h) (Or.inl ⟨by rfl, ?y8⟩) (by assumption) ?r8
      case y8 => ((intro w hSw); (try dsimp only at hSw); go_simp; (try with_reducible rfl))
      (try simp only [Act.put, List.setIfInBounds_toArray, List.set_cons_zero, List.set_cons_succ])
      refine wpAnyH_take (i := 10) (oi := _) (v := ?v9) rfl (by kernel_rfl) (by kernel_rfl) (by kernel_rfl) (fun _ _ _ h => h) (Or.inl ⟨by rfl, ?y9⟩) (by assumption) ?r9
      case y9 => ((intro w hSw); (try dsimp only at hSw); go_simp; (try with_reducible rfl))
      (try simp only [Act.put, List.setIfInBounds_toArray, List.set_cons_zero, List.set_cons_succ])
      simp only [Act.put, List.getElem_toArray, List.getElem_cons_zero, List.getElem_cons_succ, List.setIfInBounds_toArray, List.set_cons_zero, List.set_cons_succ]
      refine wpAnyH_take (i := 11) (oi := _) (v := ?v10) rfl (by kernel_rfl) (by kernel_rfl) (by kernel_rfl) (fun _ _ _ h => h) (Or.inl ⟨by rfl, ?y10⟩) (by assumption) ?r10
      case y10 => ((intro w hSw); (try dsimp only at hSw); go_simp; (try with_reducible rfl))
      (try simp only [Act.put, List.setIfInBounds_toArray, List.set_cons_zero, List.set_cons_succ])
      refine wpAnyH_take (i := 12) (oi := _) (v := ?v11) rfl (by kernel_rfl) (by kernel_rfl) (by kernel_rfl) (fun _ _ _ h => h) (Or.inl ⟨by rfl, ?y11⟩) (by assumption) ?r11
      case y11 => ((intro w hSw); (try dsimp only at hSw); go_simp; (try with_reducible rfl))
      (try simp only [Act.put, List.setIfInBounds_toArray, List.set_cons_zero, List.set_cons_succ])
      simp only [Act.put, List.getElem_toArray, List.getElem_cons_zero, List.getElem_cons_succ, List.setIfInBounds_toArray, List.set_cons_zero, List.set_cons_succ]
      refine wpAnyH_ready (rs := [7]) (by kernel_rfl) (by simp) ?_
      refine AllReadyH.cons rfl (fun K hK => ?st12) AllReadyH.nil
      go_simp
      go_at_call 43
      refine (tall T4.out.t (by have := LN.out; omega) T4.out.v.wf).mono ?_
      rintro e w5 ⟨v5, rfl, o5, s5⟩
      obtain ⟨a5, c5, rfl⟩ := own_shape o5 _ rfl
      have O5 := hid (SRow.own (S := S68) o5 rfl)
      have S5 := hid s5
      clear o5 s5
      refine hK.out _ _ ?k12 (fun hHeld12 => ?_)
      case k12 =>
        exact ⟨Still.cell S5.out i4, Still.cell S5.out q4, fun k v hv => Still.cell S5.out (by rw [Nat.zero_add, B4.out.cell k]; exact hv)⟩
      clear hK K
      (try simp only [Act.put, List.setIfInBounds_toArray, List.set_cons_zero, List.set_cons_succ])
      refine wpAnyH_ready (rs := [8]) (by kernel_rfl) (by simp) ?_
      refine AllReadyH.cons rfl (fun K hK => ?st13) AllReadyH.nil
      go_simp
      go_at_call 42
      refine (tplain _ O5.out (by have := LN.out; omega)).mono ?_
      rintro e w6 ⟨v6, rfl, o6, s6⟩
      obtain ⟨a6, c6, rfl⟩ := own_shape o6 _ rfl
      have O6 := hid (SRow.own (S := S66) o6 rfl)
      have S6 := hid (S5.out.trans s6)
      clear o6 s6
      refine hK.out _ _ ?k13 (fun hHeld13 => ?_)
      case k13 =>
        exact ⟨Still.cell S6.out i4, Still.cell S6.out q4, fun k v hv => Still.cell S6.out (by rw [Nat.zero_add, B4.out.cell k]; exact hv)⟩
      clear hK K
      (try simp only [Act.put, List.setIfInBounds_toArray, List.set_cons_zero, List.set_cons_succ])
      refine wpAnyH_ready (rs := [13]) (by kernel_rfl) (by simp) ?_
      refine AllReadyH.cons rfl (fun K hK => ?st14) AllReadyH.nil
      go_simp
      go_at_call 53
      refine (tsame _ _ O6.out (RO.out.still S6.out) (by have := LN.out; omega)).mono ?_
      rintro e w7 ⟨rfl, s7⟩
      have S7 := hid (S6.out.trans s7)
      clear s7
      refine hK.out _ _ ?k14 (fun hHeld14 => ?_)
      case k14 =>
        exact ⟨Still.cell S7.out i4, Still.cell S7.out q4, fun k v hv => Still.cell S7.out (by rw [Nat.zero_add, B4.out.cell k]; exact hv)⟩
      clear hK K
      (try simp only [Act.put, List.setIfInBounds_toArray, List.set_cons_zero, List.set_cons_succ])
      refine wpAnyH_take (i := 14) (oi := _) (v := ?v15) rfl (by kernel_rfl) (by kernel_rfl) (by kernel_rfl) (fun _ _ _ h => h) (Or.inl ⟨by rfl, ?y15⟩) (by assumption) ?r15
      case y15 => ((intro w hSw); (try dsimp only at hSw); go_simp; (try with_reducible rfl))
      (try simp only [Act.put, List.setIfInBounds_toArray, List.set_cons_zero, List.set_cons_succ])
      refine wpAnyH_take (i := 15) (oi := _) (v := ?v16) rfl (by kernel_rfl) (by kernel_rfl) (by kernel_rfl) (fun _ _ _ h => h) (Or.inl ⟨by rfl, ?y16⟩) (by assumption) ?r16
      case y16 => ((intro w hSw); (try dsimp only at hSw); go_simp; (try with_reducible rfl))
      (try simp only [Act.put, List.setIfInBounds_toArray, List.set_cons_zero, List.set_cons_succ])
      refine wpAnyH_take (i := 16) (oi := _) (v := ?v17) rfl (by kernel_rfl) (by kernel_rfl) (by kernel_rfl) (fun _ _ _ h => h) (Or.inl ⟨by rfl, ?y17⟩) (by assumption) ?r17
      case y17 => ((intro w hSw); (try dsimp only at hSw); go_simp; (try with_reducible rfl))
      (try simp only [Act.put, List.setIfInBounds_toArray, List.set_cons_zero, List.set_cons_succ])
      simp only [Act.put, List.getElem_toArray, List.getElem_cons_zero, List.getElem_cons_succ, List.setIfInBounds_toArray, List.set_cons_zero, List.set_cons_succ]
      refine wpAnyH_take (i := 17) (oi := _) (v := ?v18) rfl (by kernel_rfl) (by kernel_rfl) (by kernel_rfl) (fun _ _ _ h => h) (Or.inl ⟨by rfl, ?y18⟩) (by assumption) ?r18
      case y18 => ((intro w hSw); (try dsimp only at hSw); go_simp; (try with_reducible rfl))
      (try simp only [Act.put, List.setIfInBounds_toArray, List.set_cons_zero, List.set_cons_succ])
      refine wpAnyH_take (i := 18) (oi := _) (v := ?v19) rfl (by kernel_rfl) (by kernel_rfl) (by kernel_rfl) (fun _ _ _ h => h) (Or.inl ⟨by rfl, ?y19⟩) (by assumption) ?r19
      case y19 => ((intro w hSw); (try dsimp only at hSw); go_simp; (try with_reducible rfl))
      (try simp only [Act.put, List.setIfInBounds_toArray, List.set_cons_zero, List.set_cons_succ])
      refine wpAnyH_take (i := 21) (oi := _) (v := ?v20) rfl (by kernel_rfl) (by kernel_rfl) (by kernel_rfl) (fun _ _ _ h => h) (Or.inl ⟨by rfl, ?y20⟩) (by assumption) ?r20
      case y20 => ((intro w hSw); (try dsimp only at hSw); go_simp; (try with_reducible rfl))
      (try simp only [Act.put, List.setIfInBounds_toArray, List.set_cons_zero, List.set_cons_succ])
      simp only [Act.put, List.getElem_toArray, List.getElem_cons_zero, List.getElem_cons_succ, List.setIfInBounds_toArray, List.set_cons_zero, List.set_cons_succ]
      refine wpAnyH_take (i := 22) (oi := _) (v := ?v21) rfl (by kernel_rfl) (by kernel_rfl) (by kernel_rfl) (fun _ _ _ h => h) (Or.inl ⟨by rfl, ?y21⟩) (by assumption) ?r21
      case y21 => ((intro w hSw); (try dsimp only at hSw); go_simp; (try with_reducible rfl))
      (try simp only [Act.put, List.setIfInBounds_toArray, List.set_cons_zero, List.set_cons_succ])
      refine wpAnyH_take (i := 19) (oi := _) (v := ?v22) rfl (by kernel_rfl) (by kernel_rfl) (by kernel_rfl) (fun _ _ _ h => h) (Or.inl ⟨by rfl, ?y22⟩) (by assumption) ?r22
      case y22 => ((intro w hSw); (try dsimp only at hSw); go_simp; (try with_reducible rfl))
      (try simp only [Act.put, List.setIfInBounds_toArray, List.set_cons_zero, List.set_cons_succ])
      refine wpAnyH_take (i := 23) (oi := _) (v := ?v23) rfl (by kernel_rfl) (by kernel_rfl) (by kernel_rfl) (fun _ _ _ h => h) (Or.inl ⟨by rfl, ?y23⟩) (by assumption) ?r23
      case y23 => ((intro w hSw); (try dsimp only at hSw); go_simp; (try with_reducible rfl))
      (try simp only [Act.put, List.setIfInBounds_toArray, List.set_cons_zero, List.set_cons_succ])
      simp only [Act.put, List.getElem_toArray, List.getElem_cons_zero, List.getElem_cons_succ, List.setIfInBounds_toArray, List.set_cons_zero, List.set_cons_succ]
      refine wpAnyH_ready (rs := [20]) (by kernel_rfl) (by simp) ?_
      refine AllReadyH.cons rfl (fun K hK => ?st24) AllReadyH.nil
      go_simp
      go_at_call 54
      refine (tcount (T4.out.t.still S7.out) (by have := LN.out; omega) x.i).mono ?_
      rintro e w8 ⟨rfl, s8⟩
      have S8 := hid (S7.out.trans s8)
      clear s8
      refine hK.out _ _ ?k24 (fun hHeld24 => ?_)
      case k24 =>
        exact ⟨Still.cell S8.out i4, Still.cell S8.out q4, fun k v hv => Still.cell S8.out (by rw [Nat.zero_add, B4.out.cell k]; exact hv)⟩
      clear hK K
      (try simp only [Act.put, List.setIfInBounds_toArray, List.set_cons_zero, List.set_cons_succ])
      refine wpAnyH_ready (rs := [24]) (by kernel_rfl) (by simp) ?_
      refine AllReadyH.cons rfl (fun K hK => ?st25) AllReadyH.nil
      go_simp
      go_at_call 55
      refine (rcount (T4.out.r.still S8.out) x.i).mono ?_
      rintro e w9 ⟨rfl, s9⟩
      have S9 := hid (S8.out.trans s9)
      clear s9
      refine hK.out _ _ ?k25 (fun hHeld25 => ?_)
      case k25 =>
        exact ⟨Still.cell S9.out i4, Still.cell S9.out q4, fun k v hv => Still.cell S9.out (by rw [Nat.zero_add, B4.out.cell k]; exact hv)⟩
      clear hK K
      (try simp only [Act.put, List.setIfInBounds_toArray, List.set_cons_zero, List.set_cons_succ])
      refine wpAnyH_take (i := 25) (oi := _) (v := ?v26) rfl (by kernel_rfl) (by kernel_rfl) (by kernel_rfl) (fun _ _ _ h => h) (Or.inl ⟨by rfl, ?y26⟩) (by assumption) ?r26
      case y26 => ((intro w hSw); (try dsimp only at hSw); go_simp; (try with_reducible rfl))
      (try simp only [Act.put, List.setIfInBounds_toArray, List.set_cons_zero, List.set_cons_succ])
      refine wpAnyH_done (by kernel_rfl) (Held.tailQ_normal ?_) _
      simp only [Act.put, List.getElem_toArray, List.getElem_cons_zero, List.getElem_cons_succ, List.setIfInBounds_toArray, List.set_cons_zero, List.set_cons_succ]
      have S9w := S9
      have i9 := Still.cell S9.out i4
      clear i4 q4 hS' i3 RX
      go_wp2_with fail
      refine (tget (T4.out.t.still S9.out) x.i WX.out).mono ?_
      rintro e w10 ⟨rfl, s10⟩
      have S10 := hid (S9.out.trans s10)
      clear s10
      obtain ⟨y, hy⟩ : ∃ y, fndT LL x.i = y := ⟨_, rfl⟩
      obtain ⟨ye, hye⟩ : ∃ y, (fndE LL x.i == 0) = y := ⟨_, rfl⟩
      have HY := hid hy
      have HYE := hid hye
      rw [hy, hye]
      clear hy hye
      go_wp2_with (refine wpList_storeW rfl (.tmp 9) (.tmp 67) 77 rfl _ 77 [.int .i64 t0.i, .int .i64 t0.s, .int .i64 t0.t, .int .i64 t0.c.p, .int .i64 t0.c.q, .int .i64 t0.c.r0, .int .i64 t0.c.r1, .int .i64 t0.c.r2, .int .i64 t0.c.r3, .int .i64 t0.c.r4, .int .i64 t0.c.r5, .int .i64 t0.c.r6, .int .i64 t0.c.r7, .int .i64 t0.c.d, .int .i64 t0.d] [.int .i64 y.i, .int .i64 y.s, .int .i64 y.t, .int .i64 y.c.p, .int .i64 y.c.q, .int .i64 y.c.r0, .int .i64 y.c.r1, .int .i64 y.c.r2, .int .i64 y.c.r3, .int .i64 y.c.r4, .int .i64 y.c.r5, .int .i64 y.c.r6, .int .i64 y.c.r7, .int .i64 y.c.d, .int .i64 y.d] I77 (ones y) rfl rfl (new_t _) rfl ?_; intro w11 b11 f11; have B11 := hid b11; have S11 : Hid (Still w4 w11) := hid (Still.next (S10.out.alloc _) f11 (fun k hk => by rw [hk]; exact S10.out.size)); have i11 : w11.cell? ⟨ab, 1, none⟩ = some (.int .i64 x.i) := (B4.out.still S11.out).cell 1; clear b11 f11)
      refine (rget (T4.out.r.still S11.out) x.i).mono ?_
      rintro e w12 ⟨he, s12⟩
      rw [HY.out, HYE.out] at he
      subst he
      have S12 := hid (S11.out.trans s12)
      have B12 := hid (B11.out.still s12)
      clear s12
      have NE := neq80 y
      go_wp2_with (first
        | (refine wpList_storeW rfl (.tmp 11) (.tmp 74) 80 rfl _ 80 [.int .i64 t0.i, .int .i64 t0.s, .int .i64 t0.t, .int .i64 t0.c.p, .int .i64 t0.c.q, .int .i64 t0.c.r0, .int .i64 t0.c.r1, .int .i64 t0.c.r2, .int .i64 t0.c.r3, .int .i64 t0.c.r4, .int .i64 t0.c.r5, .int .i64 t0.c.r6, .int .i64 t0.c.r7, .int .i64 t0.c.d, .int .i64 t0.d] [.int .i64 y.i, .int .i64 y.s, .int .i64 y.t, .int .i64 y.c.p, .int .i64 y.c.q, .int .i64 y.c.r0, .int .i64 y.c.r1, .int .i64 y.c.r2, .int .i64 y.c.r3, .int .i64 y.c.r4, .int .i64 y.c.r5, .int .i64 y.c.r6, .int .i64 y.c.r7, .int .i64 y.c.d, .int .i64 y.d] I80 (ones y) rfl rfl (new_r _) rfl ?_; intro w13 b13 f13; have B13 := hid b13; have S13 : Hid (Still w4 w13) := hid (Still.next (S12.out.alloc _) f13 (fun k hk => by rw [hk]; exact S12.out.size)); have C13 := hid ((B12.out.alloc _).fr f13 (by have := B12.out.lt; omega)); clear b13 f13)
        | (refine wpList_loadW rfl (.tmp 9) 77 rfl _ Tryd.underlying77 rfl _ 77 [.int .i64 y.i, .int .i64 y.s, .int .i64 y.t, .int .i64 y.c.p, .int .i64 y.c.q, .int .i64 y.c.r0, .int .i64 y.c.r1, .int .i64 y.c.r2, .int .i64 y.c.r3, .int .i64 y.c.r4, .int .i64 y.c.r5, .int .i64 y.c.r6, .int .i64 y.c.r7, .int .i64 y.c.d, .int .i64 y.d] I77 rfl C13.out ?_)
        | (refine wpList_loadW rfl (.tmp 11) 80 rfl _ Tryd.underlying80 rfl _ 80 [.int .i64 y.i, .int .i64 y.s, .int .i64 y.t, .int .i64 y.c.p, .int .i64 y.c.q, .int .i64 y.c.r0, .int .i64 y.c.r1, .int .i64 y.c.r2, .int .i64 y.c.r3, .int .i64 y.c.r4, .int .i64 y.c.r5, .int .i64 y.c.r6, .int .i64 y.c.r7, .int .i64 y.c.d, .int .i64 y.d] I80 rfl B13.out ?_))
      go_roundw
      case rel => exact ⟨j + 1, s4, LL, upO O w3 w4, by go_num, by omega, hid (T4.out.still S13.out), FT4, hid (SW4.out.trans S13.out)⟩
      case measure => simp [intOf]; omega
    · have hlt' : ¬ (j : Int) < (n : Int) := by omega
      go_wp2_with (go_at_call 40; refine (tlives _ (HT.out.still S1.out) (HC.out.still S1.out)).mono ?_; rintro e w' ⟨rfl, hs2⟩)
      go_ret
      exact ⟨rfl, S1.out.trans hs2⟩
theorem threadActs (w : World) (hT : TabD w) (hC : TabT w) (x : Int) (a : Option Addr) (n c : Nat) (F : Nat → LAct) (hF : IsLActs w a n c F) : Calls Tryd.prog 9 #[.int .i64 x, .slice a n c] w fun e w' => e = .returned (.bool true) ∧ Still w w' := by
  by_cases hn : 100 < n
  · exact threadActs_big w hT hC x a n c hn
  · by_cases hx : x < 1 ∨ 32 < x
    · exact threadActs_no w hT hC x a n c (by omega) hx
    · obtain ⟨k, rfl⟩ : ∃ k : Nat, x = (k : Int) := ⟨x.toNat, by omega⟩
      exact threadActs_ok w hT hC k a n c F hF (by omega) (by omega) (by omega)
end Go.Proofs.YtffjaaolcphonaaDoor
/- ThreadWays: the walk. -/
namespace Go.Proofs.YtffjaaolcphonaaDoor
open Go.RowKit Go.Maps
set_option linter.unusedSimpArgs false
theorem threadWays_big (w : World) (hT : TabD w) (hC : TabT w) (y : LAct) (a : Option Addr) (n c : Nat) (hn : 100 < n) : Calls Tryd.prog 8 #[.slice a n c, (Value.agg #[.int .i64 y.k, .int .i64 y.i, .int .i64 y.t, .bool y.re, .int .i64 y.c.p, .int .i64 y.c.q, .int .i64 y.c.r0, .int .i64 y.c.r1, .int .i64 y.c.r2, .int .i64 y.c.r3, .int .i64 y.c.r4, .int .i64 y.c.r5, .int .i64 y.c.r6, .int .i64 y.c.r7, .int .i64 y.c.d])] w fun e w' => e = .returned (.bool true) ∧ Still w w' := by
  have hn' : (100 : Int) < (n : Int) := by omega
  have HT := hid hT
  have HC := hid hC
  have HN := hid (fun (u : World) => tnew u 5 (by omega) (by omega))
  have HR := hid (fun (u : World) => rtnew u 5 (by omega) (by omega))
  clear hn hT hC
  go_enter Tryd.func8, Tryd.ntmps8
  go_wp2_with fail
  refine (HN.out _).mono ?_
  rintro e w1 ⟨P, B, M, rfl, hA, hs1, hnn⟩
  have S1 : Hid (Still w w1) := hid (((Fr.refl _ _).alloc _).trans hs1)
  clear hA hs1 hnn
  go_wp2_with fail
  refine (HR.out w1).mono ?_
  rintro e w2 ⟨Q, p, A, T, cA, cT, rfl, hR, hs2⟩
  have S2 := hid (S1.out.trans hs2)
  clear hR hs2
  go_wp2_with (go_at_call 40; refine (tlives _ (HT.out.still S2.out) (HC.out.still S2.out)).mono ?_; rintro e w' ⟨rfl, hs⟩)
  go_ret
  exact ⟨rfl, S2.out.trans hs⟩
theorem spL_same {s : SS} {L : List Thr} {c : Ctx} {tk : Int} (h : spE s tk ≠ 0) : spL s L c tk = L := by
  unfold spE at h
  unfold spL
  split
  · rfl
  · rename_i h1
    rw [if_neg h1] at h
    rw [if_neg h]
theorem turnL_same {L : List Thr} {k fr tz : Int} (h : turnE L k fr ≠ 0) : turnL L k fr tz = L := by
  unfold turnE at h
  unfold turnL
  split
  · rename_i h1
    rw [if_pos h1] at h
    split
    · rfl
    · rename_i h2; rw [if_neg h2] at h; exact absurd rfl h
  · rfl
theorem endL_same {s : SS} {L : List Thr} (hv : TInv s L) {k : Int} (h : endE s L k ≠ 0) : endL L k = L := by
  rw [(hv.stop k).2] at h
  unfold rtE at h
  unfold endL
  split
  · rename_i h1
    rw [if_pos h1] at h
    split
    · rename_i h2
      rw [if_pos (by simpa using h2)] at h
      exact absurd rfl h
    · rfl
  · rfl
set_option maxRecDepth 100000 in
set_option maxHeartbeats 8000000 in
theorem threadWays_ok (w : World) (hT : TabD w) (hC : TabT w) (y : LAct) (wy : (Lit.int .i64 y.i).wf = true) (a : Option Addr) (n c : Nat) (F : Nat → LAct) (hF : IsLActs w a n c F) (hn : n ≤ 100) :
    Calls Tryd.prog 8 #[.slice a n c, (Value.agg #[.int .i64 y.k, .int .i64 y.i, .int .i64 y.t, .bool y.re, .int .i64 y.c.p, .int .i64 y.c.q, .int .i64 y.c.r0, .int .i64 y.c.r1, .int .i64 y.c.r2, .int .i64 y.c.r3, .int .i64 y.c.r4, .int .i64 y.c.r5, .int .i64 y.c.r6, .int .i64 y.c.r7, .int .i64 y.c.d])] w fun e w' => e = .returned (.bool true) ∧ Still w w' := by
  have hn' : ¬ (100 : Int) < (n : Int) := by omega
  have HF := hid hF
  have HT := hid hT
  have HC := hid hC
  have h7 := hid hT.lt
  have WY := hid wy
  have HN := hid (fun (u : World) => tnew u 5 (by omega) (by omega))
  have HR := hid (fun (u : World) => rtnew u 5 (by omega) (by omega))
  clear hF hT hC wy
  go_enter Tryd.func8, Tryd.ntmps8
  go_wp2_with fail
  obtain ⟨w0, hw0⟩ : ∃ u, w.alloc (.cells [.int .i64 y.k, .int .i64 y.i, .int .i64 y.t, .bool y.re, .int .i64 y.c.p, .int .i64 y.c.q, .int .i64 y.c.r0, .int .i64 y.c.r1, .int .i64 y.c.r2, .int .i64 y.c.r3, .int .i64 y.c.r4, .int .i64 y.c.r5, .int .i64 y.c.r6, .int .i64 y.c.r7, .int .i64 y.c.d].toArray 60) = u := ⟨_, rfl⟩
  have S0 : Hid (Still w w0) := hid (hw0 ▸ (Fr.refl _ _).alloc _)
  have Y0 : Hid (Blk w0 w.heap.size [.int .i64 y.k, .int .i64 y.i, .int .i64 y.t, .bool y.re, .int .i64 y.c.p, .int .i64 y.c.q, .int .i64 y.c.r0, .int .i64 y.c.r1, .int .i64 y.c.r2, .int .i64 y.c.r3, .int .i64 y.c.r4, .int .i64 y.c.r5, .int .i64 y.c.r6, .int .i64 y.c.r7, .int .i64 y.c.d] 60) := hid (hw0 ▸ Blk.new w _ 60)
  rw [hw0]
  clear hw0
  refine (HN.out w0).mono ?_
  rintro e w1 ⟨P, B, M, rfl, hA, hs1, hnn⟩
  have HA := hid hA
  have HS1 := hid hs1
  have HNN := hid hnn
  clear hA hs1 hnn
  go_wp2_with fail
  refine (HR.out w1).mono ?_
  rintro e w2 ⟨Q, p, A, T, cA, cT, rfl, hR, hs2⟩
  have TS := two_start (by omega) (by have h1 := h7.out; have h2 := S0.out.size; omega) HA.out HNN.out HS1.out hR hs2
  obtain ⟨KB, hKB⟩ : ∃ K : TB, TB.mk P B M Q p A T cA cT = K := ⟨_, rfl⟩
  obtain ⟨O0, hO0⟩ : ∃ O : Nat → Prop, (fun k => w1.heap.size ≤ k ∧ k < w2.heap.size) = O := ⟨_, rfl⟩
  rw [hKB, hO0] at TS
  have KP : P = KB.P := by rw [← hKB]
  have KQ : Q = KB.Q := by rw [← hKB]
  have T0 := hid TS.1
  have FT0 := hid TS.2
  have S2 := hid (HS1.out.trans hs2)
  rw [KP, KQ]
  clear TS hR hs2 hKB hO0 KP KQ HA HNN HN HR
  go_wp2_with fail
  go_loopw [8, 28] (fun s8 cc wr => ∃ (j : Nat) (s : SS) (L : List Thr) (O : Nat → Prop), cc = .int .i64 j ∧ j ≤ n ∧ Hid (TwoT wr KB O s L) ∧ Hid (∀ k, KB.foot O k → w0.heap.size ≤ k) ∧ Hid (Still w0 wr)) (fun s8 cc _ => n - (intOf cc).toNat)
  case atStart => exact ⟨0, _, [], O0, rfl, Nat.zero_le _, T0, FT0, S2⟩
  case round =>
    clear T0 FT0 S2
    obtain ⟨j, s, L, O, rfl, hj, T1, FT, S1⟩ := hrel
    by_cases hlt : j < n
    · have hlt' : (j : Int) < (n : Int) := by omega
      rcases HF.out with h0 | ⟨b1, o1, rfl, _, _, _, _, hc⟩
      · omega
      obtain ⟨hx, hwx⟩ := hc j hlt
      obtain ⟨x, hxx⟩ : ∃ x, F j = x := ⟨_, rfl⟩
      rw [hxx] at hx hwx
      have HX : Hid (wr.rangeAt b1 (o1 + j * 15) [.int .i64 x.k, .int .i64 x.i, .int .i64 x.t, .bool x.re, .int .i64 x.c.p, .int .i64 x.c.q, .int .i64 x.c.r0, .int .i64 x.c.r1, .int .i64 x.c.r2, .int .i64 x.c.r3, .int .i64 x.c.r4, .int .i64 x.c.r5, .int .i64 x.c.r6, .int .i64 x.c.r7, .int .i64 x.c.d]) := hid fun k v hv => Still.cell (S0.out.trans S1.out) (hx k v hv)
      have WX := hid hwx
      clear hc hx hwx hxx
      go_wp2_with (first
        | (refine wpList_load_mid rfl 60 (.tmp 30) rfl b1 (o1 + j * 15) rfl [.int .i64 x.k, .int .i64 x.i, .int .i64 x.t, .bool x.re, .int .i64 x.c.p, .int .i64 x.c.q, .int .i64 x.c.r0, .int .i64 x.c.r1, .int .i64 x.c.r2, .int .i64 x.c.r3, .int .i64 x.c.r4, .int .i64 x.c.r5, .int .i64 x.c.r6, .int .i64 x.c.r7, .int .i64 x.c.d] _ HX.out Tryd.underlying60 rfl I60 ?_)
        | (refine wpList_storeW rfl (.tmp 8) (.tmp 31) 60 rfl _ 60 [.int .i64 l0.k, .int .i64 l0.i, .int .i64 l0.t, .bool l0.re, .int .i64 l0.c.p, .int .i64 l0.c.q, .int .i64 l0.c.r0, .int .i64 l0.c.r1, .int .i64 l0.c.r2, .int .i64 l0.c.r3, .int .i64 l0.c.r4, .int .i64 l0.c.r5, .int .i64 l0.c.r6, .int .i64 l0.c.r7, .int .i64 l0.c.d] [.int .i64 x.k, .int .i64 x.i, .int .i64 x.t, .bool x.re, .int .i64 x.c.p, .int .i64 x.c.q, .int .i64 x.c.r0, .int .i64 x.c.r1, .int .i64 x.c.r2, .int .i64 x.c.r3, .int .i64 x.c.r4, .int .i64 x.c.r5, .int .i64 x.c.r6, .int .i64 x.c.r7, .int .i64 x.c.d] I60 (onesL x) rfl rfl (new_l _) rfl ?_; intro w3 b3 f3; have B3 := hid b3; have S3 : Hid (Still wr w3) := hid (Still.next ((Fr.refl _ _).alloc _) f3 (fun k hk => by rw [hk]; exact Nat.le_refl _)); clear b3 f3)
        | (refine wpList_loadW rfl (.tmp 8) 60 rfl _ Tryd.underlying60 rfl _ 60 [.int .i64 x.k, .int .i64 x.i, .int .i64 x.t, .bool x.re, .int .i64 x.c.p, .int .i64 x.c.q, .int .i64 x.c.r0, .int .i64 x.c.r1, .int .i64 x.c.r2, .int .i64 x.c.r3, .int .i64 x.c.r4, .int .i64 x.c.r5, .int .i64 x.c.r6, .int .i64 x.c.r7, .int .i64 x.c.d] I60 rfl B3.out ?_))
      have SW3 := hid (S1.out.trans S3.out)
      refine (tact (T1.out.still S3.out) (HT.out.still (S0.out.trans SW3.out)) (HC.out.still (S0.out.trans SW3.out)) x WX.out).mono ?_
      rintro e w4 ⟨rfl, t4, f4⟩
      have T4 := hid t4
      have SW4 : Hid (Still w0 w4) := hid (SW3.out.next f4 (fun k hk => FT.out k hk))
      have FT4 : Hid (∀ k, KB.foot (upO O w3 w4) k → w0.heap.size ≤ k) := hid (upO_lo FT.out SW3.out.size)
      clear t4 f4
      go_wp2_with fail
      go_roundw
      case rel => exact ⟨j + 1, _, _, _, by go_num, by omega, T4, FT4, SW4⟩
      case measure => simp [intOf]; omega
    · have hlt' : ¬ (j : Int) < (n : Int) := by omega
      have LN := hid T1.out.v.len
      go_wp2_with fail
      refine (tall T1.out.t (by have := LN.out; omega) T1.out.v.wf).mono ?_
      rintro e w5 ⟨v5, rfl, o5, s5⟩
      obtain ⟨a5, c5, rfl⟩ := own_shape o5 _ rfl
      have O5 := hid (SRow.own (S := S68) o5 rfl)
      have S5 := hid s5
      clear o5 s5
      go_wp2_with fail
      refine (tplain _ O5.out (by have := LN.out; omega)).mono ?_
      rintro e w6 ⟨v6, rfl, o6, s6⟩
      obtain ⟨a6, c6, rfl⟩ := own_shape o6 _ rfl
      have N6 : Hid (∀ b off c n, Value.slice a6 L.length c6 = .slice (some ⟨b, off, none⟩) n c → ¬ KB.own b) := hid (fun b off c n e h => by
        have h1 := T1.out.lt b (.inl h)
        obtain ⟨_, ⟨e2, _⟩ | ⟨g, cap, cur, e2, hg, _⟩⟩ := o6
        · rw [e2] at e; cases e
        · rw [e2] at e
          injection e with e3 _ _
          injection e3 with e3
          injection e3 with e3 _ _
          have := S5.out.size
          omega)
      have O6 := hid (SRow.own (S := S66) o6 rfl)
      have S6 := hid (S5.out.trans s6)
      clear o6 s6
      have Y6 := hid (Y0.out.still (S1.out.trans S6.out))
      have T6 := hid (T1.out.still S6.out)
      go_wp2_with (refine wpList_loadW rfl (.tmp 3) 60 rfl _ Tryd.underlying60 rfl _ 60 [.int .i64 y.k, .int .i64 y.i, .int .i64 y.t, .bool y.re, .int .i64 y.c.p, .int .i64 y.c.q, .int .i64 y.c.r0, .int .i64 y.c.r1, .int .i64 y.c.r2, .int .i64 y.c.r3, .int .i64 y.c.r4, .int .i64 y.c.r5, .int .i64 y.c.r6, .int .i64 y.c.r7, .int .i64 y.c.d] I60 rfl Y6.out ?_)
      refine (tid T6.out.r y).mono ?_
      rintro e w7 ⟨rfl, s7⟩
      have S7 := hid (S6.out.trans s7)
      have T7 := hid (T6.out.still s7)
      have O7 := hid (O6.out.still s7)
      have WI := hid (idT_wf T7.out.v y WY.out)
      have k0 : w7.cell? ⟨w.heap.size, 0, none⟩ = some (.int .i64 y.k) := (Y6.out.still s7).cell 0
      have k2 : w7.cell? ⟨w.heap.size, 2, none⟩ = some (.int .i64 y.t) := (Y6.out.still s7).cell 2
      have Y7 := hid (Y6.out.still s7)
      have HT7 := hid (HT.out.still (S0.out.trans (S1.out.trans S7.out)))
      have HC7 := hid (HC.out.still (S0.out.trans (S1.out.trans S7.out)))
      have SW7 := hid (S1.out.trans S7.out)
      have LM : Hid (L.length < maxLen) := hid (by have := LN.out; unfold maxLen; omega)
      have H7 : Hid (¬ KB.B.foot 7) := hid (fun e => by have := T7.out.h8 7 (.inl (.inl e)); omega)
      obtain ⟨id, hid0⟩ : ∃ id, idT L y = id := ⟨_, rfl⟩
      rw [hid0] at WI ⊢
      clear s7 hid0
      by_cases hk : y.k = 0
      · skip
        have e0k : (y.k == 0) = true := by simp [hk]
        have e3k : (y.k == 3) = false := by simp [hk]
        have e4k : (y.k == 4) = false := by simp [hk]
        have e5k : (y.k == 5) = false := by simp [hk]
        have e6k : (y.k == 6) = false := by simp [hk]
        have e7k : (y.k == 7) = false := by simp [hk]
        have e8k : (y.k == 8) = false := by simp [hk]
        have e9k : (y.k == 9) = false := by simp [hk]
        clear hk
        obtain ⟨te, hte0⟩ : ∃ v, spE s y.t = v := ⟨_, rfl⟩
        have HTE := hid hte0
        clear hte0
        go_wp2_with (refine wpList_loadB rfl (.tmp 49) 58 rfl _ Tryd.underlying58 rfl _ 4 60 [.int .i64 y.k, .int .i64 y.i, .int .i64 y.t, .bool y.re, .int .i64 y.c.p, .int .i64 y.c.q, .int .i64 y.c.r0, .int .i64 y.c.r1, .int .i64 y.c.r2, .int .i64 y.c.r3, .int .i64 y.c.r4, .int .i64 y.c.r5, .int .i64 y.c.r6, .int .i64 y.c.r7, .int .i64 y.c.d] [.int .i64 y.c.p, .int .i64 y.c.q, .int .i64 y.c.r0, .int .i64 y.c.r1, .int .i64 y.c.r2, .int .i64 y.c.r3, .int .i64 y.c.r4, .int .i64 y.c.r5, .int .i64 y.c.r6, .int .i64 y.c.r7, .int .i64 y.c.d] I58 rfl Y7.out rfl ?_)
        refine (tspawn T7.out.t LM.out T7.out.v.i HT7.out H7.out y.c y.t).mono ?_
        rintro e w8 ⟨he, t8, f8'⟩
        rw [HTE.out] at he
        subst he
        have f8 : Fr KB.own w7 w8 := f8'
        have T8 := hid t8
        have SW8 : Hid (Still w0 w8) := hid (SW7.out.next f8 (fun k hk => FT.out k (.inl hk)))
        have O8 := hid (O7.out.fr f8 N6.out)
        have HT8 := hid (HT.out.still (S0.out.trans SW8.out))
        have HC8 := hid (HC.out.still (S0.out.trans SW8.out))
        clear t8 f8
        by_cases hte : te = 0
        · have e9 : (te == 0) = true := by simp [hte]
          clear hte
          go_wp2_with (go_at_call 40; refine (tlives _ HT8.out HC8.out).mono ?_; rintro e w' ⟨rfl, hs⟩)
          go_ret
          exact ⟨rfl, S0.out.trans (SW8.out.trans hs)⟩
        · have e9 : (te == 0) = false := by simp [hte]
          have EQ : Hid (spL s L y.c y.t = L) := hid (spL_same (by rw [HTE.out]; exact hte))
          have T9 := T8.out
          rw [EQ.out] at T9
          have HT9 := hid T9
          clear hte T9
          go_wp2_with fail
          refine (tall HT9.out (by have := LN.out; omega) T1.out.v.wf).mono ?_
          rintro e w10 ⟨v10, rfl, o10, s10⟩
          obtain ⟨a10, c10, rfl⟩ := own_shape o10 _ rfl
          have O10 := hid (SRow.own (S := S68) o10 rfl)
          have S10 := hid s10
          clear o10 s10
          go_wp2_with fail
          refine (tplain _ O10.out (by have := LN.out; omega)).mono ?_
          rintro e w11 ⟨v11, rfl, o11, s11⟩
          obtain ⟨a11, c11, rfl⟩ := own_shape o11 _ rfl
          have O11 := hid (SRow.own (S := S66) o11 rfl)
          have S11 := hid (S10.out.trans s11)
          clear o11 s11
          go_wp2_with fail
          refine (tsame _ _ O11.out (O8.out.still S11.out) (by have := LN.out; omega)).mono ?_
          rintro e w12 ⟨rfl, s12⟩
          have S12 := hid (S11.out.trans s12)
          clear s12
          go_wp2_with (go_at_call 40; refine (tlives _ (HT8.out.still S12.out) (HC8.out.still S12.out)).mono ?_; rintro e w' ⟨rfl, hs⟩)
          go_ret
          exact ⟨rfl, S0.out.trans ((SW8.out.trans S12.out).trans hs)⟩
      have n0 := hk
      clear hk
      by_cases hk : y.k = 3
      · skip
        have e0k : (y.k == 0) = false := by simp [hk]
        have e3k : (y.k == 3) = true := by simp [hk]
        have e4k : (y.k == 4) = false := by simp [hk]
        have e5k : (y.k == 5) = false := by simp [hk]
        have e6k : (y.k == 6) = false := by simp [hk]
        have e7k : (y.k == 7) = false := by simp [hk]
        have e8k : (y.k == 8) = false := by simp [hk]
        have e9k : (y.k == 9) = false := by simp [hk]
        clear hk
        obtain ⟨te, hte0⟩ : ∃ v, turnE L id 2 = v := ⟨_, rfl⟩
        have HTE := hid hte0
        clear hte0
        go_wp2_with fail
        refine (trun T7.out.t LM.out HC7.out id WI.out T7.out.v.st).mono ?_
        rintro e w8 ⟨he, t8, f8'⟩
        rw [HTE.out] at he
        subst he
        have f8 : Fr KB.own w7 w8 := f8'.mono fun k _ hk => .inr hk
        have T8 := hid t8
        have SW8 : Hid (Still w0 w8) := hid (SW7.out.next f8 (fun k hk => FT.out k (.inl hk)))
        have O8 := hid (O7.out.fr f8 N6.out)
        have HT8 := hid (HT.out.still (S0.out.trans SW8.out))
        have HC8 := hid (HC.out.still (S0.out.trans SW8.out))
        clear t8 f8
        by_cases hte : te = 0
        · have e9 : (te == 0) = true := by simp [hte]
          clear hte
          go_wp2_with (go_at_call 40; refine (tlives _ HT8.out HC8.out).mono ?_; rintro e w' ⟨rfl, hs⟩)
          go_ret
          exact ⟨rfl, S0.out.trans (SW8.out.trans hs)⟩
        · have e9 : (te == 0) = false := by simp [hte]
          have EQ : Hid (turnL L id 2 2 = L) := hid (turnL_same (by rw [HTE.out]; exact hte))
          have T9 := T8.out
          rw [EQ.out] at T9
          have HT9 := hid T9
          clear hte T9
          go_wp2_with fail
          refine (tall HT9.out (by have := LN.out; omega) T1.out.v.wf).mono ?_
          rintro e w10 ⟨v10, rfl, o10, s10⟩
          obtain ⟨a10, c10, rfl⟩ := own_shape o10 _ rfl
          have O10 := hid (SRow.own (S := S68) o10 rfl)
          have S10 := hid s10
          clear o10 s10
          go_wp2_with fail
          refine (tplain _ O10.out (by have := LN.out; omega)).mono ?_
          rintro e w11 ⟨v11, rfl, o11, s11⟩
          obtain ⟨a11, c11, rfl⟩ := own_shape o11 _ rfl
          have O11 := hid (SRow.own (S := S66) o11 rfl)
          have S11 := hid (S10.out.trans s11)
          clear o11 s11
          go_wp2_with fail
          refine (tsame _ _ O11.out (O8.out.still S11.out) (by have := LN.out; omega)).mono ?_
          rintro e w12 ⟨rfl, s12⟩
          have S12 := hid (S11.out.trans s12)
          clear s12
          go_wp2_with (go_at_call 40; refine (tlives _ (HT8.out.still S12.out) (HC8.out.still S12.out)).mono ?_; rintro e w' ⟨rfl, hs⟩)
          go_ret
          exact ⟨rfl, S0.out.trans ((SW8.out.trans S12.out).trans hs)⟩
      have n3 := hk
      clear hk
      by_cases hk : y.k = 4
      · skip
        have e0k : (y.k == 0) = false := by simp [hk]
        have e3k : (y.k == 3) = false := by simp [hk]
        have e4k : (y.k == 4) = true := by simp [hk]
        have e5k : (y.k == 5) = false := by simp [hk]
        have e6k : (y.k == 6) = false := by simp [hk]
        have e7k : (y.k == 7) = false := by simp [hk]
        have e8k : (y.k == 8) = false := by simp [hk]
        have e9k : (y.k == 9) = false := by simp [hk]
        clear hk
        obtain ⟨te, hte0⟩ : ∃ v, turnE L id 4 = v := ⟨_, rfl⟩
        have HTE := hid hte0
        clear hte0
        go_wp2_with fail
        refine (tyield T7.out.t LM.out HC7.out id WI.out T7.out.v.st).mono ?_
        rintro e w8 ⟨he, t8, f8'⟩
        rw [HTE.out] at he
        subst he
        have f8 : Fr KB.own w7 w8 := f8'.mono fun k _ hk => .inr hk
        have T8 := hid t8
        have SW8 : Hid (Still w0 w8) := hid (SW7.out.next f8 (fun k hk => FT.out k (.inl hk)))
        have O8 := hid (O7.out.fr f8 N6.out)
        have HT8 := hid (HT.out.still (S0.out.trans SW8.out))
        have HC8 := hid (HC.out.still (S0.out.trans SW8.out))
        clear t8 f8
        by_cases hte : te = 0
        · have e9 : (te == 0) = true := by simp [hte]
          clear hte
          go_wp2_with (go_at_call 40; refine (tlives _ HT8.out HC8.out).mono ?_; rintro e w' ⟨rfl, hs⟩)
          go_ret
          exact ⟨rfl, S0.out.trans (SW8.out.trans hs)⟩
        · have e9 : (te == 0) = false := by simp [hte]
          have EQ : Hid (turnL L id 4 1 = L) := hid (turnL_same (by rw [HTE.out]; exact hte))
          have T9 := T8.out
          rw [EQ.out] at T9
          have HT9 := hid T9
          clear hte T9
          go_wp2_with fail
          refine (tall HT9.out (by have := LN.out; omega) T1.out.v.wf).mono ?_
          rintro e w10 ⟨v10, rfl, o10, s10⟩
          obtain ⟨a10, c10, rfl⟩ := own_shape o10 _ rfl
          have O10 := hid (SRow.own (S := S68) o10 rfl)
          have S10 := hid s10
          clear o10 s10
          go_wp2_with fail
          refine (tplain _ O10.out (by have := LN.out; omega)).mono ?_
          rintro e w11 ⟨v11, rfl, o11, s11⟩
          obtain ⟨a11, c11, rfl⟩ := own_shape o11 _ rfl
          have O11 := hid (SRow.own (S := S66) o11 rfl)
          have S11 := hid (S10.out.trans s11)
          clear o11 s11
          go_wp2_with fail
          refine (tsame _ _ O11.out (O8.out.still S11.out) (by have := LN.out; omega)).mono ?_
          rintro e w12 ⟨rfl, s12⟩
          have S12 := hid (S11.out.trans s12)
          clear s12
          go_wp2_with (go_at_call 40; refine (tlives _ (HT8.out.still S12.out) (HC8.out.still S12.out)).mono ?_; rintro e w' ⟨rfl, hs⟩)
          go_ret
          exact ⟨rfl, S0.out.trans ((SW8.out.trans S12.out).trans hs)⟩
      have n4 := hk
      clear hk
      by_cases hk : y.k = 5
      · skip
        have e0k : (y.k == 0) = false := by simp [hk]
        have e3k : (y.k == 3) = false := by simp [hk]
        have e4k : (y.k == 4) = false := by simp [hk]
        have e5k : (y.k == 5) = true := by simp [hk]
        have e6k : (y.k == 6) = false := by simp [hk]
        have e7k : (y.k == 7) = false := by simp [hk]
        have e8k : (y.k == 8) = false := by simp [hk]
        have e9k : (y.k == 9) = false := by simp [hk]
        clear hk
        obtain ⟨te, hte0⟩ : ∃ v, turnE L id 4 = v := ⟨_, rfl⟩
        have HTE := hid hte0
        clear hte0
        go_wp2_with fail
        refine (twait T7.out.t LM.out HC7.out id WI.out T7.out.v.st).mono ?_
        rintro e w8 ⟨he, t8, f8'⟩
        rw [HTE.out] at he
        subst he
        have f8 : Fr KB.own w7 w8 := f8'.mono fun k _ hk => .inr hk
        have T8 := hid t8
        have SW8 : Hid (Still w0 w8) := hid (SW7.out.next f8 (fun k hk => FT.out k (.inl hk)))
        have O8 := hid (O7.out.fr f8 N6.out)
        have HT8 := hid (HT.out.still (S0.out.trans SW8.out))
        have HC8 := hid (HC.out.still (S0.out.trans SW8.out))
        clear t8 f8
        by_cases hte : te = 0
        · have e9 : (te == 0) = true := by simp [hte]
          clear hte
          go_wp2_with (go_at_call 40; refine (tlives _ HT8.out HC8.out).mono ?_; rintro e w' ⟨rfl, hs⟩)
          go_ret
          exact ⟨rfl, S0.out.trans (SW8.out.trans hs)⟩
        · have e9 : (te == 0) = false := by simp [hte]
          have EQ : Hid (turnL L id 4 3 = L) := hid (turnL_same (by rw [HTE.out]; exact hte))
          have T9 := T8.out
          rw [EQ.out] at T9
          have HT9 := hid T9
          clear hte T9
          go_wp2_with fail
          refine (tall HT9.out (by have := LN.out; omega) T1.out.v.wf).mono ?_
          rintro e w10 ⟨v10, rfl, o10, s10⟩
          obtain ⟨a10, c10, rfl⟩ := own_shape o10 _ rfl
          have O10 := hid (SRow.own (S := S68) o10 rfl)
          have S10 := hid s10
          clear o10 s10
          go_wp2_with fail
          refine (tplain _ O10.out (by have := LN.out; omega)).mono ?_
          rintro e w11 ⟨v11, rfl, o11, s11⟩
          obtain ⟨a11, c11, rfl⟩ := own_shape o11 _ rfl
          have O11 := hid (SRow.own (S := S66) o11 rfl)
          have S11 := hid (S10.out.trans s11)
          clear o11 s11
          go_wp2_with fail
          refine (tsame _ _ O11.out (O8.out.still S11.out) (by have := LN.out; omega)).mono ?_
          rintro e w12 ⟨rfl, s12⟩
          have S12 := hid (S11.out.trans s12)
          clear s12
          go_wp2_with (go_at_call 40; refine (tlives _ (HT8.out.still S12.out) (HC8.out.still S12.out)).mono ?_; rintro e w' ⟨rfl, hs⟩)
          go_ret
          exact ⟨rfl, S0.out.trans ((SW8.out.trans S12.out).trans hs)⟩
      have n5 := hk
      clear hk
      by_cases hk : y.k = 6
      · skip
        have e0k : (y.k == 0) = false := by simp [hk]
        have e3k : (y.k == 3) = false := by simp [hk]
        have e4k : (y.k == 4) = false := by simp [hk]
        have e5k : (y.k == 5) = false := by simp [hk]
        have e6k : (y.k == 6) = true := by simp [hk]
        have e7k : (y.k == 7) = false := by simp [hk]
        have e8k : (y.k == 8) = false := by simp [hk]
        have e9k : (y.k == 9) = false := by simp [hk]
        clear hk
        obtain ⟨te, hte0⟩ : ∃ v, turnE L id 4 = v := ⟨_, rfl⟩
        have HTE := hid hte0
        clear hte0
        go_wp2_with fail
        refine (ttrap T7.out.t LM.out HC7.out id WI.out T7.out.v.st).mono ?_
        rintro e w8 ⟨he, t8, f8'⟩
        rw [HTE.out] at he
        subst he
        have f8 : Fr KB.own w7 w8 := f8'.mono fun k _ hk => .inr hk
        have T8 := hid t8
        have SW8 : Hid (Still w0 w8) := hid (SW7.out.next f8 (fun k hk => FT.out k (.inl hk)))
        have O8 := hid (O7.out.fr f8 N6.out)
        have HT8 := hid (HT.out.still (S0.out.trans SW8.out))
        have HC8 := hid (HC.out.still (S0.out.trans SW8.out))
        clear t8 f8
        by_cases hte : te = 0
        · have e9 : (te == 0) = true := by simp [hte]
          clear hte
          go_wp2_with (go_at_call 40; refine (tlives _ HT8.out HC8.out).mono ?_; rintro e w' ⟨rfl, hs⟩)
          go_ret
          exact ⟨rfl, S0.out.trans (SW8.out.trans hs)⟩
        · have e9 : (te == 0) = false := by simp [hte]
          have EQ : Hid (turnL L id 4 4 = L) := hid (turnL_same (by rw [HTE.out]; exact hte))
          have T9 := T8.out
          rw [EQ.out] at T9
          have HT9 := hid T9
          clear hte T9
          go_wp2_with fail
          refine (tall HT9.out (by have := LN.out; omega) T1.out.v.wf).mono ?_
          rintro e w10 ⟨v10, rfl, o10, s10⟩
          obtain ⟨a10, c10, rfl⟩ := own_shape o10 _ rfl
          have O10 := hid (SRow.own (S := S68) o10 rfl)
          have S10 := hid s10
          clear o10 s10
          go_wp2_with fail
          refine (tplain _ O10.out (by have := LN.out; omega)).mono ?_
          rintro e w11 ⟨v11, rfl, o11, s11⟩
          obtain ⟨a11, c11, rfl⟩ := own_shape o11 _ rfl
          have O11 := hid (SRow.own (S := S66) o11 rfl)
          have S11 := hid (S10.out.trans s11)
          clear o11 s11
          go_wp2_with fail
          refine (tsame _ _ O11.out (O8.out.still S11.out) (by have := LN.out; omega)).mono ?_
          rintro e w12 ⟨rfl, s12⟩
          have S12 := hid (S11.out.trans s12)
          clear s12
          go_wp2_with (go_at_call 40; refine (tlives _ (HT8.out.still S12.out) (HC8.out.still S12.out)).mono ?_; rintro e w' ⟨rfl, hs⟩)
          go_ret
          exact ⟨rfl, S0.out.trans ((SW8.out.trans S12.out).trans hs)⟩
      have n6 := hk
      clear hk
      by_cases hk : y.k = 7
      · skip
        have e0k : (y.k == 0) = false := by simp [hk]
        have e3k : (y.k == 3) = false := by simp [hk]
        have e4k : (y.k == 4) = false := by simp [hk]
        have e5k : (y.k == 5) = false := by simp [hk]
        have e6k : (y.k == 6) = false := by simp [hk]
        have e7k : (y.k == 7) = true := by simp [hk]
        have e8k : (y.k == 8) = false := by simp [hk]
        have e9k : (y.k == 9) = false := by simp [hk]
        clear hk
        obtain ⟨te, hte0⟩ : ∃ v, turnE L id 24 = v := ⟨_, rfl⟩
        have HTE := hid hte0
        clear hte0
        go_wp2_with fail
        refine (twake T7.out.t LM.out HC7.out id WI.out T7.out.v.st).mono ?_
        rintro e w8 ⟨he, t8, f8'⟩
        rw [HTE.out] at he
        subst he
        have f8 : Fr KB.own w7 w8 := f8'.mono fun k _ hk => .inr hk
        have T8 := hid t8
        have SW8 : Hid (Still w0 w8) := hid (SW7.out.next f8 (fun k hk => FT.out k (.inl hk)))
        have O8 := hid (O7.out.fr f8 N6.out)
        have HT8 := hid (HT.out.still (S0.out.trans SW8.out))
        have HC8 := hid (HC.out.still (S0.out.trans SW8.out))
        clear t8 f8
        by_cases hte : te = 0
        · have e9 : (te == 0) = true := by simp [hte]
          clear hte
          go_wp2_with (go_at_call 40; refine (tlives _ HT8.out HC8.out).mono ?_; rintro e w' ⟨rfl, hs⟩)
          go_ret
          exact ⟨rfl, S0.out.trans (SW8.out.trans hs)⟩
        · have e9 : (te == 0) = false := by simp [hte]
          have EQ : Hid (turnL L id 24 1 = L) := hid (turnL_same (by rw [HTE.out]; exact hte))
          have T9 := T8.out
          rw [EQ.out] at T9
          have HT9 := hid T9
          clear hte T9
          go_wp2_with fail
          refine (tall HT9.out (by have := LN.out; omega) T1.out.v.wf).mono ?_
          rintro e w10 ⟨v10, rfl, o10, s10⟩
          obtain ⟨a10, c10, rfl⟩ := own_shape o10 _ rfl
          have O10 := hid (SRow.own (S := S68) o10 rfl)
          have S10 := hid s10
          clear o10 s10
          go_wp2_with fail
          refine (tplain _ O10.out (by have := LN.out; omega)).mono ?_
          rintro e w11 ⟨v11, rfl, o11, s11⟩
          obtain ⟨a11, c11, rfl⟩ := own_shape o11 _ rfl
          have O11 := hid (SRow.own (S := S66) o11 rfl)
          have S11 := hid (S10.out.trans s11)
          clear o11 s11
          go_wp2_with fail
          refine (tsame _ _ O11.out (O8.out.still S11.out) (by have := LN.out; omega)).mono ?_
          rintro e w12 ⟨rfl, s12⟩
          have S12 := hid (S11.out.trans s12)
          clear s12
          go_wp2_with (go_at_call 40; refine (tlives _ (HT8.out.still S12.out) (HC8.out.still S12.out)).mono ?_; rintro e w' ⟨rfl, hs⟩)
          go_ret
          exact ⟨rfl, S0.out.trans ((SW8.out.trans S12.out).trans hs)⟩
      have n7 := hk
      clear hk
      by_cases hk : y.k = 8
      · skip
        have e0k : (y.k == 0) = false := by simp [hk]
        have e3k : (y.k == 3) = false := by simp [hk]
        have e4k : (y.k == 4) = false := by simp [hk]
        have e5k : (y.k == 5) = false := by simp [hk]
        have e6k : (y.k == 6) = false := by simp [hk]
        have e7k : (y.k == 7) = false := by simp [hk]
        have e8k : (y.k == 8) = true := by simp [hk]
        have e9k : (y.k == 9) = false := by simp [hk]
        clear hk
        obtain ⟨te, hte0⟩ : ∃ v, turnE L id 16 = v := ⟨_, rfl⟩
        have HTE := hid hte0
        clear hte0
        go_wp2_with fail
        refine (tback T7.out.t LM.out HC7.out id WI.out T7.out.v.st).mono ?_
        rintro e w8 ⟨he, t8, f8'⟩
        rw [HTE.out] at he
        subst he
        have f8 : Fr KB.own w7 w8 := f8'.mono fun k _ hk => .inr hk
        have T8 := hid t8
        have SW8 : Hid (Still w0 w8) := hid (SW7.out.next f8 (fun k hk => FT.out k (.inl hk)))
        have O8 := hid (O7.out.fr f8 N6.out)
        have HT8 := hid (HT.out.still (S0.out.trans SW8.out))
        have HC8 := hid (HC.out.still (S0.out.trans SW8.out))
        clear t8 f8
        by_cases hte : te = 0
        · have e9 : (te == 0) = true := by simp [hte]
          clear hte
          go_wp2_with (go_at_call 40; refine (tlives _ HT8.out HC8.out).mono ?_; rintro e w' ⟨rfl, hs⟩)
          go_ret
          exact ⟨rfl, S0.out.trans (SW8.out.trans hs)⟩
        · have e9 : (te == 0) = false := by simp [hte]
          have EQ : Hid (turnL L id 16 2 = L) := hid (turnL_same (by rw [HTE.out]; exact hte))
          have T9 := T8.out
          rw [EQ.out] at T9
          have HT9 := hid T9
          clear hte T9
          go_wp2_with fail
          refine (tall HT9.out (by have := LN.out; omega) T1.out.v.wf).mono ?_
          rintro e w10 ⟨v10, rfl, o10, s10⟩
          obtain ⟨a10, c10, rfl⟩ := own_shape o10 _ rfl
          have O10 := hid (SRow.own (S := S68) o10 rfl)
          have S10 := hid s10
          clear o10 s10
          go_wp2_with fail
          refine (tplain _ O10.out (by have := LN.out; omega)).mono ?_
          rintro e w11 ⟨v11, rfl, o11, s11⟩
          obtain ⟨a11, c11, rfl⟩ := own_shape o11 _ rfl
          have O11 := hid (SRow.own (S := S66) o11 rfl)
          have S11 := hid (S10.out.trans s11)
          clear o11 s11
          go_wp2_with fail
          refine (tsame _ _ O11.out (O8.out.still S11.out) (by have := LN.out; omega)).mono ?_
          rintro e w12 ⟨rfl, s12⟩
          have S12 := hid (S11.out.trans s12)
          clear s12
          go_wp2_with (go_at_call 40; refine (tlives _ (HT8.out.still S12.out) (HC8.out.still S12.out)).mono ?_; rintro e w' ⟨rfl, hs⟩)
          go_ret
          exact ⟨rfl, S0.out.trans ((SW8.out.trans S12.out).trans hs)⟩
      have n8 := hk
      clear hk
      by_cases hk : y.k = 9
      · skip
        have e0k : (y.k == 0) = false := by simp [hk]
        have e3k : (y.k == 3) = false := by simp [hk]
        have e4k : (y.k == 4) = false := by simp [hk]
        have e5k : (y.k == 5) = false := by simp [hk]
        have e6k : (y.k == 6) = false := by simp [hk]
        have e7k : (y.k == 7) = false := by simp [hk]
        have e8k : (y.k == 8) = false := by simp [hk]
        have e9k : (y.k == 9) = true := by simp [hk]
        clear hk
        obtain ⟨te, hte0⟩ : ∃ v, endE s L id = v := ⟨_, rfl⟩
        have HTE := hid hte0
        clear hte0
        go_wp2_with fail
        refine (tend T7.out.t T7.out.v.i id WI.out).mono ?_
        rintro e w8 ⟨he, t8, f8'⟩
        rw [HTE.out] at he
        subst he
        have f8 : Fr KB.own w7 w8 := f8'.mono fun k _ hk => hk.elim .inr (fun e => .inl (.inl e))
        have T8 := hid t8
        have SW8 : Hid (Still w0 w8) := hid (SW7.out.next f8 (fun k hk => FT.out k (.inl hk)))
        have O8 := hid (O7.out.fr f8 N6.out)
        have HT8 := hid (HT.out.still (S0.out.trans SW8.out))
        have HC8 := hid (HC.out.still (S0.out.trans SW8.out))
        clear t8 f8
        by_cases hte : te = 0
        · have e9 : (te == 0) = true := by simp [hte]
          clear hte
          go_wp2_with (go_at_call 40; refine (tlives _ HT8.out HC8.out).mono ?_; rintro e w' ⟨rfl, hs⟩)
          go_ret
          exact ⟨rfl, S0.out.trans (SW8.out.trans hs)⟩
        · have e9 : (te == 0) = false := by simp [hte]
          have EQ : Hid (endL L id = L) := hid (endL_same T7.out.v (by rw [HTE.out]; exact hte))
          have T9 := T8.out
          rw [EQ.out] at T9
          have HT9 := hid T9
          clear hte T9
          go_wp2_with fail
          refine (tall HT9.out (by have := LN.out; omega) T1.out.v.wf).mono ?_
          rintro e w10 ⟨v10, rfl, o10, s10⟩
          obtain ⟨a10, c10, rfl⟩ := own_shape o10 _ rfl
          have O10 := hid (SRow.own (S := S68) o10 rfl)
          have S10 := hid s10
          clear o10 s10
          go_wp2_with fail
          refine (tplain _ O10.out (by have := LN.out; omega)).mono ?_
          rintro e w11 ⟨v11, rfl, o11, s11⟩
          obtain ⟨a11, c11, rfl⟩ := own_shape o11 _ rfl
          have O11 := hid (SRow.own (S := S66) o11 rfl)
          have S11 := hid (S10.out.trans s11)
          clear o11 s11
          go_wp2_with fail
          refine (tsame _ _ O11.out (O8.out.still S11.out) (by have := LN.out; omega)).mono ?_
          rintro e w12 ⟨rfl, s12⟩
          have S12 := hid (S11.out.trans s12)
          clear s12
          go_wp2_with (go_at_call 40; refine (tlives _ (HT8.out.still S12.out) (HC8.out.still S12.out)).mono ?_; rintro e w' ⟨rfl, hs⟩)
          go_ret
          exact ⟨rfl, S0.out.trans ((SW8.out.trans S12.out).trans hs)⟩
      have n9 := hk
      clear hk
      have e0k : (y.k == 0) = false := by simp [n0]
      have e3k : (y.k == 3) = false := by simp [n3]
      have e4k : (y.k == 4) = false := by simp [n4]
      have e5k : (y.k == 5) = false := by simp [n5]
      have e6k : (y.k == 6) = false := by simp [n6]
      have e7k : (y.k == 7) = false := by simp [n7]
      have e8k : (y.k == 8) = false := by simp [n8]
      have e9k : (y.k == 9) = false := by simp [n9]
      go_wp2_with (go_at_call 40; refine (tlives _ HT7.out HC7.out).mono ?_; rintro e w' ⟨rfl, hs⟩)
      go_ret
      exact ⟨rfl, S0.out.trans (SW7.out.trans hs)⟩
theorem threadWays (w : World) (hT : TabD w) (hC : TabT w) (a : Option Addr) (n c : Nat) (F : Nat → LAct) (hF : IsLActs w a n c F) (y : LAct) (wy : (Lit.int .i64 y.i).wf = true) : Calls Tryd.prog 8 #[.slice a n c, (Value.agg #[.int .i64 y.k, .int .i64 y.i, .int .i64 y.t, .bool y.re, .int .i64 y.c.p, .int .i64 y.c.q, .int .i64 y.c.r0, .int .i64 y.c.r1, .int .i64 y.c.r2, .int .i64 y.c.r3, .int .i64 y.c.r4, .int .i64 y.c.r5, .int .i64 y.c.r6, .int .i64 y.c.r7, .int .i64 y.c.d])] w fun e w' => e = .returned (.bool true) ∧ Still w w' := by
  by_cases hn : 100 < n
  · exact threadWays_big w hT hC y a n c hn
  · exact threadWays_ok w hT hC y wy a n c F hF (by omega)
end Go.Proofs.YtffjaaolcphonaaDoor
/- ThreadStates: what an act leaves of each thread. -/
namespace Go.Proofs.YtffjaaolcphonaaDoor
open Go.RowKit Go.Maps
/-- Each that is left has its tickets, and has done no less. -/
def Grew (L L' : List Thr) : Prop := ∀ y ∈ L', ∀ x ∈ L, y.i = x.i → x.d ≤ y.d ∧ y.t = x.t
def DB (L : List Thr) (m : Nat) : Prop := ∀ x ∈ L, 0 ≤ x.d ∧ x.d ≤ (m : Int)
theorem up_inj {L : List Thr} (h : thrE.Up L) : ∀ x ∈ L, ∀ y ∈ L, x.i = y.i → x = y := by
  induction L with
  | nil => intro x hx; cases hx
  | cons z r ih =>
    have h1 := List.pairwise_cons.1 h
    intro x hx y hy e
    rcases List.mem_cons.1 hx with ex | hx
    · rcases List.mem_cons.1 hy with ey | hy
      · rw [ex, ey]
      · have h3 : z.i < y.i := h1.1 y hy
        rw [ex] at e; omega
    · rcases List.mem_cons.1 hy with ey | hy
      · have h3 : z.i < x.i := h1.1 x hx
        rw [ey] at e; omega
      · exact ih h1.2 x hx y hy e
theorem Grew.rfl' {L : List Thr} (h : thrE.Up L) : Grew L L := fun y hy x hx e => by
  rw [up_inj h y hy x hx e]; exact ⟨Int.le_refl _, rfl⟩
theorem Grew.sub {L L' : List Thr} (h : thrE.Up L) (hs : ∀ y ∈ L', y ∈ L) : Grew L L' := fun y hy => Grew.rfl' h y (hs y hy)
theorem grew_upd {s : SS} {L : List Thr} (h : TInv s L) {m : Nat} (hd : DB L m) (k : Int) (f : Thr → Thr) (h1 : ∀ x, (f x).i = x.i) (h2 : ∀ x, (f x).t = x.t) (h3 : ∀ x ∈ L, x.d ≤ (f x).d ∧ (f x).d ≤ x.d + 1) : Grew L (updT L k f) ∧ DB (updT L k f) (m + 1) := by
  unfold updT
  rcases pos_cases L k with ⟨i, _, hi, e1, e2, e3⟩ | ⟨_, e3, _, _⟩
  · rw [if_pos e3, e1, thrE.ins_set h.up hi (x := f L[i]) (h1 _)]
    have hm : L[i] ∈ L := List.getElem_mem hi
    constructor
    · intro y hy x hx e
      rcases List.mem_or_eq_of_mem_set hy with hy | rfl
      · exact Grew.rfl' h.up y hy x hx e
      · rw [h1] at e
        rw [← up_inj h.up _ hm x hx e]
        exact ⟨(h3 _ hm).1, h2 _⟩
    · intro y hy
      rcases List.mem_or_eq_of_mem_set hy with hy | rfl
      · have := hd y hy; omega
      · have := hd _ hm; have := h3 _ hm; omega
  · rw [if_neg (by rw [e3]; decide)]
    exact ⟨Grew.rfl' h.up, fun y hy => by have := hd y hy; omega⟩
theorem grew_turn {s : SS} {L : List Thr} (h : TInv s L) {m : Nat} (hd : DB L m) (k fr tz : Int) : Grew L (turnL L k fr tz) ∧ DB (turnL L k fr tz) (m + 1) := by
  by_cases e : fndE L k = 0 ∧ ¬ turnN fr (fndT L k).s = true
  · have he : turnL L k fr tz = updT L k fun x => { x with s := tz } := by
      unfold turnL updT
      rw [if_pos e.1, if_neg e.2, if_pos e.1]
    rw [he]
    exact grew_upd h hd k _ (fun _ => rfl) (fun _ => rfl) (fun x hx => ⟨Int.le_refl _, by show x.d ≤ x.d + 1; omega⟩)
  · have he : turnL L k fr tz = L := by
      unfold turnL
      split
      · rename_i h3
        split
        · rfl
        · rename_i h4; exact absurd ⟨h3, h4⟩ e
      · rfl
    rw [he]
    exact ⟨Grew.rfl' h.up, fun y hy => by have := hd y hy; omega⟩
theorem grew_end {s : SS} {L : List Thr} (h : TInv s L) {m : Nat} (hd : DB L m) (k : Int) : Grew L (endL L k) ∧ DB (endL L k) (m + 1) := by
  have hs : ∀ y ∈ endL L k, y ∈ L := by
    unfold endL
    intro y hy
    split at hy
    · split at hy
      · exact (List.mem_filter.1 hy).1
      · exact hy
    · exact hy
  exact ⟨Grew.sub h.up hs, fun y hy => by have := hd y (hs y hy); omega⟩
theorem grew_spawn {s : SS} {L : List Thr} (h : TInv s L) {m : Nat} (hd : DB L m) (c : Ctx) (tk : Int) : Grew L (spL s L c tk) ∧ DB (spL s L c tk) (m + 1) := by
  have same : Grew L L ∧ DB L (m + 1) := ⟨Grew.rfl' h.up, fun y hy => by have := hd y hy; omega⟩
  unfold spL
  by_cases htk : tkB tk = true
  · rw [if_pos htk]; exact same
  · rw [if_neg htk]
    rcases takeE_cases s with ht | ht
    · rw [if_pos ht]
      obtain ⟨x, hx⟩ : ∃ x : Thr, ⟨takeV s, 1, tk, c, 0⟩ = x := ⟨_, rfl⟩
      have xi : x.i = takeV s := by rw [← hx]
      have xd : x.d = 0 := by rw [← hx]
      rw [hx]
      constructor
      · intro y hy z hz e
        rcases thrE.mem_ins hy with rfl | hy
        · exact absurd (e.symm.trans xi) (h.new ht z hz)
        · exact same.1 y hy z hz e
      · intro y hy
        rcases thrE.mem_ins hy with rfl | hy
        · omega
        · exact same.2 y hy
    · rw [if_neg (by rw [ht]; decide)]; exact same
theorem grew_act {s : SS} {L : List Thr} (h : TInv s L) {m : Nat} (hd : DB L m) (hm : m ≤ 100) (x : LAct) : Grew L (actL s L x) ∧ DB (actL s L x) (m + 1) := by
  have same : Grew L L ∧ DB L (m + 1) := ⟨Grew.rfl' h.up, fun y hy => by have := hd y hy; omega⟩
  unfold actL
  by_cases e0 : x.k = 0
  · rw [if_pos e0]; exact grew_spawn h hd x.c x.t
  rw [if_neg e0]
  by_cases e1 : x.k = 1
  · rw [if_pos e1]; exact grew_upd h hd _ _ (fun _ => rfl) (fun _ => rfl) (fun x hx => ⟨Int.le_refl _, by show x.d ≤ x.d + 1; omega⟩)
  rw [if_neg e1]
  by_cases e2 : x.k = 2
  · rw [if_pos e2]; exact grew_upd h hd _ _ (fun _ => rfl) (fun _ => rfl) (fun y hy => by
      have hb := hd y hy
      show y.d ≤ wrap64 (y.d + 1) ∧ wrap64 (y.d + 1) ≤ y.d + 1
      rw [show wrap64 (y.d + 1) = y.d + 1 by unfold wrap64; omega]
      omega)
  rw [if_neg e2]
  by_cases e3 : x.k = 3
  · rw [if_pos e3]; exact grew_turn h hd _ _ _
  rw [if_neg e3]
  by_cases e4 : x.k = 4
  · rw [if_pos e4]; exact grew_turn h hd _ _ _
  rw [if_neg e4]
  by_cases e5 : x.k = 5
  · rw [if_pos e5]; exact grew_turn h hd _ _ _
  rw [if_neg e5]
  by_cases e6 : x.k = 6
  · rw [if_pos e6]; exact grew_turn h hd _ _ _
  rw [if_neg e6]
  by_cases e7 : x.k = 7
  · rw [if_pos e7]; exact grew_turn h hd _ _ _
  rw [if_neg e7]
  by_cases e8 : x.k = 8
  · rw [if_pos e8]; exact grew_turn h hd _ _ _
  rw [if_neg e8]
  by_cases e9 : x.k = 9
  · rw [if_pos e9]; exact grew_end h hd _
  rw [if_neg e9]; exact same
theorem actS_len (s : SS) (L : List Thr) (x : LAct) : (actS s L x).ages.length = s.ages.length := by
  unfold actS spS endS
  repeat' split
  all_goals first | rfl | exact takeS_len s | exact freeS_len s _
theorem TInv.le {s : SS} {L : List Thr} (h : TInv s L) : L.length ≤ s.ages.length := by
  have h1 := h.i.cnt
  have h2 := List.count_le_length (a := false) (l := s.fr)
  have h3 := h.i.len
  have h5 := h.cnt
  omega
theorem cnt_sum : ∀ {L : List Thr}, (∀ x ∈ L, 1 ≤ x.s ∧ x.s ≤ 4) → cntT L 1 + cntT L 2 + cntT L 3 + cntT L 4 = L.length ∧ cntT L 0 = 0 ∧ cntT L 5 = 0
  | [], _ => by decide
  | x :: r, h => by
    have hx := h x (by simp)
    obtain ⟨i1, i2, i3⟩ := cnt_sum (L := r) fun y hy => h y (List.mem_cons_of_mem _ hy)
    have c : ∀ st : Int, cntT (x :: r) st = cntT r st + if x.s == st then 1 else 0 := fun st => by unfold cntT; rw [List.countP_cons]
    rw [c, c, c, c, c, c]
    rcases (show x.s = 1 ∨ x.s = 2 ∨ x.s = 3 ∨ x.s = 4 by omega) with e | e | e | e <;> simp [e] <;> omega
/-- What the law asks of one of the old. -/
theorem Grew.at {L L' : List Thr} (h : Grew L L') {x : Thr} (hx : x ∈ L) (hf : fndE L' x.i = 0) : ¬ (fndT L' x.i).d < x.d ∧ (fndT L' x.i).t = x.t := by
  obtain ⟨h1, h2⟩ := fnd_key hf
  obtain ⟨h3, h4⟩ := h _ h2 x hx h1
  exact ⟨by omega, h4⟩
def sumT (L : List Thr) : Nat → Nat
  | 0 => 0
  | j + 1 => sumT L j + cntT L ((j : Int) + 1)
theorem sumT_le (L : List Thr) (j : Nat) : sumT L j ≤ j * L.length := by
  induction j with
  | zero => simp [sumT]
  | succ j ih =>
    have : cntT L ((j : Int) + 1) ≤ L.length := List.countP_le_length
    rw [sumT, Nat.succ_mul]; omega
theorem sumT_four {L : List Thr} (h : ∀ x ∈ L, 1 ≤ x.s ∧ x.s ≤ 4) : sumT L 4 = L.length := by
  have := (cnt_sum h).1
  simp [sumT]
  omega
end Go.Proofs.YtffjaaolcphonaaDoor
