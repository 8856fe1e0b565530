/- ThreadActs: the walk. -/
import Derived.Test.YtffjaaolcphonaaDoorTAct
import Derived.Test.YtffjaaolcphonaaDoorBdLA
import Derived.Test.YtffjaaolcphonaaDoorThrL
namespace Go.Proofs.YtffjaaolcphonaaDoor
open Go.RowKit Go.Maps
set_option linter.unusedSimpArgs false
theorem threadActs_big (w : World) (hT : TabD w) (hC : TabT w) (x : Int) (a : Option Addr) (n c : Nat) (hn : 100 < n) : Calls Tryd.prog 9 #[.int .i64 x, .slice a n c] w fun e w' => e = .returned (.bool true) ∧ Still w w' := by
  have hn' : (100 : Int) < (n : Int) := by omega
  have L := hid (tlives w hT hC)
  clear hn hT hC
  go_enter Tryd.func9, Tryd.ntmps9
  go_wp2_with (go_at_call 40; refine L.out.mono ?_; rintro e w' ⟨rfl, hs⟩)
  go_ret
  exact ⟨rfl, hs⟩
theorem threadActs_no (w : World) (hT : TabD w) (hC : TabT w) (x : Int) (a : Option Addr) (n c : Nat) (hn : n ≤ 100) (hx : x < 1 ∨ 32 < x) : Calls Tryd.prog 9 #[.int .i64 x, .slice a n c] w fun e w' => e = .returned (.bool true) ∧ Still w w' := by
  have hn' : ¬ (100 : Int) < (n : Int) := by omega
  have L := hid (tlives w hT hC)
  have N1 := hid (tnew_no w x hx)
  have N2 := hid (rtnew_no w x hx)
  clear hn hT hC hx
  go_enter Tryd.func9, Tryd.ntmps9
  go_wp2_with (first | (go_at_call 40; refine L.out.mono ?_; rintro e w' ⟨rfl, hs⟩) | (go_at_call 38; refine N1.out.mono ?_; rintro e w' ⟨rfl, rfl⟩) | (go_at_call 39; refine N2.out.mono ?_; rintro e w' ⟨rfl, rfl⟩))
  go_ret
  exact ⟨rfl, hs⟩
/-- Both sides, as they are made. -/
theorem two_start {w w1 w2 : World} {x : Nat} (x1 : x ≤ 32) (hw : 8 ≤ w.heap.size) {P : Nat} {B : SB} {M : Nat} (hA : TAt w1 P B M (zeroS x x) []) (hn : TNew w P B M) (hs1 : Still w w1) {Q p A T cA cT : Nat} (hR : RTAt w2 (fun k => w1.heap.size ≤ k ∧ k < w2.heap.size) Q p A T cA cT (zeroS x x) []) (hs2 : Still w1 w2) :
    TwoT w2 ⟨P, B, M, Q, p, A, T, cA, cT⟩ (fun k => w1.heap.size ≤ k ∧ k < w2.heap.size) (zeroS x x) [] ∧ ∀ k, (TB.mk P B M Q p A T cA cT).foot (fun k => w1.heap.size ≤ k ∧ k < w2.heap.size) k → w.heap.size ≤ k := by
  have lP := hA.ltP
  have lM := hA.m.lt
  have lB := fun k hk => hA.sl.lt (k := k) hk
  have z1 := hs1.size
  have hf : ∀ k, (TB.mk P B M Q p A T cA cT).foot (fun k => w1.heap.size ≤ k ∧ k < w2.heap.size) k → w.heap.size ≤ k := by
    rintro k ((h | rfl) | h)
    · exact hn.b k h
    · exact hn.m
    · omega
  refine ⟨⟨hA.still hs2, hR, TInv.zero x x1, fun e => by have h1 : w1.heap.size ≤ P := e.1; omega, ?_, fun k hk => by have := hf k hk; omega⟩, hf⟩
  rintro k (h | h) e
  · have := lB k h; have := e.1; omega
  · have h1 := e.1
    have h2 : k = M := h
    omega
theorem new_l (w : World) : Blk (w.alloc (.cells #[.int .i64 0, .int .i64 0, .int .i64 0, .bool false, .int .i64 0, .int .i64 0, .int .i64 0, .int .i64 0, .int .i64 0, .int .i64 0, .int .i64 0, .int .i64 0, .int .i64 0, .int .i64 0, .int .i64 0] 60)) w.heap.size [.int .i64 l0.k, .int .i64 l0.i, .int .i64 l0.t, .bool l0.re, .int .i64 l0.c.p, .int .i64 l0.c.q, .int .i64 l0.c.r0, .int .i64 l0.c.r1, .int .i64 l0.c.r2, .int .i64 l0.c.r3, .int .i64 l0.c.r4, .int .i64 l0.c.r5, .int .i64 l0.c.r6, .int .i64 l0.c.r7, .int .i64 l0.c.d] 60 := Blk.new w _ 60
theorem onesL (x : LAct) : ∀ v ∈ ([.int .i64 x.k, .int .i64 x.i, .int .i64 x.t, .bool x.re, .int .i64 x.c.p, .int .i64 x.c.q, .int .i64 x.c.r0, .int .i64 x.c.r1, .int .i64 x.c.r2, .int .i64 x.c.r3, .int .i64 x.c.r4, .int .i64 x.c.r5, .int .i64 x.c.r6, .int .i64 x.c.r7, .int .i64 x.c.d] : List Value), v.oneCell' = true := by intro v hv; simp only [List.mem_cons, List.not_mem_nil, or_false] at hv; rcases hv with rfl | rfl | rfl | rfl | rfl | rfl | rfl | rfl | rfl | rfl | rfl | rfl | rfl | rfl | rfl <;> rfl
theorem upO_lo {O : Nat → Prop} {K : TB} {w w1 w2 : World} (h : ∀ k, K.foot O k → w.heap.size ≤ k) (hz : w.heap.size ≤ w1.heap.size) : ∀ k, K.foot (upO O w1 w2) k → w.heap.size ≤ k := by
  rintro k (hk | hk | hk)
  · exact h k (.inl hk)
  · exact h k (.inr hk)
  · omega
set_option maxRecDepth 100000 in
set_option maxHeartbeats 8000000 in
theorem threadActs_ok (w : World) (hT : TabD w) (hC : TabT w) (x : Nat) (a : Option Addr) (n c : Nat) (F : Nat → LAct) (hF : IsLActs w a n c F) (hn : n ≤ 100) (x0 : 1 ≤ x) (x1 : x ≤ 32) :
    Calls Tryd.prog 9 #[.int .i64 (x : Int), .slice a n c] w fun e w' => e = .returned (.bool true) ∧ Still w w' := by
  have hn' : ¬ (100 : Int) < (n : Int) := by omega
  have HF := hid hF
  have HT := hid hT
  have HC := hid hC
  have h7 := hid hT.lt
  have HN := hid (tnew w x x0 x1)
  clear hF hT hC
  go_enter Tryd.func9, Tryd.ntmps9
  go_wp2_with fail
  refine HN.out.mono ?_
  rintro e w1 ⟨P, B, M, rfl, hA, hs1, hnn⟩
  have HA := hid hA
  have HS1 := hid hs1
  have HNN := hid hnn
  clear hA hs1 hnn
  go_wp2_with fail
  refine (rtnew w1 x x0 x1).mono ?_
  rintro e w2 ⟨Q, p, A, T, cA, cT, rfl, hR, hs2⟩
  have TS := two_start x1 (by have := h7.out; omega) HA.out HNN.out HS1.out hR hs2
  obtain ⟨KB, hKB⟩ : ∃ K : TB, TB.mk P B M Q p A T cA cT = K := ⟨_, rfl⟩
  obtain ⟨O0, hO0⟩ : ∃ O : Nat → Prop, (fun k => w1.heap.size ≤ k ∧ k < w2.heap.size) = O := ⟨_, rfl⟩
  rw [hKB, hO0] at TS
  have KP : P = KB.P := by rw [← hKB]
  have KQ : Q = KB.Q := by rw [← hKB]
  have T0 := hid TS.1
  have FT0 := hid TS.2
  have S2 := hid (HS1.out.trans hs2)
  rw [KP, KQ]
  clear TS hR hs2 hKB hO0 KP KQ HA HNN HN
  go_wp2_with fail
  go_loopw [8, 9, 10, 11, 12, 31] (fun s8 s9 s10 s11 s12 cc wr => ∃ (j : Nat) (s : SS) (L : List Thr) (O : Nat → Prop), cc = .int .i64 j ∧ j ≤ n ∧ Hid (TwoT wr KB O s L) ∧ Hid (∀ k, KB.foot O k → w.heap.size ≤ k) ∧ Hid (Still w wr)) (fun s8 s9 s10 s11 s12 cc _ => n - (intOf cc).toNat)
  case atStart => exact ⟨0, _, [], O0, rfl, Nat.zero_le _, T0, FT0, S2⟩
  case round =>
    clear T0 FT0 S2
    obtain ⟨j, s, L, O, rfl, hj, T1, FT, S1⟩ := hrel
    by_cases hlt : j < n
    · have hlt' : (j : Int) < (n : Int) := by omega
      rcases HF.out with h0 | ⟨b1, o1, rfl, _, _, _, _, hc⟩
      · omega
      obtain ⟨hx, hwx⟩ := hc j hlt
      obtain ⟨x, hxx⟩ : ∃ x, F j = x := ⟨_, rfl⟩
      rw [hxx] at hx hwx
      have HX : Hid (wr.rangeAt b1 (o1 + j * 15) [.int .i64 x.k, .int .i64 x.i, .int .i64 x.t, .bool x.re, .int .i64 x.c.p, .int .i64 x.c.q, .int .i64 x.c.r0, .int .i64 x.c.r1, .int .i64 x.c.r2, .int .i64 x.c.r3, .int .i64 x.c.r4, .int .i64 x.c.r5, .int .i64 x.c.r6, .int .i64 x.c.r7, .int .i64 x.c.d]) := hid fun k v hv => Still.cell S1.out (hx k v hv)
      have WX := hid hwx
      clear hc hx hwx hxx
      go_wp2_with (first
        | (refine wpList_load_mid rfl 60 (.tmp 33) rfl b1 (o1 + j * 15) rfl [.int .i64 x.k, .int .i64 x.i, .int .i64 x.t, .bool x.re, .int .i64 x.c.p, .int .i64 x.c.q, .int .i64 x.c.r0, .int .i64 x.c.r1, .int .i64 x.c.r2, .int .i64 x.c.r3, .int .i64 x.c.r4, .int .i64 x.c.r5, .int .i64 x.c.r6, .int .i64 x.c.r7, .int .i64 x.c.d] _ HX.out Tryd.underlying60 rfl I60 ?_)
        | (refine wpList_storeW rfl (.tmp 8) (.tmp 34) 60 rfl _ 60 [.int .i64 l0.k, .int .i64 l0.i, .int .i64 l0.t, .bool l0.re, .int .i64 l0.c.p, .int .i64 l0.c.q, .int .i64 l0.c.r0, .int .i64 l0.c.r1, .int .i64 l0.c.r2, .int .i64 l0.c.r3, .int .i64 l0.c.r4, .int .i64 l0.c.r5, .int .i64 l0.c.r6, .int .i64 l0.c.r7, .int .i64 l0.c.d] [.int .i64 x.k, .int .i64 x.i, .int .i64 x.t, .bool x.re, .int .i64 x.c.p, .int .i64 x.c.q, .int .i64 x.c.r0, .int .i64 x.c.r1, .int .i64 x.c.r2, .int .i64 x.c.r3, .int .i64 x.c.r4, .int .i64 x.c.r5, .int .i64 x.c.r6, .int .i64 x.c.r7, .int .i64 x.c.d] I60 (onesL x) rfl rfl (new_l _) rfl ?_; intro w3 b3 f3; have B3 := hid b3; have S3 : Hid (Still wr w3) := hid (Still.next ((Fr.refl _ _).alloc _) f3 (fun k hk => by rw [hk]; exact Nat.le_refl _)); clear b3 f3))
      obtain ⟨ab, hab⟩ : ∃ ab, wr.heap.size = ab := ⟨_, rfl⟩
      have NAB : Hid (∀ k, KB.foot O k → k < ab) := hid fun k hk => by rw [← hab]; exact T1.out.lt k hk
      have LAB : Hid (w.heap.size ≤ ab) := hid (by rw [← hab]; exact S1.out.size)
      rw [hab] at B3 ⊢
      have T3 := hid (T1.out.still S3.out)
      have SW3 := hid (S1.out.trans S3.out)
      clear hab
      have RX : w3.rangeAt ab 0 [.int .i64 x.k, .int .i64 x.i, .int .i64 x.t, .bool x.re, .int .i64 x.c.p, .int .i64 x.c.q, .int .i64 x.c.r0, .int .i64 x.c.r1, .int .i64 x.c.r2, .int .i64 x.c.r3, .int .i64 x.c.r4, .int .i64 x.c.r5, .int .i64 x.c.r6, .int .i64 x.c.r7, .int .i64 x.c.d] := fun k v hv => by rw [Nat.zero_add, B3.out.cell k]; exact hv
      have i3 : w3.cell? ⟨ab, 1, none⟩ = some (.int .i64 x.i) := B3.out.cell 1
      refine Held.wp_region_held_tail (S := (fun w' => w'.rangeAt ab 0 [.int .i64 x.k, .int .i64 x.i, .int .i64 x.t, .bool x.re, .int .i64 x.c.p, .int .i64 x.c.q, .int .i64 x.c.r0, .int .i64 x.c.r1, .int .i64 x.c.r2, .int .i64 x.c.r3, .int .i64 x.c.r4, .int .i64 x.c.r5, .int .i64 x.c.r6, .int .i64 x.c.r7, .int .i64 x.c.d] ∧ w'.cell? ⟨ab, 1, none⟩ = some (.int .i64 x.i))) 26 (by kernel_rfl) (by kernel_rfl) (by decide) ?hS1 (fun hHeld => ?hR1)
      case hS1 =>
        exact ⟨RX, i3⟩
      simp only [List.take_succ_cons, List.take_zero, List.drop_succ_cons, List.drop_zero]
      refine wpAnyH_take (i := 2) (oi := _) (v := (Value.agg #[.int .i64 x.k, .int .i64 x.i, .int .i64 x.t, .bool x.re, .int .i64 x.c.p, .int .i64 x.c.q, .int .i64 x.c.r0, .int .i64 x.c.r1, .int .i64 x.c.r2, .int .i64 x.c.r3, .int .i64 x.c.r4, .int .i64 x.c.r5, .int .i64 x.c.r6, .int .i64 x.c.r7, .int .i64 x.c.d])) rfl (by kernel_rfl) (by kernel_rfl) (by kernel_rfl) (fun _ _ _ h => h) (yieldsIf_load_mid rfl 60 _ rfl ab 0 rfl [.int .i64 x.k, .int .i64 x.i, .int .i64 x.t, .bool x.re, .int .i64 x.c.p, .int .i64 x.c.q, .int .i64 x.c.r0, .int .i64 x.c.r1, .int .i64 x.c.r2, .int .i64 x.c.r3, .int .i64 x.c.r4, .int .i64 x.c.r5, .int .i64 x.c.r6, .int .i64 x.c.r7, .int .i64 x.c.d] _ (fun w h => h.1) Tryd.underlying60 rfl I60) (by assumption) ?rA
      simp only [Act.put, List.getElem_toArray, List.getElem_cons_zero, List.getElem_cons_succ, List.setIfInBounds_toArray, List.set_cons_zero, List.set_cons_succ]
      refine wpAnyH_take (i := 0) (oi := _) (v := ?v2) rfl (by kernel_rfl) (by kernel_rfl) (by kernel_rfl) (fun _ _ _ h => h) (Or.inl ⟨by rfl, ?y2⟩) (by assumption) ?r2
      case y2 => ((intro w hSw); (try dsimp only at hSw); go_simp; (try with_reducible rfl))
      (try simp only [Act.put, List.setIfInBounds_toArray, List.set_cons_zero, List.set_cons_succ])
      refine wpAnyH_take (i := 1) (oi := _) (v := ?v3) rfl (by kernel_rfl) (by kernel_rfl) (by kernel_rfl) (fun _ _ _ h => h) (Or.inl ⟨by rfl, ?y3⟩) (by assumption) ?r3
      case y3 => ((intro w hSw); (try dsimp only at hSw); go_simp; (try with_reducible rfl))
      (try simp only [Act.put, List.setIfInBounds_toArray, List.set_cons_zero, List.set_cons_succ])
      refine wpAnyH_ready (rs := [3]) (by kernel_rfl) (by simp) ?_
      refine AllReadyH.cons rfl (fun K hK => ?st4) AllReadyH.nil
      go_simp
      go_at_call 41
      refine (tact (T3.out.still (by exact (Fr.refl _ _).drew)) (HT.out.still (SW3.out.trans (Fr.refl _ _).drew)) (HC.out.still (SW3.out.trans (Fr.refl _ _).drew)) x WX.out).mono ?_
      rintro e w4 ⟨rfl, t4, f4⟩
      have z34 : w3.heap.size ≤ w4.heap.size := f4.size
      have F4 : Hid (Fr (KB.foot O) w3 w4) := hid (((Fr.refl _ w3).drew).trans f4)
      have T4 := hid t4
      have B4 := hid (B3.out.fr F4.out (fun e => by have := NAB.out _ e; omega))
      have NB4 : Hid (∀ k, KB.foot (upO O w3 w4) k → k ≠ ab) := hid (by
        have hl := B3.out.lt
        rintro k (hk | hk | hk) rfl
        · have := NAB.out _ (.inl hk); omega
        · have := NAB.out _ (.inr hk); omega
        · omega)
      have SW4 : Hid (Still w w4) := hid (SW3.out.next F4.out (fun k hk => FT.out k hk))
      have FT4 : Hid (∀ k, KB.foot (upO O w3 w4) k → w.heap.size ≤ k) := hid (upO_lo FT.out SW3.out.size)
      clear t4 f4
      refine hK.out _ _ ?k4 (fun hHeld4 => ?_)
      case k4 =>
        exact ⟨fun k v hv => by rw [Nat.zero_add, B4.out.cell k]; exact hv, B4.out.cell 1⟩
      clear hK K
      (try simp only [Act.put, List.setIfInBounds_toArray, List.set_cons_zero, List.set_cons_succ])
      refine wpAnyH_take (i := 4) (oi := _) (v := ?v5) rfl (by kernel_rfl) (by kernel_rfl) (by kernel_rfl) (fun _ _ _ h => h) (Or.inl ⟨by rfl, ?y5⟩) (by assumption) ?r5
      case y5 => ((intro w hSw); (try dsimp only at hSw); go_simp; (try with_reducible rfl))
      (try simp only [Act.put, List.setIfInBounds_toArray, List.set_cons_zero, List.set_cons_succ])
      refine wpAnyH_take (i := 5) (oi := _) (v := ?v6) rfl (by kernel_rfl) (by kernel_rfl) (by kernel_rfl) (fun _ _ _ h => h) (Or.inl ⟨by rfl, ?y6⟩) (by assumption) ?r6
      case y6 => ((intro w hSw); (try dsimp only at hSw); go_simp; (try with_reducible rfl))
      (try simp only [Act.put, List.setIfInBounds_toArray, List.set_cons_zero, List.set_cons_succ])
      simp only [Act.put, List.getElem_toArray, List.getElem_cons_zero, List.getElem_cons_succ, List.setIfInBounds_toArray, List.set_cons_zero, List.set_cons_succ]
      have R4 := T4.out.r
      obtain ⟨rv, q4, ro, _⟩ := R4.ex
      have RO := hid (SRow.own (S := S66) ro rfl)
      obtain ⟨ra, rc, rfl⟩ := own_shape ro _ rfl
      have i4 : w4.cell? ⟨ab, 1, none⟩ = some (.int .i64 x.i) := B4.out.cell 1
      have LN := hid T4.out.v.len
      obtain ⟨LL, hLL⟩ : ∃ M, actL s L x = M := ⟨_, rfl⟩
      obtain ⟨s4, hs4⟩ : ∃ M, actS s L x = M := ⟨_, rfl⟩
      rw [hLL] at q4 RO LN T4
      rw [hs4] at T4
      clear ro R4 hLL hs4
      refine wpAnyH_strong (S' := fun w' => w'.cell? ⟨ab, 1, none⟩ = some (.int .i64 x.i) ∧ w'.cell? ⟨KB.Q, 1, none⟩ = some (.slice ra LL.length rc) ∧ w'.rangeAt ab 0 [.int .i64 x.k, .int .i64 x.i, .int .i64 x.t, .bool x.re, .int .i64 x.c.p, .int .i64 x.c.q, .int .i64 x.c.r0, .int .i64 x.c.r1, .int .i64 x.c.r2, .int .i64 x.c.r3, .int .i64 x.c.r4, .int .i64 x.c.r5, .int .i64 x.c.r6, .int .i64 x.c.r7, .int .i64 x.c.d]) (fun w h => ⟨h.2.2, h.1⟩) _ _ _ _ ?_
      have hS' : w4.cell? ⟨ab, 1, none⟩ = some (.int .i64 x.i) ∧ w4.cell? ⟨KB.Q, 1, none⟩ = some (.slice ra LL.length rc) ∧ w4.rangeAt ab 0 [.int .i64 x.k, .int .i64 x.i, .int .i64 x.t, .bool x.re, .int .i64 x.c.p, .int .i64 x.c.q, .int .i64 x.c.r0, .int .i64 x.c.r1, .int .i64 x.c.r2, .int .i64 x.c.r3, .int .i64 x.c.r4, .int .i64 x.c.r5, .int .i64 x.c.r6, .int .i64 x.c.r7, .int .i64 x.c.d] := ⟨i4, q4, fun k v hv => by rw [Nat.zero_add, B4.out.cell k]; exact hv⟩
      refine wpAnyH_take (i := 6) (oi := _) (v := ?v7) rfl (by kernel_rfl) (by kernel_rfl) (by kernel_rfl) (fun _ _ _ h => h) (Or.inl ⟨by rfl, ?y7⟩) (by assumption) ?r7
      case y7 => ((intro w hSw); (try dsimp only at hSw); go_simp; (try with_reducible rfl))
      (try simp only [Act.put, List.setIfInBounds_toArray, List.set_cons_zero, List.set_cons_succ])
      refine wpAnyH_take (i := 9) (oi := _) (v := ?v8) rfl (by kernel_rfl) (by kernel_rfl) (by kernel_rfl) (fun _ _ _ h => h) (Or.inl ⟨by rfl, ?y8⟩) (by assumption) ?r8
      case y8 => ((intro w hSw); (try dsimp only at hSw); go_simp; (try with_reducible rfl))
      (try simp only [Act.put, List.setIfInBounds_toArray, List.set_cons_zero, List.set_cons_succ])
      refine wpAnyH_take (i := 10) (oi := _) (v := ?v9) rfl (by kernel_rfl) (by kernel_rfl) (by kernel_rfl) (fun _ _ _ h => h) (Or.inl ⟨by rfl, ?y9⟩) (by assumption) ?r9
      case y9 => ((intro w hSw); (try dsimp only at hSw); go_simp; (try with_reducible rfl))
      (try simp only [Act.put, List.setIfInBounds_toArray, List.set_cons_zero, List.set_cons_succ])
      simp only [Act.put, List.getElem_toArray, List.getElem_cons_zero, List.getElem_cons_succ, List.setIfInBounds_toArray, List.set_cons_zero, List.set_cons_succ]
      refine wpAnyH_take (i := 11) (oi := _) (v := ?v10) rfl (by kernel_rfl) (by kernel_rfl) (by kernel_rfl) (fun _ _ _ h => h) (Or.inl ⟨by rfl, ?y10⟩) (by assumption) ?r10
      case y10 => ((intro w hSw); (try dsimp only at hSw); go_simp; (try with_reducible rfl))
      (try simp only [Act.put, List.setIfInBounds_toArray, List.set_cons_zero, List.set_cons_succ])
      refine wpAnyH_take (i := 12) (oi := _) (v := ?v11) rfl (by kernel_rfl) (by kernel_rfl) (by kernel_rfl) (fun _ _ _ h => h) (Or.inl ⟨by rfl, ?y11⟩) (by assumption) ?r11
      case y11 => ((intro w hSw); (try dsimp only at hSw); go_simp; (try with_reducible rfl))
      (try simp only [Act.put, List.setIfInBounds_toArray, List.set_cons_zero, List.set_cons_succ])
      simp only [Act.put, List.getElem_toArray, List.getElem_cons_zero, List.getElem_cons_succ, List.setIfInBounds_toArray, List.set_cons_zero, List.set_cons_succ]
      refine wpAnyH_ready (rs := [7]) (by kernel_rfl) (by simp) ?_
      refine AllReadyH.cons rfl (fun K hK => ?st12) AllReadyH.nil
      go_simp
      go_at_call 43
      refine (tall T4.out.t (by have := LN.out; omega) T4.out.v.wf).mono ?_
      rintro e w5 ⟨v5, rfl, o5, s5⟩
      obtain ⟨a5, c5, rfl⟩ := own_shape o5 _ rfl
      have O5 := hid (SRow.own (S := S68) o5 rfl)
      have S5 := hid s5
      clear o5 s5
      refine hK.out _ _ ?k12 (fun hHeld12 => ?_)
      case k12 =>
        exact ⟨Still.cell S5.out i4, Still.cell S5.out q4, fun k v hv => Still.cell S5.out (by rw [Nat.zero_add, B4.out.cell k]; exact hv)⟩
      clear hK K
      (try simp only [Act.put, List.setIfInBounds_toArray, List.set_cons_zero, List.set_cons_succ])
      refine wpAnyH_ready (rs := [8]) (by kernel_rfl) (by simp) ?_
      refine AllReadyH.cons rfl (fun K hK => ?st13) AllReadyH.nil
      go_simp
      go_at_call 42
      refine (tplain _ O5.out (by have := LN.out; omega)).mono ?_
      rintro e w6 ⟨v6, rfl, o6, s6⟩
      obtain ⟨a6, c6, rfl⟩ := own_shape o6 _ rfl
      have O6 := hid (SRow.own (S := S66) o6 rfl)
      have S6 := hid (S5.out.trans s6)
      clear o6 s6
      refine hK.out _ _ ?k13 (fun hHeld13 => ?_)
      case k13 =>
        exact ⟨Still.cell S6.out i4, Still.cell S6.out q4, fun k v hv => Still.cell S6.out (by rw [Nat.zero_add, B4.out.cell k]; exact hv)⟩
      clear hK K
      (try simp only [Act.put, List.setIfInBounds_toArray, List.set_cons_zero, List.set_cons_succ])
      refine wpAnyH_ready (rs := [13]) (by kernel_rfl) (by simp) ?_
      refine AllReadyH.cons rfl (fun K hK => ?st14) AllReadyH.nil
      go_simp
      go_at_call 53
      refine (tsame _ _ O6.out (RO.out.still S6.out) (by have := LN.out; omega)).mono ?_
      rintro e w7 ⟨rfl, s7⟩
      have S7 := hid (S6.out.trans s7)
      clear s7
      refine hK.out _ _ ?k14 (fun hHeld14 => ?_)
      case k14 =>
        exact ⟨Still.cell S7.out i4, Still.cell S7.out q4, fun k v hv => Still.cell S7.out (by rw [Nat.zero_add, B4.out.cell k]; exact hv)⟩
      clear hK K
      (try simp only [Act.put, List.setIfInBounds_toArray, List.set_cons_zero, List.set_cons_succ])
      refine wpAnyH_take (i := 14) (oi := _) (v := ?v15) rfl (by kernel_rfl) (by kernel_rfl) (by kernel_rfl) (fun _ _ _ h => h) (Or.inl ⟨by rfl, ?y15⟩) (by assumption) ?r15
      case y15 => ((intro w hSw); (try dsimp only at hSw); go_simp; (try with_reducible rfl))
      (try simp only [Act.put, List.setIfInBounds_toArray, List.set_cons_zero, List.set_cons_succ])
      refine wpAnyH_take (i := 15) (oi := _) (v := ?v16) rfl (by kernel_rfl) (by kernel_rfl) (by kernel_rfl) (fun _ _ _ h => h) (Or.inl ⟨by rfl, ?y16⟩) (by assumption) ?r16
      case y16 => ((intro w hSw); (try dsimp only at hSw); go_simp; (try with_reducible rfl))
      (try simp only [Act.put, List.setIfInBounds_toArray, List.set_cons_zero, List.set_cons_succ])
      refine wpAnyH_take (i := 16) (oi := _) (v := ?v17) rfl (by kernel_rfl) (by kernel_rfl) (by kernel_rfl) (fun _ _ _ h => h) (Or.inl ⟨by rfl, ?y17⟩) (by assumption) ?r17
      case y17 => ((intro w hSw); (try dsimp only at hSw); go_simp; (try with_reducible rfl))
      (try simp only [Act.put, List.setIfInBounds_toArray, List.set_cons_zero, List.set_cons_succ])
      simp only [Act.put, List.getElem_toArray, List.getElem_cons_zero, List.getElem_cons_succ, List.setIfInBounds_toArray, List.set_cons_zero, List.set_cons_succ]
      refine wpAnyH_take (i := 17) (oi := _) (v := ?v18) rfl (by kernel_rfl) (by kernel_rfl) (by kernel_rfl) (fun _ _ _ h => h) (Or.inl ⟨by rfl, ?y18⟩) (by assumption) ?r18
      case y18 => ((intro w hSw); (try dsimp only at hSw); go_simp; (try with_reducible rfl))
      (try simp only [Act.put, List.setIfInBounds_toArray, List.set_cons_zero, List.set_cons_succ])
      refine wpAnyH_take (i := 18) (oi := _) (v := ?v19) rfl (by kernel_rfl) (by kernel_rfl) (by kernel_rfl) (fun _ _ _ h => h) (Or.inl ⟨by rfl, ?y19⟩) (by assumption) ?r19
      case y19 => ((intro w hSw); (try dsimp only at hSw); go_simp; (try with_reducible rfl))
      (try simp only [Act.put, List.setIfInBounds_toArray, List.set_cons_zero, List.set_cons_succ])
      refine wpAnyH_take (i := 21) (oi := _) (v := ?v20) rfl (by kernel_rfl) (by kernel_rfl) (by kernel_rfl) (fun _ _ _ h => h) (Or.inl ⟨by rfl, ?y20⟩) (by assumption) ?r20
      case y20 => ((intro w hSw); (try dsimp only at hSw); go_simp; (try with_reducible rfl))
      (try simp only [Act.put, List.setIfInBounds_toArray, List.set_cons_zero, List.set_cons_succ])
      simp only [Act.put, List.getElem_toArray, List.getElem_cons_zero, List.getElem_cons_succ, List.setIfInBounds_toArray, List.set_cons_zero, List.set_cons_succ]
      refine wpAnyH_take (i := 22) (oi := _) (v := ?v21) rfl (by kernel_rfl) (by kernel_rfl) (by kernel_rfl) (fun _ _ _ h => h) (Or.inl ⟨by rfl, ?y21⟩) (by assumption) ?r21
      case y21 => ((intro w hSw); (try dsimp only at hSw); go_simp; (try with_reducible rfl))
      (try simp only [Act.put, List.setIfInBounds_toArray, List.set_cons_zero, List.set_cons_succ])
      refine wpAnyH_take (i := 19) (oi := _) (v := ?v22) rfl (by kernel_rfl) (by kernel_rfl) (by kernel_rfl) (fun _ _ _ h => h) (Or.inl ⟨by rfl, ?y22⟩) (by assumption) ?r22
      case y22 => ((intro w hSw); (try dsimp only at hSw); go_simp; (try with_reducible rfl))
      (try simp only [Act.put, List.setIfInBounds_toArray, List.set_cons_zero, List.set_cons_succ])
      refine wpAnyH_take (i := 23) (oi := _) (v := ?v23) rfl (by kernel_rfl) (by kernel_rfl) (by kernel_rfl) (fun _ _ _ h => h) (Or.inl ⟨by rfl, ?y23⟩) (by assumption) ?r23
      case y23 => ((intro w hSw); (try dsimp only at hSw); go_simp; (try with_reducible rfl))
      (try simp only [Act.put, List.setIfInBounds_toArray, List.set_cons_zero, List.set_cons_succ])
      simp only [Act.put, List.getElem_toArray, List.getElem_cons_zero, List.getElem_cons_succ, List.setIfInBounds_toArray, List.set_cons_zero, List.set_cons_succ]
      refine wpAnyH_ready (rs := [20]) (by kernel_rfl) (by simp) ?_
      refine AllReadyH.cons rfl (fun K hK => ?st24) AllReadyH.nil
      go_simp
      go_at_call 54
      refine (tcount (T4.out.t.still S7.out) (by have := LN.out; omega) x.i).mono ?_
      rintro e w8 ⟨rfl, s8⟩
      have S8 := hid (S7.out.trans s8)
      clear s8
      refine hK.out _ _ ?k24 (fun hHeld24 => ?_)
      case k24 =>
        exact ⟨Still.cell S8.out i4, Still.cell S8.out q4, fun k v hv => Still.cell S8.out (by rw [Nat.zero_add, B4.out.cell k]; exact hv)⟩
      clear hK K
      (try simp only [Act.put, List.setIfInBounds_toArray, List.set_cons_zero, List.set_cons_succ])
      refine wpAnyH_ready (rs := [24]) (by kernel_rfl) (by simp) ?_
      refine AllReadyH.cons rfl (fun K hK => ?st25) AllReadyH.nil
      go_simp
      go_at_call 55
      refine (rcount (T4.out.r.still S8.out) x.i).mono ?_
      rintro e w9 ⟨rfl, s9⟩
      have S9 := hid (S8.out.trans s9)
      clear s9
      refine hK.out _ _ ?k25 (fun hHeld25 => ?_)
      case k25 =>
        exact ⟨Still.cell S9.out i4, Still.cell S9.out q4, fun k v hv => Still.cell S9.out (by rw [Nat.zero_add, B4.out.cell k]; exact hv)⟩
      clear hK K
      (try simp only [Act.put, List.setIfInBounds_toArray, List.set_cons_zero, List.set_cons_succ])
      refine wpAnyH_take (i := 25) (oi := _) (v := ?v26) rfl (by kernel_rfl) (by kernel_rfl) (by kernel_rfl) (fun _ _ _ h => h) (Or.inl ⟨by rfl, ?y26⟩) (by assumption) ?r26
      case y26 => ((intro w hSw); (try dsimp only at hSw); go_simp; (try with_reducible rfl))
      (try simp only [Act.put, List.setIfInBounds_toArray, List.set_cons_zero, List.set_cons_succ])
      refine wpAnyH_done (by kernel_rfl) (Held.tailQ_normal ?_) _
      simp only [Act.put, List.getElem_toArray, List.getElem_cons_zero, List.getElem_cons_succ, List.setIfInBounds_toArray, List.set_cons_zero, List.set_cons_succ]
      have S9w := S9
      have i9 := Still.cell S9.out i4
      clear i4 q4 hS' i3 RX
      go_wp2_with fail
      refine (tget (T4.out.t.still S9.out) x.i WX.out).mono ?_
      rintro e w10 ⟨rfl, s10⟩
      have S10 := hid (S9.out.trans s10)
      clear s10
      obtain ⟨y, hy⟩ : ∃ y, fndT LL x.i = y := ⟨_, rfl⟩
      obtain ⟨ye, hye⟩ : ∃ y, (fndE LL x.i == 0) = y := ⟨_, rfl⟩
      have HY := hid hy
      have HYE := hid hye
      rw [hy, hye]
      clear hy hye
      go_wp2_with (refine wpList_storeW rfl (.tmp 9) (.tmp 67) 77 rfl _ 77 [.int .i64 t0.i, .int .i64 t0.s, .int .i64 t0.t, .int .i64 t0.c.p, .int .i64 t0.c.q, .int .i64 t0.c.r0, .int .i64 t0.c.r1, .int .i64 t0.c.r2, .int .i64 t0.c.r3, .int .i64 t0.c.r4, .int .i64 t0.c.r5, .int .i64 t0.c.r6, .int .i64 t0.c.r7, .int .i64 t0.c.d, .int .i64 t0.d] [.int .i64 y.i, .int .i64 y.s, .int .i64 y.t, .int .i64 y.c.p, .int .i64 y.c.q, .int .i64 y.c.r0, .int .i64 y.c.r1, .int .i64 y.c.r2, .int .i64 y.c.r3, .int .i64 y.c.r4, .int .i64 y.c.r5, .int .i64 y.c.r6, .int .i64 y.c.r7, .int .i64 y.c.d, .int .i64 y.d] I77 (ones y) rfl rfl (new_t _) rfl ?_; intro w11 b11 f11; have B11 := hid b11; have S11 : Hid (Still w4 w11) := hid (Still.next (S10.out.alloc _) f11 (fun k hk => by rw [hk]; exact S10.out.size)); have i11 : w11.cell? ⟨ab, 1, none⟩ = some (.int .i64 x.i) := (B4.out.still S11.out).cell 1; clear b11 f11)
      refine (rget (T4.out.r.still S11.out) x.i).mono ?_
      rintro e w12 ⟨he, s12⟩
      rw [HY.out, HYE.out] at he
      subst he
      have S12 := hid (S11.out.trans s12)
      have B12 := hid (B11.out.still s12)
      clear s12
      have NE := neq80 y
      go_wp2_with (first
        | (refine wpList_storeW rfl (.tmp 11) (.tmp 74) 80 rfl _ 80 [.int .i64 t0.i, .int .i64 t0.s, .int .i64 t0.t, .int .i64 t0.c.p, .int .i64 t0.c.q, .int .i64 t0.c.r0, .int .i64 t0.c.r1, .int .i64 t0.c.r2, .int .i64 t0.c.r3, .int .i64 t0.c.r4, .int .i64 t0.c.r5, .int .i64 t0.c.r6, .int .i64 t0.c.r7, .int .i64 t0.c.d, .int .i64 t0.d] [.int .i64 y.i, .int .i64 y.s, .int .i64 y.t, .int .i64 y.c.p, .int .i64 y.c.q, .int .i64 y.c.r0, .int .i64 y.c.r1, .int .i64 y.c.r2, .int .i64 y.c.r3, .int .i64 y.c.r4, .int .i64 y.c.r5, .int .i64 y.c.r6, .int .i64 y.c.r7, .int .i64 y.c.d, .int .i64 y.d] I80 (ones y) rfl rfl (new_r _) rfl ?_; intro w13 b13 f13; have B13 := hid b13; have S13 : Hid (Still w4 w13) := hid (Still.next (S12.out.alloc _) f13 (fun k hk => by rw [hk]; exact S12.out.size)); have C13 := hid ((B12.out.alloc _).fr f13 (by have := B12.out.lt; omega)); clear b13 f13)
        | (refine wpList_loadW rfl (.tmp 9) 77 rfl _ Tryd.underlying77 rfl _ 77 [.int .i64 y.i, .int .i64 y.s, .int .i64 y.t, .int .i64 y.c.p, .int .i64 y.c.q, .int .i64 y.c.r0, .int .i64 y.c.r1, .int .i64 y.c.r2, .int .i64 y.c.r3, .int .i64 y.c.r4, .int .i64 y.c.r5, .int .i64 y.c.r6, .int .i64 y.c.r7, .int .i64 y.c.d, .int .i64 y.d] I77 rfl C13.out ?_)
        | (refine wpList_loadW rfl (.tmp 11) 80 rfl _ Tryd.underlying80 rfl _ 80 [.int .i64 y.i, .int .i64 y.s, .int .i64 y.t, .int .i64 y.c.p, .int .i64 y.c.q, .int .i64 y.c.r0, .int .i64 y.c.r1, .int .i64 y.c.r2, .int .i64 y.c.r3, .int .i64 y.c.r4, .int .i64 y.c.r5, .int .i64 y.c.r6, .int .i64 y.c.r7, .int .i64 y.c.d, .int .i64 y.d] I80 rfl B13.out ?_))
      go_roundw
      case rel => exact ⟨j + 1, s4, LL, upO O w3 w4, by go_num, by omega, hid (T4.out.still S13.out), FT4, hid (SW4.out.trans S13.out)⟩
      case measure => simp [intOf]; omega
    · have hlt' : ¬ (j : Int) < (n : Int) := by omega
      go_wp2_with (go_at_call 40; refine (tlives _ (HT.out.still S1.out) (HC.out.still S1.out)).mono ?_; rintro e w' ⟨rfl, hs2⟩)
      go_ret
      exact ⟨rfl, S1.out.trans hs2⟩
theorem threadActs (w : World) (hT : TabD w) (hC : TabT w) (x : Int) (a : Option Addr) (n c : Nat) (F : Nat → LAct) (hF : IsLActs w a n c F) : Calls Tryd.prog 9 #[.int .i64 x, .slice a n c] w fun e w' => e = .returned (.bool true) ∧ Still w w' := by
  by_cases hn : 100 < n
  · exact threadActs_big w hT hC x a n c hn
  · by_cases hx : x < 1 ∨ 32 < x
    · exact threadActs_no w hT hC x a n c (by omega) hx
    · obtain ⟨k, rfl⟩ : ∃ k : Nat, x = (k : Int) := ⟨x.toNat, by omega⟩
      exact threadActs_ok w hT hC k a n c F hF (by omega) (by omega) (by omega)
end Go.Proofs.YtffjaaolcphonaaDoor
