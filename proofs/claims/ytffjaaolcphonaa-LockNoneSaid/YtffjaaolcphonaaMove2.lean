/- The links' Move, where something stands in the list. -/
import Derived.Test.YtffjaaolcphonaaInv
import Derived.Test.YtffjaaolcphonaaFix2
namespace Go.Proofs.Ytffjaaolcphonaa
open Go.RowKit Go.Shelf
attribute [local go_sem] Oper.semAt_some

theorem wpIn_abs {F : Fence} {n : Nat} {P : Program} {c : Code} {Q : Exit → Act → World → Prop} {a : Act} {w : World} (R : World → Prop) (h : R w) (hk : ∀ w', R w' → c.wpIn F n P Q a w') : c.wpIn F n P Q a w := hk w h

/-- Between the steps behind the loop. -/
structure MSt (B : LB) (W0 : World) (D : Nat) (r : Raw) (W : World) : Prop where
  raw : RawAt W B r
  fr : Fr B.foot W0 W
  d : W.heap[D]? = some (.deferred (some []))
  lt : ∀ k, B.foot k → k < W0.heap.size
  le : W0.heap.size ≤ D
theorem MSt.drew {B : LB} {W0 : World} {D : Nat} {r : Raw} {W : World} (h : MSt B W0 D r W) : MSt B W0 D r W.drew := ⟨h.raw.drew, h.fr.drew, h.d, h.lt, h.le⟩
theorem MSt.drewN {B : LB} {W0 : World} {D : Nat} {r : Raw} {W : World} (h : MSt B W0 D r W) (n : Nat) : MSt B W0 D r (W.drewN n) := ⟨h.raw.still ((Fr.refl _ _).drewN n), h.fr.drewN n, h.d, h.lt, h.le⟩
theorem MSt.put {B : LB} {W0 : World} {D : Nat} {r r' : Raw} {W : World} (h : MSt B W0 D r W) {b i : Nat} {v : Value} (hb : B.foot b) (hr : RawAt (W.setCell ⟨b, i, none⟩ v) B r') : MSt B W0 D r' (W.setCell ⟨b, i, none⟩ v) :=
  ⟨hr, h.fr.setCell (.inl hb) _, (Below.heap_setCell W ⟨b, i, none⟩ v D (by have := h.lt b hb; have := h.le; simp only []; omega)).trans h.d, h.lt, h.le⟩
theorem MSt.setN {B : LB} {W0 : World} {D : Nat} {r : Raw} {W : World} (h : MSt B W0 D r W) (i : Nat) (v : Int) : MSt B W0 D { r with next := r.next.set i v } (W.setCell ⟨B.n, i, none⟩ (.int .i64 v)) := h.put (by simp [LB.foot]) (h.raw.setN i v)
theorem MSt.setB {B : LB} {W0 : World} {D : Nat} {r : Raw} {W : World} (h : MSt B W0 D r W) (i : Nat) (v : Int) : MSt B W0 D { r with back := r.back.set i v } (W.setCell ⟨B.b, i, none⟩ (.int .i64 v)) := h.put (by simp [LB.foot]) (h.raw.setB i v)
theorem MSt.setC {B : LB} {W0 : World} {D : Nat} {r : Raw} {W : World} (h : MSt B W0 D r W) (i : Nat) (v : Int) : MSt B W0 D { r with count := r.count.set i v } (W.setCell ⟨B.c, i, none⟩ (.int .i64 v)) := h.put (by simp [LB.foot]) (h.raw.setC i v)
theorem MSt.box {B : LB} {W0 : World} {D : Nat} {r : Raw} {W : World} (h : MSt B W0 D r W) {b : Nat} {v : Value} {T : TypeId} (hb : Box W0 b v T) (hn : ¬ B.foot b) : W.cell? ⟨b, 0, none⟩ = some v := Box.c (Blk.fr hb h.fr hn)

theorem Still.drewN {a w : World} (h : Still a w) (n : Nat) : Still a (w.drewN n) := Fr.drewN h n
/-- Two new boxes. -/
theorem lay2 (w : World) (v1 v2 : Value) (T1 T2 : TypeId) :
    let W := (w.alloc (.cells #[v1] T1)).alloc (.cells #[v2] T2)
    Still w W ∧ Box W w.heap.size v1 T1 ∧ Box W (w.heap.size + 1) v2 T2 := by
  have g1 := (box_new w v1 T1).alloc (.cells #[v2] T2)
  have g2 := box_new (w.alloc (.cells #[v1] T1)) v2 T2
  simp only [World.size_alloc] at g2
  exact ⟨((Still.refl w).alloc _).alloc _, g1, g2⟩
set_option maxRecDepth 100000 in
set_option maxHeartbeats 4000000 in
theorem move_ok (w : World) (B : LB) (r : Raw) (h : RawAt w B r) (f t : Nat) (xs : List Nat) (a z la n c _q0 : Nat) (hf : f < r.count.length) (ht : t < r.count.length) (hft : f ≠ t)
    (hn : r.count.getD f 0 = (n : Int)) (hn0 : 0 < n) (hn1 : n ≤ 4096) (hc : r.count.getD t 0 = (c : Int)) (hc1 : c ≤ 4096) (ha : r.next.getD (r.things + f) 0 = (a : Int)) (hz : r.back.getD (r.things + f) 0 = (z : Int)) (hla : r.back.getD (r.things + t) 0 = (la : Int))
    (ha' : a < r.next.length) (hz' : z < r.next.length) (hla' : la < r.next.length) (hL : Seq r.next (r.things + f) a xs) (hx : ∀ x ∈ xs, x < r.things) :
    Calls Try.prog 24 #[.pointer (some ⟨B.p, 0, none⟩), .int .i64 f, .int .i64 t] w fun e w' => e = .returned (.tuple #[.int .i64 n, .int .i64 0]) ∧ RawAt w' B (r.mv f t xs a z la n c) ∧ Fr B.foot w w' := by
  have HV : Hid (moveE r f t = 0) := hid (by unfold moveE; rw [if_pos ⟨⟨by omega, by omega⟩, by omega, by omega⟩, if_neg (by omega)])
  have ln := h.lnext
  have m1 := h.m1
  obtain ⟨p, hp⟩ : ∃ p, r.things + f = p := ⟨_, rfl⟩
  obtain ⟨q, hq⟩ : ∃ q, r.things + t = q := ⟨_, rfl⟩
  have hp1 : p < r.next.length := by omega
  have hq1 : q < r.next.length := by omega
  have hp2 : (p : Int) < (r.next.length : Int) := by omega
  have hq2 : (q : Int) < (r.next.length : Int) := by omega
  have hf2 : (f : Int) < (r.count.length : Int) := by omega
  have ht2 : (t : Int) < (r.count.length : Int) := by omega
  have hne : ((n : Int) == 0) = false := by simp; omega
  rw [hp] at ha hz hL
  rw [hq] at hla
  have HP := hid hp
  have HQ := hid hq
  have HN := hid hn
  have HC := hid hc
  have HA := hid ha
  have HZ := hid hz
  have HLA := hid hla
  have HL := hid hL
  have HX := hid hx
  clear hn hc ha hz hla hL hx hp hq ln
  refine (callsIn_wide (n := 4)).1 ?_
  refine callsIn_of_wp_marks Try.func24 rfl trivial ?_ rfl
  simp only [Try.ntmps24, List.size_toArray, List.length_cons, List.length_nil, Nat.reduceAdd, Nat.reduceSub, Array.replicate_succ, Array.replicate_zero, List.push_toArray, List.append_toArray, List.nil_append, List.cons_append]
  gi_wp2_with fail
  refine ⟨trivial, callsIn_wide.2 ?_⟩
  refine calls_abs (fun W => Still w W ∧ Box W w.heap.size (.pointer (some ⟨B.p, 0, none⟩)) 23 ∧ Box W (w.heap.size + 1) (.int .i64 f) 3 ∧ Box W (w.heap.size + 1 + 1) (.int .i64 t) 3 ∧ Blk W (w.heap.size + 1 + 1 + 1) [_, _] 123) (lay4 w _ _ _ _ _ _ _ _ _) ?_
  rintro W ⟨hS, g1, g2, g3, g4⟩
  refine (move_first W B r (h.still hS) f t _ _ _ _ _ g1 g2 g3 g4).mono ?_
  rw [HV.out]
  rintro e w1 ⟨rfl, hs⟩
  have c1 := (g1.still hs).c
  have c2 := (g2.still hs).c
  have c3 := (g3.still hs).c
  have h1 := ((h.still hS).still hs)
  have F4 := h1.f4
  have C : w1.cell? ⟨B.c, f, none⟩ = some (.int .i64 n) := by rw [h1.hc.cell hf, HN.out]
  gi_wp2_with fail
  refine wpIn_wide.2 ?_
  go_quiet (fail)
  gi_wp2_with fail
  refine wpIn_wide.2 ?_
  go_quiet (fail)
  gi_wp2_with (refine ⟨trivial, ?_⟩; gi_at_call 78; refine (callsIn_wide.2 (all_any _ _ _)).mono ?_; rintro e w' ⟨rfl, rfl⟩)
  have key : ∀ n1 : Nat, let W0 := ((w1.drewN n1).alloc (.cells #[.pointer (some ⟨B.p, 0, none⟩)] 23)).alloc (.cells #[.int .i64 (f : Int)] 3)
      RawAt W0 B r ∧ Box W0 w.heap.size (.pointer (some ⟨B.p, 0, none⟩)) 23 ∧ Box W0 (w.heap.size + 1) (.int .i64 f) 3 ∧ Box W0 (w.heap.size + 1 + 1) (.int .i64 t) 3 ∧
      Box W0 w1.heap.size (.pointer (some ⟨B.p, 0, none⟩)) 23 ∧ Box W0 (w1.heap.size + 1) (.int .i64 f) 3 ∧ Still w W0 ∧ W0.heap.size = w1.heap.size + 1 + 1 := by
    intro n1
    have hs' : Still W (w1.drewN n1) := hs.drewN n1
    have l2 := lay2 (w1.drewN n1) (.pointer (some ⟨B.p, 0, none⟩)) (.int .i64 f) 23 3
    exact ⟨(h.still hS).still (hs'.trans l2.1), g1.still (hs'.trans l2.1), g2.still (hs'.trans l2.1), g3.still (hs'.trans l2.1), l2.2.1, l2.2.2, hS.trans (hs'.trans l2.1), by simp only [World.size_alloc]; rfl⟩
  refine wpIn_abs (fun W0 => RawAt W0 B r ∧ Box W0 w.heap.size (.pointer (some ⟨B.p, 0, none⟩)) 23 ∧ Box W0 (w.heap.size + 1) (.int .i64 f) 3 ∧ Box W0 (w.heap.size + 1 + 1) (.int .i64 t) 3 ∧
    Box W0 w1.heap.size (.pointer (some ⟨B.p, 0, none⟩)) 23 ∧ Box W0 (w1.heap.size + 1) (.int .i64 f) 3 ∧ Still w W0 ∧ W0.heap.size = w1.heap.size + 1 + 1) (key _) ?_
  clear key
  clear c1 c2 c3 F4 C h1 g4
  have hsz1 := hS.size
  have hsz2 := hs.size
  have hlt := g3.lt
  clear g1 g2 g3
  rintro W0 ⟨hR0, g1, g2, g3, bP, bF, hSt, hWs⟩
  have hpl := h.hp.lt
  have hnl := h.hn.lt
  have hbl := h.hb.lt
  have hll := h.hl.lt
  have hcl := h.hc.lt
  have hmx : Try.prog.follows .mixedOrders = true := by kernel_rfl
  refine range_one (n := r.things) (xs := xs) rfl (by simp) (all_stops W0 w1.heap.size (w1.heap.size + 1) f r.things B r xs bP bF hR0 hf a (HP.out ▸ HA.out) (HP.out ▸ HL.out) HX.out) Kb.trans (kb_b (fun k hk => by simp only [aK] at hk; omega))
    (fun pre W => RawAt W B { r with list := pre.foldl (fun l x => l.set x (t : Int)) r.list } ∧ Fr B.foot W0 W)
    ?own ⟨hR0, Fr.refl _ _⟩ ?body ?done
  case own =>
    rintro pre A A' row ⟨h1, h2⟩ hg hrow
    have hfr : Fr (fun k => some k = row) A A' := Fr.of_grownBy hg (fun k e _ => e.symm)
    refine ⟨h1.fr hfr ?_, h2.then hfr ?_⟩
    · rintro k hk hk2
      have := (hrow k hk2.symm).1
      simp only [LB.foot] at hk
      omega
    · rintro k hk hk2
      have := (hrow k hk2.symm).1
      omega
  case body =>
    rintro l pre x W ⟨h1, h2⟩ hlen hxt
    simp only [List.setIfInBounds_toArray, List.set_cons_succ, List.set_cons_zero]
    have e1 := (Blk.fr g1 h2 (by simp only [LB.foot]; omega)).cell 0
    have e3 := (Blk.fr g3 h2 (by simp only [LB.foot]; omega)).cell 0
    simp only [List.getElem?_cons_zero] at e1 e3
    have F3 := h1.f3
    have hll' := h1.llist
    have hxt' : (x : Int) < (r.things : Int) := by omega
    have C3 : _ = some (Value.int .i64 _) := h1.hl.cell (i := x) (by rw [hll']; exact hxt)
    have Z3 := h1.zl x
    clear hll'
    gi_wp2
    gi_region_with_o (fail)
    all_goals gi_wp2
    all_goals
      refine ⟨rfl, ((KeepsOthers.setCell _ _ _).trans (KeepsOthers.drew _)).from _, ?_, ?_, ?_⟩
      · exact Kb.of_fr (((Fr.refl (fun k => k = B.l) W).setCell (.inl rfl) _).drew) (fun k hk => ⟨by have := h2.size; simp only [aK] at hk; omega, by have := h.pl; have := h.nl; simp only [aK] at hk; omega⟩)
      · rw [List.foldl_append]; exact (h1.setL x t).drew
      · exact (h2.setCell (.inl (by simp [LB.foot])) _).drew
  case done =>
    rintro D W hD ⟨h1, h2⟩ hK
    have n1 : ¬ B.foot w.heap.size := by simp only [LB.foot]; omega
    have n2 : ¬ B.foot (w.heap.size + 1) := by simp only [LB.foot]; omega
    have n3 : ¬ B.foot (w.heap.size + 1 + 1) := by simp only [LB.foot]; omega
    have t1 := h.t1
    have L1 : (la : Int) < (r.next.length : Int) := by omega
    have L2 : (a : Int) < (r.next.length : Int) := by omega
    have L3 : (z : Int) < (r.next.length : Int) := by omega
    have lbk : p < r.back.length ∧ q < r.back.length ∧ la < r.back.length ∧ z < r.back.length ∧ a < r.back.length := by have := h.lback; have := h.lnext; omega
    obtain ⟨b1, b2, b3, b4, b5⟩ := lbk
    have s0 : MSt B W0 D { r with list := xs.foldl (fun l x => l.set x (t : Int)) r.list } W := ⟨h1, h2, hK, by intro k hk; simp only [LB.foot] at hk; omega, hD⟩
    have e1 := s0.box g1 n1
    have e2 := s0.box g2 n2
    have F0 := s0.raw.f0
    have F1 := s0.raw.f1
    have F2 := s0.raw.f2
    have Ca : W.cell? ⟨B.n, p, none⟩ = some (.int .i64 a) := by rw [h1.hn.cell hp1]; exact congrArg (fun x => some (Value.int .i64 x)) HA.out
    have Cz : W.cell? ⟨B.b, p, none⟩ = some (.int .i64 z) := by rw [h1.hb.cell b1]; exact congrArg (fun x => some (Value.int .i64 x)) HZ.out
    gi_wp2_with fail
    refine wpIn_wide.2 ?_
    go_quiet ((go_at_call 77; exact Calls.quiet_of_same (calls_flip (end_cell _ B.p r.things f p F0 HP.out (by omega) t1))))
    clear e1 e2 F0 F1 F2 Ca Cz
    gi_wp2_with fail
    refine wpIn_abs (MSt B W0 D { r with list := xs.foldl (fun l x => l.set x (t : Int)) r.list }) (s0.drewN _) ?_
    clear s0 h1 h2 hK
    intro W2 s0
    have e1 := s0.box g1 n1
    have e3 := s0.box g3 n3
    have F0 := s0.raw.f0
    have F2 := s0.raw.f2
    have Cl : W2.cell? ⟨B.b, q, none⟩ = some (.int .i64 la) := by rw [s0.raw.hb.cell b2]; exact congrArg (fun x => some (Value.int .i64 x)) HLA.out
    refine wpIn_wide.2 ?_
    go_quiet ((go_at_call 77; exact Calls.quiet_of_same (calls_flip (end_cell _ B.p r.things t q F0 HQ.out (by omega) t1))))
    clear e1 e3 F0 F2 Cl
    gi_wp2_with fail
    refine wpIn_abs (MSt B W0 D { r with list := xs.foldl (fun l x => l.set x (t : Int)) r.list }) (s0.drewN _) ?_
    clear s0
    intro W3 s0
    obtain ⟨l0, hl0⟩ : ∃ l0, xs.foldl (fun l x => l.set x (t : Int)) r.list = l0 := ⟨_, rfl⟩
    rw [hl0] at s0
    have hfac : ∀ (r' : Raw) W, r'.things = r.things ∧ r'.next.length = r.next.length ∧ r'.back.length = r.back.length ∧ r'.count.length = r.count.length → MSt B W0 D r' W → W.cell? ⟨w.heap.size, 0, none⟩ = some (.pointer (some ⟨B.p, 0, none⟩)) ∧ W.cell? ⟨w.heap.size + 1, 0, none⟩ = some (.int .i64 (f : Int)) ∧ W.cell? ⟨w.heap.size + 1 + 1, 0, none⟩ = some (.int .i64 (t : Int)) ∧ W.cell? ⟨B.p, 0, none⟩ = some (.int .i64 (r.things : Int)) ∧
        W.cell? ⟨B.p, 1, none⟩ = some (.slice (some ⟨B.n, 0, none⟩) r.next.length B.kn) ∧ W.cell? ⟨B.p, 2, none⟩ = some (.slice (some ⟨B.b, 0, none⟩) r.next.length B.kb) ∧ W.cell? ⟨B.p, 4, none⟩ = some (.slice (some ⟨B.c, 0, none⟩) r.count.length B.kc) := by
      rintro r' W ⟨ht, hn, hb, hc⟩ h
      have a1 := h.raw.f0
      have a2 := h.raw.f1
      have a3 := h.raw.f2
      have a4 := h.raw.f4
      rw [ht] at a1
      rw [hn] at a2 a3
      rw [hc] at a4
      exact ⟨h.box g1 n1, h.box g2 n2, h.box g3 n3, a1, a2, a3, a4⟩
    have HF := hid hfac
    clear hfac g1 g2 g3 n1 n2 n3
    obtain ⟨rk, hrk⟩ : ∃ rk : Nat → Raw, rk = fun k => match k with
      | 0 => { r with list := l0 }
      | 1 => { r with list := l0, next := r.next.set la a }
      | _ => { r with list := l0, next := r.next.set la a, back := r.back.set a la } := ⟨_, rfl⟩
    have hrt : ∀ k, (rk k).things = r.things ∧ (rk k).next.length = r.next.length ∧ (rk k).back.length = r.back.length ∧ (rk k).count.length = r.count.length := by
      intro k; subst hrk; match k with
      | 0 => exact ⟨rfl, by simp, by simp, by simp⟩
      | 1 => exact ⟨rfl, by simp, by simp, by simp⟩
      | k + 2 => exact ⟨rfl, by simp, by simp, by simp⟩
    refine wpIn_wide.2 ?_
    refine Fix.wp_region_fix [13, 15] (fun k W => MSt B W0 D (rk k) W) (by kernel_rfl) (by kernel_rfl) (by subst hrk; exact s0.drew) ?_
    generalize hops : List.toArray _ = ops
    refine Fix.fix_plain (v := ?v1) (by kernel_rfl) (fun _ W hk hC K hK => ?h1_1) (fun K hK => ?h2_1)
    case h1_1 =>
      obtain ⟨e1, e2, e3, F0, F1, F2, F4⟩ := HF.out _ W (hrt _) hC
      go_simp
      exact hK _ hC
    go_simp
    refine hK _ ?_
    clear hK K
    refine Fix.fix_plain (v := ?v2) (by kernel_rfl) (fun _ W hk hC K hK => ?h1_2) (fun K hK => ?h2_2)
    case h1_2 =>
      obtain ⟨e1, e2, e3, F0, F1, F2, F4⟩ := HF.out _ W (hrt _) hC
      go_simp
      exact hK _ hC
    go_simp
    refine hK _ ?_
    clear hK K
    refine Fix.fix_plain (v := ?v3) (by kernel_rfl) (fun _ W hk hC K hK => ?h1_3) (fun K hK => ?h2_3)
    case h1_3 =>
      obtain ⟨e1, e2, e3, F0, F1, F2, F4⟩ := HF.out _ W (hrt _) hC
      go_simp
      exact hK _ hC
    go_simp
    refine hK _ ?_
    clear hK K
    refine Fix.fix_plain (v := ?v4) (by kernel_rfl) (fun _ W hk hC K hK => ?h1_4) (fun K hK => ?h2_4)
    case h1_4 =>
      obtain ⟨e1, e2, e3, F0, F1, F2, F4⟩ := HF.out _ W (hrt _) hC
      go_simp
      exact hK _ hC
    go_simp
    refine hK _ ?_
    clear hK K
    refine Fix.fix_plain (v := ?v5) (by kernel_rfl) (fun _ W hk hC K hK => ?h1_5) (fun K hK => ?h2_5)
    case h1_5 =>
      obtain ⟨e1, e2, e3, F0, F1, F2, F4⟩ := HF.out _ W (hrt _) hC
      go_simp
      exact hK _ hC
    go_simp
    refine hK _ ?_
    clear hK K
    refine Fix.fix_plain (v := ?v6) (by kernel_rfl) (fun _ W hk hC K hK => ?h1_6) (fun K hK => ?h2_6)
    case h1_6 =>
      obtain ⟨e1, e2, e3, F0, F1, F2, F4⟩ := HF.out _ W (hrt _) hC
      go_simp
      exact hK _ hC
    go_simp
    refine hK _ ?_
    clear hK K
    refine Fix.fix_plain (v := ?v7) (by kernel_rfl) (fun _ W hk hC K hK => ?h1_7) (fun K hK => ?h2_7)
    case h1_7 =>
      obtain ⟨e1, e2, e3, F0, F1, F2, F4⟩ := HF.out _ W (hrt _) hC
      go_simp
      exact hK _ hC
    go_simp
    refine hK _ ?_
    clear hK K
    refine Fix.fix_plain (v := ?v8) (by kernel_rfl) (fun _ W hk hC K hK => ?h1_8) (fun K hK => ?h2_8)
    case h1_8 =>
      obtain ⟨e1, e2, e3, F0, F1, F2, F4⟩ := HF.out _ W (hrt _) hC
      go_simp
      exact hK _ hC
    go_simp
    refine hK _ ?_
    clear hK K
    refine Fix.fix_plain (v := ?v9) (by kernel_rfl) (fun _ W hk hC K hK => ?h1_9) (fun K hK => ?h2_9)
    case h1_9 =>
      obtain ⟨e1, e2, e3, F0, F1, F2, F4⟩ := HF.out _ W (hrt _) hC
      go_simp
      exact hK _ hC
    go_simp
    refine hK _ ?_
    clear hK K
    refine Fix.fix_plain (v := ?v10) (by kernel_rfl) (fun _ W hk hC K hK => ?h1_10) (fun K hK => ?h2_10)
    case h1_10 =>
      obtain ⟨e1, e2, e3, F0, F1, F2, F4⟩ := HF.out _ W (hrt _) hC
      go_simp
      exact hK _ hC
    go_simp
    refine hK _ ?_
    clear hK K
    refine Fix.fix_plain (v := ?v11) (by kernel_rfl) (fun _ W hk hC K hK => ?h1_11) (fun K hK => ?h2_11)
    case h1_11 =>
      obtain ⟨e1, e2, e3, F0, F1, F2, F4⟩ := HF.out _ W (hrt _) hC
      go_simp
      exact hK _ hC
    go_simp
    refine hK _ ?_
    clear hK K
    refine Fix.fix_plain (v := ?v12) (by kernel_rfl) (fun _ W hk hC K hK => ?h1_12) (fun K hK => ?h2_12)
    case h1_12 =>
      obtain ⟨e1, e2, e3, F0, F1, F2, F4⟩ := HF.out _ W (hrt _) hC
      go_simp
      exact hK _ hC
    go_simp
    refine hK _ ?_
    clear hK K
    refine Fix.fix_plain (v := ?v13) (by kernel_rfl) (fun _ W hk hC K hK => ?h1_13) (fun K hK => ?h2_13)
    case h1_13 =>
      obtain ⟨e1, e2, e3, F0, F1, F2, F4⟩ := HF.out _ W (hrt _) hC
      go_simp
      exact hK _ hC
    go_simp
    refine hK _ ?_
    clear hK K
    refine Fix.fix_store (v := ?v14) 0 (by kernel_rfl) (fun W hC K hK => ?h1_14) (fun K hK => ?h2_14)
    case h1_14 =>
      have C1 : W.cell? ⟨B.n, la, none⟩ = some _ := hC.raw.hn.cell (by rw [(hrt 0).2.1]; exact hla')
      have Z1 := hC.raw.zn la
      go_simp
      refine hK _ ?_
      clear hK K
      subst hrk; exact hC.setN la a
    go_simp
    refine hK _ ?_
    clear hK K
    refine Fix.fix_plain (v := ?v15) (by kernel_rfl) (fun _ W hk hC K hK => ?h1_15) (fun K hK => ?h2_15)
    case h1_15 =>
      obtain ⟨e1, e2, e3, F0, F1, F2, F4⟩ := HF.out _ W (hrt _) hC
      go_simp
      exact hK _ hC
    go_simp
    refine hK _ ?_
    clear hK K
    refine Fix.fix_store (v := ?v16) 1 (by kernel_rfl) (fun W hC K hK => ?h1_16) (fun K hK => ?h2_16)
    case h1_16 =>
      have C1 : W.cell? ⟨B.b, a, none⟩ = some _ := hC.raw.hb.cell (by rw [(hrt 1).2.2.1]; exact b5)
      have Z1 := hC.raw.zb a
      go_simp
      refine hK _ ?_
      clear hK K
      subst hrk; exact hC.setB a la
    go_simp
    refine hK _ ?_
    clear hK K
    refine Fix.fix_nil (fun W4 s0 => ?_)
    replace s0 : MSt B W0 D { r with list := l0, next := r.next.set la a, back := r.back.set a la } W4 := by subst hrk; exact s0
    clear hops hrt hrk rk ops
    gi_wp2_with fail
    obtain ⟨rk, hrk⟩ : ∃ rk : Nat → Raw, rk = fun k => match k with
      | 0 => { r with list := l0, next := r.next.set la a, back := r.back.set a la }
      | 1 => { r with list := l0, next := (r.next.set la a).set z q, back := r.back.set a la }
      | _ => { r with list := l0, next := (r.next.set la a).set z q, back := (r.back.set a la).set q z } := ⟨_, rfl⟩
    have hrt : ∀ k, (rk k).things = r.things ∧ (rk k).next.length = r.next.length ∧ (rk k).back.length = r.back.length ∧ (rk k).count.length = r.count.length := by
      intro k; subst hrk; match k with
      | 0 => exact ⟨rfl, by simp, by simp, by simp⟩
      | 1 => exact ⟨rfl, by simp, by simp, by simp⟩
      | k + 2 => exact ⟨rfl, by simp, by simp, by simp⟩
    refine wpIn_wide.2 ?_
    refine Fix.wp_region_fix [17, 19] (fun k W => MSt B W0 D (rk k) W) (by kernel_rfl) (by kernel_rfl) (by subst hrk; exact s0.drew) ?_
    generalize hops : List.toArray _ = ops
    refine Fix.fix_plain (v := ?v17) (by kernel_rfl) (fun _ W hk hC K hK => ?h1_17) (fun K hK => ?h2_17)
    case h1_17 =>
      obtain ⟨e1, e2, e3, F0, F1, F2, F4⟩ := HF.out _ W (hrt _) hC
      go_simp
      exact hK _ hC
    go_simp
    refine hK _ ?_
    clear hK K
    refine Fix.fix_plain (v := ?v18) (by kernel_rfl) (fun _ W hk hC K hK => ?h1_18) (fun K hK => ?h2_18)
    case h1_18 =>
      obtain ⟨e1, e2, e3, F0, F1, F2, F4⟩ := HF.out _ W (hrt _) hC
      go_simp
      exact hK _ hC
    go_simp
    refine hK _ ?_
    clear hK K
    refine Fix.fix_plain (v := ?v19) (by kernel_rfl) (fun _ W hk hC K hK => ?h1_19) (fun K hK => ?h2_19)
    case h1_19 =>
      obtain ⟨e1, e2, e3, F0, F1, F2, F4⟩ := HF.out _ W (hrt _) hC
      go_simp
      exact hK _ hC
    go_simp
    refine hK _ ?_
    clear hK K
    refine Fix.fix_plain (v := ?v20) (by kernel_rfl) (fun _ W hk hC K hK => ?h1_20) (fun K hK => ?h2_20)
    case h1_20 =>
      obtain ⟨e1, e2, e3, F0, F1, F2, F4⟩ := HF.out _ W (hrt _) hC
      go_simp
      exact hK _ hC
    go_simp
    refine hK _ ?_
    clear hK K
    refine Fix.fix_plain (v := ?v21) (by kernel_rfl) (fun _ W hk hC K hK => ?h1_21) (fun K hK => ?h2_21)
    case h1_21 =>
      obtain ⟨e1, e2, e3, F0, F1, F2, F4⟩ := HF.out _ W (hrt _) hC
      go_simp
      exact hK _ hC
    go_simp
    refine hK _ ?_
    clear hK K
    refine Fix.fix_plain (v := ?v22) (by kernel_rfl) (fun _ W hk hC K hK => ?h1_22) (fun K hK => ?h2_22)
    case h1_22 =>
      obtain ⟨e1, e2, e3, F0, F1, F2, F4⟩ := HF.out _ W (hrt _) hC
      go_simp
      exact hK _ hC
    go_simp
    refine hK _ ?_
    clear hK K
    refine Fix.fix_plain (v := ?v23) (by kernel_rfl) (fun _ W hk hC K hK => ?h1_23) (fun K hK => ?h2_23)
    case h1_23 =>
      obtain ⟨e1, e2, e3, F0, F1, F2, F4⟩ := HF.out _ W (hrt _) hC
      go_simp
      exact hK _ hC
    go_simp
    refine hK _ ?_
    clear hK K
    refine Fix.fix_plain (v := ?v24) (by kernel_rfl) (fun _ W hk hC K hK => ?h1_24) (fun K hK => ?h2_24)
    case h1_24 =>
      obtain ⟨e1, e2, e3, F0, F1, F2, F4⟩ := HF.out _ W (hrt _) hC
      go_simp
      exact hK _ hC
    go_simp
    refine hK _ ?_
    clear hK K
    refine Fix.fix_plain (v := ?v25) (by kernel_rfl) (fun _ W hk hC K hK => ?h1_25) (fun K hK => ?h2_25)
    case h1_25 =>
      obtain ⟨e1, e2, e3, F0, F1, F2, F4⟩ := HF.out _ W (hrt _) hC
      go_simp
      exact hK _ hC
    go_simp
    refine hK _ ?_
    clear hK K
    refine Fix.fix_plain (v := ?v26) (by kernel_rfl) (fun _ W hk hC K hK => ?h1_26) (fun K hK => ?h2_26)
    case h1_26 =>
      obtain ⟨e1, e2, e3, F0, F1, F2, F4⟩ := HF.out _ W (hrt _) hC
      go_simp
      exact hK _ hC
    go_simp
    refine hK _ ?_
    clear hK K
    refine Fix.fix_plain (v := ?v27) (by kernel_rfl) (fun _ W hk hC K hK => ?h1_27) (fun K hK => ?h2_27)
    case h1_27 =>
      obtain ⟨e1, e2, e3, F0, F1, F2, F4⟩ := HF.out _ W (hrt _) hC
      go_simp
      exact hK _ hC
    go_simp
    refine hK _ ?_
    clear hK K
    refine Fix.fix_plain (v := ?v28) (by kernel_rfl) (fun _ W hk hC K hK => ?h1_28) (fun K hK => ?h2_28)
    case h1_28 =>
      go_simp
      obtain ⟨e1, e2, e3, F0, F1, F2, F4⟩ := HF.out _ W (hrt _) hC
      refine (end_cell _ B.p r.things t q F0 HQ.out (by omega) t1).mono ?_
      intro e w' hh
      have h1 := hh.1
      have h2 := hh.2
      subst h1
      subst h2
      refine ⟨_, rfl, ?_⟩
      exact hK _ hC
    go_simp
    refine hK _ ?_
    clear hK K
    refine Fix.fix_plain (v := ?v29) (by kernel_rfl) (fun _ W hk hC K hK => ?h1_29) (fun K hK => ?h2_29)
    case h1_29 =>
      obtain ⟨e1, e2, e3, F0, F1, F2, F4⟩ := HF.out _ W (hrt _) hC
      go_simp
      exact hK _ hC
    go_simp
    refine hK _ ?_
    clear hK K
    refine Fix.fix_plain (v := ?v30) (by kernel_rfl) (fun _ W hk hC K hK => ?h1_30) (fun K hK => ?h2_30)
    case h1_30 =>
      obtain ⟨e1, e2, e3, F0, F1, F2, F4⟩ := HF.out _ W (hrt _) hC
      go_simp
      exact hK _ hC
    go_simp
    refine hK _ ?_
    clear hK K
    refine Fix.fix_plain (v := ?v31) (by kernel_rfl) (fun _ W hk hC K hK => ?h1_31) (fun K hK => ?h2_31)
    case h1_31 =>
      go_simp
      obtain ⟨e1, e2, e3, F0, F1, F2, F4⟩ := HF.out _ W (hrt _) hC
      refine (end_cell _ B.p r.things t q F0 HQ.out (by omega) t1).mono ?_
      intro e w' hh
      have h1 := hh.1
      have h2 := hh.2
      subst h1
      subst h2
      refine ⟨_, rfl, ?_⟩
      exact hK _ hC
    go_simp
    refine hK _ ?_
    clear hK K
    refine Fix.fix_plain (v := ?v32) (by kernel_rfl) (fun _ W hk hC K hK => ?h1_32) (fun K hK => ?h2_32)
    case h1_32 =>
      obtain ⟨e1, e2, e3, F0, F1, F2, F4⟩ := HF.out _ W (hrt _) hC
      go_simp
      exact hK _ hC
    go_simp
    refine hK _ ?_
    clear hK K
    refine Fix.fix_plain (v := ?v33) (by kernel_rfl) (fun _ W hk hC K hK => ?h1_33) (fun K hK => ?h2_33)
    case h1_33 =>
      obtain ⟨e1, e2, e3, F0, F1, F2, F4⟩ := HF.out _ W (hrt _) hC
      go_simp
      exact hK _ hC
    go_simp
    refine hK _ ?_
    clear hK K
    refine Fix.fix_store (v := ?v34) 0 (by kernel_rfl) (fun W hC K hK => ?h1_34) (fun K hK => ?h2_34)
    case h1_34 =>
      have C1 : W.cell? ⟨B.n, z, none⟩ = some _ := hC.raw.hn.cell (by rw [(hrt 0).2.1]; exact hz')
      have Z1 := hC.raw.zn z
      go_simp
      refine hK _ ?_
      clear hK K
      subst hrk; exact hC.setN z q
    go_simp
    refine hK _ ?_
    clear hK K
    refine Fix.fix_plain (v := ?v35) (by kernel_rfl) (fun _ W hk hC K hK => ?h1_35) (fun K hK => ?h2_35)
    case h1_35 =>
      obtain ⟨e1, e2, e3, F0, F1, F2, F4⟩ := HF.out _ W (hrt _) hC
      go_simp
      exact hK _ hC
    go_simp
    refine hK _ ?_
    clear hK K
    refine Fix.fix_store (v := ?v36) 1 (by kernel_rfl) (fun W hC K hK => ?h1_36) (fun K hK => ?h2_36)
    case h1_36 =>
      have C1 : W.cell? ⟨B.b, q, none⟩ = some _ := hC.raw.hb.cell (by rw [(hrt 1).2.2.1]; exact b2)
      have Z1 := hC.raw.zb q
      go_simp
      refine hK _ ?_
      clear hK K
      subst hrk; exact hC.setB q z
    go_simp
    refine hK _ ?_
    clear hK K
    refine Fix.fix_nil (fun W5 s0 => ?_)
    replace s0 : MSt B W0 D { r with list := l0, next := (r.next.set la a).set z q, back := (r.back.set a la).set q z } W5 := by subst hrk; exact s0
    clear hops hrt hrk rk ops
    gi_wp2_with fail
    obtain ⟨rk, hrk⟩ : ∃ rk : Nat → Raw, rk = fun k => match k with
      | 0 => { r with list := l0, next := (r.next.set la a).set z q, back := (r.back.set a la).set q z }
      | 1 => { r with list := l0, next := ((r.next.set la a).set z q).set p p, back := (r.back.set a la).set q z }
      | _ => { r with list := l0, next := ((r.next.set la a).set z q).set p p, back := ((r.back.set a la).set q z).set p p } := ⟨_, rfl⟩
    have hrt : ∀ k, (rk k).things = r.things ∧ (rk k).next.length = r.next.length ∧ (rk k).back.length = r.back.length ∧ (rk k).count.length = r.count.length := by
      intro k; subst hrk; match k with
      | 0 => exact ⟨rfl, by simp, by simp, by simp⟩
      | 1 => exact ⟨rfl, by simp, by simp, by simp⟩
      | k + 2 => exact ⟨rfl, by simp, by simp, by simp⟩
    refine wpIn_wide.2 ?_
    refine Fix.wp_region_fix [21, 23] (fun k W => MSt B W0 D (rk k) W) (by kernel_rfl) (by kernel_rfl) (by subst hrk; exact s0.drew) ?_
    generalize hops : List.toArray _ = ops
    refine Fix.fix_plain (v := ?v37) (by kernel_rfl) (fun _ W hk hC K hK => ?h1_37) (fun K hK => ?h2_37)
    case h1_37 =>
      obtain ⟨e1, e2, e3, F0, F1, F2, F4⟩ := HF.out _ W (hrt _) hC
      go_simp
      exact hK _ hC
    go_simp
    refine hK _ ?_
    clear hK K
    refine Fix.fix_plain (v := ?v38) (by kernel_rfl) (fun _ W hk hC K hK => ?h1_38) (fun K hK => ?h2_38)
    case h1_38 =>
      obtain ⟨e1, e2, e3, F0, F1, F2, F4⟩ := HF.out _ W (hrt _) hC
      go_simp
      exact hK _ hC
    go_simp
    refine hK _ ?_
    clear hK K
    refine Fix.fix_plain (v := ?v39) (by kernel_rfl) (fun _ W hk hC K hK => ?h1_39) (fun K hK => ?h2_39)
    case h1_39 =>
      obtain ⟨e1, e2, e3, F0, F1, F2, F4⟩ := HF.out _ W (hrt _) hC
      go_simp
      exact hK _ hC
    go_simp
    refine hK _ ?_
    clear hK K
    refine Fix.fix_plain (v := ?v40) (by kernel_rfl) (fun _ W hk hC K hK => ?h1_40) (fun K hK => ?h2_40)
    case h1_40 =>
      obtain ⟨e1, e2, e3, F0, F1, F2, F4⟩ := HF.out _ W (hrt _) hC
      go_simp
      exact hK _ hC
    go_simp
    refine hK _ ?_
    clear hK K
    refine Fix.fix_plain (v := ?v41) (by kernel_rfl) (fun _ W hk hC K hK => ?h1_41) (fun K hK => ?h2_41)
    case h1_41 =>
      obtain ⟨e1, e2, e3, F0, F1, F2, F4⟩ := HF.out _ W (hrt _) hC
      go_simp
      exact hK _ hC
    go_simp
    refine hK _ ?_
    clear hK K
    refine Fix.fix_plain (v := ?v42) (by kernel_rfl) (fun _ W hk hC K hK => ?h1_42) (fun K hK => ?h2_42)
    case h1_42 =>
      obtain ⟨e1, e2, e3, F0, F1, F2, F4⟩ := HF.out _ W (hrt _) hC
      go_simp
      exact hK _ hC
    go_simp
    refine hK _ ?_
    clear hK K
    refine Fix.fix_plain (v := ?v43) (by kernel_rfl) (fun _ W hk hC K hK => ?h1_43) (fun K hK => ?h2_43)
    case h1_43 =>
      go_simp
      obtain ⟨e1, e2, e3, F0, F1, F2, F4⟩ := HF.out _ W (hrt _) hC
      refine (end_cell _ B.p r.things f p F0 HP.out (by omega) t1).mono ?_
      intro e w' hh
      have h1 := hh.1
      have h2 := hh.2
      subst h1
      subst h2
      refine ⟨_, rfl, ?_⟩
      exact hK _ hC
    go_simp
    refine hK _ ?_
    clear hK K
    refine Fix.fix_plain (v := ?v44) (by kernel_rfl) (fun _ W hk hC K hK => ?h1_44) (fun K hK => ?h2_44)
    case h1_44 =>
      obtain ⟨e1, e2, e3, F0, F1, F2, F4⟩ := HF.out _ W (hrt _) hC
      go_simp
      exact hK _ hC
    go_simp
    refine hK _ ?_
    clear hK K
    refine Fix.fix_plain (v := ?v45) (by kernel_rfl) (fun _ W hk hC K hK => ?h1_45) (fun K hK => ?h2_45)
    case h1_45 =>
      obtain ⟨e1, e2, e3, F0, F1, F2, F4⟩ := HF.out _ W (hrt _) hC
      go_simp
      exact hK _ hC
    go_simp
    refine hK _ ?_
    clear hK K
    refine Fix.fix_plain (v := ?v46) (by kernel_rfl) (fun _ W hk hC K hK => ?h1_46) (fun K hK => ?h2_46)
    case h1_46 =>
      obtain ⟨e1, e2, e3, F0, F1, F2, F4⟩ := HF.out _ W (hrt _) hC
      go_simp
      exact hK _ hC
    go_simp
    refine hK _ ?_
    clear hK K
    refine Fix.fix_plain (v := ?v47) (by kernel_rfl) (fun _ W hk hC K hK => ?h1_47) (fun K hK => ?h2_47)
    case h1_47 =>
      obtain ⟨e1, e2, e3, F0, F1, F2, F4⟩ := HF.out _ W (hrt _) hC
      go_simp
      exact hK _ hC
    go_simp
    refine hK _ ?_
    clear hK K
    refine Fix.fix_plain (v := ?v48) (by kernel_rfl) (fun _ W hk hC K hK => ?h1_48) (fun K hK => ?h2_48)
    case h1_48 =>
      obtain ⟨e1, e2, e3, F0, F1, F2, F4⟩ := HF.out _ W (hrt _) hC
      go_simp
      exact hK _ hC
    go_simp
    refine hK _ ?_
    clear hK K
    refine Fix.fix_plain (v := ?v49) (by kernel_rfl) (fun _ W hk hC K hK => ?h1_49) (fun K hK => ?h2_49)
    case h1_49 =>
      obtain ⟨e1, e2, e3, F0, F1, F2, F4⟩ := HF.out _ W (hrt _) hC
      go_simp
      exact hK _ hC
    go_simp
    refine hK _ ?_
    clear hK K
    refine Fix.fix_plain (v := ?v50) (by kernel_rfl) (fun _ W hk hC K hK => ?h1_50) (fun K hK => ?h2_50)
    case h1_50 =>
      go_simp
      obtain ⟨e1, e2, e3, F0, F1, F2, F4⟩ := HF.out _ W (hrt _) hC
      refine (end_cell _ B.p r.things f p F0 HP.out (by omega) t1).mono ?_
      intro e w' hh
      have h1 := hh.1
      have h2 := hh.2
      subst h1
      subst h2
      refine ⟨_, rfl, ?_⟩
      exact hK _ hC
    go_simp
    refine hK _ ?_
    clear hK K
    refine Fix.fix_plain (v := ?v51) (by kernel_rfl) (fun _ W hk hC K hK => ?h1_51) (fun K hK => ?h2_51)
    case h1_51 =>
      obtain ⟨e1, e2, e3, F0, F1, F2, F4⟩ := HF.out _ W (hrt _) hC
      go_simp
      exact hK _ hC
    go_simp
    refine hK _ ?_
    clear hK K
    refine Fix.fix_plain (v := ?v52) (by kernel_rfl) (fun _ W hk hC K hK => ?h1_52) (fun K hK => ?h2_52)
    case h1_52 =>
      obtain ⟨e1, e2, e3, F0, F1, F2, F4⟩ := HF.out _ W (hrt _) hC
      go_simp
      exact hK _ hC
    go_simp
    refine hK _ ?_
    clear hK K
    refine Fix.fix_plain (v := ?v53) (by kernel_rfl) (fun _ W hk hC K hK => ?h1_53) (fun K hK => ?h2_53)
    case h1_53 =>
      go_simp
      obtain ⟨e1, e2, e3, F0, F1, F2, F4⟩ := HF.out _ W (hrt _) hC
      refine (end_cell _ B.p r.things f p F0 HP.out (by omega) t1).mono ?_
      intro e w' hh
      have h1 := hh.1
      have h2 := hh.2
      subst h1
      subst h2
      refine ⟨_, rfl, ?_⟩
      exact hK _ hC
    go_simp
    refine hK _ ?_
    clear hK K
    refine Fix.fix_plain (v := ?v54) (by kernel_rfl) (fun _ W hk hC K hK => ?h1_54) (fun K hK => ?h2_54)
    case h1_54 =>
      obtain ⟨e1, e2, e3, F0, F1, F2, F4⟩ := HF.out _ W (hrt _) hC
      go_simp
      exact hK _ hC
    go_simp
    refine hK _ ?_
    clear hK K
    refine Fix.fix_plain (v := ?v55) (by kernel_rfl) (fun _ W hk hC K hK => ?h1_55) (fun K hK => ?h2_55)
    case h1_55 =>
      obtain ⟨e1, e2, e3, F0, F1, F2, F4⟩ := HF.out _ W (hrt _) hC
      go_simp
      exact hK _ hC
    go_simp
    refine hK _ ?_
    clear hK K
    refine Fix.fix_plain (v := ?v56) (by kernel_rfl) (fun _ W hk hC K hK => ?h1_56) (fun K hK => ?h2_56)
    case h1_56 =>
      go_simp
      obtain ⟨e1, e2, e3, F0, F1, F2, F4⟩ := HF.out _ W (hrt _) hC
      refine (end_cell _ B.p r.things f p F0 HP.out (by omega) t1).mono ?_
      intro e w' hh
      have h1 := hh.1
      have h2 := hh.2
      subst h1
      subst h2
      refine ⟨_, rfl, ?_⟩
      exact hK _ hC
    go_simp
    refine hK _ ?_
    clear hK K
    refine Fix.fix_plain (v := ?v57) (by kernel_rfl) (fun _ W hk hC K hK => ?h1_57) (fun K hK => ?h2_57)
    case h1_57 =>
      obtain ⟨e1, e2, e3, F0, F1, F2, F4⟩ := HF.out _ W (hrt _) hC
      go_simp
      exact hK _ hC
    go_simp
    refine hK _ ?_
    clear hK K
    refine Fix.fix_store (v := ?v58) 0 (by kernel_rfl) (fun W hC K hK => ?h1_58) (fun K hK => ?h2_58)
    case h1_58 =>
      have C1 : W.cell? ⟨B.n, p, none⟩ = some _ := hC.raw.hn.cell (by rw [(hrt 0).2.1]; exact hp1)
      have Z1 := hC.raw.zn p
      go_simp
      refine hK _ ?_
      clear hK K
      subst hrk; exact hC.setN p p
    go_simp
    refine hK _ ?_
    clear hK K
    refine Fix.fix_plain (v := ?v59) (by kernel_rfl) (fun _ W hk hC K hK => ?h1_59) (fun K hK => ?h2_59)
    case h1_59 =>
      obtain ⟨e1, e2, e3, F0, F1, F2, F4⟩ := HF.out _ W (hrt _) hC
      go_simp
      exact hK _ hC
    go_simp
    refine hK _ ?_
    clear hK K
    refine Fix.fix_store (v := ?v60) 1 (by kernel_rfl) (fun W hC K hK => ?h1_60) (fun K hK => ?h2_60)
    case h1_60 =>
      have C1 : W.cell? ⟨B.b, p, none⟩ = some _ := hC.raw.hb.cell (by rw [(hrt 1).2.2.1]; exact b1)
      have Z1 := hC.raw.zb p
      go_simp
      refine hK _ ?_
      clear hK K
      subst hrk; exact hC.setB p p
    go_simp
    refine hK _ ?_
    clear hK K
    refine Fix.fix_nil (fun W6 s0 => ?_)
    replace s0 : MSt B W0 D { r with list := l0, next := ((r.next.set la a).set z q).set p p, back := ((r.back.set a la).set q z).set p p } W6 := by subst hrk; exact s0
    clear hops hrt hrk rk ops
    gi_wp2_with fail
    obtain ⟨rk, hrk⟩ : ∃ rk : Nat → Raw, rk = fun k => match k with
      | 0 => { r with list := l0, next := ((r.next.set la a).set z q).set p p, back := ((r.back.set a la).set q z).set p p }
      | 1 => { r with list := l0, next := ((r.next.set la a).set z q).set p p, back := ((r.back.set a la).set q z).set p p, count := r.count.set f 0 }
      | _ => { r with list := l0, next := ((r.next.set la a).set z q).set p p, back := ((r.back.set a la).set q z).set p p, count := (r.count.set f 0).set t ((c : Int) + n) } := ⟨_, rfl⟩
    have hrt : ∀ k, (rk k).things = r.things ∧ (rk k).next.length = r.next.length ∧ (rk k).back.length = r.back.length ∧ (rk k).count.length = r.count.length := by
      intro k; subst hrk; match k with
      | 0 => exact ⟨rfl, by simp, by simp, by simp⟩
      | 1 => exact ⟨rfl, by simp, by simp, by simp⟩
      | k + 2 => exact ⟨rfl, by simp, by simp, by simp⟩
    have hwr : IntKind.i64.wrap ((c : Int) + n) = (c : Int) + n := IntWalk.i64_in _ ⟨by omega, by omega⟩
    have hct : ∀ k, k ≤ 1 → (rk k).count.getD t 0 = (c : Int) := by
      intro k hk; subst hrk; match k, hk with
      | 0, _ => exact HC.out
      | 1, _ => exact ((getD_set' _ _ _ _ hf).trans (if_neg hft)).trans HC.out
    refine wpIn_wide.2 ?_
    refine Fix.wp_region_fix [20, 22] (fun k W => MSt B W0 D (rk k) W) (by kernel_rfl) (by kernel_rfl) (by subst hrk; exact s0.drew) ?_
    generalize hops : List.toArray _ = ops
    refine Fix.fix_plain (v := ?v61) (by kernel_rfl) (fun _ W hk hC K hK => ?h1_61) (fun K hK => ?h2_61)
    case h1_61 =>
      obtain ⟨e1, e2, e3, F0, F1, F2, F4⟩ := HF.out _ W (hrt _) hC
      go_simp
      exact hK _ hC
    go_simp
    refine hK _ ?_
    clear hK K
    refine Fix.fix_plain (v := ?v62) (by kernel_rfl) (fun _ W hk hC K hK => ?h1_62) (fun K hK => ?h2_62)
    case h1_62 =>
      obtain ⟨e1, e2, e3, F0, F1, F2, F4⟩ := HF.out _ W (hrt _) hC
      go_simp
      exact hK _ hC
    go_simp
    refine hK _ ?_
    clear hK K
    refine Fix.fix_plain (v := ?v63) (by kernel_rfl) (fun _ W hk hC K hK => ?h1_63) (fun K hK => ?h2_63)
    case h1_63 =>
      obtain ⟨e1, e2, e3, F0, F1, F2, F4⟩ := HF.out _ W (hrt _) hC
      go_simp
      exact hK _ hC
    go_simp
    refine hK _ ?_
    clear hK K
    refine Fix.fix_plain (v := ?v64) (by kernel_rfl) (fun _ W hk hC K hK => ?h1_64) (fun K hK => ?h2_64)
    case h1_64 =>
      obtain ⟨e1, e2, e3, F0, F1, F2, F4⟩ := HF.out _ W (hrt _) hC
      go_simp
      exact hK _ hC
    go_simp
    refine hK _ ?_
    clear hK K
    refine Fix.fix_plain (v := ?v65) (by kernel_rfl) (fun _ W hk hC K hK => ?h1_65) (fun K hK => ?h2_65)
    case h1_65 =>
      obtain ⟨e1, e2, e3, F0, F1, F2, F4⟩ := HF.out _ W (hrt _) hC
      go_simp
      exact hK _ hC
    go_simp
    refine hK _ ?_
    clear hK K
    refine Fix.fix_plain (v := ?v66) (by kernel_rfl) (fun _ W hk hC K hK => ?h1_66) (fun K hK => ?h2_66)
    case h1_66 =>
      obtain ⟨e1, e2, e3, F0, F1, F2, F4⟩ := HF.out _ W (hrt _) hC
      go_simp
      exact hK _ hC
    go_simp
    refine hK _ ?_
    clear hK K
    refine Fix.fix_plain (v := ?v67) (by kernel_rfl) (fun _ W hk hC K hK => ?h1_67) (fun K hK => ?h2_67)
    case h1_67 =>
      obtain ⟨e1, e2, e3, F0, F1, F2, F4⟩ := HF.out _ W (hrt _) hC
      go_simp
      exact hK _ hC
    go_simp
    refine hK _ ?_
    clear hK K
    refine Fix.fix_plain (v := ?v68) (by kernel_rfl) (fun _ W hk hC K hK => ?h1_68) (fun K hK => ?h2_68)
    case h1_68 =>
      obtain ⟨e1, e2, e3, F0, F1, F2, F4⟩ := HF.out _ W (hrt _) hC
      go_simp
      exact hK _ hC
    go_simp
    refine hK _ ?_
    clear hK K
    refine Fix.fix_plain (v := ?v69) (by kernel_rfl) (fun _ W hk hC K hK => ?h1_69) (fun K hK => ?h2_69)
    case h1_69 =>
      obtain ⟨e1, e2, e3, F0, F1, F2, F4⟩ := HF.out _ W (hrt _) hC
      go_simp
      exact hK _ hC
    go_simp
    refine hK _ ?_
    clear hK K
    refine Fix.fix_plain (v := ?v70) (by kernel_rfl) (fun _ W hk hC K hK => ?h1_70) (fun K hK => ?h2_70)
    case h1_70 =>
      obtain ⟨e1, e2, e3, F0, F1, F2, F4⟩ := HF.out _ W (hrt _) hC
      go_simp
      exact hK _ hC
    go_simp
    refine hK _ ?_
    clear hK K
    refine Fix.fix_plain (v := ?v71) (by kernel_rfl) (fun _ W hk hC K hK => ?h1_71) (fun K hK => ?h2_71)
    case h1_71 =>
      obtain ⟨e1, e2, e3, F0, F1, F2, F4⟩ := HF.out _ W (hrt _) hC
      go_simp
      exact hK _ hC
    go_simp
    refine hK _ ?_
    clear hK K
    refine Fix.fix_plain (v := ?v72) (by kernel_rfl) (fun _ W hk hC K hK => ?h1_72) (fun K hK => ?h2_72)
    case h1_72 =>
      obtain ⟨e1, e2, e3, F0, F1, F2, F4⟩ := HF.out _ W (hrt _) hC
      go_simp
      exact hK _ hC
    go_simp
    refine hK _ ?_
    clear hK K
    refine Fix.fix_plain (v := ?v73) (by kernel_rfl) (fun _ W hk hC K hK => ?h1_73) (fun K hK => ?h2_73)
    case h1_73 =>
      obtain ⟨e1, e2, e3, F0, F1, F2, F4⟩ := HF.out _ W (hrt _) hC
      go_simp
      exact hK _ hC
    go_simp
    refine hK _ ?_
    clear hK K
    refine Fix.fix_plain (v := ?v74) (by kernel_rfl) (fun _ W hk hC K hK => ?h1_74) (fun K hK => ?h2_74)
    case h1_74 =>
      obtain ⟨e1, e2, e3, F0, F1, F2, F4⟩ := HF.out _ W (hrt _) hC
      go_simp
      exact hK _ hC
    go_simp
    refine hK _ ?_
    clear hK K
    refine Fix.fix_plain (v := ?v75) (by kernel_rfl) (fun _ W hk hC K hK => ?h1_75) (fun K hK => ?h2_75)
    case h1_75 =>
      obtain ⟨e1, e2, e3, F0, F1, F2, F4⟩ := HF.out _ W (hrt _) hC
      go_simp
      exact hK _ hC
    go_simp
    refine hK _ ?_
    clear hK K
    refine Fix.fix_plain (v := ?v76) (by kernel_rfl) (fun _ W hk hC K hK => ?h1_76) (fun K hK => ?h2_76)
    case h1_76 =>
      obtain ⟨e1, e2, e3, F0, F1, F2, F4⟩ := HF.out _ W (hrt _) hC
      go_simp
      exact hK _ hC
    go_simp
    refine hK _ ?_
    clear hK K
    refine Fix.fix_plain (v := ?v77) (by kernel_rfl) (fun _ W hk hC K hK => ?h1_77) (fun K hK => ?h2_77)
    case h1_77 =>
      have hl : Fix.lim ops [20, 22] 16 ≤ 1 := by rw [← hops]; exact of_decide_eq_true (by kernel_rfl)
      have hk1 := Nat.le_trans hk hl
      have Ct : W.cell? ⟨B.c, t, none⟩ = some (.int .i64 (c : Int)) := by
        rw [hC.raw.hc.cell (by rw [(hrt _).2.2.2]; exact ht)]
        exact congrArg (fun x => some (Value.int .i64 x)) (hct _ hk1)
      go_simp
      exact hK _ hC
    go_simp
    refine hK _ ?_
    clear hK K
    refine Fix.fix_plain (v := ?v78) (by kernel_rfl) (fun _ W hk hC K hK => ?h1_78) (fun K hK => ?h2_78)
    case h1_78 =>
      obtain ⟨e1, e2, e3, F0, F1, F2, F4⟩ := HF.out _ W (hrt _) hC
      go_simp
      exact hK _ hC
    go_simp
    refine hK _ ?_
    clear hK K
    refine Fix.fix_plain (v := ?v79) (by kernel_rfl) (fun _ W hk hC K hK => ?h1_79) (fun K hK => ?h2_79)
    case h1_79 =>
      obtain ⟨e1, e2, e3, F0, F1, F2, F4⟩ := HF.out _ W (hrt _) hC
      go_simp
      exact hK _ hC
    go_simp
    refine hK _ ?_
    clear hK K
    refine Fix.fix_plain (v := ?v80) (by kernel_rfl) (fun _ W hk hC K hK => ?h1_80) (fun K hK => ?h2_80)
    case h1_80 =>
      obtain ⟨e1, e2, e3, F0, F1, F2, F4⟩ := HF.out _ W (hrt _) hC
      go_simp
      exact hK _ hC
    go_simp
    refine hK _ ?_
    clear hK K
    refine Fix.fix_store (v := ?v81) 0 (by kernel_rfl) (fun W hC K hK => ?h1_81) (fun K hK => ?h2_81)
    case h1_81 =>
      have C1 : W.cell? ⟨B.c, f, none⟩ = some _ := hC.raw.hc.cell (by rw [(hrt 0).2.2.2]; exact hf)
      have Z1 := hC.raw.zc f
      go_simp
      refine hK _ ?_
      clear hK K
      subst hrk; exact hC.setC f 0
    go_simp
    refine hK _ ?_
    clear hK K
    refine Fix.fix_plain (v := ?v82) (by kernel_rfl) (fun _ W hk hC K hK => ?h1_82) (fun K hK => ?h2_82)
    case h1_82 =>
      obtain ⟨e1, e2, e3, F0, F1, F2, F4⟩ := HF.out _ W (hrt _) hC
      go_simp
      exact hK _ hC
    go_simp
    refine hK _ ?_
    clear hK K
    refine Fix.fix_store (v := ?v83) 1 (by kernel_rfl) (fun W hC K hK => ?h1_83) (fun K hK => ?h2_83)
    case h1_83 =>
      have C1 : W.cell? ⟨B.c, t, none⟩ = some _ := hC.raw.hc.cell (by rw [(hrt 1).2.2.2]; exact ht)
      have Z1 := hC.raw.zc t
      go_simp
      refine hK _ ?_
      clear hK K
      subst hrk; exact hC.setC t ((c : Int) + n)
    go_simp
    refine hK _ ?_
    clear hK K
    refine Fix.fix_nil (fun W7 s0 => ?_)
    replace s0 : MSt B W0 D { r with list := l0, next := ((r.next.set la a).set z q).set p p, back := ((r.back.set a la).set q z).set p p, count := (r.count.set f 0).set t ((c : Int) + n) } W7 := by subst hrk; exact s0
    clear hops hrt hct hrk rk ops
    gi_wp2
    refine ⟨by simp, .inl ⟨_, _, rfl, run_takeDeferred s0.d, ?_⟩⟩
    have hpo : Fr (fun k => k = D) W7 (W7.putObj D (.deferred none)) := ⟨rfl, rfl, rfl, by simp, fun k _ hk => World.putObj_heap_other hk⟩
    refine ⟨_, results_tmp2 rfl _ _ _, rfl, ?_, ?_⟩
    · have hR := s0.raw.fr hpo (fun k hk e => by have := s0.lt k hk; have := s0.le; omega)
      unfold Raw.mv
      rw [HP.out, HQ.out, hl0]
      exact hR
    · exact (hSt.fr _).trans (s0.fr.then hpo (fun k hk e => by have := s0.le; omega))
end Go.Proofs.Ytffjaaolcphonaa
