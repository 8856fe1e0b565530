/- LifeNone: the walk. -/
import Derived.Test.YtffjaaolcphonaaDoorLNone
import Derived.Test.YtffjaaolcphonaaDoorBdLA
import Derived.Deep.RegionHeld3
namespace Go.Proofs.YtffjaaolcphonaaDoor
open Go.RowKit Go.Maps
set_option linter.unusedSimpArgs false
theorem idx130_0 (v1 : Value) : ∀ w, (Instr.index 130 (.agg #[.pointer none, v1]) (.int .i64 ((0 : Nat) : Int))).run Tryd.prog w = .ok (.pointer none) w := fun _ => by kernel_rfl
theorem idx130_1 (v1 : Value) : ∀ w, (Instr.index 130 (.agg #[.pointer none, v1]) (.int .i64 ((1 : Nat) : Int))).run Tryd.prog w = .ok v1 w := fun _ => by kernel_rfl
theorem idx131 (i : Nat) (hi : i < 7) : ∀ w, (Instr.index 131 (.agg #[.int .i64 1, .int .i64 1, .int .i64 1, .int .i64 1, .int .i64 1, .int .i64 1, .int .i64 1]) (.int .i64 (i : Int))).run Tryd.prog w = .ok (.int .i64 1) w := by
  intro w
  rcases (show i = 0 ∨ i = 1 ∨ i = 2 ∨ i = 3 ∨ i = 4 ∨ i = 5 ∨ i = 6 by omega) with rfl | rfl | rfl | rfl | rfl | rfl | rfl <;> kernel_rfl
theorem new_s (w : World) (x : LAct) : Blk (w.alloc (.cells ([.int .i64 x.k, .int .i64 x.i, .int .i64 x.t, .bool x.re, .int .i64 x.c.p, .int .i64 x.c.q, .int .i64 x.c.r0, .int .i64 x.c.r1, .int .i64 x.c.r2, .int .i64 x.c.r3, .int .i64 x.c.r4, .int .i64 x.c.r5, .int .i64 x.c.r6, .int .i64 x.c.r7, .int .i64 x.c.d] : List Value).toArray 105)) w.heap.size [.int .i64 x.k, .int .i64 x.i, .int .i64 x.t, .bool x.re, .int .i64 x.c.p, .int .i64 x.c.q, .int .i64 x.c.r0, .int .i64 x.c.r1, .int .i64 x.c.r2, .int .i64 x.c.r3, .int .i64 x.c.r4, .int .i64 x.c.r5, .int .i64 x.c.r6, .int .i64 x.c.r7, .int .i64 x.c.d] 105 := Blk.new w _ 105
set_option maxRecDepth 100000 in
set_option maxHeartbeats 8000000 in
theorem lifeNone (w : World) (hT : TabD w) (hC : TabF w) (x : LAct) : Calls Tryd.prog 17 #[(Value.agg #[.int .i64 x.k, .int .i64 x.i, .int .i64 x.t, .bool x.re, .int .i64 x.c.p, .int .i64 x.c.q, .int .i64 x.c.r0, .int .i64 x.c.r1, .int .i64 x.c.r2, .int .i64 x.c.r3, .int .i64 x.c.r4, .int .i64 x.c.r5, .int .i64 x.c.r6, .int .i64 x.c.r7, .int .i64 x.c.d])] w fun e w' => e = .returned (.bool true) ∧ Still w w' := by
  have HT := hid hT
  have HC := hid hC
  clear hT hC
  go_enter Tryd.func17, Tryd.ntmps17
  go_wp2_with fail
  refine wp_abs (fun w1 => Blk w1 w.heap.size [.int .i64 x.k, .int .i64 x.i, .int .i64 x.t, .bool x.re, .int .i64 x.c.p, .int .i64 x.c.q, .int .i64 x.c.r0, .int .i64 x.c.r1, .int .i64 x.c.r2, .int .i64 x.c.r3, .int .i64 x.c.r4, .int .i64 x.c.r5, .int .i64 x.c.r6, .int .i64 x.c.r7, .int .i64 x.c.d] 105 ∧ w1.cell? ⟨w.heap.size + 1, 0, none⟩ = some (.pointer none) ∧ Still w w1) ⟨(Blk.new w _ 105).alloc _, ?_, ((Fr.refl _ w).alloc _).alloc _⟩ ?_
  · simp
  rintro W ⟨hb, hz, hs⟩
  obtain ⟨ab, hab⟩ : ∃ z, w.heap.size = z := ⟨_, rfl⟩
  rw [hab] at hb hz ⊢
  obtain ⟨z, hzz⟩ : ∃ z, ab + 1 = z := ⟨_, rfl⟩
  rw [hzz] at hz ⊢
  clear hab hzz
  have HB := hid hb
  have HZ := hid hz
  have HS := hid hs
  clear hb hz hs
  go_loopw [5, 6, 7, 8, 9, 11, 13] (fun s5 s6 s7 s8 s9 s11 cc wr => ∃ j : Nat, cc = .int .i64 j ∧ j ≤ 2 ∧ Still W wr) (fun s5 s6 s7 s8 s9 s11 cc _ => 2 - (intOf cc).toNat)
  case atStart => exact ⟨0, rfl, by omega, Fr.refl _ _⟩
  case round =>
    obtain ⟨j, rfl, hj, hst⟩ := hrel
    have ST := hid hst
    clear hst
    by_cases hlt : j < 2
    · have hlt' : (j : Int) < 2 := by omega
      obtain ⟨V, hV, HN⟩ : ∃ V, (∀ w, (Instr.index 130 (.agg #[.pointer none, .pointer (some ⟨z, 0, none⟩)]) (.int .i64 (j : Int))).run Tryd.prog w = .ok V w) ∧ TNone wr V := by
        rcases (show j = 0 ∨ j = 1 by omega) with rfl | rfl
        · exact ⟨_, idx130_0 _, .inl rfl⟩
        · exact ⟨_, idx130_1 _, .inr ⟨z, rfl, Still.cell ST.out HZ.out⟩⟩
      have NV := hid HN
      have hbr := HB.out.still ST.out
      have a1 : wr.cell? ⟨ab, 1, none⟩ = some (.int .i64 x.i) := hbr.cell 1
      have a2 : wr.cell? ⟨ab, 2, none⟩ = some (.int .i64 x.t) := hbr.cell 2
      have HBR := hid hbr
      clear HN hbr
      go_wp2_with fail
      refine (n1make wr V NV.out x.t).mono ?_
      rintro e w2 ⟨rfl, s2⟩
      have S2 := hid s2
      have a3 := Still.cell s2 a1
      clear s2
      go_wp2_with fail
      refine (n1get w2 V (NV.out.still S2.out) x.i).mono ?_
      rintro e w3 ⟨rfl, s3⟩
      have S3 := hid (S2.out.trans s3)
      clear s3
      go_wp2_with (refine wpList_storeW rfl (.tmp 8) (.tmp 28) 111 rfl _ 111 [.int .i64 a0.i, .int .i64 a0.s, .int .i64 a0.sp, .int .i64 a0.co, .int .i64 a0.th, .int .i64 a0.c.p, .int .i64 a0.c.q, .int .i64 a0.c.r0, .int .i64 a0.c.r1, .int .i64 a0.c.r2, .int .i64 a0.c.r3, .int .i64 a0.c.r4, .int .i64 a0.c.r5, .int .i64 a0.c.r6, .int .i64 a0.c.r7, .int .i64 a0.c.d] [.int .i64 a0.i, .int .i64 a0.s, .int .i64 a0.sp, .int .i64 a0.co, .int .i64 a0.th, .int .i64 a0.c.p, .int .i64 a0.c.q, .int .i64 a0.c.r0, .int .i64 a0.c.r1, .int .i64 a0.c.r2, .int .i64 a0.c.r3, .int .i64 a0.c.r4, .int .i64 a0.c.r5, .int .i64 a0.c.r6, .int .i64 a0.c.r7, .int .i64 a0.c.d] I111 (onesA a0) rfl rfl (new_a _) rfl ?_; intro w6 b6 f6; have S6 : Hid (Still wr w6) := hid (Still.next (S3.out.trans ((Fr.refl _ _).alloc _)) f6 (fun k hk => by rw [hk]; exact S3.out.size)); clear b6 f6)
      have NV6 := hid (NV.out.still S6.out)
      have HB6 := HBR.out.still S6.out
      have e1 : w6.cell? ⟨ab, 1, none⟩ = some (.int .i64 x.i) := HB6.cell 1
      have e2 : w6.cell? ⟨ab, 2, none⟩ = some (.int .i64 x.t) := HB6.cell 2
      have e4 : w6.cell? ⟨ab, 4, none⟩ = some (.int .i64 x.c.p) := HB6.cell 4
      have e5 : w6.cell? ⟨ab, 5, none⟩ = some (.int .i64 x.c.q) := HB6.cell 5
      have e6 : w6.cell? ⟨ab, 6, none⟩ = some (.int .i64 x.c.r0) := HB6.cell 6
      have e7 : w6.cell? ⟨ab, 7, none⟩ = some (.int .i64 x.c.r1) := HB6.cell 7
      have e8 : w6.cell? ⟨ab, 8, none⟩ = some (.int .i64 x.c.r2) := HB6.cell 8
      have e9 : w6.cell? ⟨ab, 9, none⟩ = some (.int .i64 x.c.r3) := HB6.cell 9
      have e10 : w6.cell? ⟨ab, 10, none⟩ = some (.int .i64 x.c.r4) := HB6.cell 10
      have e11 : w6.cell? ⟨ab, 11, none⟩ = some (.int .i64 x.c.r5) := HB6.cell 11
      have e12 : w6.cell? ⟨ab, 12, none⟩ = some (.int .i64 x.c.r6) := HB6.cell 12
      have e13 : w6.cell? ⟨ab, 13, none⟩ = some (.int .i64 x.c.r7) := HB6.cell 13
      have e14 : w6.cell? ⟨ab, 14, none⟩ = some (.int .i64 x.c.d) := HB6.cell 14
      clear a1 a2 a3 HB6
      go_region_held3 (fun w' => w'.cell? ⟨ab, 1, none⟩ = some (.int .i64 x.i) ∧ w'.cell? ⟨ab, 2, none⟩ = some (.int .i64 x.t) ∧ w'.cell? ⟨ab, 4, none⟩ = some (.int .i64 x.c.p) ∧ w'.cell? ⟨ab, 5, none⟩ = some (.int .i64 x.c.q) ∧ w'.cell? ⟨ab, 6, none⟩ = some (.int .i64 x.c.r0) ∧ w'.cell? ⟨ab, 7, none⟩ = some (.int .i64 x.c.r1) ∧ w'.cell? ⟨ab, 8, none⟩ = some (.int .i64 x.c.r2) ∧ w'.cell? ⟨ab, 9, none⟩ = some (.int .i64 x.c.r3) ∧ w'.cell? ⟨ab, 10, none⟩ = some (.int .i64 x.c.r4) ∧ w'.cell? ⟨ab, 11, none⟩ = some (.int .i64 x.c.r5) ∧ w'.cell? ⟨ab, 12, none⟩ = some (.int .i64 x.c.r6) ∧ w'.cell? ⟨ab, 13, none⟩ = some (.int .i64 x.c.r7) ∧ w'.cell? ⟨ab, 14, none⟩ = some (.int .i64 x.c.d))
        (first | exact ⟨e1, e2, e4, e5, e6, e7, e8, e9, e10, e11, e12, e13, e14⟩ | assumption | (rename_i hs7; exact ⟨Still.cell hs7 e1, Still.cell hs7 e2, Still.cell hs7 e4, Still.cell hs7 e5, Still.cell hs7 e6, Still.cell hs7 e7, Still.cell hs7 e8, Still.cell hs7 e9, Still.cell hs7 e10, Still.cell hs7 e11, Still.cell hs7 e12, Still.cell hs7 e13, Still.cell hs7 e14⟩))
        (first
          | (go_at_call 64; refine (n1run _ V (NV6.out.still (by first | assumption | exact (Fr.refl _ _).drew)) x.i x.t).mono ?_; rintro e w7 ⟨rfl, hs7⟩; replace hs7 : Still w6 w7 := Still.trans (by first | assumption | exact (Fr.refl _ _).drew) hs7)
          | (go_at_call 65; refine (n1load _ V (NV6.out.still (by first | assumption | exact (Fr.refl _ _).drew)) x.i x.t).mono ?_; rintro e w7 ⟨rfl, hs7⟩; replace hs7 : Still w6 w7 := Still.trans (by first | assumption | exact (Fr.refl _ _).drew) hs7)
          | (go_at_call 66; refine (n1block _ V (NV6.out.still (by first | assumption | exact (Fr.refl _ _).drew)) x.i).mono ?_; rintro e w7 ⟨rfl, hs7⟩; replace hs7 : Still w6 w7 := Still.trans (by first | assumption | exact (Fr.refl _ _).drew) hs7)
          | (go_at_call 67; refine (n1pre _ V (NV6.out.still (by first | assumption | exact (Fr.refl _ _).drew)) x.i x.c).mono ?_; rintro e w7 ⟨rfl, hs7⟩; replace hs7 : Still w6 w7 := Still.trans (by first | assumption | exact (Fr.refl _ _).drew) hs7)
          | (go_at_call 68; refine (n1cache _ V (NV6.out.still (by first | assumption | exact (Fr.refl _ _).drew)) x.i).mono ?_; rintro e w7 ⟨rfl, hs7⟩; replace hs7 : Still w6 w7 := Still.trans (by first | assumption | exact (Fr.refl _ _).drew) hs7)
          | (go_at_call 70; refine (n1disc _ V (NV6.out.still (by first | assumption | exact (Fr.refl _ _).drew)) x.i).mono ?_; rintro e w7 ⟨rfl, hs7⟩; replace hs7 : Still w6 w7 := Still.trans (by first | assumption | exact (Fr.refl _ _).drew) hs7))
      go_wp2_with fail
      refine wp_abs (fun u => Still w6 u) (by assumption) ?_
      rintro W7 hW7
      have S7 := hid (S6.out.trans hW7)
      clear hW7
      go_loopw [11, 62] (fun s11 cc wx => ∃ i : Nat, cc = .int .i64 i ∧ i ≤ 7 ∧ wx = W7) (fun s11 cc _ => 7 - (intOf cc).toNat)
      case atStart => exact ⟨0, rfl, by omega, rfl⟩
      case round =>
        obtain ⟨i, rfl, hi, hw⟩ := hrel
        subst hw
        by_cases hi2 : i < 7
        · have hi2' : (i : Int) < 7 := by omega
          have X := idx131 i hi2
          go_wp2_with fail
          go_roundw
          case rel => exact ⟨i + 1, by go_num, by omega, trivial⟩
          case measure => simp [intOf]; omega
        · have hi2' : ¬ (i : Int) < 7 := by omega
          have a1 : wr.cell? ⟨ab, 1, none⟩ = some (.int .i64 x.i) := (HBR.out.still S7.out).cell 1
          have a2 : wr.cell? ⟨ab, 2, none⟩ = some (.int .i64 x.t) := (HBR.out.still S7.out).cell 2
          have NV7 := hid (NV.out.still S7.out)
          have W0 : IntKind.i64.wrap 0 = 0 := by decide
          go_wp2_with fail
          refine Held.wp_region_held_tail (S := (fun w' => w'.cell? ⟨ab, 1, none⟩ = some (.int .i64 x.i) ∧ w'.cell? ⟨ab, 2, none⟩ = some (.int .i64 x.t))) 23 (by kernel_rfl) (by kernel_rfl) (by decide) ?hS1 (fun hHeld => ?hR1)
          case hS1 =>
            exact ⟨a1, a2⟩
          simp only [List.take_succ_cons, List.take_zero, List.drop_succ_cons, List.drop_zero]
          refine wpAnyH_take (i := 0) (oi := _) (v := ?v2) rfl (by kernel_rfl) (by kernel_rfl) (by kernel_rfl) (fun _ _ _ h => h) (Or.inl ⟨by rfl, ?y2⟩) (by assumption) ?r2
          case y2 => ((intro w hSw); (try dsimp only at hSw); go_simp; (try with_reducible rfl))
          (try simp only [Act.put, List.setIfInBounds_toArray, List.set_cons_zero, List.set_cons_succ])
          refine wpAnyH_take (i := 1) (oi := _) (v := ?v3) rfl (by kernel_rfl) (by kernel_rfl) (by kernel_rfl) (fun _ _ _ h => h) (Or.inl ⟨by rfl, ?y3⟩) (by assumption) ?r3
          case y3 => ((intro w hSw); (try dsimp only at hSw); go_simp; (try with_reducible rfl))
          (try simp only [Act.put, List.setIfInBounds_toArray, List.set_cons_zero, List.set_cons_succ])
          refine wpAnyH_take (i := 2) (oi := _) (v := ?v4) rfl (by kernel_rfl) (by kernel_rfl) (by kernel_rfl) (fun _ _ _ h => h) (Or.inl ⟨by rfl, ?y4⟩) (by assumption) ?r4
          case y4 => ((intro w hSw); (try dsimp only at hSw); go_simp; (try with_reducible rfl))
          (try simp only [Act.put, List.setIfInBounds_toArray, List.set_cons_zero, List.set_cons_succ])
          (try simp only [Act.put, List.getElem_toArray, List.getElem_cons_zero, List.getElem_cons_succ, List.setIfInBounds_toArray, List.set_cons_zero, List.set_cons_succ])
          refine wpAnyH_take (i := 3) (oi := _) (v := ?v5) rfl (by kernel_rfl) (by kernel_rfl) (by kernel_rfl) (fun _ _ _ h => h) (Or.inl ⟨by rfl, ?y5⟩) (by assumption) ?r5
          case y5 => ((intro w hSw); (try dsimp only at hSw); go_simp; (try with_reducible rfl))
          (try simp only [Act.put, List.setIfInBounds_toArray, List.set_cons_zero, List.set_cons_succ])
          refine wpAnyH_take (i := 4) (oi := _) (v := ?v6) rfl (by kernel_rfl) (by kernel_rfl) (by kernel_rfl) (fun _ _ _ h => h) (Or.inl ⟨by rfl, ?y6⟩) (by assumption) ?r6
          case y6 => ((intro w hSw); (try dsimp only at hSw); go_simp; (try with_reducible rfl))
          (try simp only [Act.put, List.setIfInBounds_toArray, List.set_cons_zero, List.set_cons_succ])
          refine wpAnyH_take (i := 6) (oi := _) (v := ?v7) rfl (by kernel_rfl) (by kernel_rfl) (by kernel_rfl) (fun _ _ _ h => h) (Or.inl ⟨by rfl, ?y7⟩) (by assumption) ?r7
          case y7 => ((intro w hSw); (try dsimp only at hSw); go_simp; (try with_reducible rfl))
          (try simp only [Act.put, List.setIfInBounds_toArray, List.set_cons_zero, List.set_cons_succ])
          (try simp only [Act.put, List.getElem_toArray, List.getElem_cons_zero, List.getElem_cons_succ, List.setIfInBounds_toArray, List.set_cons_zero, List.set_cons_succ])
          refine wpAnyH_take (i := 7) (oi := _) (v := ?v8) rfl (by kernel_rfl) (by kernel_rfl) (by kernel_rfl) (fun _ _ _ h => h) (Or.inl ⟨by rfl, ?y8⟩) (by assumption) ?r8
          case y8 => ((intro w hSw); (try dsimp only at hSw); go_simp; (try with_reducible rfl))
          (try simp only [Act.put, List.setIfInBounds_toArray, List.set_cons_zero, List.set_cons_succ])
          refine wpAnyH_take (i := 8) (oi := _) (v := ?v9) rfl (by kernel_rfl) (by kernel_rfl) (by kernel_rfl) (fun _ _ _ h => h) (Or.inl ⟨by rfl, ?y9⟩) (by assumption) ?r9
          case y9 => ((intro w hSw); (try dsimp only at hSw); go_simp; (try with_reducible rfl))
          (try simp only [Act.put, List.setIfInBounds_toArray, List.set_cons_zero, List.set_cons_succ])
          refine wpAnyH_take (i := 9) (oi := _) (v := ?v10) rfl (by kernel_rfl) (by kernel_rfl) (by kernel_rfl) (fun _ _ _ h => h) (Or.inl ⟨by rfl, ?y10⟩) (by assumption) ?r10
          case y10 => ((intro w hSw); (try dsimp only at hSw); go_simp; (try with_reducible rfl))
          (try simp only [Act.put, List.setIfInBounds_toArray, List.set_cons_zero, List.set_cons_succ])
          (try simp only [Act.put, List.getElem_toArray, List.getElem_cons_zero, List.getElem_cons_succ, List.setIfInBounds_toArray, List.set_cons_zero, List.set_cons_succ])
          refine wpAnyH_take (i := 10) (oi := _) (v := ?v11) rfl (by kernel_rfl) (by kernel_rfl) (by kernel_rfl) (fun _ _ _ h => h) (Or.inl ⟨by rfl, ?y11⟩) (by assumption) ?r11
          case y11 => ((intro w hSw); (try dsimp only at hSw); go_simp; (try with_reducible rfl))
          (try simp only [Act.put, List.setIfInBounds_toArray, List.set_cons_zero, List.set_cons_succ])
          refine wpAnyH_take (i := 13) (oi := _) (v := ?v12) rfl (by kernel_rfl) (by kernel_rfl) (by kernel_rfl) (fun _ _ _ h => h) (Or.inl ⟨by rfl, ?y12⟩) (by assumption) ?r12
          case y12 => ((intro w hSw); (try dsimp only at hSw); go_simp; (try with_reducible rfl))
          (try simp only [Act.put, List.setIfInBounds_toArray, List.set_cons_zero, List.set_cons_succ])
          (try simp only [Act.put, List.getElem_toArray, List.getElem_cons_zero, List.getElem_cons_succ, List.setIfInBounds_toArray, List.set_cons_zero, List.set_cons_succ])
          refine wpAnyH_ready (rs := [5]) (by kernel_rfl) (by simp) ?_
          refine AllReadyH.cons rfl (fun K hK => ?st13) AllReadyH.nil
          go_simp
          go_at_call 82
          refine (n1drop _ V (NV7.out.still (by exact (Fr.refl _ _).drew)) x.t).mono ?_
          rintro e w8 ⟨rfl, s8⟩
          have S8 : Hid (Still wr w8) := hid (Still.trans (Fr.refl _ _).drew s8)
          clear s8
          refine hK.out _ _ ?k13 (fun hHeld13 => ?_)
          case k13 =>
            exact ⟨Still.cell S8.out a1, Still.cell S8.out a2⟩
          clear hK K
          (try simp only [Act.put, List.setIfInBounds_toArray, List.set_cons_zero, List.set_cons_succ])
          refine wpAnyH_ready (rs := [11]) (by kernel_rfl) (by simp) ?_
          refine AllReadyH.cons rfl (fun K hK => ?st14) AllReadyH.nil
          go_simp
          go_at_call 69
          refine (n1count _ V (NV7.out.still S8.out) x.t x.i).mono ?_
          rintro e w9 ⟨rfl, s9⟩
          have S9 := hid (S8.out.trans s9)
          clear s9
          refine hK.out _ _ ?k14 (fun hHeld14 => ?_)
          case k14 =>
            exact ⟨Still.cell S9.out a1, Still.cell S9.out a2⟩
          clear hK K
          (try simp only [Act.put, List.setIfInBounds_toArray, List.set_cons_zero, List.set_cons_succ])
          refine wpAnyH_take (i := 12) (oi := _) (v := ?v15) rfl (by kernel_rfl) (by kernel_rfl) (by kernel_rfl) (fun _ _ _ h => h) (Or.inl ⟨by rfl, ?y15⟩) (by assumption) ?r15
          case y15 => ((intro w hSw); (try dsimp only at hSw); go_simp; (try with_reducible rfl))
          (try simp only [Act.put, List.setIfInBounds_toArray, List.set_cons_zero, List.set_cons_succ])
          (try simp only [Act.put, List.getElem_toArray, List.getElem_cons_zero, List.getElem_cons_succ, List.setIfInBounds_toArray, List.set_cons_zero, List.set_cons_succ])
          refine wpAnyH_ready (rs := [14]) (by kernel_rfl) (by simp) ?_
          refine AllReadyH.cons rfl (fun K hK => ?st16) AllReadyH.nil
          go_simp
          go_at_call 74
          refine (n1all _ V (NV7.out.still S9.out)).mono ?_
          rintro e w10 ⟨rfl, s10⟩
          have S10 := hid (S9.out.trans s10)
          clear s10
          refine hK.out _ _ ?k16 (fun hHeld16 => ?_)
          case k16 =>
            exact ⟨Still.cell S10.out a1, Still.cell S10.out a2⟩
          clear hK K
          (try simp only [Act.put, List.setIfInBounds_toArray, List.set_cons_zero, List.set_cons_succ])
          refine wpAnyH_take (i := 15) (oi := _) (v := ?v17) rfl (by kernel_rfl) (by kernel_rfl) (by kernel_rfl) (fun _ _ _ h => h) (Or.inl ⟨by rfl, ?y17⟩) (by assumption) ?r17
          case y17 => ((intro w hSw); (try dsimp only at hSw); go_simp; (try with_reducible rfl))
          (try simp only [Act.put, List.setIfInBounds_toArray, List.set_cons_zero, List.set_cons_succ])
          refine wpAnyH_take (i := 16) (oi := _) (v := ?v18) rfl (by kernel_rfl) (by kernel_rfl) (by kernel_rfl) (fun _ _ _ h => h) (Or.inl ⟨by rfl, ?y18⟩) (by assumption) ?r18
          case y18 => ((intro w hSw); (try dsimp only at hSw); go_simp; (try with_reducible rfl))
          (try simp only [Act.put, List.setIfInBounds_toArray, List.set_cons_zero, List.set_cons_succ])
          refine wpAnyH_take (i := 17) (oi := _) (v := ?v19) rfl (by kernel_rfl) (by kernel_rfl) (by kernel_rfl) (fun _ _ _ h => h) (Or.inl ⟨by rfl, ?y19⟩) (by assumption) ?r19
          case y19 => ((intro w hSw); (try dsimp only at hSw); go_simp; (try with_reducible rfl))
          (try simp only [Act.put, List.setIfInBounds_toArray, List.set_cons_zero, List.set_cons_succ])
          (try simp only [Act.put, List.getElem_toArray, List.getElem_cons_zero, List.getElem_cons_succ, List.setIfInBounds_toArray, List.set_cons_zero, List.set_cons_succ])
          refine wpAnyH_take (i := 18) (oi := _) (v := ?v20) rfl (by kernel_rfl) (by kernel_rfl) (by kernel_rfl) (fun _ _ _ h => h) (Or.inl ⟨by rfl, ?y20⟩) (by assumption) ?r20
          case y20 => ((intro w hSw); (try dsimp only at hSw); go_simp; (try with_reducible rfl))
          (try simp only [Act.put, List.setIfInBounds_toArray, List.set_cons_zero, List.set_cons_succ])
          refine wpAnyH_take (i := 19) (oi := _) (v := ?v21) rfl (by kernel_rfl) (by kernel_rfl) (by kernel_rfl) (fun _ _ _ h => h) (Or.inl ⟨by rfl, ?y21⟩) (by assumption) ?r21
          case y21 => ((intro w hSw); (try dsimp only at hSw); go_simp; (try with_reducible rfl))
          (try simp only [Act.put, List.setIfInBounds_toArray, List.set_cons_zero, List.set_cons_succ])
          refine wpAnyH_take (i := 20) (oi := _) (v := ?v22) rfl (by kernel_rfl) (by kernel_rfl) (by kernel_rfl) (fun _ _ _ h => h) (Or.inl ⟨by rfl, ?y22⟩) (by assumption) ?r22
          case y22 => ((intro w hSw); (try dsimp only at hSw); go_simp; (try with_reducible rfl))
          (try simp only [Act.put, List.setIfInBounds_toArray, List.set_cons_zero, List.set_cons_succ])
          (try simp only [Act.put, List.getElem_toArray, List.getElem_cons_zero, List.getElem_cons_succ, List.setIfInBounds_toArray, List.set_cons_zero, List.set_cons_succ])
          refine wpAnyH_ready (rs := [21]) (by kernel_rfl) (by simp) ?_
          refine AllReadyH.cons rfl (fun K hK => ?st23) AllReadyH.nil
          go_simp
          go_at_call 80
          refine (n1copy _ V (NV7.out.still S10.out)).mono ?_
          rintro e w11 ⟨rfl, s11⟩
          have S11 := hid (S10.out.trans s11)
          clear s11
          refine hK.out _ _ ?k23 (fun hHeld23 => ?_)
          case k23 =>
            exact ⟨Still.cell S11.out a1, Still.cell S11.out a2⟩
          clear hK K
          (try simp only [Act.put, List.setIfInBounds_toArray, List.set_cons_zero, List.set_cons_succ])
          refine wpAnyH_take (i := 22) (oi := _) (v := ?v24) rfl (by kernel_rfl) (by kernel_rfl) (by kernel_rfl) (fun _ _ _ h => h) (Or.inl ⟨by rfl, ?y24⟩) (by assumption) ?r24
          case y24 => ((intro w hSw); (try dsimp only at hSw); go_simp; (try with_reducible rfl))
          (try simp only [Act.put, List.setIfInBounds_toArray, List.set_cons_zero, List.set_cons_succ])
          refine wpAnyH_done (by kernel_rfl) (Held.tailQ_normal ?_) _
          (try simp only [Act.put, List.getElem_toArray, List.getElem_cons_zero, List.getElem_cons_succ, List.setIfInBounds_toArray, List.set_cons_zero, List.set_cons_succ])
          go_wp2_with fail
          go_roundw
          case rel => exact ⟨j + 1, by go_num, by omega, (ST.out.trans S7.out).trans S11.out⟩
          case measure => simp [intOf]; omega
    · have hlt' : ¬ (j : Int) < 2 := by omega
      go_wp2_with (go_at_call 71; refine (alives _ (HT.out.still (HS.out.trans ST.out)) (HC.out.still (HS.out.trans ST.out))).mono ?_; rintro e w' ⟨rfl, hs2⟩)
      go_ret
      exact ⟨rfl, (HS.out.trans ST.out).trans hs2⟩
end Go.Proofs.YtffjaaolcphonaaDoor
