/- ThreadNone: the walk. -/
import Derived.Test.YtffjaaolcphonaaDoorTNone
import Derived.Test.YtffjaaolcphonaaDoorLActs
import Derived.Deep.RegionHeld3
namespace Go.Proofs.YtffjaaolcphonaaDoor
open Go.RowKit Go.Maps
set_option linter.unusedSimpArgs false
theorem idx91_0 (v1 : Value) : ∀ w, (Instr.index 91 (.agg #[.pointer none, v1]) (.int .i64 ((0 : Nat) : Int))).run Tryd.prog w = .ok (.pointer none) w := fun _ => by kernel_rfl
theorem idx91_1 (v1 : Value) : ∀ w, (Instr.index 91 (.agg #[.pointer none, v1]) (.int .i64 ((1 : Nat) : Int))).run Tryd.prog w = .ok v1 w := fun _ => by kernel_rfl
theorem idx93 (i : Nat) (hi : i < 10) : ∀ w, (Instr.index 93 (.agg #[.int .i64 1, .int .i64 1, .int .i64 1, .int .i64 1, .int .i64 1, .int .i64 1, .int .i64 1, .int .i64 1, .int .i64 1, .int .i64 1]) (.int .i64 (i : Int))).run Tryd.prog w = .ok (.int .i64 1) w := by
  intro w
  rcases (show i = 0 ∨ i = 1 ∨ i = 2 ∨ i = 3 ∨ i = 4 ∨ i = 5 ∨ i = 6 ∨ i = 7 ∨ i = 8 ∨ i = 9 by omega) with rfl | rfl | rfl | rfl | rfl | rfl | rfl | rfl | rfl | rfl <;> kernel_rfl
set_option maxRecDepth 100000 in
set_option maxHeartbeats 8000000 in
theorem threadNone (w : World) (hT : TabD w) (hC : TabT w) (x : LAct) : Calls Tryd.prog 12 #[(Value.agg #[.int .i64 x.k, .int .i64 x.i, .int .i64 x.t, .bool x.re, .int .i64 x.c.p, .int .i64 x.c.q, .int .i64 x.c.r0, .int .i64 x.c.r1, .int .i64 x.c.r2, .int .i64 x.c.r3, .int .i64 x.c.r4, .int .i64 x.c.r5, .int .i64 x.c.r6, .int .i64 x.c.r7, .int .i64 x.c.d])] w fun e w' => e = .returned (.bool true) ∧ Still w w' := by
  have HT := hid hT
  have HC := hid hC
  clear hT hC
  go_enter Tryd.func12, Tryd.ntmps12
  go_wp2_with fail
  refine wp_abs (fun w1 => Blk w1 w.heap.size [.int .i64 x.k, .int .i64 x.i, .int .i64 x.t, .bool x.re, .int .i64 x.c.p, .int .i64 x.c.q, .int .i64 x.c.r0, .int .i64 x.c.r1, .int .i64 x.c.r2, .int .i64 x.c.r3, .int .i64 x.c.r4, .int .i64 x.c.r5, .int .i64 x.c.r6, .int .i64 x.c.r7, .int .i64 x.c.d] 60 ∧ w1.cell? ⟨w.heap.size + 1, 0, none⟩ = some (.pointer none) ∧ Still w w1) ⟨(Blk.new w _ 60).alloc _, ?_, ((Fr.refl _ w).alloc _).alloc _⟩ ?_
  · simp
  rintro W ⟨hb, hz, hs⟩
  obtain ⟨ab, hab⟩ : ∃ z, w.heap.size = z := ⟨_, rfl⟩
  rw [hab] at hb hz ⊢
  obtain ⟨z, hzz⟩ : ∃ z, ab + 1 = z := ⟨_, rfl⟩
  rw [hzz] at hz ⊢
  clear hab hzz
  have HB := hid hb
  have HZ := hid hz
  have HS := hid hs
  clear hb hz hs
  go_loopw [5, 6, 7, 8, 9, 11, 13] (fun s5 s6 s7 s8 s9 s11 cc wr => ∃ j : Nat, cc = .int .i64 j ∧ j ≤ 2 ∧ Still W wr) (fun s5 s6 s7 s8 s9 s11 cc _ => 2 - (intOf cc).toNat)
  case atStart => exact ⟨0, rfl, by omega, Fr.refl _ _⟩
  case round =>
    obtain ⟨j, rfl, hj, hst⟩ := hrel
    have ST := hid hst
    clear hst
    by_cases hlt : j < 2
    · have hlt' : (j : Int) < 2 := by omega
      obtain ⟨V, hV, HN⟩ : ∃ V, (∀ w, (Instr.index 91 (.agg #[.pointer none, .pointer (some ⟨z, 0, none⟩)]) (.int .i64 (j : Int))).run Tryd.prog w = .ok V w) ∧ TNone wr V := by
        rcases (show j = 0 ∨ j = 1 by omega) with rfl | rfl
        · exact ⟨_, idx91_0 _, .inl rfl⟩
        · exact ⟨_, idx91_1 _, .inr ⟨z, rfl, Still.cell ST.out HZ.out⟩⟩
      have NV := hid HN
      have hbr := HB.out.still ST.out
      have a1 : wr.cell? ⟨ab, 1, none⟩ = some (.int .i64 x.i) := hbr.cell 1
      have a2 : wr.cell? ⟨ab, 2, none⟩ = some (.int .i64 x.t) := hbr.cell 2
      have HBR := hid hbr
      clear HN hbr
      go_wp2_with (first
        | (refine wpList_loadB rfl (.tmp 18) 58 rfl _ Tryd.underlying58 rfl _ 4 60 [.int .i64 x.k, .int .i64 x.i, .int .i64 x.t, .bool x.re, .int .i64 x.c.p, .int .i64 x.c.q, .int .i64 x.c.r0, .int .i64 x.c.r1, .int .i64 x.c.r2, .int .i64 x.c.r3, .int .i64 x.c.r4, .int .i64 x.c.r5, .int .i64 x.c.r6, .int .i64 x.c.r7, .int .i64 x.c.d] [.int .i64 x.c.p, .int .i64 x.c.q, .int .i64 x.c.r0, .int .i64 x.c.r1, .int .i64 x.c.r2, .int .i64 x.c.r3, .int .i64 x.c.r4, .int .i64 x.c.r5, .int .i64 x.c.r6, .int .i64 x.c.r7, .int .i64 x.c.d] I58 rfl HBR.out rfl ?_))
      refine (nspawn wr V NV.out x.c x.t).mono ?_
      rintro e w2 ⟨rfl, s2⟩
      have S2 := hid s2
      have a3 := Still.cell s2 a1
      clear s2
      go_wp2_with fail
      refine (nget w2 V (NV.out.still S2.out) x.i).mono ?_
      rintro e w3 ⟨rfl, s3⟩
      have S3 := hid (S2.out.trans s3)
      clear s3
      go_wp2_with (refine wpList_storeW rfl (.tmp 8) (.tmp 30) 77 rfl _ 77 [.int .i64 t0.i, .int .i64 t0.s, .int .i64 t0.t, .int .i64 t0.c.p, .int .i64 t0.c.q, .int .i64 t0.c.r0, .int .i64 t0.c.r1, .int .i64 t0.c.r2, .int .i64 t0.c.r3, .int .i64 t0.c.r4, .int .i64 t0.c.r5, .int .i64 t0.c.r6, .int .i64 t0.c.r7, .int .i64 t0.c.d, .int .i64 t0.d] [.int .i64 t0.i, .int .i64 t0.s, .int .i64 t0.t, .int .i64 t0.c.p, .int .i64 t0.c.q, .int .i64 t0.c.r0, .int .i64 t0.c.r1, .int .i64 t0.c.r2, .int .i64 t0.c.r3, .int .i64 t0.c.r4, .int .i64 t0.c.r5, .int .i64 t0.c.r6, .int .i64 t0.c.r7, .int .i64 t0.c.d, .int .i64 t0.d] I77 (ones t0) rfl rfl (new_t _) rfl ?_; intro w6 b6 f6; have S6 : Hid (Still wr w6) := hid (Still.next (S3.out.trans ((Fr.refl _ _).alloc _)) f6 (fun k hk => by rw [hk]; exact S3.out.size)); clear b6 f6)
      have NV6 := hid (NV.out.still S6.out)
      have HCT := hid (HC.out.still ((HS.out.trans ST.out).trans S6.out))
      have HB6 := HBR.out.still S6.out
      have b1 : w6.cell? ⟨ab, 1, none⟩ = some (.int .i64 x.i) := HB6.cell 1
      have e0 : w6.cell? ⟨ab, 4, none⟩ = some (.int .i64 x.c.p) := HB6.cell 4
      have e1 : w6.cell? ⟨ab, 5, none⟩ = some (.int .i64 x.c.q) := HB6.cell 5
      have e2 : w6.cell? ⟨ab, 6, none⟩ = some (.int .i64 x.c.r0) := HB6.cell 6
      have e3 : w6.cell? ⟨ab, 7, none⟩ = some (.int .i64 x.c.r1) := HB6.cell 7
      have e4 : w6.cell? ⟨ab, 8, none⟩ = some (.int .i64 x.c.r2) := HB6.cell 8
      have e5 : w6.cell? ⟨ab, 9, none⟩ = some (.int .i64 x.c.r3) := HB6.cell 9
      have e6 : w6.cell? ⟨ab, 10, none⟩ = some (.int .i64 x.c.r4) := HB6.cell 10
      have e7 : w6.cell? ⟨ab, 11, none⟩ = some (.int .i64 x.c.r5) := HB6.cell 11
      have e8 : w6.cell? ⟨ab, 12, none⟩ = some (.int .i64 x.c.r6) := HB6.cell 12
      have e9 : w6.cell? ⟨ab, 13, none⟩ = some (.int .i64 x.c.r7) := HB6.cell 13
      have e10 : w6.cell? ⟨ab, 14, none⟩ = some (.int .i64 x.c.d) := HB6.cell 14
      clear a1 a2 a3 HB6
      go_region_held3 (fun w' => w'.cell? ⟨ab, 1, none⟩ = some (.int .i64 x.i) ∧ w'.cell? ⟨ab, 4, none⟩ = some (.int .i64 x.c.p) ∧ w'.cell? ⟨ab, 5, none⟩ = some (.int .i64 x.c.q) ∧ w'.cell? ⟨ab, 6, none⟩ = some (.int .i64 x.c.r0) ∧ w'.cell? ⟨ab, 7, none⟩ = some (.int .i64 x.c.r1) ∧ w'.cell? ⟨ab, 8, none⟩ = some (.int .i64 x.c.r2) ∧ w'.cell? ⟨ab, 9, none⟩ = some (.int .i64 x.c.r3) ∧ w'.cell? ⟨ab, 10, none⟩ = some (.int .i64 x.c.r4) ∧ w'.cell? ⟨ab, 11, none⟩ = some (.int .i64 x.c.r5) ∧ w'.cell? ⟨ab, 12, none⟩ = some (.int .i64 x.c.r6) ∧ w'.cell? ⟨ab, 13, none⟩ = some (.int .i64 x.c.r7) ∧ w'.cell? ⟨ab, 14, none⟩ = some (.int .i64 x.c.d))
        (first | exact ⟨b1, e0, e1, e2, e3, e4, e5, e6, e7, e8, e9, e10⟩ | assumption | (rename_i hs7; exact ⟨Still.cell hs7 b1, Still.cell hs7 e0, Still.cell hs7 e1, Still.cell hs7 e2, Still.cell hs7 e3, Still.cell hs7 e4, Still.cell hs7 e5, Still.cell hs7 e6, Still.cell hs7 e7, Still.cell hs7 e8, Still.cell hs7 e9, Still.cell hs7 e10⟩))
        (first
          | (go_at_call 60; refine (nset _ V (NV6.out.still (by first | assumption | exact (Fr.refl _ _).drew)) x.i x.c).mono ?_; rintro e w7 ⟨rfl, hs7⟩; replace hs7 : Still w6 w7 := Still.trans (by first | assumption | exact (Fr.refl _ _).drew) hs7)
          | (go_at_call 61; refine (ndid _ V (NV6.out.still (by first | assumption | exact (Fr.refl _ _).drew)) x.i x.c).mono ?_; rintro e w7 ⟨rfl, hs7⟩; replace hs7 : Still w6 w7 := Still.trans (by first | assumption | exact (Fr.refl _ _).drew) hs7)
          | (go_at_call 46; refine (nrun _ V (NV6.out.still (by first | assumption | exact (Fr.refl _ _).drew)) (HCT.out.still (by first | assumption | exact (Fr.refl _ _).drew)) x.i).mono ?_; rintro e w7 ⟨rfl, hs7⟩; replace hs7 : Still w6 w7 := Still.trans (by first | assumption | exact (Fr.refl _ _).drew) hs7)
          | (go_at_call 47; refine (nyield _ V (NV6.out.still (by first | assumption | exact (Fr.refl _ _).drew)) (HCT.out.still (by first | assumption | exact (Fr.refl _ _).drew)) x.i).mono ?_; rintro e w7 ⟨rfl, hs7⟩; replace hs7 : Still w6 w7 := Still.trans (by first | assumption | exact (Fr.refl _ _).drew) hs7)
          | (go_at_call 48; refine (nwait _ V (NV6.out.still (by first | assumption | exact (Fr.refl _ _).drew)) (HCT.out.still (by first | assumption | exact (Fr.refl _ _).drew)) x.i).mono ?_; rintro e w7 ⟨rfl, hs7⟩; replace hs7 : Still w6 w7 := Still.trans (by first | assumption | exact (Fr.refl _ _).drew) hs7)
          | (go_at_call 49; refine (ntrap _ V (NV6.out.still (by first | assumption | exact (Fr.refl _ _).drew)) (HCT.out.still (by first | assumption | exact (Fr.refl _ _).drew)) x.i).mono ?_; rintro e w7 ⟨rfl, hs7⟩; replace hs7 : Still w6 w7 := Still.trans (by first | assumption | exact (Fr.refl _ _).drew) hs7)
          | (go_at_call 50; refine (nwake _ V (NV6.out.still (by first | assumption | exact (Fr.refl _ _).drew)) (HCT.out.still (by first | assumption | exact (Fr.refl _ _).drew)) x.i).mono ?_; rintro e w7 ⟨rfl, hs7⟩; replace hs7 : Still w6 w7 := Still.trans (by first | assumption | exact (Fr.refl _ _).drew) hs7)
          | (go_at_call 51; refine (nback _ V (NV6.out.still (by first | assumption | exact (Fr.refl _ _).drew)) (HCT.out.still (by first | assumption | exact (Fr.refl _ _).drew)) x.i).mono ?_; rintro e w7 ⟨rfl, hs7⟩; replace hs7 : Still w6 w7 := Still.trans (by first | assumption | exact (Fr.refl _ _).drew) hs7)
          | (go_at_call 52; refine (nend _ V (NV6.out.still (by first | assumption | exact (Fr.refl _ _).drew)) x.i).mono ?_; rintro e w7 ⟨rfl, hs7⟩; replace hs7 : Still w6 w7 := Still.trans (by first | assumption | exact (Fr.refl _ _).drew) hs7))
      go_wp2_with fail
      refine wp_abs (fun u => Still w6 u) (by assumption) ?_
      rintro W7 hW7
      have S7 := hid (S6.out.trans hW7)
      clear hW7
      go_loopw [11, 74] (fun s11 cc wx => ∃ i : Nat, cc = .int .i64 i ∧ i ≤ 10 ∧ wx = W7) (fun s11 cc _ => 10 - (intOf cc).toNat)
      case atStart => exact ⟨0, rfl, by omega, rfl⟩
      case round =>
        obtain ⟨i, rfl, hi, hw⟩ := hrel
        subst hw
        by_cases hi2 : i < 10
        · have hi2' : (i : Int) < 10 := by omega
          have X := idx93 i hi2
          go_wp2_with fail
          go_roundw
          case rel => exact ⟨i + 1, by go_num, by omega, trivial⟩
          case measure => simp [intOf]; omega
        · have hi2' : ¬ (i : Int) < 10 := by omega
          have a1 : wr.cell? ⟨ab, 1, none⟩ = some (.int .i64 x.i) := (HBR.out.still S7.out).cell 1
          go_wp2_with fail
          refine (ncount _ V (NV.out.still S7.out) x.i).mono ?_
          rintro e w8 ⟨rfl, s8⟩
          have S8 := hid (S7.out.trans s8)
          clear s8
          go_wp2_with fail
          refine (nall _ V (NV.out.still S8.out)).mono ?_
          rintro e w9 ⟨rfl, s9⟩
          have S9 := hid (S8.out.trans s9)
          clear s9
          go_wp2_with fail
          refine (ncopy _ V (NV.out.still S9.out)).mono ?_
          rintro e w10 ⟨rfl, s10⟩
          have S10 := hid (S9.out.trans s10)
          clear s10
          go_wp2_with fail
          go_roundw
          case rel => exact ⟨j + 1, by go_num, by omega, ST.out.trans S10.out⟩
          case measure => simp [intOf]; omega
    · have hlt' : ¬ (j : Int) < 2 := by omega
      go_wp2_with (go_at_call 40; refine (tlives _ (HT.out.still (HS.out.trans ST.out)) (HC.out.still (HS.out.trans ST.out))).mono ?_; rintro e w' ⟨rfl, hs2⟩)
      go_ret
      exact ⟨rfl, (HS.out.trans ST.out).trans hs2⟩
end Go.Proofs.YtffjaaolcphonaaDoor
