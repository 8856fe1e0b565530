/- LockConds: plain facts by the kernel's count, and the walk. -/
import Derived.Test.YtffjaaolcphonaaLock8
import Derived.Test.YtffjaaolcphonaaLockL
import Derived.Test.YtffjaaolcphonaaActs
namespace Go.Proofs.Ytffjaaolcphonaa
open Go.RowKit
deriving instance DecidableEq for LS
def cAg (k : Nat) : List Int := (List.range 12).map fun i => if i < k then 1 else 0
/-- k threads wait for condition 0. -/
def cS (k : Nat) : LS := ⟨2, 12, [-1, -1], cAg k, [[], [], List.range k, []]⟩
def cS' (k : Nat) : LS := ⟨2, 12, [-1, (k : Int)], cAg k, [[], [], List.range k, []]⟩
/-- Thread t of k has lock 1, those behind it wait for it. -/
def dS (k t : Nat) : LS := ⟨2, 12, [-1, if t < k then (t : Int) else -1], cAg k, [[], (List.range k).drop (t + 1), [], []]⟩
theorem cS_zero : newLS 2 12 = cS 0 := by decide +kernel
theorem cS_lock : ∀ k, k < 12 → lockE (cS k) 1 k = 0 ∧ lockB (cS k) 1 k = true ∧ lockS (cS k) 1 k = cS' k := by decide +kernel
theorem cS_wait : ∀ k, k < 12 → waitE (cS' k) 0 1 k = 0 ∧ waitT (cS' k) 0 1 k = -1 ∧ waitS (cS' k) 0 1 k = cS (k + 1) := by decide +kernel
theorem cS_cast : ∀ k, k < 13 → 0 < k → ownerI (cS k) 1 = -1 ∧ (rowOf (cS k) 2 0) = List.range k ∧ ask1E (cS k) 0 = 0 ∧ castT (cS k) 0 = [0] ∧ castS (cS k) 0 = dS k 0 := by decide +kernel
theorem dS_row : ∀ k, k < 13 → 0 < k → rowOf (dS k 0) 2 0 = [] := by decide +kernel
theorem dS_unlock : ∀ k, k < 13 → ∀ t, t < k → ownerI (dS k t) 1 = t ∧ unlockS (dS k t) 1 t = dS k (t + 1) := by decide +kernel
theorem dS_end : ∀ k, k < 13 → ownerI (dS k k) 1 = -1 := by decide +kernel
set_option maxRecDepth 100000 in
set_option maxHeartbeats 4000000 in
theorem lockConds (w : World) (n : Int) (hn : (Lit.int .u8 n).wf = true) : Calls Try.prog 15 #[.int .u8 n] w fun e w' => e = .returned (.bool true) ∧ Still w w' := by
  have hu : IntKind.u8.min ≤ n ∧ n ≤ IntKind.u8.max := by simpa [Lit.wf] using hn
  have hu' : 0 ≤ n ∧ n ≤ 255 := hu
  obtain ⟨x, rfl⟩ := Int.eq_ofNat_of_zero_le hu'.1
  have hx2 : (x : Int) ≤ 255 := hu'.2
  obtain ⟨k, hk⟩ : ∃ k, 1 + x % 12 = k := ⟨_, rfl⟩
  have hk0 : 0 < k := by omega
  have hk13 : k < 13 := by have := Nat.mod_lt x (show 0 < 12 by omega); omega
  have e1 : (x : Int) % 12 = (k : Int) - 1 := by omega
  have e2 : (x : Int).tmod 12 = (k : Int) - 1 := by rw [Int.tmod_eq_emod_of_nonneg (by omega)]; exact e1
  have e3 : (1 : Int) + ((k : Int) - 1) = (k : Int) := by omega
  have HK := hid hk
  clear hu hu' hn hk
  go_enter Try.func15, Try.ntmps15
  go_wp2_with fail
  refine (lknew _ 2 12 (by omega) (by omega) (by omega) (by omega)).mono ?_
  rintro e w1 ⟨K, rfl, h1, hs1, hK⟩
  rw [cS_zero] at h1
  clear e1 e2 e3
  go_wp2_with fail
  go_loopw [5] (fun c wr => ∃ j : Nat, c = .int .i64 j ∧ j ≤ k ∧ LkAt wr K (cS j) ∧ Still w wr) (fun c _ => k - (intOf c).toNat)
  case atStart => exact ⟨0, rfl, by omega, h1, hs1⟩
  case round =>
    clear h1 hs1
    obtain ⟨j, rfl, hj, hL, hst⟩ := hrel
    by_cases hlt : j < k
    · have hlt' : (j : Int) < (k : Int) := by omega
      obtain ⟨E1, E2, E3⟩ := cS_lock j (by omega)
      obtain ⟨E4, E5, E6⟩ := cS_wait j (by omega)
      have H1 := hid E1
      have H2 := hid E2
      have H3 := hid E3
      have H4 := hid E4
      have H5 := hid E5
      have H6 := hid E6
      clear E1 E2 E3 E4 E5 E6
      go_wp2_with fail
      refine (lklock hL 1 j).mono ?_
      rw [H1.out, H2.out, H3.out]
      rintro e w2 ⟨rfl, h2, f2⟩
      go_wp2_with fail
      refine (lkwait h2 0 1 j).mono ?_
      rw [H4.out, H5.out, H6.out]
      rintro e w3 ⟨rfl, h3, f3⟩
      go_wp2_with fail
      go_roundw
      case rel => exact ⟨j + 1, by go_num, by omega, h3, kfresh (kfresh hst f2 hK) f3 hK⟩
      case measure => simp [intOf]; omega
    · have hlt' : ¬ (j : Int) < (k : Int) := by omega
      have hjk : j = k := by omega
      rw [hjk] at hL
      clear hjk
      obtain ⟨E1, E2, E3, E4, E5⟩ := cS_cast k hk13 hk0
      have E6 := dS_row k hk13 hk0
      have H1 := hid E1
      have H2 := hid E2
      have H3 := hid E3
      have H4 := hid E4
      have H5 := hid E5
      have H6 := hid E6
      clear E1 E2 E3 E4 E5 E6
      go_wp2_with fail
      refine (lkowner hL 1).mono ?_
      rw [H1.out]
      rintro e w2 ⟨rfl, s2⟩
      have h2 := hL.still s2
      go_wp2_with fail
      refine (lksleepers h2 0).mono ?_
      rw [show (cS k).n = 2 from rfl, H2.out]
      rintro e w3 ⟨a3, c3, rfl, _, s3, _⟩
      rw [List.length_range]
      have h3 := h2.still s3
      go_wp2_with fail
      refine (lkcast h3 0).mono ?_
      unfold CastPost
      rw [H3.out, H4.out, H5.out]
      rintro e w4 ⟨a4, c4, rfl, hr4, h4, f4, _⟩
      have hst4 := kfresh ((hst.trans s2).trans s3) f4 hK
      go_wp2_with fail
      refine (ints_ok _ _ _ [0] [0] (hr4.still ((Fr.refl _ _).alloc _)) (IRow.of_blk (Blk.new w4 [.int .i64 0] 3) (by decide)) (by decide)).mono ?_
      rw [show decide (([0] : List Int) = [0]) = true from by decide]
      rintro e w5 ⟨rfl, s5'⟩
      have s5 : Still w4 w5 := ((Fr.refl _ w4).alloc _).trans s5'
      have h5 := h4.still s5
      go_wp2_with fail
      refine (lksleepers h5 0).mono ?_
      rw [show (dS k 0).n = 2 from rfl, H6.out]
      rintro e w6 ⟨a6, c6, rfl, _, s6, _⟩
      have h6 := h5.still s6
      have hst6 := (hst4.trans s5).trans s6
      simp only [List.length_nil]
      go_wp2_with fail
      go_loopw [12] (fun c wr => ∃ i : Nat, c = .int .i64 i ∧ i ≤ k ∧ LkAt wr K (dS k i) ∧ Still w wr) (fun c _ => k - (intOf c).toNat)
      case atStart => exact ⟨0, rfl, by omega, h6, hst6⟩
      case round =>
        clear hL hst h2 s2 h3 s3 hr4 h4 f4 hst4 s5' s5 h5 s6 h6 hst6
        obtain ⟨i, rfl, hi, hL, hst⟩ := hrel
        by_cases hlt : i < k
        · have hlt' : (i : Int) < (k : Int) := by omega
          obtain ⟨E1, E2⟩ := dS_unlock k hk13 i hlt
          have G1 := hid E1
          have G2 := hid E2
          clear E1 E2
          go_wp2_with fail
          refine (lkowner hL 1).mono ?_
          rw [G1.out]
          rintro e w7 ⟨rfl, s7⟩
          go_wp2_with fail
          refine (lkunlock (hL.still s7) 1 i).mono ?_
          rw [G2.out]
          rintro e w8 ⟨rfl, h8, f8⟩
          go_wp2_with fail
          go_roundw
          case rel => exact ⟨i + 1, by go_num, by omega, h8, kfresh (hst.trans s7) f8 hK⟩
          case measure => simp [intOf]; omega
        · have hlt' : ¬ (i : Int) < (k : Int) := by omega
          have hik : i = k := by omega
          rw [hik] at hL
          clear hik
          have G := hid (dS_end k hk13)
          go_wp2_with (first
            | (go_at_call 56; refine (lkowner hL 1).mono ?_; rw [G.out]; rintro e w9 ⟨rfl, s9⟩)
            | (go_at_call 53; refine (klives _).mono ?_; rintro e w' ⟨rfl, hs13⟩))
          go_ret
          exact ⟨rfl, (hst.trans s9).trans hs13⟩
end Go.Proofs.Ytffjaaolcphonaa
