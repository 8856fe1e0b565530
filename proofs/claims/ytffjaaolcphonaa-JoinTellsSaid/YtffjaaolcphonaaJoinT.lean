/- JoinTells: the walk. -/
import Derived.Test.YtffjaaolcphonaaBdQ
namespace Go.Proofs.Ytffjaaolcphonaa
open Go.RowKit
set_option linter.unusedSimpArgs false
theorem tW_snoc (k : Nat) : tW (k + 1) = tW k ++ [65537 + (k : Int)] := by simp [tW, List.range_succ]
theorem tW_len (k : Nat) : (tW k).length = k := by simp [tW]
theorem row_keep' {w1 w2 : World} {n m : Nat} {a : Option Addr} {cp : Nat} {xs : List Int} (hm : xs.length = m) (h : IRow w1 (.slice a m cp) xs) (hnew : 0 < m → ∀ b o, a = some ⟨b, o, none⟩ → n ≤ b) {X : Nat → Prop} (hX : ∀ k, X k → k < n) (hf : Fr X w1 w2) : IRow w2 (.slice a m cp) xs := by
  subst hm; exact row_keep h hnew hX hf
set_option maxRecDepth 100000 in
set_option maxHeartbeats 4000000 in
theorem joinTells (w : World) (n v : Int) (hn : (Lit.int .u8 n).wf = true) : Calls Try.prog 11 #[.int .u8 n, .int .i64 v] w fun e w' => e = .returned (.bool true) ∧ Still w w' := by
  have hu : IntKind.u8.min ≤ n ∧ n ≤ IntKind.u8.max := by simpa [Lit.wf] using hn
  have hu' : 0 ≤ n ∧ n ≤ 255 := hu
  obtain ⟨x, rfl⟩ := Int.eq_ofNat_of_zero_le hu'.1
  have hx2 : (x : Int) ≤ 255 := hu'.2
  obtain ⟨k, hk⟩ : ∃ k, 1 + x % 9 = k := ⟨_, rfl⟩
  have hk0 : 0 < k := by omega
  have hk10 : k < 10 := by have := Nat.mod_lt x (show 0 < 9 by omega); omega
  have e1 : (x : Int) % 9 = (k : Int) - 1 := by omega
  have e2 : (x : Int).tmod 9 = (k : Int) - 1 := by rw [Int.tmod_eq_emod_of_nonneg (by omega)]; exact e1
  have e3 : (1 : Int) + ((k : Int) - 1) = (k : Int) := by omega
  have HK := hid hk
  have S0 := hid tJ_start
  clear hu hu' hn hk
  go_enter Try.func11, Try.ntmps11
  go_wp2_with fail
  refine (jnew _ 12 (by omega) (by omega)).mono ?_
  rintro e w1 ⟨J, rfl, h1, hs1, hK⟩
  clear e1 e2 e3
  go_wp2_with fail
  refine (jstart h1 65536 (by unfold inI; omega)).mono ?_
  rw [S0.out.1, S0.out.2]
  rintro e w2 ⟨rfl, h2, f2⟩
  have hs2 := jfresh hs1 f2 hK
  have hJl : ∀ k, J.all k → k < w2.heap.size := fun k hk => h2.lt hk
  have hz2 := hs2.size
  go_wp2_with fail
  go_loopw [7, 8] (fun want c wr => ∃ j : Nat, c = .int .i64 ((j : Int) + 1) ∧ j ≤ k ∧ JAt wr J (tJ j) ∧ Still w wr ∧ wr.ownsRow w2.heap.size 3 1 want j (ints (tW j)) ∧ w2.heap.size ≤ wr.heap.size) (fun _ c _ => k + 1 - (intOf c).toNat)
  case atStart => exact ⟨0, rfl, by omega, h2, hs2, World.ownsRow_nil _ _ _ _, Nat.le_refl _⟩
  case round =>
    clear h1 hs1 h2 f2 hs2
    obtain ⟨j, rfl, hj, hL, hst, hown, hwz⟩ := hrel
    obtain ⟨a5, c5, rfl⟩ := own_shape hown j rfl
    by_cases hlt : j < k
    · have hlt' : (j : Int) + 1 ≤ (k : Int) := by omega
      have hj' : (j : Int) ≤ 20 := by omega
      obtain ⟨E1, E2, E3, E4, E5⟩ := tJ_join j (by omega)
      have H1 := hid E1
      have H2 := hid E2
      have H3 := hid E3
      have H4 := hid E4
      have H5 := hid E5
      clear E1 E2 E3 E4 E5
      have HJ := hid (jjoin hL 65536 (65537 + (j : Int)) (by unfold inI; omega) (by unfold inI; omega))
      rw [H1.out, H2.out, H3.out, H4.out] at HJ
      have hsum : (65536 : Int) + ((j : Int) + 1) = 65537 + (j : Int) := by omega
      go_wp2_with fail
      refine HJ.out.mono ?_
      rintro e w3 ⟨rfl, h3, f3⟩
      have hst3 := jfresh hst f3 hK
      have hown3 := owns_fr hown f3 (fun k h1 _ h => by have := hJl k (.inr h); omega)
      have hz3 := f3.size
      have hz := hst.size
      clear hsum
      go_wp2_with fail
      refine (jwhere h3 (65537 + (j : Int)) (by unfold inI; omega)).mono ?_
      rw [H5.out]
      rintro e w4 ⟨rfl, hs4⟩
      have hown4 := owns_fr hown3 hs4 (fun _ _ _ h => h)
      have hz4 := hs4.size
      have h4 := h3.still hs4
      have hst4 := hst3.trans hs4
      go_wp2_with (at_builtin; refine wpList_append_irow rfl (.tmp 59) (.tmp 61) rfl w2.heap.size j (tW j) [65537 + (j : Int)] (.slice a5 j c5) _ rfl rfl (hown4.alloc _) (one_new _ _ _) (by simp; omega) (by simp; omega) ?_; intro v5 w5 ho5 hg5 _; have f5 : Fr (fun k => w2.heap.size ≤ k) w4 w5 := ((Fr.refl (fun k => w2.heap.size ≤ k) w4).alloc (.cells #[.int .i64 (65537 + (j : Int))] 3)).trans (Fr.own_fr (hown4.alloc _) hg5))
      have h5 := h4.fr f5 (fun k hk e => by have := hJl k hk; omega)
      have hst5 : Still w w5 := hst4.then f5 (fun i hi e => by omega)
      go_roundw
      case rel => exact ⟨j + 1, by go_num, by omega, h5, hst5, by rw [tW_snoc]; exact ho5, by have := f5.size; omega⟩
      case measure => simp [intOf]; omega
    · obtain rfl : k = j := by omega
      have hlt' : ¬ (k : Int) + 1 ≤ (k : Int) := by omega
      have hk' : (k : Int) ≤ 20 := by omega
      obtain ⟨E1, E2, E3⟩ := tJ_end k hk10 v
      have HE := hid (jend hL (fun p => tY_in k p) 65536 v (by unfold inI; omega))
      unfold EndPost at HE
      rw [E1, E2, E3, tW_len] at HE
      clear E1 E2 E3
      obtain ⟨A1, A2, A3, A4⟩ := uJ_join k v
      have HA := hid (fun W (h : JAt W J (uJ k v)) => jjoin h 65536 65547 (by unfold inI; omega) (by unfold inI; omega))
      rw [A1, A2, A3, A4] at HA
      have HB := hid (fun W (h : JAt W J (uJ k v)) => jwhere h 65537 (by unfold inI; omega))
      rw [uJ_where] at HB
      have HC := hid (fun W (h : JAt W J (uJ k v)) => jstart h 131072 (by unfold inI; omega))
      rw [(uJ_start k v).1, (uJ_start k v).2] at HC
      obtain ⟨B1, B2, B3, B4⟩ := xJ_join k
      have HD := hid (fun W (h : JAt W J (xJ k)) => jjoin h 65536 65537 (by unfold inI; omega) (by unfold inI; omega))
      rw [B1, B2, B3, B4] at HD
      have HX := hid (fun W (h : JAt W J (xJ k)) => jstate h 65536 (by unfold inI; omega))
      have HY := hid (fun W (h : JAt W J (xJ k)) => jstate h 131072 (by unfold inI; omega))
      rw [(xJ_state k).1] at HX
      rw [(xJ_state k).2] at HY
      clear A1 A2 A3 A4 B1 B2 B3 B4 hlt hj
      have HOWN := hid hown
      clear hown
      go_wp2_with fail
      refine HE.out.mono ?_
      rintro e w3 ⟨a3, c3, rfl, r3, h3, f3, n3⟩
      have hst3 := jfresh hst f3 hK
      have r3' : IRow w3 (.slice a3 k c3) (tW k) := r3
      have o3 : IRow w3 (.slice a5 k c5) (tW k) := IRow.own (owns_fr HOWN.out f3 (fun k h1 _ h => by have := hJl k (.inr h); omega)) (tW_len k).symm
      go_wp2_with fail
      refine (HA.out _ h3).mono ?_
      rintro e w4 ⟨rfl, h4, f4⟩
      have hst4 := jfresh hst3 f4 hK
      have hXl : ∀ k, J.foot k → k < w2.heap.size := fun k hk => hJl k (.inr hk)
      have hl4 := tW_len k
      have r4 : IRow w4 (.slice a3 k c3) (tW k) := row_keep' hl4 r3' (fun h b o e => Nat.le_trans hwz (n3 h b o e)) hXl f4
      have o4 : IRow w4 (.slice a5 k c5) (tW k) := row_keep' hl4 o3 (fun _ => own_addr HOWN.out) hXl f4
      have hll : (tW k).length ≤ 9223372036854775807 := by omega
      clear r3' o3 n3 r3 hl4
      go_wp2_with fail
      refine (ints_ok _ _ _ (tW k) (tW k) r4 o4 hll).mono ?_
      rw [decide_eq_true rfl]
      rintro e w5 ⟨rfl, hs5⟩
      go_wp2_with fail
      refine (HB.out _ (h4.still hs5)).mono ?_
      rintro e w6 ⟨rfl, hs6⟩
      go_wp2_with fail
      refine (HC.out _ ((h4.still hs5).still hs6)).mono ?_
      rintro e w7 ⟨rfl, h7, f7⟩
      have hst7 := jfresh ((hst4.trans hs5).trans hs6) f7 hK
      go_wp2_with fail
      refine (HD.out _ h7).mono ?_
      rintro e w8 ⟨rfl, h8, f8⟩
      have hst8 := jfresh hst7 f8 hK
      go_wp2_with fail
      refine (HX.out _ h8).mono ?_
      rintro e w9 ⟨rfl, hs9⟩
      go_wp2_with fail
      refine (HY.out _ (h8.still hs9)).mono ?_
      rintro e w10 ⟨rfl, hs10⟩
      go_wp2_with fail
      refine (jlives _).mono ?_
      rintro e w11 ⟨rfl, hs11⟩
      go_wp2_with fail
      go_ret
      exact ⟨rfl, ((hst8.trans hs9).trans hs10).trans hs11⟩
end Go.Proofs.Ytffjaaolcphonaa
