/- LockActs: the walk. -/
import Derived.Test.YtffjaaolcphonaaBdO
import Derived.Test.YtffjaaolcphonaaBdK
import Derived.Test.YtffjaaolcphonaaBdF
namespace Go.Proofs.Ytffjaaolcphonaa
open Go.RowKit
set_option linter.unusedSimpArgs false
theorem LInv.new {n T : Nat} (n0 : 1 ≤ n) : LInv (newLS n T) := by
  have hg : ∀ i, gl (List.replicate (2 * n) []) i = [] := gl_rep _
  have ho : ∀ o, o < n → (List.replicate n (-1 : Int)).getD o 0 = -1 := fun o h => by simp [List.getD, h]
  exact {
    ll := by simp [newLS], lo := by simp [newLS], la := by simp [newLS], nc := nice_rep _
    bd := fun i _ x hx => by rw [show gl (newLS n T).L i = [] from hg i] at hx; simp at hx
    rng := fun o h => by
      show -1 ≤ (List.replicate n (-1 : Int)).getD o 0 ∧ (List.replicate n (-1 : Int)).getD o 0 < (T : Int)
      rw [ho o h]; omega
    free := fun o _ _ => hg o
    own := fun o _ x hx => by rw [show gl (newLS n T).L o = [] from hg o] at hx; simp at hx
    slp := fun c _ x hx => by rw [show gl (newLS n T).L ((newLS n T).n + c) = [] from hg _] at hx; simp at hx
    wf := fun t ht => by
      have ht' : t < T := ht
      show inR ((List.replicate T (0 : Int)).getD t 0) n
      rw [show (List.replicate T (0 : Int)).getD t 0 = 0 by simp [List.getD, ht']]
      exact ⟨by omega, by omega⟩ }
theorem two_still {K : KB} {Q : QB} {w a b : World} (hs : Still w a) (hf : Fr (K.both Q) a b) (hK : ∀ k, K.both Q k → w.heap.size ≤ k) : Still w b :=
  hs.then hf fun _ hk h => by have := hK _ h; omega
theorem two_new {w1 w2 : World} {K : KB} {Q : QB} {n T : Nat} (h1 : LkAt w1 K (newLS n T)) (h2 : QAt w2 w1.heap.size Q (newLS n T)) (hs : Still w1 w2) : Twin w2 K w1.heap.size Q (newLS n T) (newLS n T) :=
  ⟨h1.still hs, h2, fun _ hk => h1.lt hk⟩
set_option maxRecDepth 100000 in
set_option maxHeartbeats 2000000 in
theorem lockActs_big (w : World) (x y : Int) (a : Option Addr) (n c : Nat) (hn : 150 < n) :
    Calls Try.prog 16 #[.agg #[.int .i64 x, .int .i64 y], .slice a n c] w fun e w' => e = .returned (.bool true) ∧ Still w w' := by
  have hn' : (150 : Int) < (n : Int) := by omega
  go_enter Try.func16, Try.ntmps16
  go_wp2_with (go_at_call 53; refine (klives _).mono ?_; rintro e w' ⟨rfl, hs13⟩)
  go_ret
  exact ⟨rfl, ((Fr.refl _ _).alloc _).trans hs13⟩
theorem box2 (w : World) (x y : Int) : ∃ W b, W = w.alloc (.cells #[.int .i64 x, .int .i64 y] 36) ∧ b = w.heap.size ∧ Still w W ∧ W.cell? ⟨b, 0, none⟩ = some (.int .i64 x) ∧ W.cell? ⟨b, 1, none⟩ = some (.int .i64 y) := by
  have e := Blk.new w [.int .i64 x, .int .i64 y] 36
  exact ⟨_, _, rfl, rfl, (Fr.refl _ _).alloc _, e.cell 0, e.cell 1⟩
def badL (x y : Int) : Prop := x < 1 ∨ 64 < x ∨ y < 1 ∨ 1024 < y
set_option maxRecDepth 100000 in
set_option maxHeartbeats 2000000 in
theorem lockActs_bad (w : World) (x y : Int) (a : Option Addr) (n c : Nat) (hn : n ≤ 150) (hb : badL x y) :
    Calls Try.prog 16 #[.agg #[.int .i64 x, .int .i64 y], .slice a n c] w fun e w' => e = .returned (.bool true) ∧ Still w w' := by
  have hn' : (n : Int) ≤ 150 := by omega
  have HB := hid hb
  clear hb
  go_enter Try.func16, Try.ntmps16
  go_wp2_with fail
  obtain ⟨W, b, hW, hbb, hs, c0, c1⟩ := box2 w x y
  rw [← hW, ← hbb]
  clear hW hbb
  go_region_held3 (fun w' => w'.cell? ⟨b, 0, none⟩ = some (.int .i64 x) ∧ w'.cell? ⟨b, 1, none⟩ = some (.int .i64 y))
    (exact ⟨c0, c1⟩)
    (first
      | (go_at_call 52; refine (lknew_no _ _ _ HB.out).mono ?_; rintro e w' ⟨rfl, rfl⟩)
      | (go_at_call 67; refine (qnew_no _ _ _ HB.out).mono ?_; rintro e w' ⟨rfl, rfl⟩))
  go_wp2_with (go_at_call 53; refine (klives _).mono ?_; rintro e w' ⟨rfl, hs13⟩)
  go_ret
  exact ⟨rfl, hs.drew.trans hs13⟩
set_option maxRecDepth 100000 in
set_option maxHeartbeats 4000000 in
theorem lockActs_ok (w : World) (x y : Nat) (a : Option Addr) (n c : Nat) (F : Nat → Nat → Int) (hF : IsRow3 4 w a n c F) (hn : n ≤ 150) (x0 : 1 ≤ x) (x1 : x ≤ 64) (y0 : 1 ≤ y) (y1 : y ≤ 1024) :
    Calls Try.prog 16 #[.agg #[.int .i64 x, .int .i64 y], .slice a n c] w fun e w' => e = .returned (.bool true) ∧ Still w w' := by
  have hn' : (n : Int) ≤ 150 := by omega
  have HF := hid hF
  clear hF
  go_enter Try.func16, Try.ntmps16
  go_wp2_with fail
  obtain ⟨W, b, hW, hbb, hs, c0, c1⟩ := box2 w x y
  rw [← hW, ← hbb]
  clear hW hbb
  go_region_held3 (fun w' => w'.cell? ⟨b, 0, none⟩ = some (.int .i64 x) ∧ w'.cell? ⟨b, 1, none⟩ = some (.int .i64 y))
    (first | exact ⟨c0, c1⟩ | exact ⟨Still.cell ‹Still W _› c0, Still.cell ‹Still W _› c1⟩)
    (first
      | (go_at_call 52; refine (lknew _ x y x0 x1 y0 y1).mono ?_; rintro e w1 ⟨K, rfl, h1, hs1', hnn⟩; have hs1 : Still W w1 := (Fr.refl _ W).drew.trans hs1')
      | (go_at_call 67; refine (qnew _ x y x0 x1 y0 y1).mono ?_; rintro e w2 ⟨Q, rfl, h2, hs2'⟩; have hs2 : Still W w2 := hs1.trans hs2'))
  have hB := two_new h1 h2 hs2'
  have hBW : ∀ k, K.both Q k → W.heap.size ≤ k := fun k hk => by
    rcases hk with hk | hk
    · exact hnn k (.inr hk)
    · exact Nat.le_trans hs1.size (h2.lX k hk)
  have hi0 := LInv.new (T := y) x0
  go_wp2_with fail
  go_loopw [33] (fun c wr => ∃ (j : Nat) (s : LS), c = .int .i64 j ∧ j ≤ n ∧ Twin wr K w1.heap.size Q s s ∧ LInv s ∧ Still W wr) (fun c _ => n - (intOf c).toNat)
  case atStart => exact ⟨0, _, rfl, Nat.zero_le _, hB, hi0, hs2⟩
  case round =>
    clear hB h1 h2 hs2' hs1' hi0
    obtain ⟨j, s, rfl, hj, hB, hi, hst⟩ := hrel
    by_cases hlt : j < n
    · have hlt' : (j : Int) < (n : Int) := by omega
      rcases HF.out with h0 | ⟨b1, o1, rfl, _, _, _, _, hc⟩
      · omega
      have g0 := Still.cell hst (Still.cell hs (hc j hlt 0 (by omega)))
      have g1 := Still.cell hst (Still.cell hs (hc j hlt 1 (by omega)))
      have g2 := Still.cell hst (Still.cell hs (hc j hlt 2 (by omega)))
      have g3 := Still.cell hst (Still.cell hs (hc j hlt 3 (by omega)))
      clear hc
      simp only [Nat.add_zero] at g0
      rw [← Nat.add_assoc] at g1 g2 g3
      go_wp2_with fail
      obtain ⟨W2, b2, hW2, hbb2, hB2, hb2, hF2, f0, f1, f2, f3⟩ := two_box hB (F j 0) (F j 1) (F j 2) (F j 3)
      rw [← hW2, ← hbb2]
      clear hW2 hbb2
      have hi2 := hi.step (F j 0) (F j 1) (F j 2) (F j 3)
      generalize F j 0 = k0 at *
      generalize F j 1 = k1 at *
      generalize F j 2 = k2 at *
      generalize F j 3 = k3 at *
      go_wp2_with (first
        | (go_at_call 68; refine (two_any hB2 hi k0 k1 k2 k3).mono ?_; rintro e w4 ⟨rfl, hB4, hF4⟩; have q0 := hF4.cellK f0 hb2; have q1 := hF4.cellK f1 hb2; have q2 := hF4.cellK f2 hb2; have q3 := hF4.cellK f3 hb2)
        | (go_at_call 69; refine (alike_any hB4 hi2.nc k0 k1 k2 k3).mono ?_; rintro e w5 ⟨rfl, hs5⟩))
      go_roundw
      case rel => exact ⟨j + 1, _, by go_num, by omega, hB4.still hs5, hi2, (two_still hst (hF2.then hF4 (fun _ _ h => h)) hBW).trans hs5⟩
      case measure => simp [intOf]; omega
    · have hlt' : ¬ (j : Int) < (n : Int) := by omega
      go_wp2_with (go_at_call 53; refine (klives _).mono ?_; rintro e w' ⟨rfl, hs13⟩)
      go_ret
      exact ⟨rfl, (hs.trans hst).trans hs13⟩
theorem lockActs (w : World) (x y : Int) (a : Option Addr) (n c : Nat) (F : Nat → Nat → Int) (hF : IsRow3 4 w a n c F) :
    Calls Try.prog 16 #[.agg #[.int .i64 x, .int .i64 y], .slice a n c] w fun e w' => e = .returned (.bool true) ∧ Still w w' := by
  by_cases hn : n ≤ 150
  · by_cases hb : badL x y
    · exact lockActs_bad w x y a n c hn hb
    · obtain ⟨x, rfl⟩ := Int.eq_ofNat_of_zero_le (show 0 ≤ x by unfold badL at hb; omega)
      obtain ⟨y, rfl⟩ := Int.eq_ofNat_of_zero_le (show 0 ≤ y by unfold badL at hb; omega)
      unfold badL at hb
      exact lockActs_ok w x y a n c F hF hn (by omega) (by omega) (by omega) (by omega)
  · exact lockActs_big w x y a n c (by omega)
end Go.Proofs.Ytffjaaolcphonaa
