/- slices.Repeat of one number. -/
import Derived.Test.YtffjaaolcphonaaBdB
import Derived.Test.YtffjaaolcphonaaBdC
import Derived.IntWalk
import Derived.Laws.MathBits
import Derived.Laws.CopyOwn
import Derived.Deep.RegionHeld3
import Derived.Test.YtffjaaolcphonaaBdI
import Derived.Test.YtffjaaolcphonaaBdG
import Derived.Test.YtffjaaolcphonaaBdJ
import Derived.Test.YtffjaaolcphonaaBdF
import Derived.Deep.LoopGhost
namespace Go.Proofs.Ytffjaaolcphonaa
open Go.RowKit
theorem mul64_one (w : World) (n : Nat) (hn : n ≤ 1000) : Calls Try.prog 152 #[.int .u64 1, .int .u64 n] w fun e w' => e = .returned (.tuple #[.int .u64 0, .int .u64 n]) ∧ w = w' := by
  have hA : bits .and .u64 (n : Int) 4294967295 = (n : Int) := by rw [and_low32 _ (by omega) (by omega)]; omega
  have hB : bits .and .u64 1 4294967295 = 1 := by rw [and_low32 _ (by omega) (by omega)]; omega
  have hC : bits .and .u64 0 4294967295 = 0 := by rw [and_low32 _ (by omega) (by omega)]; omega
  have hS : (n : Int) / 4294967296 = 0 := by omega
  have hW : IntKind.u64.wrap (n : Int) = (n : Int) := by rw [IntKind.wrap_u64]; omega
  go_enter Try.func152, Try.ntmps152
  go_wp2
  go_ret2
  exact ⟨rfl, rfl⟩
theorem mul_one' (w : World) (n : Nat) (hn : n ≤ 1000) : Calls Try.prog 137 #[.int .u64 1, .int .u64 n] w fun e w' => e = .returned (.tuple #[.int .u64 0, .int .u64 n]) ∧ w = w' := by
  go_enter Try.func137, Try.ntmps137
  go_wp2_with (go_at_call 152; refine (mul64_one _ n hn).mono ?_; rintro e w' ⟨rfl, rfl⟩)
  go_ret2
  exact ⟨rfl, rfl⟩
def repU (m n : Nat) (v : Int) : List Value := ints (List.replicate m v ++ List.replicate (n - m) 0)
theorem repU_len {m n : Nat} {v : Int} (h : m ≤ n) : (repU m n v).length = n := by simp [repU, ints]; omega
theorem repU_splice {m n k : Nat} {v : Int} (h : m + k ≤ n) : splice (repU m n v) m (ints (List.replicate k v)) = repU (m + k) n v := by
  unfold splice repU ints
  simp only [List.map_append, List.map_replicate, List.length_replicate]
  rw [List.take_append_of_le_length (by simp), List.take_of_length_le (by simp), List.drop_append, List.drop_of_length_le (by simp), List.drop_replicate, List.nil_append, List.length_replicate, ← List.append_assoc, List.replicate_append_replicate]
  congr 2
  omega
theorem size3 : (Try.prog.info? 3).map (·.size) = some 1 := by kernel_rfl
def RepPost (w : World) (n : Nat) (v : Int) (e : Ending) (w' : World) : Prop := e = .returned (.slice (some ⟨w.heap.size, 0, none⟩) n n) ∧ Blk w' w.heap.size (ints (List.replicate n v)) 3 ∧ Still w w'
set_option maxRecDepth 100000 in
set_option maxHeartbeats 2000000 in
theorem repeat_one (w : World) (g c n : Nat) (v : Int) (h1 : 1 ≤ n) (hn : n ≤ 1000) (hx : w.cell? ⟨g, 0, none⟩ = some (.int .i64 v)) :
    Calls Try.prog 106 #[.slice (some ⟨g, 0, none⟩) 1 c, .int .i64 n] w (RepPost w n v) := by
  have HM := mk_ints n (by omega)
  have hw : IntKind.u64.wrap (n : Int) = (n : Int) := by rw [IntKind.wrap_u64]; omega
  have h0 : (0 : Int) ≤ (n : Int) := by omega
  have hbig : ¬ (9223372036854775807 : Int) < (n : Int) := by omega
  have hgl := World.block_lt_of_cell? _ _ hx
  have hx1 : ∀ (w1 : World), Still w w1 → ∀ j u, (ints [v])[j]? = some u → w1.cell? ((⟨g, 0, none⟩ : Addr).add j) = some u := fun w1 hs j u hu => by
    match j, hu with
    | 0, hu => cases hu; exact Still.cell hs hx
    | j + 1, hu => simp [ints] at hu
  have HX := hid hx1
  clear hx1
  have HG : Hid ((w.alloc (.cells (zr n) 3)).heap[w.heap.size]? = some (.cells (repU 0 n v).toArray 3 (0, 0))) := by
    have e : repU 0 n v = ints (List.replicate n 0) := by simp [repU]
    rw [e]; exact Blk.new w (ints (List.replicate n 0)) 3
  have HN : Hid ((ints [v]).length = Nat.min 1 n) := hid (show 1 = Nat.min 1 n from (Nat.min_eq_left h1).symm)
  have HFI : Hid (0 + (ints [v]).length ≤ (repU 0 n v).length) := hid (by rw [repU_len (by omega)]; simp [ints]; omega)
  have HBE : Hid (Below w.heap.size w (w.alloc (.cells (zr n) 3))) := hid ((Below.refl _ _).alloc (Nat.le_refl _) _)
  go_enter Try.func106, Try.ntmps106
  go_wp2_with (first
    | (go_at_call 137; refine (mul_one' _ n hn).mono ?_; rintro e w' ⟨rfl, rfl⟩)
    | (refine wpList_copy_splice (o := ⟨some 33, _, _, _, _, _⟩) rfl (.tmp 31) (.tmp 32) 28 28 rfl 3 Try.underlying28 size3 (some ⟨w.heap.size, 0, none⟩) (some ⟨g, 0, none⟩) n n 1 c rfl rfl w.heap.size 0 (repU 0 n v) 3 HG.out (ints [v]) HN.out (fun _ => ⟨rfl, _, rfl, HX.out _ ((Fr.refl _ w).alloc _)⟩) HFI.out (ints_one _) w.heap.size w HBE.out (Nat.le_refl _) ?_; intro w1 hb1 hbel1))
  have hB1 : Blk w1 w.heap.size (repU 1 n v) 3 := by
    have := hb1.out
    rw [show ints [v] = ints (List.replicate 1 v) from rfl, repU_splice (by omega)] at this
    rw [Nat.zero_add] at this; exact this
  have hs1 : Still w w1 := Fr.of_below0 hbel1 _
  have hz : Hid (w.heap.size = w.heap.size) := hid rfl
  obtain ⟨z, hzz⟩ : ∃ z, w.heap.size = z := ⟨_, rfl⟩
  rw [hzz] at hB1 ⊢
  have HZ := hid hzz
  clear hb1 hbel1 hzz hz
  go_loopw [8] (fun c wr => ∃ m : Nat, c = .int .i64 m ∧ 1 ≤ m ∧ m ≤ n ∧ Blk wr z (repU m n v) 3 ∧ Still w wr) (fun c _ => n - (intOf c).toNat)
  case atStart => exact ⟨1, rfl, by omega, h1, hB1, hs1⟩
  case round =>
    clear hB1 hs1
    obtain ⟨m, rfl, hm1, hm, hB, hs⟩ := hrel
    by_cases hlt : m < n
    · have hlt' : (m : Int) < (n : Int) := by omega
      have hmi : (0 : Int) ≤ (m : Int) := by omega
      have hmn : (m : Int) ≤ (n : Int) := by omega
      have hne : ¬ n = m := by omega
      have hmz : ¬ m = 0 := by omega
      have hnz : ¬ n = 0 := by omega
      obtain ⟨k, hk⟩ : ∃ k, Nat.min m (n - m) = k := ⟨_, rfl⟩
      have hk1 : m + k ≤ n := by have := Nat.min_le_right m (n - m); have e : Nat.min m (n - m) = min m (n - m) := rfl; omega
      have hk2 : k ≤ m := by have := Nat.min_le_left m (n - m); have e : Nat.min m (n - m) = min m (n - m) := rfl; omega
      have hk3 : 1 ≤ k := by have e : Nat.min m (n - m) = min m (n - m) := rfl; omega
      have HN2 : Hid ((ints (List.replicate k v)).length = Nat.min m (n - m)) := hid (by rw [hk]; simp [ints])
      have HL2 : Hid ((ints (List.replicate k v)).length = k) := hid (by simp [ints])
      have HF2 : Hid (m + (ints (List.replicate k v)).length ≤ (repU m n v).length) := hid (by rw [repU_len (by omega), HL2.out]; exact hk1)
      have HB2 : Hid (Below z w wr.drew) := hid (HZ.out ▸ (hs.drew).below (Nat.le_refl _) (fun _ h => h.elim))
      have HC2 : Hid (∀ j u, (ints (List.replicate k v))[j]? = some u → wr.drew.cell? ((⟨z, 0, none⟩ : Addr).add j) = some u) := hid fun j u hu => by
        have hj := (List.getElem?_eq_some_iff.1 hu).1
        rw [HL2.out] at hj
        have : (⟨z, 0, none⟩ : Addr).add j = ⟨z, j, none⟩ := Addr.add_zero_lit z j
        rw [this, Blk.cell hB.drew]
        rw [← hu]
        simp [repU, ints, hj, List.getElem?_append_left, show j < m by omega]
      have HK := hid hk
      clear hk
      have hwr : IntKind.i64.wrap ((m : Int) + (k : Int)) = (m : Int) + (k : Int) := IntWalk.i64_in _ (by omega)
      go_wp2_with fail
      go_region_held3 (fun _ => True) (trivial)
        ((refine step_copy_splice rfl (.tmp 41) (.tmp 44) 28 28 rfl 3 Try.underlying28 size3 (some ⟨z, m, none⟩) (some ⟨z, 0, none⟩) (n - m) (n - m) m n rfl rfl z m (repU m n v) 3 hB.drew (ints (List.replicate k v)) HN2.out (fun _ => ⟨rfl, _, rfl, HC2.out⟩) HF2.out (ints_one _) z w HB2.out (Nat.le_refl _) ?_; intro w2 hb2 hbel2))
      rw [HL2.out, hwr]
      go_wp2_with fail
      clear hwr
      go_roundw
      case rel =>
        refine ⟨m + k, by go_num, by omega, hk1, ?_, Fr.of_below0 (HZ.out ▸ hbel2) _⟩
        have := hb2.out
        rw [repU_splice hk1] at this
        exact this
      case measure => simp [intOf]; omega
    · have hlt' : ¬ (m : Int) < (n : Int) := by omega
      obtain rfl : m = n := by omega
      go_wp2_with fail
      go_ret
      refine ⟨by rw [HZ.out]; rfl, ?_, hs⟩
      rw [HZ.out]
      have e : repU m m v = ints (List.replicate m v) := by simp [repU]
      rw [← e]; exact hB
end Go.Proofs.Ytffjaaolcphonaa
/- The locks' New. -/
namespace Go.Proofs.Ytffjaaolcphonaa
open Go.RowKit
set_option linter.unusedSimpArgs false
def newLS (n T : Nat) : LS := ⟨n, T, List.replicate n (-1), List.replicate T 0, List.replicate (2 * n) []⟩
def LNew (w : World) (n T : Nat) (e : Ending) (w' : World) : Prop := ∃ K : KB, e = .returned (.pointer (some ⟨K.P, 0, none⟩)) ∧ LkAt w' K (newLS n T) ∧ Still w w' ∧ ∀ k, K.all k → w.heap.size ≤ k
theorem lnew_fin {w W : World} {O A n T : Nat} {B : LB} (hs : Still w W) (hO : Blk W O (ints (List.replicate n (-1))) 3) (hA : Blk W A (ints (List.replicate T 0)) 3) (hB : LsAt W B T (List.replicate (2 * n) []))
    (fO : w.heap.size ≤ O) (fA : w.heap.size ≤ A) (fB : ∀ k, B.foot k → w.heap.size ≤ k) (OA : O ≠ A) (dO : ¬ B.foot O) (dA : ¬ B.foot A) (n0 : 1 ≤ n) (n1 : n ≤ 64) (T0 : 1 ≤ T) (T1 : T ≤ 1024) :
    LkAt (W.alloc (.cells #[.slice (some ⟨O, 0, none⟩) n n, .slice (some ⟨A, 0, none⟩) T T, .pointer (some ⟨B.p, 0, none⟩)] 114)) ⟨W.heap.size, O, A, n, T, B⟩ (newLS n T) ∧
      Still w (W.alloc (.cells #[.slice (some ⟨O, 0, none⟩) n n, .slice (some ⟨A, 0, none⟩) T T, .pointer (some ⟨B.p, 0, none⟩)] 114)) ∧ ∀ k, (⟨W.heap.size, O, A, n, T, B⟩ : KB).all k → w.heap.size ≤ k := by
  have lO := hO.lt
  have lA := hA.lt
  have ls := hs.size
  refine ⟨⟨Blk.new W [_, _, _] 114, ⟨[], by rw [List.append_nil]; exact hO.alloc _⟩, ⟨[], by rw [List.append_nil]; exact hA.alloc _⟩, hB.still ((Fr.refl _ _).alloc _), (by show W.heap.size ≠ O; omega), (by show W.heap.size ≠ A; omega), OA,
    (fun h => by have := hB.lt h; exact absurd this (Nat.lt_irrefl _)), dO, dA, by simp [newLS], by simp [newLS], by simp [newLS], n0, n1, T0, T1, fun t ht => ?_⟩, hs.alloc _, ?_⟩
  · have e : (newLS n T).ag.getD t 0 = 0 := by simp [newLS, List.getD, List.getElem?_replicate]; split <;> rfl
    rw [e]; exact ⟨by omega, by show (0 : Int) < (n : Int); omega⟩
  · rintro k (rfl | rfl | rfl | h)
    · exact ls
    · exact fO
    · exact fA
    · exact fB k h
theorem lknew_no (w : World) (o t : Int) (h : o < 1 ∨ 64 < o ∨ t < 1 ∨ 1024 < t) : Calls Try.prog 52 #[.int .i64 o, .int .i64 t] w fun e w' => e = .returned (.pointer none) ∧ w = w' := by
  by_cases h1 : o < 1
  · clear h
    go_enter Try.func52, Try.ntmps52
    go_wp2
    go_ret
    exact ⟨rfl, rfl⟩
  · by_cases h2 : 64 < o
    · clear h
      go_enter Try.func52, Try.ntmps52
      go_wp2
      go_ret
      exact ⟨rfl, rfl⟩
    · by_cases h3 : t < 1
      · clear h
        go_enter Try.func52, Try.ntmps52
        go_wp2
        go_ret
        exact ⟨rfl, rfl⟩
      · have h4 : 1024 < t := by omega
        clear h
        go_enter Try.func52, Try.ntmps52
        go_wp2
        go_ret
        exact ⟨rfl, rfl⟩
set_option maxRecDepth 100000 in
set_option maxHeartbeats 4000000 in
theorem lknew (w : World) (n T : Nat) (n0 : 1 ≤ n) (n1 : n ≤ 64) (T0 : 1 ≤ T) (T1 : T ≤ 1024) : Calls Try.prog 52 #[.int .i64 n, .int .i64 T] w (LNew w n T) := by
  have a1 : ¬ (n : Int) < 1 := by omega
  have a2 : ¬ (64 : Int) < (n : Int) := by omega
  have a3 : ¬ (T : Int) < 1 := by omega
  have a4 : ¬ (1024 : Int) < (T : Int) := by omega
  have HM := mk_ints T (by omega)
  have hw2 : IntKind.i64.wrap (2 * (n : Int)) = 2 * (n : Int) := IntWalk.i64_in _ (by omega)
  have CR := fun (W : World) (g : Nat) (hx : W.cell? ⟨g, 0, none⟩ = some (.int .i64 (-1))) => repeat_one W g 1 n (-1) n0 (by omega) hx
  have CN := fun (W : World) => new_ls W T (2 * n) T0 (by omega) (by omega) (by omega)
  rw [show ((2 * n : Nat) : Int) = 2 * (n : Int) by omega] at CN
  have HR := hid CR
  have HN := hid CN
  clear CR CN
  go_enter Try.func52, Try.ntmps52
  go_wp2_with fail
  refine Held.wp_region_held_tail (S := (fun _ => True)) 11 (by kernel_rfl) (by kernel_rfl) (by decide) ?hS1 (fun hHeld => ?hR1)
  case hS1 =>
    exact trivial
  simp only [List.take_succ_cons, List.take_zero, List.drop_succ_cons, List.drop_zero]
  refine wpAnyH_take (i := 1) (oi := _) (v := ?v2) rfl (by kernel_rfl) (by kernel_rfl) (by kernel_rfl) (fun _ _ _ h => h) (Or.inl ⟨by rfl, ?y2⟩) (by assumption) ?r2
  case y2 => ((intro w hSw); (try dsimp only at hSw); go_simp; (try with_reducible rfl))
  (try simp only [Act.put, List.setIfInBounds_toArray, List.set_cons_zero, List.set_cons_succ])
  refine wpAnyH_take (i := 3) (oi := _) (v := ?v3) rfl (by kernel_rfl) (by kernel_rfl) (by kernel_rfl) (fun _ _ _ h => h) (Or.inl ⟨by rfl, ?y3⟩) (by assumption) ?r3
  case y3 => ((intro w hSw); (try dsimp only at hSw); go_simp; (try with_reducible rfl))
  (try simp only [Act.put, List.setIfInBounds_toArray, List.set_cons_zero, List.set_cons_succ])
  refine wpAnyH_take (i := 5) (oi := _) (v := ?v4) rfl (by kernel_rfl) (by kernel_rfl) (by kernel_rfl) (fun _ _ _ h => h) (Or.inl ⟨by rfl, ?y4⟩) (by assumption) ?r4
  case y4 => ((intro w hSw); (try dsimp only at hSw); go_simp; (try with_reducible rfl))
  (try simp only [Act.put, List.setIfInBounds_toArray, List.set_cons_zero, List.set_cons_succ])
  refine wpAnyH_take (i := 6) (oi := _) (v := ?v5) rfl (by kernel_rfl) (by kernel_rfl) (by kernel_rfl) (fun _ _ _ h => h) (Or.inl ⟨by rfl, ?y5⟩) (by assumption) ?r5
  case y5 => ((intro w hSw); (try dsimp only at hSw); go_simp; (try with_reducible rfl))
  (try simp only [Act.put, List.setIfInBounds_toArray, List.set_cons_zero, List.set_cons_succ])
  refine wpAnyH_take (i := 7) (oi := _) (v := ?v6) rfl (by kernel_rfl) (by kernel_rfl) (by kernel_rfl) (fun _ _ _ h => h) (Or.inl ⟨by rfl, ?y6⟩) (by assumption) ?r6
  case y6 => ((intro w hSw); (try dsimp only at hSw); go_simp; (try with_reducible rfl))
  (try simp only [Act.put, List.setIfInBounds_toArray, List.set_cons_zero, List.set_cons_succ])
  refine wpAnyH_ready (rs := [0, 4]) (by kernel_rfl) (by simp) ?_
  refine AllReadyH.cons rfl (fun K hK => ?_) (AllReadyH.cons rfl (fun K hK => ?_) AllReadyH.nil)
  · skip
    go_simp
    refine hK.out _ _ ?k7 (fun hHeld7 => ?_)
    case k7 =>
      exact trivial
    clear hK K
    (try simp only [Act.put, List.setIfInBounds_toArray, List.set_cons_zero, List.set_cons_succ])
    refine wpAnyH_ready (rs := [2, 4]) (by kernel_rfl) (by simp) ?_
    refine AllReadyH.cons rfl (fun K hK => ?_) (AllReadyH.cons rfl (fun K hK => ?_) AllReadyH.nil)
    · skip
      go_simp
      go_at_call 106
      refine (HR.out _ _ ((Blk.new w [.int .i64 (-1)] 3).drew.cell 0)).mono ?_
      rintro e w1 ⟨rfl, hO', hs1'⟩
      have hs1 : Still w w1 := Still.trans (((Fr.refl _ w).alloc _).drew) hs1'
      have z1 := hs1'.size
      have eO : (w.alloc (.cells #[.int .i64 (-1)] 3)).drew.heap.size = w.heap.size + 1 := by simp
      rw [eO] at hO' z1 ⊢
      have hO : Blk w1 (w.heap.size + 1) (ints (List.replicate n (-1))) 3 := hO'
      have lO := hO.lt
      clear hO' eO
      refine hK.out _ _ ?k8 (fun hHeld8 => ?_)
      case k8 =>
        exact trivial
      clear hK K
      (try simp only [Act.put, List.setIfInBounds_toArray, List.set_cons_zero, List.set_cons_succ])
      refine wpAnyH_ready (rs := [4, 8]) (by kernel_rfl) (by simp) ?_
      refine AllReadyH.cons rfl (fun K hK => ?_) (AllReadyH.cons rfl (fun K hK => ?_) AllReadyH.nil)
      · skip
        go_simp
        refine hK.out _ _ ?k9 (fun hHeld9 => ?_)
        case k9 =>
          exact trivial
        clear hK K
        (try simp only [Act.put, List.setIfInBounds_toArray, List.set_cons_zero, List.set_cons_succ])
        have hA1 := Blk.new w1 (ints (List.replicate T 0)) 3
        refine wpAnyH_ready (rs := [8]) (by kernel_rfl) (by simp) ?_
        refine AllReadyH.cons rfl (fun K hK => ?st10) AllReadyH.nil
        go_simp
        go_at_call 19
        refine (HN.out _).mono ?_
        rintro e w2 ⟨B, rfl, hB, hs2', hnn'⟩
        have hs2 : Still w w2 := Still.trans (hs1.alloc _) hs2'
        have z2 := hs2.size
        refine hK.out _ _ ?k10 (fun hHeld10 => ?_)
        case k10 =>
          exact trivial
        clear hK K
        (try simp only [Act.put, List.setIfInBounds_toArray, List.set_cons_zero, List.set_cons_succ])
        have hnn : ∀ k, B.foot k → w1.heap.size + 1 ≤ k := fun k hk => by have := hnn' k hk; simpa using this
        have zz : w.heap.size ≤ w1.heap.size := by omega
        refine wpAnyH_take (i := 9) (oi := _) (v := ?v11) rfl (by kernel_rfl) (by kernel_rfl) (by kernel_rfl) (fun _ _ _ h => h) (Or.inl ⟨by rfl, ?y11⟩) (by assumption) ?r11
        case y11 => ((intro w hSw); (try dsimp only at hSw); go_simp; (try with_reducible rfl))
        (try simp only [Act.put, List.setIfInBounds_toArray, List.set_cons_zero, List.set_cons_succ])
        refine wpAnyH_ready (rs := [10]) (by kernel_rfl) (by simp) ?_
        refine AllReadyH.cons rfl (fun K hK => ?st12) AllReadyH.nil
        go_simp
        refine hK.out _ _ ?k12 (fun hHeld12 => ?_)
        case k12 =>
          exact trivial
        clear hK K
        (try simp only [Act.put, List.setIfInBounds_toArray, List.set_cons_zero, List.set_cons_succ])
        refine wpAnyH_done (by kernel_rfl) (Held.tailQ_normal ?_) _
        have hf := lnew_fin (w := w) hs2 ((hO.alloc _).still hs2') (hA1.still hs2') hB (by omega) (by omega) (fun k hk => by have := hnn k hk; omega) (by omega) (fun h => by have := hnn _ h; omega) (fun h => by have := hnn _ h; omega) n0 n1 T0 T1
        have HF := hid hf
        clear hf
        go_wp2
        go_ret
        exact ⟨_, rfl, HF.out.1, HF.out.2.1, HF.out.2.2⟩
      · skip
        go_simp
        go_at_call 19
        refine (HN.out _).mono ?_
        rintro e w2 ⟨B, rfl, hB, hs2', hnn'⟩
        have hs2 : Still w w2 := Still.trans (hs1) hs2'
        have z2 := hs2.size
        refine hK.out _ _ ?k13 (fun hHeld13 => ?_)
        case k13 =>
          exact trivial
        clear hK K
        (try simp only [Act.put, List.setIfInBounds_toArray, List.set_cons_zero, List.set_cons_succ])
        have hnn := hnn'
        have hA1 := Blk.new w2 (ints (List.replicate T 0)) 3
        have zz : w1.heap.size ≤ w2.heap.size := hs2'.size
        have lB := fun k hk => hB.lt (k := k) hk
        refine wpAnyH_ready (rs := [4]) (by kernel_rfl) (by simp) ?_
        refine AllReadyH.cons rfl (fun K hK => ?st14) AllReadyH.nil
        go_simp
        refine hK.out _ _ ?k14 (fun hHeld14 => ?_)
        case k14 =>
          exact trivial
        clear hK K
        (try simp only [Act.put, List.setIfInBounds_toArray, List.set_cons_zero, List.set_cons_succ])
        refine wpAnyH_take (i := 9) (oi := _) (v := ?v15) rfl (by kernel_rfl) (by kernel_rfl) (by kernel_rfl) (fun _ _ _ h => h) (Or.inl ⟨by rfl, ?y15⟩) (by assumption) ?r15
        case y15 => ((intro w hSw); (try dsimp only at hSw); go_simp; (try with_reducible rfl))
        (try simp only [Act.put, List.setIfInBounds_toArray, List.set_cons_zero, List.set_cons_succ])
        refine wpAnyH_ready (rs := [10]) (by kernel_rfl) (by simp) ?_
        refine AllReadyH.cons rfl (fun K hK => ?st16) AllReadyH.nil
        go_simp
        refine hK.out _ _ ?k16 (fun hHeld16 => ?_)
        case k16 =>
          exact trivial
        clear hK K
        (try simp only [Act.put, List.setIfInBounds_toArray, List.set_cons_zero, List.set_cons_succ])
        refine wpAnyH_done (by kernel_rfl) (Held.tailQ_normal ?_) _
        have hf := lnew_fin (w := w) (hs2.alloc _) ((hO.still hs2').alloc _) hA1 (hB.still ((Fr.refl _ _).alloc _)) (by omega) (by omega) (fun k hk => by have := hnn k hk; omega) (by omega) (fun h => by have := hnn _ h; omega) (fun h => by have := hB.lt h; omega) n0 n1 T0 T1
        rw [show (w2.alloc (.cells (ints (List.replicate T 0)).toArray 3)).heap.size = w2.heap.size + 1 from Array.size_push _] at hf
        have HF := hid hf
        clear hf
        go_wp2
        go_ret
        exact ⟨_, rfl, HF.out.1, HF.out.2.1, HF.out.2.2⟩
    · skip
      go_simp
      refine hK.out _ _ ?k17 (fun hHeld17 => ?_)
      case k17 =>
        exact trivial
      clear hK K
      (try simp only [Act.put, List.setIfInBounds_toArray, List.set_cons_zero, List.set_cons_succ])
      refine wpAnyH_ready (rs := [2]) (by kernel_rfl) (by simp) ?_
      refine AllReadyH.cons rfl (fun K hK => ?st18) AllReadyH.nil
      go_simp
      go_at_call 106
      refine (HR.out _ _ (((Blk.new w [.int .i64 (-1)] 3).alloc _).drew.cell 0)).mono ?_
      rintro e w1 ⟨rfl, hO', hs1'⟩
      have hs1 : Still w w1 := Still.trans ((((Fr.refl _ w).alloc _).alloc _).drew) hs1'
      have z1 := hs1'.size
      have eO : ((w.alloc (.cells #[.int .i64 (-1)] 3)).alloc (.cells (zr T) 3)).drew.heap.size = w.heap.size + 1 + 1 := by simp
      rw [eO] at hO' z1 ⊢
      have hO : Blk w1 (w.heap.size + 1 + 1) (ints (List.replicate n (-1))) 3 := hO'
      have lO := hO.lt
      clear hO' eO
      refine hK.out _ _ ?k18 (fun hHeld18 => ?_)
      case k18 =>
        exact trivial
      clear hK K
      (try simp only [Act.put, List.setIfInBounds_toArray, List.set_cons_zero, List.set_cons_succ])
      have hA1 : Blk w1 (w.heap.size + 1) (ints (List.replicate T 0)) 3 := ((blk_new1 w _ (ints (List.replicate T 0)) 3).drew).still hs1'
      refine wpAnyH_ready (rs := [8]) (by kernel_rfl) (by simp) ?_
      refine AllReadyH.cons rfl (fun K hK => ?st19) AllReadyH.nil
      go_simp
      go_at_call 19
      refine (HN.out _).mono ?_
      rintro e w2 ⟨B, rfl, hB, hs2', hnn'⟩
      have hs2 : Still w w2 := Still.trans (hs1) hs2'
      have z2 := hs2.size
      refine hK.out _ _ ?k19 (fun hHeld19 => ?_)
      case k19 =>
        exact trivial
      clear hK K
      (try simp only [Act.put, List.setIfInBounds_toArray, List.set_cons_zero, List.set_cons_succ])
      have hnn := hnn'
      refine wpAnyH_take (i := 9) (oi := _) (v := ?v20) rfl (by kernel_rfl) (by kernel_rfl) (by kernel_rfl) (fun _ _ _ h => h) (Or.inl ⟨by rfl, ?y20⟩) (by assumption) ?r20
      case y20 => ((intro w hSw); (try dsimp only at hSw); go_simp; (try with_reducible rfl))
      (try simp only [Act.put, List.setIfInBounds_toArray, List.set_cons_zero, List.set_cons_succ])
      refine wpAnyH_ready (rs := [10]) (by kernel_rfl) (by simp) ?_
      refine AllReadyH.cons rfl (fun K hK => ?st21) AllReadyH.nil
      go_simp
      refine hK.out _ _ ?k21 (fun hHeld21 => ?_)
      case k21 =>
        exact trivial
      clear hK K
      (try simp only [Act.put, List.setIfInBounds_toArray, List.set_cons_zero, List.set_cons_succ])
      refine wpAnyH_done (by kernel_rfl) (Held.tailQ_normal ?_) _
      have hf := lnew_fin (w := w) hs2 (hO.still hs2') (hA1.still hs2') hB (by omega) (by omega) (fun k hk => by have := hnn k hk; omega) (by omega) (fun h => by have := hnn _ h; omega) (fun h => by have := hnn _ h; omega) n0 n1 T0 T1
      have HF := hid hf
      clear hf
      go_wp2
      go_ret
      exact ⟨_, rfl, HF.out.1, HF.out.2.1, HF.out.2.2⟩
  · skip
    go_simp
    refine hK.out _ _ ?k22 (fun hHeld22 => ?_)
    case k22 =>
      exact trivial
    clear hK K
    (try simp only [Act.put, List.setIfInBounds_toArray, List.set_cons_zero, List.set_cons_succ])
    refine wpAnyH_ready (rs := [0]) (by kernel_rfl) (by simp) ?_
    refine AllReadyH.cons rfl (fun K hK => ?st23) AllReadyH.nil
    go_simp
    refine hK.out _ _ ?k23 (fun hHeld23 => ?_)
    case k23 =>
      exact trivial
    clear hK K
    (try simp only [Act.put, List.setIfInBounds_toArray, List.set_cons_zero, List.set_cons_succ])
    refine wpAnyH_ready (rs := [2]) (by kernel_rfl) (by simp) ?_
    refine AllReadyH.cons rfl (fun K hK => ?st24) AllReadyH.nil
    go_simp
    go_at_call 106
    refine (HR.out _ _ ((blk_new1 w _ [.int .i64 (-1)] 3).drew.cell 0)).mono ?_
    rintro e w1 ⟨rfl, hO', hs1'⟩
    have hs1 : Still w w1 := Still.trans ((((Fr.refl _ w).alloc _).alloc _).drew) hs1'
    have z1 := hs1'.size
    have eO : ((w.alloc (.cells (zr T) 3)).alloc (.cells #[.int .i64 (-1)] 3)).drew.heap.size = w.heap.size + 1 + 1 := by simp
    rw [eO] at hO' z1 ⊢
    have hO : Blk w1 (w.heap.size + 1 + 1) (ints (List.replicate n (-1))) 3 := hO'
    have lO := hO.lt
    clear hO' eO
    refine hK.out _ _ ?k24 (fun hHeld24 => ?_)
    case k24 =>
      exact trivial
    clear hK K
    (try simp only [Act.put, List.setIfInBounds_toArray, List.set_cons_zero, List.set_cons_succ])
    have hA1 : Blk w1 w.heap.size (ints (List.replicate T 0)) 3 := (((Blk.new w (ints (List.replicate T 0)) 3).alloc _).drew).still hs1'
    refine wpAnyH_ready (rs := [8]) (by kernel_rfl) (by simp) ?_
    refine AllReadyH.cons rfl (fun K hK => ?st25) AllReadyH.nil
    go_simp
    go_at_call 19
    refine (HN.out _).mono ?_
    rintro e w2 ⟨B, rfl, hB, hs2', hnn'⟩
    have hs2 : Still w w2 := Still.trans (hs1) hs2'
    have z2 := hs2.size
    refine hK.out _ _ ?k25 (fun hHeld25 => ?_)
    case k25 =>
      exact trivial
    clear hK K
    (try simp only [Act.put, List.setIfInBounds_toArray, List.set_cons_zero, List.set_cons_succ])
    have hnn := hnn'
    refine wpAnyH_take (i := 9) (oi := _) (v := ?v26) rfl (by kernel_rfl) (by kernel_rfl) (by kernel_rfl) (fun _ _ _ h => h) (Or.inl ⟨by rfl, ?y26⟩) (by assumption) ?r26
    case y26 => ((intro w hSw); (try dsimp only at hSw); go_simp; (try with_reducible rfl))
    (try simp only [Act.put, List.setIfInBounds_toArray, List.set_cons_zero, List.set_cons_succ])
    refine wpAnyH_ready (rs := [10]) (by kernel_rfl) (by simp) ?_
    refine AllReadyH.cons rfl (fun K hK => ?st27) AllReadyH.nil
    go_simp
    refine hK.out _ _ ?k27 (fun hHeld27 => ?_)
    case k27 =>
      exact trivial
    clear hK K
    (try simp only [Act.put, List.setIfInBounds_toArray, List.set_cons_zero, List.set_cons_succ])
    refine wpAnyH_done (by kernel_rfl) (Held.tailQ_normal ?_) _
    have hf := lnew_fin (w := w) hs2 (hO.still hs2') (hA1.still hs2') hB (by omega) (by omega) (fun k hk => by have := hnn k hk; omega) (by omega) (fun h => by have := hnn _ h; omega) (fun h => by have := hnn _ h; omega) n0 n1 T0 T1
    have HF := hid hf
    clear hf
    go_wp2
    go_ret
    exact ⟨_, rfl, HF.out.1, HF.out.2.1, HF.out.2.2⟩
end Go.Proofs.Ytffjaaolcphonaa
/- The locks' law: lives. -/
namespace Go.Proofs.Ytffjaaolcphonaa
open Go.RowKit
theorem kfresh {w a b : World} {K : KB} (hs : Still w a) (hf : Fr K.foot a b) (hK : ∀ k, K.all k → w.heap.size ≤ k) : Still w b :=
  hs.then hf fun k hk h => by have := hK k (.inr h); omega
set_option maxRecDepth 100000 in
set_option maxHeartbeats 2000000 in
theorem klives (w : World) : Calls Try.prog 53 #[] w fun e w' => e = .returned (.bool true) ∧ Still w w' := by
  go_enter Try.func53, Try.ntmps53
  go_wp2_with fail
  refine (lknew _ 1 3 (by omega) (by omega) (by omega) (by omega)).mono ?_
  rintro e w1 ⟨K, rfl, h1, hs1, hK⟩
  go_wp2_with fail
  refine (lklock h1 0 1).mono ?_
  rw [show lockE (newLS 1 3) 0 1 = 0 from by decide, show lockB (newLS 1 3) 0 1 = true from by decide, show lockS (newLS 1 3) 0 1 = ⟨1, 3, [1], [0, 0, 0], [[], []]⟩ from by rfl]
  rintro e w2 ⟨rfl, h2, f2⟩
  go_wp2_with fail
  refine (lklock h2 0 2).mono ?_
  rw [show lockE ⟨1, 3, [1], [0, 0, 0], [[], []]⟩ 0 2 = 0 from by decide, show lockB ⟨1, 3, [1], [0, 0, 0], [[], []]⟩ 0 2 = false from by decide, show lockS ⟨1, 3, [1], [0, 0, 0], [[], []]⟩ 0 2 = ⟨1, 3, [1], [0, 0, 0], [[2], []]⟩ from by rfl]
  rintro e w3 ⟨rfl, h3, f3⟩
  go_wp2_with fail
  refine (lkunlock h3 0 1).mono ?_
  rw [show unlockE ⟨1, 3, [1], [0, 0, 0], [[2], []]⟩ 0 1 = 0 from by decide, show unlockT ⟨1, 3, [1], [0, 0, 0], [[2], []]⟩ 0 1 = 2 from by decide]
  rintro e w4 ⟨rfl, h4, f4⟩
  go_wp2_with fail
  go_ret
  exact ⟨rfl, kfresh (kfresh (kfresh hs1 f2 hK) f3 hK) f4 hK⟩
end Go.Proofs.Ytffjaaolcphonaa
/- LockOrder: plain facts, and the walk. -/
namespace Go.Proofs.Ytffjaaolcphonaa
open Go.RowKit
theorem owns_fr {w w' : World} {base : Nat} {e : TypeId} {size n : Nat} {v : Value} {xs : List Value} (h : w.ownsRow base e size v n xs) {F : Nat → Prop} (hf : Fr F w w') (hd : ∀ k, base ≤ k → k < w.heap.size → ¬ F k) : w'.ownsRow base e size v n xs := by
  refine ⟨h.1, h.2.imp id ?_⟩
  rintro ⟨g, cap, cur, h1, h2, h3, h4⟩
  have hg := (Array.getElem?_eq_some_iff.1 h3).1
  exact ⟨g, cap, cur, h1, h2, (hf.block g hg (hd g h2 hg)).trans h3, h4⟩
def hdI : List Nat → Int
  | [] => -1
  | y :: _ => (y : Int)
theorem Fr.own_fr {w w' : World} {base : Nat} {e : TypeId} {size n : Nat} {v : Value} {xs : List Value} (hown : w.ownsRow base e size v n xs) (hg : w.grownBy w' v.ownBlock) : Fr (fun k => base ≤ k) w w' :=
  Fr.of_grownBy hg (F := fun k => base ≤ k) (fun j ej _ => by
      rcases hown.2 with ⟨rfl, _⟩ | ⟨g, cap, cur, rfl, hb, _, _⟩
      · simp [Value.ownBlock] at ej
      · obtain rfl : g = j := by simpa [Value.ownBlock] using ej
        exact hb)
/-- One lock of 16 threads: A asked for it, the first has it. -/
def oS (A : List Nat) : LS := ⟨1, 16, [match A with | [] => -1 | t :: _ => (t : Int)], List.replicate 16 0, [A.tail, []]⟩
theorem wh_two (B : List Nat) (t : Nat) : wh [B, []] t = if t ∈ B then 0 else -1 := by
  unfold wh
  by_cases h : t ∈ B <;> simp [List.findIdx?_cons, h]
theorem oS_zero : newLS 1 16 = oS [] := rfl
theorem oS_idle {A : List Nat} {t : Nat} (ht : t < 16) : idleR (oS A) t = (decide (t ∉ A.tail), 5) := by
  have e : whI 16 [A.tail, []] (t : Int) = if t ∈ A.tail then 0 else -1 := by
    unfold whI; rw [if_pos ⟨by omega, by omega⟩, Int.toNat_natCast, wh_two]
  unfold idleR
  rw [if_pos (show inR (t : Int) (oS A).T from ⟨by omega, by show (t : Int) < (16 : Nat); omega⟩)]
  show (decide (whI 16 [A.tail, []] (t : Int) < 0), (5 : Int)) = _
  rw [e]
  by_cases h : t ∈ A.tail <;> simp [h]
theorem oS_allR (A : List Nat) : allR [0] (oS A).n = true := by show allR [0] 1 = true; decide
theorem lock_in {A : List Nat} {t : Nat} (ht : t < 16) (hm : t ∈ A) : lockE (oS A) 0 t = 5 := by
  unfold lockE
  rw [oS_allR, oS_idle ht]
  match A, hm with
  | a :: l, hm =>
    by_cases h : t ∈ l
    · simp [askE, h]
    · have e : t = a := by simpa [h] using hm
      subst e
      simp [askE, h, oS]
theorem lock_new {A : List Nat} {t : Nat} (ht : t < 16) (hm : t ∉ A) : lockE (oS A) 0 t = 0 ∧ lockB (oS A) 0 t = decide (A = []) ∧ lockS (oS A) 0 t = oS (A ++ [t]) := by
  have hE : lockE (oS A) 0 t = 0 := by
    unfold lockE
    rw [oS_allR, oS_idle ht]
    match A, hm with
    | [], hm =>
      have : ((-1 : Int) == (t : Int)) = false := by simp
      simp [askE, oS, this]
    | a :: l, hm =>
      simp only [List.mem_cons, not_or] at hm
      have : ((a : Int) == (t : Int)) = false := by simp; omega
      simp [askE, hm.2, oS, this]
  refine ⟨hE, ?_, ?_⟩
  · unfold lockB; rw [if_pos hE]
    match A with
    | [] => rfl
    | a :: l => simp [getB, oS]
  · unfold lockS; rw [if_pos hE]
    match A, hm with
    | [], _ => simp [getS, oS]
    | a :: l, hm =>
      simp only [List.mem_cons, not_or] at hm
      have hp : pushE 16 [l, []] 0 t = 0 := by
        unfold pushE
        rw [if_pos ⟨⟨by omega, by simp⟩, by omega, by omega⟩, Int.toNat_natCast, wh_two, if_neg hm.2]; rfl
      have hl : pushL 16 [l, []] 0 t = [l ++ [t], []] := by unfold pushL; rw [if_pos hp]; simp [gl]
      unfold getS
      rw [if_neg (by simp [oS])]
      show (⟨1, 16, [(a : Int)], _, pushL 16 [l, []] ((0 : Nat) : Int) t⟩ : LS) = _
      rw [show ((0 : Nat) : Int) = 0 from rfl, hl]; rfl
theorem unlock_head {t : Nat} {ys : List Nat} (ht : t < 16) (hm : t ∉ ys) : unlockE (oS (t :: ys)) 0 t = 0 ∧ unlockT (oS (t :: ys)) 0 t = hdI ys ∧ unlockS (oS (t :: ys)) 0 t = oS ys := by
  have hE : unlockE (oS (t :: ys)) 0 t = 0 := by
    unfold unlockE
    rw [oS_allR, oS_idle ht]
    simp [askE, hm, oS]
  have hT : passT (oS (t :: ys)) 0 = hdI ys := by
    match ys with
    | [] => rfl
    | y :: l => simp [passT, oS, gl, hdI]
  refine ⟨hE, ?_, ?_⟩
  · unfold unlockT; rw [if_pos hE]; exact hT
  · unfold unlockS; rw [if_pos hE]
    show passS (oS (t :: ys)) 0 = _
    unfold passS
    rw [hT]
    match ys with
    | [] => rfl
    | y :: l => rfl
theorem oS_free : ownerI (oS []) 0 = -1 := by decide
theorem lockB_in {A : List Nat} {t : Nat} (ht : t < 16) (hm : t ∈ A) : lockB (oS A) 0 t = false ∧ lockS (oS A) 0 t = oS A := by
  unfold lockB lockS; rw [lock_in ht hm]; exact ⟨rfl, rfl⟩
set_option maxRecDepth 100000 in
set_option maxHeartbeats 2000000 in
theorem lockOrder_big (w : World) (a : Option Addr) (n c : Nat) (hn : 60 < n) :
    Calls Try.prog 12 #[.slice a n c] w fun e w' => e = .returned (.bool true) ∧ Still w w' := by
  have hn' : (60 : Int) < (n : Int) := by omega
  clear hn
  go_enter Try.func12, Try.ntmps12
  go_wp2_with fail
  refine (lknew _ 1 16 (by omega) (by omega) (by omega) (by omega)).mono ?_
  rintro e w1 ⟨K, rfl, h1, hs1, hK⟩
  go_wp2_with (go_at_call 53; refine (klives _).mono ?_; rintro e w' ⟨rfl, hs13⟩)
  go_ret
  exact ⟨rfl, hs1.trans hs13⟩
set_option maxRecDepth 100000 in
set_option maxHeartbeats 4000000 in
theorem lockOrder_ok (w : World) (a : Option Addr) (n c : Nat) (F : Nat → Int) (hF : IsRow1 .u8 w a n c F) (hn : n ≤ 60) :
    Calls Try.prog 12 #[.slice a n c] w fun e w' => e = .returned (.bool true) ∧ Still w w' := by
  have hn' : (n : Int) ≤ 60 := by omega
  have HF := hid hF
  clear hF
  go_enter Try.func12, Try.ntmps12
  go_wp2_with fail
  refine (lknew _ 1 16 (by omega) (by omega) (by omega) (by omega)).mono ?_
  rintro e w1 ⟨K, rfl, h1, hs1, hK⟩
  rw [oS_zero] at h1
  have hKb : ∀ k, K.all k → k < w1.heap.size := fun k hk => h1.lt hk
  obtain ⟨z, hz⟩ : ∃ z, w1.heap.size = z := ⟨_, rfl⟩
  rw [hz] at hKb
  have hz1 : z ≤ w1.heap.size := by omega
  have hwz : w.heap.size ≤ z := by have := hs1.size; omega
  clear hz
  go_wp2_with fail
  go_loopw [4, 30] (fun v c wr => ∃ (j : Nat) (A : List Nat), c = .int .i64 j ∧ j ≤ n ∧ A.length ≤ j ∧ A.Nodup ∧ (∀ t ∈ A, t < 16) ∧ wr.ownsRow z 3 1 v A.length (ints (zi A)) ∧ LkAt wr K (oS A) ∧ Still w wr ∧ z ≤ wr.heap.size) (fun _ c _ => n - (intOf c).toNat)
  case atStart => exact ⟨0, [], rfl, by omega, by simp, by simp, by simp, World.ownsRow_nil _ _ _ _, h1, hs1, hz1⟩
  case round =>
    clear h1 hs1 hz1
    obtain ⟨j, A, rfl, hj, hAj, hnd, hA16, hown, hL, hst, hzr⟩ := hrel
    by_cases hlt : j < n
    · have hlt' : (j : Int) < (n : Int) := by omega
      rcases HF.out with h0 | ⟨b1, o1, rfl, _, _, _, _, hc⟩
      · omega
      obtain ⟨hc1, hc2⟩ := hc j hlt
      have c1 := Still.cell hst hc1
      have hu : IntKind.u8.min ≤ F j ∧ F j ≤ IntKind.u8.max := by simpa [Lit.wf] using hc2
      have hu' : 0 ≤ F j ∧ F j ≤ 255 := hu
      obtain ⟨x, hx⟩ := Int.eq_ofNat_of_zero_le hu'.1
      rw [hx] at c1 hu'
      have hx2 : (x : Int) ≤ 255 := hu'.2
      have ht16 : x % 16 < 16 := Nat.mod_lt _ (by omega)
      obtain ⟨t, htx⟩ : ∃ t, x % 16 = t := ⟨_, rfl⟩
      have hti : (x : Int) % 16 = (t : Int) := by omega
      have hti2 : (x : Int).tmod 16 = (t : Int) := by rw [Int.tmod_eq_emod_of_nonneg (by omega)]; exact hti
      rw [htx] at ht16
      have HX := hid hx
      have HT := hid htx
      clear hu hu' hx htx
      clear hc hc1 hc2
      by_cases hm : t ∈ A
      · have E1 := lock_in ht16 hm
        obtain ⟨E2, E3⟩ := lockB_in ht16 hm
        have H1 := hid E1
        have H2 := hid E2
        have H3 := hid E3
        have HM := hid hm
        clear E1 E2 E3 hm
        go_wp2_with fail
        refine (lklock hL 0 t).mono ?_
        rw [H1.out, H2.out, H3.out]
        rintro e w2 ⟨rfl, h2, f2⟩
        have hown2 := owns_fr hown f2 (fun k h1 _ h => by have := hKb k (.inr h); omega)
        go_wp2_with fail
        go_roundw
        case rel => exact ⟨j + 1, A, by go_num, by omega, by omega, hnd, hA16, hown2, h2, kfresh hst f2 hK, Nat.le_trans hzr f2.size⟩
        case measure => simp [intOf]; omega
      · obtain ⟨E1, E2, E3⟩ := lock_new ht16 hm
        have H1 := hid E1
        have H2 := hid E2
        have H3 := hid E3
        have HM := hid hm
        have hnd' : Hid ((A ++ [t]).Nodup) := hid (List.nodup_append.2 ⟨hnd, by simp, fun a ha b hb e => by simp at hb; subst e; subst hb; exact hm ha⟩)
        have hA' : Hid (∀ u ∈ A ++ [t], u < 16) := hid fun u hu => by
          rcases List.mem_append.1 hu with h | h
          · exact hA16 u h
          · simp at h; omega
        obtain ⟨a4, c4, rfl⟩ := own_shape hown A.length rfl
        have hAl : A.length ≤ 60 := by omega
        obtain ⟨b0, hb0⟩ : ∃ b, decide (A = []) = b := ⟨_, rfl⟩
        have hlb : ((A.length : Int) == 0) = b0 := by rw [← hb0]; cases A <;> simp; omega
        have HB0 := hid hb0
        obtain ⟨m, hm'⟩ : ∃ m, A.length = m := ⟨_, rfl⟩
        rw [hm'] at hown hlb hAl ⊢
        have HMM := hid hm'
        clear E1 E2 E3 hm hb0 hnd hA16 hm'
        go_wp2_with fail
        refine (lklock hL 0 t).mono ?_
        rw [H1.out, H2.out, H3.out, HB0.out]
        rintro e w2 ⟨rfl, h2, f2⟩
        have hown2 := owns_fr hown f2 (fun k h1 _ h => by have := hKb k (.inr h); omega)
        have hst2 := kfresh hst f2 hK
        have hz2 := Nat.le_trans hzr f2.size
        clear hown
        cases b0
        all_goals
          go_wp2_with (at_builtin; refine wpList_append_irow rfl (.tmp 54) (.tmp 56) rfl z m (zi A) [(t : Int)] (.slice a4 m c4) _ rfl rfl (hown2.alloc _) (one_new _ _ _) (by simp; omega) (by simp; omega) ?_; intro v3 w3 ho3 hg3 _)
          have f3 := ((Fr.refl (fun k => z ≤ k) w2).alloc (.cells #[.int .i64 (t : Int)] 3)).trans (Fr.own_fr (hown2.alloc _) hg3)
          have h3 := h2.fr f3 (fun k hk h => by have := hKb k hk; omega)
          have hst3 := Fr.of_own (hst2.alloc _) (hown2.alloc _) hg3 hwz
          have hz3 := Nat.le_trans hz2 f3.size
          have ho3' : w3.ownsRow z 3 1 v3 (A ++ [t]).length (ints (zi (A ++ [t]))) := by
            have e : (A ++ [t]).length = m + [(t : Int)].length := by rw [List.length_append, HMM.out]; rfl
            rw [e]; simpa [zi] using ho3
          go_roundw
          case rel => exact ⟨j + 1, A ++ [t], by go_num, by omega, by have := HMM.out; rw [List.length_append]; simp; omega, hnd'.out, hA'.out, ho3', h3, hst3, hz3⟩
          case measure => simp [intOf]; omega
    · obtain ⟨a4, c4, rfl⟩ := own_shape hown A.length rfl
      have hA60 : A.length ≤ 60 := by omega
      obtain ⟨m, hm'⟩ : ∃ m, A.length = m := ⟨_, rfl⟩
      rw [hm'] at hown hA60 ⊢
      have HMM := hid hm'
      have HND := hid hnd
      have HA16 := hid hA16
      clear hnd hA16 hm' hAj
      go_wp2_with fail
      go_loopw [61] (fun c wr => ∃ i : Nat, c = .int .i64 i ∧ i ≤ m ∧ wr.ownsRow z 3 1 (.slice a4 m c4) m (ints (zi A)) ∧ LkAt wr K (oS (A.drop i)) ∧ Still w wr) (fun c _ => m - (intOf c).toNat)
      case atStart => exact ⟨0, rfl, by omega, hown, by simpa using hL, hst⟩
      case round =>
        clear hown hL hst hzr
        obtain ⟨i, rfl, hi, hown, hL, hst⟩ := hrel
        by_cases hlt : i < m
        · have hlt' : (i : Int) < (m : Int) := by omega
          have hiA : i < A.length := by have := HMM.out; omega
          have hdr : A.drop i = A[i] :: A.drop (i + 1) := List.drop_eq_getElem_cons hiA
          obtain ⟨t, ht⟩ : ∃ t, A[i] = t := ⟨_, rfl⟩
          rw [ht] at hdr
          obtain ⟨ys, hys⟩ : ∃ ys, A.drop (i + 1) = ys := ⟨_, rfl⟩
          rw [hys] at hdr
          have ht16 : t < 16 := HA16.out t (by rw [← ht]; exact List.getElem_mem _)
          have htn : t ∉ ys := by
            have h1 : (A.drop i).Nodup := List.Nodup.sublist (List.drop_sublist _ _) HND.out
            rw [hdr] at h1
            exact (List.nodup_cons.1 h1).1
          obtain ⟨E1, E2, E3⟩ := unlock_head ht16 htn
          rw [hdr] at hL
          have hown' : wr.ownsRow z 3 1 (.slice a4 m c4) m (ints (zi A)) := hown
          have hrow := IRow.own hown (by rw [zi_len]; exact HMM.out.symm)
          rcases hrow with ⟨h0, _⟩ | ⟨_, b, off, c', hv, hcell⟩
          · have := HMM.out; have e := congrArg List.length h0; rw [zi_len] at e; simp at e; rw [e] at this; simp at this; omega
          obtain rfl : a4 = some ⟨b, off, none⟩ := by injection hv
          clear hv
          have hb : b < wr.heap.size ∧ ¬ K.foot b := by
            have h1 := World.block_lt_of_cell? _ _ (hcell i (by rw [zi_len]; exact hiA))
            refine ⟨h1, fun h => ?_⟩
            have h2 := hKb b (.inr h)
            obtain ⟨_, ⟨h3, _⟩ | ⟨g, cap, _, h3, h4, _⟩⟩ := hown'
            · cases h3
            · injection h3 with h3; injection h3 with h3; injection h3 with h3; omega
          have cx := hcell i (by rw [zi_len]; exact hiA)
          rw [show (zi A).getD i 0 = (t : Int) by simp [zi, hiA, ht]] at cx
          have H1 := hid E1
          have H2 := hid E2
          have H3 := hid E3
          by_cases hn1 : i + 1 < m
          · have hn1' : (i : Int) + 1 < (m : Int) := by omega
            have hiA1 : i + 1 < A.length := by have := HMM.out; omega
            have hy : hdI ys = (A[i + 1] : Int) := by rw [← hys, List.drop_eq_getElem_cons hiA1]; rfl
            have cy := hcell (i + 1) (by rw [zi_len]; exact hiA1)
            obtain ⟨y, hye⟩ : ∃ y, A[i + 1] = y := ⟨_, rfl⟩
            rw [show (zi A).getD (i + 1) 0 = (y : Int) by simp [zi, hiA1, hye]] at cy
            rw [hye] at hy
            have HY := hid hy
            have HYS := hid hys
            clear hcell hdr ht hys htn E1 E2 E3 hy hye
            go_wp2_with fail
            refine (lkunlock hL 0 t).mono ?_
            rw [H1.out, H2.out, H3.out, HY.out]
            rintro e w2 ⟨rfl, h2, f2⟩
            have cy2 := f2.cellK cy hb.2
            have hown2 := owns_fr hown f2 (fun k h1 _ h => by have := hKb k (.inr h); omega)
            go_wp2_with fail
            go_roundw
            case rel => exact ⟨i + 1, by go_num, by omega, hown2, by rw [HYS.out]; exact h2, kfresh hst f2 hK⟩
            case measure => simp [intOf]; omega
          · have hn1' : ¬ (i : Int) + 1 < (m : Int) := by omega
            have hy : hdI ys = -1 := by rw [← hys, List.drop_eq_nil_of_le (by have := HMM.out; omega)]; rfl
            have HY := hid hy
            have HYS := hid hys
            clear hcell hdr ht hys htn E1 E2 E3 hy
            go_wp2_with fail
            refine (lkunlock hL 0 t).mono ?_
            rw [H1.out, H2.out, H3.out, HY.out]
            rintro e w2 ⟨rfl, h2, f2⟩
            have hown2 := owns_fr hown f2 (fun k h1 _ h => by have := hKb k (.inr h); omega)
            go_wp2_with fail
            go_roundw
            case rel => exact ⟨i + 1, by go_num, by omega, hown2, by rw [HYS.out]; exact h2, kfresh hst f2 hK⟩
            case measure => simp [intOf]; omega
        · have hlt' : ¬ (i : Int) < (m : Int) := by omega
          rw [List.drop_eq_nil_of_le (by have := HMM.out; omega)] at hL
          go_wp2_with (first
            | (go_at_call 56; refine (lkowner hL 0).mono ?_; rw [oS_free]; rintro e w5 ⟨rfl, hs5⟩)
            | (go_at_call 53; refine (klives _).mono ?_; rintro e w' ⟨rfl, hs13⟩))
          go_ret
          exact ⟨rfl, (hst.trans hs5).trans hs13⟩
theorem lockOrder (w : World) (a : Option Addr) (n c : Nat) (F : Nat → Int) (hF : IsRow1 .u8 w a n c F) :
    Calls Try.prog 12 #[.slice a n c] w fun e w' => e = .returned (.bool true) ∧ Still w w' := by
  by_cases hn : n ≤ 60
  · exact lockOrder_ok w a n c F hF hn
  · exact lockOrder_big w a n c (by omega)
end Go.Proofs.Ytffjaaolcphonaa
/- The locks: Cast. -/
namespace Go.Proofs.Ytffjaaolcphonaa
open Go.RowKit
def castF : Nat → LS → Nat → List Int → List Int × LS
  | 0, s, _, acc => (acc, s)
  | f + 1, s, c, acc => castF f (sigS s c) c (acc ++ (if sigT s c = -1 then [] else [sigT s c]))
def castN (s : LS) (c : Int) : Nat := (gl s.L (s.n + c.toNat)).length
def castT (s : LS) (c : Int) : List Int := if ask1E s c = 0 then (castF (castN s c) s c.toNat []).1 else []
def castS (s : LS) (c : Int) : LS := if ask1E s c = 0 then (castF (castN s c) s c.toNat []).2 else s
theorem pushL_ne {T : Nat} {L : List (List Nat)} {i t : Int} {j : Nat} (h : i.toNat ≠ j) : gl (pushL T L i t) j = gl L j := by
  unfold pushL; split
  · exact gl_set_ne' _ _ h
  · rfl
theorem getS_ne {s : LS} {o j : Nat} {t : Int} (h : o ≠ j) : gl (getS s o t).L j = gl s.L j := by
  unfold getS; split
  · rfl
  · exact pushL_ne (by simpa using h)
theorem getS_n (s : LS) (o : Nat) (t : Int) : (getS s o t).n = s.n := by unfold getS; split <;> rfl
theorem popL_at {L : List (List Nat)} {i : Nat} (hi : i < L.length) {x : Nat} {ys : List Nat} (h : gl L i = x :: ys) : gl (popL L (i : Int)) i = ys := by
  have hE : popE' L (i : Int) = 0 := by unfold popE'; rw [if_pos ⟨by omega, by omega⟩, Int.toNat_natCast, h]; simp
  unfold popL; rw [if_pos hE, Int.toNat_natCast, gl_set_self' _ _ _ hi, h]; rfl
theorem sig_tail {w : World} {K : KB} {s : LS} (h : LkAt w K s) {c : Nat} (hc : c < s.n) {x : Nat} {ys : List Nat} (hx : gl s.L (s.n + c) = x :: ys) : gl (sigS s c).L (s.n + c) = ys ∧ (sigS s c).n = s.n := by
  have hne : gl s.L (s.n + c) ≠ [] := by rw [hx]; simp
  have hxT : x < s.T := ls_bd' h.hl (i := s.n + c) (by rw [h.ll]; omega) (by rw [hx]; simp)
  have hwf := h.wf x hxT
  have hxs : sigH s c = x := by unfold sigH; rw [hx]; rfl
  unfold sigS
  rw [if_neg hne, hxs]
  refine ⟨?_, getS_n _ _ _⟩
  rw [getS_ne (by have := hwf.2; have := hwf.1; omega)]
  exact popL_at (by rw [h.ll]; omega) hx
def CastPost (w : World) (K : KB) (s : LS) (c : Int) (e : Ending) (w' : World) : Prop := ∃ a cp, e = .returned (.tuple #[.slice a (castT s c).length cp, .int .i64 (ask1E s c)]) ∧ IRow w' (.slice a (castT s c).length cp) (castT s c) ∧ LkAt w' K (castS s c) ∧ Fr K.foot w w' ∧ (0 < (castT s c).length → ∀ b o, a = some ⟨b, o, none⟩ → w.heap.size ≤ b)
theorem own_addr {w : World} {base : Nat} {e : TypeId} {size n c m : Nat} {a : Option Addr} {xs : List Value} (h : w.ownsRow base e size (.slice a m c) n xs) : ∀ b o, a = some ⟨b, o, none⟩ → base ≤ b := by
  rintro b o rfl
  obtain ⟨_, ⟨h1, _⟩ | ⟨g, cap, _, h1, h2, _⟩⟩ := h
  · cases h1
  · injection h1 with h1; injection h1 with h1; injection h1 with h1; omega
section
variable {w : World} {K : KB} {s : LS}
set_option maxRecDepth 100000 in
set_option maxHeartbeats 4000000 in
theorem lkcast (h : LkAt w K s) (c : Int) : Calls Try.prog 66 #[.pointer (some ⟨K.P, 0, none⟩), .int .i64 c] w (CastPost w K s c) := by
  have A1 := ask1 h [c] (by simp) (by simp)
  rw [show (if allR [c] s.n then (0 : Int) else 8) = ask1E s c from rfl] at A1
  by_cases h0 : ask1E s c = 0
  · have hc := ask1E_ok h0
    obtain ⟨c, rfl⟩ := Int.eq_ofNat_of_zero_le hc.1
    have hc' : c < s.n := by have := hc.2; omega
    have HT : Hid (castT s c = (castF (castN s c) s c []).1) := by unfold castT; rw [if_pos h0, Int.toNat_natCast]; exact rfl
    have HS : Hid (castS s c = (castF (castN s c) s c []).2) := by unfold castS; rw [if_pos h0, Int.toNat_natCast]; exact rfl
    have hNl : castN s c ≤ 4096 := by unfold castN; rw [Int.toNat_natCast]; exact ls_short h.hl _ (by rw [h.ll]; omega)
    have hN : Hid (castN s c = (gl s.L (s.n + c)).length) := by unfold castN; rw [Int.toNat_natCast]; exact rfl
    unfold CastPost
    rw [h0] at A1 ⊢
    rw [HT.out, HS.out]
    obtain ⟨N, hNN⟩ : ∃ N, castN s c = N := ⟨_, rfl⟩
    rw [hNN] at hNl hN ⊢
    obtain ⟨R, hR⟩ : ∃ R, castF N s c [] = R := ⟨_, rfl⟩
    rw [hR]
    have HR := hid hR
    have HA := hid A1
    have hKb : ∀ k, K.all k → k < w.heap.size := fun k hk => h.lt hk
    clear h0 hc A1 hNN HT HS hR
    go_enter Try.func66, Try.ntmps66
    go_wp2_with (first
      | (go_at_call 108; refine (are_made _ _ _ ⟨_, rfl⟩ ⟨_, _, _, rfl⟩).mono ?_; rintro e w' ⟨rfl, rfl⟩)
      | (go_at_call 107; refine HA.out.mono ?_; rintro e w1 ⟨rfl, hs1⟩; have h1 := h.still hs1)
      | (go_at_call 122; refine (lksignal h1 c hc').mono ?_; rintro e w2 ⟨rfl, h2, f2⟩))
    go_loopg [7, 8, 9] N (fun k told t sm wr => ∃ (sp : LS) (acc : List Int), k = (gl sp.L (sp.n + c)).length ∧ sp.n = s.n ∧ (∃ w', LkAt w' K sp) ∧ t = .int .i64 (sigT sp c) ∧ sm = .bool (sigB sp c) ∧ castF k sp c acc = R ∧ acc.length + k ≤ N ∧
      LkAt wr K (sigS sp c) ∧ wr.ownsRow w.heap.size 3 1 told acc.length (ints acc) ∧ Fr K.foot w wr)
    case atStart => exact ⟨s, [], hN.out, rfl, ⟨_, h⟩, rfl, rfl, HR.out, by simp, h2, World.ownsRow_nil _ _ _ _, (hs1.fr _).trans f2⟩
    case round =>
      obtain ⟨sp, acc, hk, hn, ⟨w', hsp⟩, rfl, rfl, hcf, hal, hL, hown, hfr⟩ := hrel
      have hcs : c < sp.n := by omega
      obtain ⟨a7, c7, rfl⟩ := own_shape hown acc.length rfl
      have hz := hfr.size
      cases hg : gl sp.L (sp.n + c) with
      | nil =>
        have HB : Hid (sigB sp c = false) := by unfold sigB; rw [hg]; exact rfl
        have HSS : Hid (sigS sp c = sp) := by unfold sigS; rw [hg, if_pos rfl]; exact rfl
        rw [hg] at hk
        subst hk
        have HCF := hid hcf
        clear hg hcf
        rw [HB.out]
        go_wp2_with fail
        go_ret2
        have e1 : R.1 = acc := by rw [← HCF.out]; rfl
        have e2 : R.2 = sp := by rw [← HCF.out]; rfl
        rw [e1, e2]
        rw [HSS.out] at hL
        exact ⟨a7, c7, rfl, IRow.own hown rfl, hL, hfr, fun _ => own_addr hown⟩
      | cons x ys =>
        have HB : Hid (sigB sp c = true) := by unfold sigB; rw [hg]; exact rfl
        obtain ⟨E1, E2⟩ := sig_tail hsp hcs hg
        rw [hg] at hk
        have hk' : gk = ys.length + 1 := by simpa using hk
        subst hk'
        have hcs2 : c < (sigS sp c).n := by rw [E2]; exact hcs
        have HE1 : Hid ((gl (sigS sp c).L ((sigS sp c).n + c)).length = ys.length) := hid (by rw [E2, E1])
        have HE2 : Hid ((sigS sp c).n = s.n) := hid (E2.trans hn)
        rw [HB.out]
        have hcf' : castF ys.length (sigS sp c) c (acc ++ (if sigT sp c = -1 then [] else [sigT sp c])) = R := hcf
        obtain ⟨v, hv⟩ : ∃ v, sigT sp c = v := ⟨_, rfl⟩
        rw [hv] at hcf' ⊢
        obtain ⟨m, hm⟩ : ∃ m, acc.length = m := ⟨_, rfl⟩
        rw [hm] at hown hal ⊢
        have HM := hid hm
        have HK := hid hk
        by_cases hv1 : v = -1
        · have hd : (v != -1) = false := by simp [hv1]
          have HCF : Hid (castF ys.length (sigS sp c) c acc = R) := by rw [if_pos hv1, List.append_nil] at hcf'; exact hcf'
          clear hg hcf hcf' E1 E2 hk hv hm hn hv1
          go_wp2_with fail
          refine (lksignal hL c hcs2).mono ?_
          rintro e w3 ⟨rfl, h3, f3⟩
          have hown3 := owns_fr hown f3 (fun k h1 _ h => by have := hKb k (.inr h); omega)
          go_wp2_with fail
          go_roundg ys.length
          case measure => omega
          case rel => exact ⟨sigS sp c, acc, HE1.out.symm, HE2.out, ⟨_, hL⟩, rfl, rfl, HCF.out, by have := HM.out; omega, h3, by rw [HM.out]; exact hown3, hfr.trans f3⟩
        · have hd : (v != -1) = true := by simp [hv1]
          have HCF : Hid (castF ys.length (sigS sp c) c (acc ++ [v]) = R) := by rw [if_neg hv1] at hcf'; exact hcf'
          clear hg hcf hcf' E1 E2 hk hv hm hn hv1
          have fr3 : ∀ w3, Fr (fun k => w.heap.size ≤ k) wr w3 → LkAt w3 K (sigS sp c) ∧ Fr K.foot w w3 := fun w3 f => ⟨hL.fr f (fun k hk h => by have := hKb k hk; omega), hfr.then f (fun i hi h => absurd h (by omega))⟩
          have FR3 := hid fr3
          clear fr3
          go_wp2_with (at_builtin; refine wpList_append_irow rfl (.tmp 35) (.tmp 37) rfl w.heap.size m acc [v] (.slice a7 m c7) _ rfl rfl (hown.alloc _) (one_new _ _ _) (by simp; omega) (by simp; omega) ?_; intro v3 w3 ho3 hg3 _; have f3 := ((Fr.refl (fun k => w.heap.size ≤ k) wr).alloc (.cells #[.int .i64 v] 3)).trans (Fr.own_fr (hown.alloc _) hg3); have h3 := (FR3.out w3 f3).1; have g3 := (FR3.out w3 f3).2)
          refine (lksignal h3 c hcs2).mono ?_
          rintro e w4 ⟨rfl, h4, f4⟩
          have hown4 := owns_fr ho3 f4 (fun k h1 _ h => by have := hKb k (.inr h); omega)
          go_wp2_with fail
          go_roundg ys.length
          case measure => omega
          case rel => exact ⟨sigS sp c, acc ++ [v], HE1.out.symm, HE2.out, ⟨_, h3⟩, rfl, rfl, HCF.out, by have := HM.out; rw [List.length_append]; simp; omega, h4, by rw [List.length_append, HM.out]; exact hown4, g3.trans f4⟩
  · have HT : Hid (castT s c = []) := by unfold castT; rw [if_neg h0]; exact rfl
    have HS : Hid (castS s c = s) := by unfold castS; rw [if_neg h0]; exact rfl
    unfold CastPost
    rw [HT.out, HS.out]
    obtain ⟨z, hz⟩ : ∃ z, ask1E s c = z := ⟨_, rfl⟩
    rw [hz] at h0 A1 ⊢
    have HA := hid A1
    clear A1 hz
    go_enter Try.func66, Try.ntmps66
    go_wp2_with (first
      | (go_at_call 108; refine (are_made _ _ _ ⟨_, rfl⟩ ⟨_, _, _, rfl⟩).mono ?_; rintro e w' ⟨rfl, rfl⟩)
      | (go_at_call 107; refine HA.out.mono ?_; rintro e w1 ⟨rfl, hs1⟩; have h1 := h.still hs1))
    go_ret2
    exact ⟨none, 0, rfl, .inl ⟨rfl, _, _, rfl⟩, h1, hs1.fr _, fun h => absurd h (by simp)⟩
end
end Go.Proofs.Ytffjaaolcphonaa
/- The locks: Drop. -/
namespace Go.Proofs.Ytffjaaolcphonaa
open Go.RowKit
def dropF : Nat → Nat → LS → Int → List Int → List Int × LS
  | 0, _, s, _, acc => (acc, s)
  | f + 1, o, s, t, acc => if s.ow.getD o 0 = t then dropF f (o + 1) (passS s o) t (acc ++ (if passT s o = -1 then [] else [passT s o])) else dropF f (o + 1) s t acc
def dropR (s : LS) (t : Int) : List Int × LS := if inR t s.T then dropF s.n 0 { s with L := remL s.T s.L t } t [] else ([], s)
def DropPost (w : World) (K : KB) (s : LS) (t : Int) (e : Ending) (w' : World) : Prop := ∃ a cp, e = .returned (.slice a (dropR s t).1.length cp) ∧ IRow w' (.slice a (dropR s t).1.length cp) (dropR s t).1 ∧ LkAt w' K (dropR s t).2 ∧ Fr K.foot w w' ∧ (0 < (dropR s t).1.length → ∀ b o, a = some ⟨b, o, none⟩ → w.heap.size ≤ b)
section
variable {w : World} {K : KB} {s : LS}
set_option maxRecDepth 100000 in
set_option maxHeartbeats 4000000 in
theorem lkdrop (h : LkAt w K s) (t : Int) : Calls Try.prog 73 #[.pointer (some ⟨K.P, 0, none⟩), .int .i64 t] w (DropPost w K s t) := by
  have F1 := h.f1
  have F2 := h.f2
  by_cases ht : inR t s.T
  · have HR : Hid (dropR s t = dropF s.n 0 { s with L := remL s.T s.L t } t []) := by unfold dropR; rw [if_pos ht]; exact rfl
    unfold DropPost
    rw [HR.out]
    obtain ⟨R, hR⟩ : ∃ R, dropF s.n 0 { s with L := remL s.T s.L t } t [] = R := ⟨_, rfl⟩
    rw [hR]
    have HRR := hid hR
    obtain ⟨t0, t1⟩ := ht
    have n1 := h.n1
    have hKb : ∀ k, K.all k → k < w.heap.size := fun k hk => h.lt hk
    have d1 : decide (t < 0) = false := decide_eq_false (by omega)
    have d2 : decide ((s.T : Int) ≤ t) = false := decide_eq_false (by omega)
    clear HR hR
    go_enter Try.func73, Try.ntmps73
    go_wp2_with (first
      | (go_at_call 130; refine (lkmade h).mono ?_; rintro e w' ⟨rfl, rfl⟩)
      | (go_at_call 42; refine (remove_ls h.hl t).mono ?_; rintro e w2 ⟨rfl, hl2, f2⟩; have h2 := h.setL hl2 f2 (remL_len _ _ _); have G0 := h2.f0))
    go_loopw [5, 36] (fun told c wr => ∃ (o : Nat) (sp : LS) (acc : List Int), c = .int .i64 o ∧ o ≤ s.n ∧ sp.n = s.n ∧ dropF (s.n - o) o sp t acc = R ∧ acc.length ≤ o ∧ LkAt wr K sp ∧ wr.ownsRow w.heap.size 3 1 told acc.length (ints acc) ∧ Fr K.foot w wr) (fun _ c _ => s.n - (intOf c).toNat)
    case atStart => exact ⟨0, { s with L := remL s.T s.L t }, [], rfl, Nat.zero_le _, rfl, HRR.out, Nat.le_refl _, h2, World.ownsRow_nil _ _ _ _, f2.mono fun _ _ h => .inr (.inr h)⟩
    case round =>
      obtain ⟨o, sp, acc, rfl, ho, hn, hdf, hal, hL, hown, hfr⟩ := hrel
      obtain ⟨a5, c5, rfl⟩ := own_shape hown acc.length rfl
      have hz := hfr.size
      obtain ⟨m, hm⟩ : ∃ m, acc.length = m := ⟨_, rfl⟩
      rw [hm] at hown hal ⊢
      have HM := hid hm
      have HNN := hid hn
      by_cases hlt : o < s.n
      · have hlt' : (o : Int) < (s.n : Int) := by omega
        have hos : o < sp.n := by omega
        have C := hL.cO hos
        have hdf' : dropF ((s.n - (o + 1)) + 1) o sp t acc = R := by rw [show s.n - (o + 1) + 1 = s.n - o by omega]; exact hdf
        unfold dropF at hdf'
        obtain ⟨x, hx⟩ : ∃ x, sp.ow.getD o 0 = x := ⟨_, rfl⟩
        rw [hx] at C hdf'
        by_cases hxt : x = t
        · have hd : (x != t) = false := by simp [hxt]
          rw [if_pos hxt] at hdf'
          obtain ⟨v, hv⟩ : ∃ v, passT sp o = v := ⟨_, rfl⟩
          have LP := lkpass hL o hos
          rw [hv] at LP hdf'
          have HLP := hid LP
          have HN2 : Hid ((passS sp o).n = s.n) := hid hn
          by_cases hv1 : v = -1
          · have hd2 : (v != -1) = false := by simp [hv1]
            have HDF : Hid (dropF (s.n - (o + 1)) (o + 1) (passS sp o) t acc = R) := by rw [if_pos hv1, List.append_nil] at hdf'; exact hdf'
            clear hdf hdf' hx hxt hv LP hv1 hm hn
            go_wp2_with fail
            refine HLP.out.mono ?_
            rintro e w3 ⟨rfl, h3, f3⟩
            have hown3 := owns_fr hown f3 (fun k h1 _ h => by have := hKb k (.inr h); omega)
            go_wp2_with fail
            go_roundw
            case rel => exact ⟨o + 1, passS sp o, acc, by go_num, by omega, HN2.out, HDF.out, by have := HM.out; omega, h3, by rw [HM.out]; exact hown3, hfr.trans f3⟩
            case measure => simp [intOf]; omega
          · have hd2 : (v != -1) = true := by simp [hv1]
            have HDF : Hid (dropF (s.n - (o + 1)) (o + 1) (passS sp o) t (acc ++ [v]) = R) := by rw [if_neg hv1] at hdf'; exact hdf'
            clear hdf hdf' hx hxt hv LP hv1 hm hn
            go_wp2_with fail
            refine HLP.out.mono ?_
            rintro e w3 ⟨rfl, h3, f3⟩
            have hown3 := owns_fr hown f3 (fun k h1 _ h => by have := hKb k (.inr h); omega)
            have hz3 := Nat.le_trans hz f3.size
            have fr3 : ∀ w4, Fr (fun k => w.heap.size ≤ k) w3 w4 → LkAt w4 K (passS sp o) ∧ Fr K.foot w w4 := fun w4 f => ⟨h3.fr f (fun k hk h => by have := hKb k hk; omega), (hfr.trans f3).then f (fun i hi h => absurd h (by omega))⟩
            have FR3 := hid fr3
            clear fr3
            go_wp2_with (at_builtin; refine wpList_append_irow rfl (.tmp 49) (.tmp 51) rfl w.heap.size m acc [v] (.slice a5 m c5) _ rfl rfl (hown3.alloc _) (one_new _ _ _) (by simp; omega) (by simp; omega) ?_; intro v4 w4 ho4 hg4 _; have f4 := ((Fr.refl (fun k => w.heap.size ≤ k) w3).alloc (.cells #[.int .i64 v] 3)).trans (Fr.own_fr (hown3.alloc _) hg4))
            go_roundw
            case rel => exact ⟨o + 1, passS sp o, acc ++ [v], by go_num, by omega, HN2.out, HDF.out, by have := HM.out; rw [List.length_append]; simp; omega, (FR3.out w4 f4).1, by rw [List.length_append, HM.out]; exact ho4, (FR3.out w4 f4).2⟩
            case measure => simp [intOf]; omega
        · have hd : (x != t) = true := by simp [hxt]
          have HDF : Hid (dropF (s.n - (o + 1)) (o + 1) sp t acc = R) := by rw [if_neg hxt] at hdf'; exact hdf'
          clear hdf hdf' hx hxt hm hn
          go_wp2_with fail
          go_roundw
          case rel => exact ⟨o + 1, sp, acc, by go_num, by omega, HNN.out, HDF.out, by have := HM.out; omega, hL, by rw [HM.out]; exact hown, hfr⟩
          case measure => simp [intOf]; omega
      · have hlt' : ¬ (o : Int) < (s.n : Int) := by omega
        have hos : s.n - o = 0 := by omega
        rw [hos] at hdf
        have HDF := hid hdf
        clear hdf hos hm hn
        go_wp2_with fail
        go_ret
        have e1 : R = (acc, sp) := by rw [← HDF.out]; rfl
        rw [e1]
        refine ⟨a5, c5, ?_, ?_, hL, hfr, fun _ => own_addr hown⟩
        · rw [HM.out]; rfl
        · show IRow _ (.slice a5 acc.length c5) acc
          rw [HM.out]; exact IRow.own hown HM.out.symm
  · have HR : Hid (dropR s t = ([], s)) := by unfold dropR; rw [if_neg ht]; exact rfl
    unfold DropPost
    rw [HR.out]
    rcases inR_no ht with t0 | t0
    all_goals
      clear ht
      go_enter Try.func73, Try.ntmps73
      go_wp2_with (go_at_call 130; refine (lkmade h).mono ?_; rintro e w' ⟨rfl, rfl⟩)
      go_ret
      exact ⟨none, 0, rfl, .inl ⟨rfl, _, _, rfl⟩, h, Fr.refl _ _, fun _ b o h => by cases h⟩
end
end Go.Proofs.Ytffjaaolcphonaa
