/- slices.Repeat of one number. -/
import Derived.Test.YtffjaaolcphonaaApp
import Derived.Test.YtffjaaolcphonaaClone
import Derived.IntWalk
import Derived.Laws.MathBits
import Derived.Laws.CopyOwn
import Derived.Deep.RegionHeld3
namespace Go.Proofs.Ytffjaaolcphonaa
open Go.RowKit
theorem mul64_one (w : World) (n : Nat) (hn : n ≤ 1000) : Calls Try.prog 152 #[.int .u64 1, .int .u64 n] w fun e w' => e = .returned (.tuple #[.int .u64 0, .int .u64 n]) ∧ w = w' := by
  have hA : bits .and .u64 (n : Int) 4294967295 = (n : Int) := by rw [and_low32 _ (by omega) (by omega)]; omega
  have hB : bits .and .u64 1 4294967295 = 1 := by rw [and_low32 _ (by omega) (by omega)]; omega
  have hC : bits .and .u64 0 4294967295 = 0 := by rw [and_low32 _ (by omega) (by omega)]; omega
  have hS : (n : Int) / 4294967296 = 0 := by omega
  have hW : IntKind.u64.wrap (n : Int) = (n : Int) := by rw [IntKind.wrap_u64]; omega
  go_enter Try.func152, Try.ntmps152
  go_wp2
  go_ret2
  exact ⟨rfl, rfl⟩
theorem mul_one' (w : World) (n : Nat) (hn : n ≤ 1000) : Calls Try.prog 137 #[.int .u64 1, .int .u64 n] w fun e w' => e = .returned (.tuple #[.int .u64 0, .int .u64 n]) ∧ w = w' := by
  go_enter Try.func137, Try.ntmps137
  go_wp2_with (go_at_call 152; refine (mul64_one _ n hn).mono ?_; rintro e w' ⟨rfl, rfl⟩)
  go_ret2
  exact ⟨rfl, rfl⟩
def repU (m n : Nat) (v : Int) : List Value := ints (List.replicate m v ++ List.replicate (n - m) 0)
theorem repU_len {m n : Nat} {v : Int} (h : m ≤ n) : (repU m n v).length = n := by simp [repU, ints]; omega
theorem repU_splice {m n k : Nat} {v : Int} (h : m + k ≤ n) : splice (repU m n v) m (ints (List.replicate k v)) = repU (m + k) n v := by
  unfold splice repU ints
  simp only [List.map_append, List.map_replicate, List.length_replicate]
  rw [List.take_append_of_le_length (by simp), List.take_of_length_le (by simp), List.drop_append, List.drop_of_length_le (by simp), List.drop_replicate, List.nil_append, List.length_replicate, ← List.append_assoc, List.replicate_append_replicate]
  congr 2
  omega
theorem size3 : (Try.prog.info? 3).map (·.size) = some 1 := by kernel_rfl
def RepPost (w : World) (n : Nat) (v : Int) (e : Ending) (w' : World) : Prop := e = .returned (.slice (some ⟨w.heap.size, 0, none⟩) n n) ∧ Blk w' w.heap.size (ints (List.replicate n v)) 3 ∧ Still w w'
set_option maxRecDepth 100000 in
set_option maxHeartbeats 2000000 in
theorem repeat_one (w : World) (g c n : Nat) (v : Int) (h1 : 1 ≤ n) (hn : n ≤ 1000) (hx : w.cell? ⟨g, 0, none⟩ = some (.int .i64 v)) :
    Calls Try.prog 106 #[.slice (some ⟨g, 0, none⟩) 1 c, .int .i64 n] w (RepPost w n v) := by
  have HM := mk_ints n (by omega)
  have hw : IntKind.u64.wrap (n : Int) = (n : Int) := by rw [IntKind.wrap_u64]; omega
  have h0 : (0 : Int) ≤ (n : Int) := by omega
  have hbig : ¬ (9223372036854775807 : Int) < (n : Int) := by omega
  have hgl := World.block_lt_of_cell? _ _ hx
  have hx1 : ∀ (w1 : World), Still w w1 → ∀ j u, (ints [v])[j]? = some u → w1.cell? ((⟨g, 0, none⟩ : Addr).add j) = some u := fun w1 hs j u hu => by
    match j, hu with
    | 0, hu => cases hu; exact Still.cell hs hx
    | j + 1, hu => simp [ints] at hu
  have HX := hid hx1
  clear hx1
  have HG : Hid ((w.alloc (.cells (zr n) 3)).heap[w.heap.size]? = some (.cells (repU 0 n v).toArray 3 (0, 0))) := by
    have e : repU 0 n v = ints (List.replicate n 0) := by simp [repU]
    rw [e]; exact Blk.new w (ints (List.replicate n 0)) 3
  have HN : Hid ((ints [v]).length = Nat.min 1 n) := hid (show 1 = Nat.min 1 n from (Nat.min_eq_left h1).symm)
  have HFI : Hid (0 + (ints [v]).length ≤ (repU 0 n v).length) := hid (by rw [repU_len (by omega)]; simp [ints]; omega)
  have HBE : Hid (Below w.heap.size w (w.alloc (.cells (zr n) 3))) := hid ((Below.refl _ _).alloc (Nat.le_refl _) _)
  go_enter Try.func106, Try.ntmps106
  go_wp2_with (first
    | (go_at_call 137; refine (mul_one' _ n hn).mono ?_; rintro e w' ⟨rfl, rfl⟩)
    | (refine wpList_copy_splice (o := ⟨some 33, _, _, _, _, _⟩) rfl (.tmp 31) (.tmp 32) 28 28 rfl 3 Try.underlying28 size3 (some ⟨w.heap.size, 0, none⟩) (some ⟨g, 0, none⟩) n n 1 c rfl rfl w.heap.size 0 (repU 0 n v) 3 HG.out (ints [v]) HN.out (fun _ => ⟨rfl, _, rfl, HX.out _ ((Fr.refl _ w).alloc _)⟩) HFI.out (ints_one _) w.heap.size w HBE.out (Nat.le_refl _) ?_; intro w1 hb1 hbel1))
  have hB1 : Blk w1 w.heap.size (repU 1 n v) 3 := by
    have := hb1.out
    rw [show ints [v] = ints (List.replicate 1 v) from rfl, repU_splice (by omega)] at this
    rw [Nat.zero_add] at this; exact this
  have hs1 : Still w w1 := Fr.of_below0 hbel1 _
  have hz : Hid (w.heap.size = w.heap.size) := hid rfl
  obtain ⟨z, hzz⟩ : ∃ z, w.heap.size = z := ⟨_, rfl⟩
  rw [hzz] at hB1 ⊢
  have HZ := hid hzz
  clear hb1 hbel1 hzz hz
  go_loopw [8] (fun c wr => ∃ m : Nat, c = .int .i64 m ∧ 1 ≤ m ∧ m ≤ n ∧ Blk wr z (repU m n v) 3 ∧ Still w wr) (fun c _ => n - (intOf c).toNat)
  case atStart => exact ⟨1, rfl, by omega, h1, hB1, hs1⟩
  case round =>
    clear hB1 hs1
    obtain ⟨m, rfl, hm1, hm, hB, hs⟩ := hrel
    by_cases hlt : m < n
    · have hlt' : (m : Int) < (n : Int) := by omega
      have hmi : (0 : Int) ≤ (m : Int) := by omega
      have hmn : (m : Int) ≤ (n : Int) := by omega
      have hne : ¬ n = m := by omega
      have hmz : ¬ m = 0 := by omega
      have hnz : ¬ n = 0 := by omega
      obtain ⟨k, hk⟩ : ∃ k, Nat.min m (n - m) = k := ⟨_, rfl⟩
      have hk1 : m + k ≤ n := by have := Nat.min_le_right m (n - m); have e : Nat.min m (n - m) = min m (n - m) := rfl; omega
      have hk2 : k ≤ m := by have := Nat.min_le_left m (n - m); have e : Nat.min m (n - m) = min m (n - m) := rfl; omega
      have hk3 : 1 ≤ k := by have e : Nat.min m (n - m) = min m (n - m) := rfl; omega
      have HN2 : Hid ((ints (List.replicate k v)).length = Nat.min m (n - m)) := hid (by rw [hk]; simp [ints])
      have HL2 : Hid ((ints (List.replicate k v)).length = k) := hid (by simp [ints])
      have HF2 : Hid (m + (ints (List.replicate k v)).length ≤ (repU m n v).length) := hid (by rw [repU_len (by omega), HL2.out]; exact hk1)
      have HB2 : Hid (Below z w wr.drew) := hid (HZ.out ▸ (hs.drew).below (Nat.le_refl _) (fun _ h => h.elim))
      have HC2 : Hid (∀ j u, (ints (List.replicate k v))[j]? = some u → wr.drew.cell? ((⟨z, 0, none⟩ : Addr).add j) = some u) := hid fun j u hu => by
        have hj := (List.getElem?_eq_some_iff.1 hu).1
        rw [HL2.out] at hj
        have : (⟨z, 0, none⟩ : Addr).add j = ⟨z, j, none⟩ := Addr.add_zero_lit z j
        rw [this, Blk.cell hB.drew]
        rw [← hu]
        simp [repU, ints, hj, List.getElem?_append_left, show j < m by omega]
      have HK := hid hk
      clear hk
      have hwr : IntKind.i64.wrap ((m : Int) + (k : Int)) = (m : Int) + (k : Int) := IntWalk.i64_in _ (by omega)
      go_wp2_with fail
      go_region_held3 (fun _ => True) (trivial)
        ((refine step_copy_splice rfl (.tmp 41) (.tmp 44) 28 28 rfl 3 Try.underlying28 size3 (some ⟨z, m, none⟩) (some ⟨z, 0, none⟩) (n - m) (n - m) m n rfl rfl z m (repU m n v) 3 hB.drew (ints (List.replicate k v)) HN2.out (fun _ => ⟨rfl, _, rfl, HC2.out⟩) HF2.out (ints_one _) z w HB2.out (Nat.le_refl _) ?_; intro w2 hb2 hbel2))
      rw [HL2.out, hwr]
      go_wp2_with fail
      clear hwr
      go_roundw
      case rel =>
        refine ⟨m + k, by go_num, by omega, hk1, ?_, Fr.of_below0 (HZ.out ▸ hbel2) _⟩
        have := hb2.out
        rw [repU_splice hk1] at this
        exact this
      case measure => simp [intOf]; omega
    · have hlt' : ¬ (m : Int) < (n : Int) := by omega
      obtain rfl : m = n := by omega
      go_wp2_with fail
      go_ret
      refine ⟨by rw [HZ.out]; rfl, ?_, hs⟩
      rw [HZ.out]
      have e : repU m m v = ints (List.replicate m v) := by simp [repU]
      rw [← e]; exact hB
end Go.Proofs.Ytffjaaolcphonaa
