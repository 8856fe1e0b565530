/- The document's slots: New. -/
import Derived.Test.YtffjaaolcphonaaDoorRef4c
namespace Go.Proofs.YtffjaaolcphonaaDoor
open Go.RowKit
theorem info4 : (Tryd.prog.info? 4).map (fun i => (i.zero, i.size, i.bytes)) = some (some (.bool false), 1, 1) := by kernel_rfl
theorem mk_bools (n : Nat) (hn : n ≤ 1000000) : ∀ w, (Instr.makeSlice 134 (.int .i64 (n : Int)) (.int .i64 (n : Int))).run Tryd.prog w = .ok (.slice (some ⟨w.heap.size, 0, none⟩) n n) (w.alloc (.cells (List.replicate n (.bool false)).toArray 4)) := by
  intro w
  obtain ⟨i0, hi, hz0, hz1, hz2⟩ := info_parts info4
  have := run_make (P := Tryd.prog) w 134 4 i0 _ Tryd.underlying134 hi hz0 .i64 .i64 (n : Int) (n : Int) (by omega) (by omega) (by rw [hz2]; omega) (by omega)
  rw [this, hz1, Int.toNat_natCast, Nat.mul_one]
  have e : madeCells (Value.bool false).cells n = (List.replicate n (.bool false)).toArray := by
    show madeCells #[.bool false] n = _
    apply Array.ext'
    rw [toList_madeCells_one]
  rw [e]
theorem upto_all (n : Nat) : (upto n n).map (fun b => Value.bool !b) = List.replicate n (.bool false) := by
  apply List.ext_getElem
  · simp [upto]
  · intro i h1 h2
    have : i < n := by simpa using h2
    simp [upto, this]
theorem rnew_at {w' : World} {p A T cA cT n : Nat} (h1 : 1 ≤ n) (h2 : n ≤ 4096) (hA : Blk w' A (ints (List.replicate n 0)) 3) (hT : Blk w' T (List.replicate n (.bool false)) 4) (hp : Blk w' p [.slice (some ⟨A, 0, none⟩) n cA, .slice (some ⟨T, 0, none⟩) n cT] 136)
    (pA : p ≠ A) (pT : p ≠ T) (AT : A ≠ T) : RAt w' p A T cA cT (zeroS n n) := by
  have e : (zeroS n n).ages.length = n := by simp [zeroS]
  refine ⟨by rw [e]; exact hp, ⟨[], by rw [List.append_nil]; exact hA⟩, ?_, by simp [zeroS, upto_len], pA, pT, AT, by omega, by omega⟩
  show Blk w' T ((upto n n).map fun b => .bool !b) 4
  rw [upto_all]; exact hT
set_option maxRecDepth 100000 in
set_option maxHeartbeats 4000000 in
theorem rnew (w : World) (n : Nat) (h1 : 1 ≤ n) (h2 : n ≤ 4096) : Calls Tryd.prog 26 #[.int .i64 (n : Int)] w fun e w' =>
    ∃ p A T cA cT, e = .returned (.pointer (some ⟨p, 0, none⟩)) ∧ RAt w' p A T cA cT (zeroS n n) ∧ Still w w' ∧ w.heap.size ≤ p ∧ w.heap.size ≤ A ∧ w.heap.size ≤ T := by
  have hmk := mk_ints n (by omega)
  have hmb := mk_bools n (by omega)
  have g1 : ¬ (n : Int) < 1 := by omega
  have g2 : ¬ (4096 : Int) < (n : Int) := by omega
  go_enter Tryd.func26, Tryd.ntmps26
  go_wp2_with fail
  have er : Array.replicate n (Value.bool false) = (List.replicate n (Value.bool false)).toArray := by simp
  have ER := hid er
  clear er
  go_region
  · go_wp2_with fail
    go_ret
    rw [ER.out]
    have bA := ((Blk.new w (ints (List.replicate n 0)) 3).alloc (.cells (List.replicate n (Value.bool false)).toArray 4)).alloc (.cells #[.slice (some ⟨w.heap.size, 0, none⟩) n n, .slice (some ⟨w.heap.size + 1, 0, none⟩) n n] 136)
    have bT := (blk_new1 w (.cells (zr n) 3) (List.replicate n (Value.bool false)) 4).alloc (.cells #[.slice (some ⟨w.heap.size, 0, none⟩) n n, .slice (some ⟨w.heap.size + 1, 0, none⟩) n n] 136)
    have bp := Blk.new ((w.alloc (.cells (zr n) 3)).alloc (.cells (List.replicate n (Value.bool false)).toArray 4)) [.slice (some ⟨w.heap.size, 0, none⟩) n n, .slice (some ⟨w.heap.size + 1, 0, none⟩) n n] 136
    rw [World.size_alloc, World.size_alloc] at bp
    exact ⟨_, _, _, _, _, rfl, (rnew_at h1 h2 bA bT bp (by omega) (by omega) (by omega)).still ((Fr.refl _ _).drew), ((((Fr.refl _ w).alloc _).alloc _).alloc _).drew, by omega, by omega, by omega⟩
  · go_wp2_with fail
    go_ret
    rw [ER.out]
    have bT := ((Blk.new w (List.replicate n (Value.bool false)) 4).alloc (.cells (zr n) 3)).alloc (.cells #[.slice (some ⟨w.heap.size + 1, 0, none⟩) n n, .slice (some ⟨w.heap.size, 0, none⟩) n n] 136)
    have bA := (blk_new1 w (.cells (List.replicate n (Value.bool false)).toArray 4) (ints (List.replicate n 0)) 3).alloc (.cells #[.slice (some ⟨w.heap.size + 1, 0, none⟩) n n, .slice (some ⟨w.heap.size, 0, none⟩) n n] 136)
    have bp := Blk.new ((w.alloc (.cells (List.replicate n (Value.bool false)).toArray 4)).alloc (.cells (zr n) 3)) [.slice (some ⟨w.heap.size + 1, 0, none⟩) n n, .slice (some ⟨w.heap.size, 0, none⟩) n n] 136
    rw [World.size_alloc, World.size_alloc] at bp
    exact ⟨_, _, _, _, _, rfl, (rnew_at h1 h2 bA bT bp (by omega) (by omega) (by omega)).still ((Fr.refl _ _).drew), ((((Fr.refl _ w).alloc _).alloc _).alloc _).drew, by omega, by omega, by omega⟩
end Go.Proofs.YtffjaaolcphonaaDoor
