/- New. -/
import Derived.Test.YtffjaaolcphonaaDoorSlot6
namespace Go.Proofs.YtffjaaolcphonaaDoor
open Go.RowKit
def upto (n j : Nat) : List Bool := (List.range n).map fun m => decide (m < j)
theorem upto_len (n j : Nat) : (upto n j).length = n := by simp [upto]
theorem upto_set (n j : Nat) : (upto n j).set j true = upto n (j + 1) := by
  apply List.ext_getElem
  · simp [upto]
  · intro i h1 h2
    simp only [upto, List.getElem_set, List.getElem_map, List.getElem_range]
    by_cases e : j = i
    · simp [e]
    · rw [if_neg e]; congr 1; apply propext; omega
def zeroS (n j : Nat) : SS := ⟨List.replicate n 0, upto n j, 0⟩
theorem upto_zero (n i : Nat) : (upto n 0).getD i false = false := by
  simp only [List.getD_eq_getElem?_getD, upto, List.getElem?_map]
  cases (List.range n)[i]? <;> simp
set_option maxRecDepth 100000 in
theorem zero_cells (B : SB) (s : SS) (hn : s.n = 0) : Tryd.zeroCells53.setIfInBounds 0 (sl B.A s.ages.length B.c) = (cellsS B s fun _ => 0).toArray := by
  unfold cellsS; rw [hn]
  generalize sl B.A s.ages.length B.c = v
  kernel_rfl
theorem SAt.made (w : World) (n : Nat) (h1 : 1 ≤ n) (h2 : n ≤ 4096) :
    SAt ((w.alloc (.cells (zr n) 3)).alloc (.cells (Tryd.zeroCells53.setIfInBounds 0 (.slice (some ⟨w.heap.size, 0, none⟩) n n)) 53)) ⟨w.heap.size + 1, w.heap.size, n⟩ (zeroS n 0) := by
  have hz := zero_cells ⟨w.heap.size + 1, w.heap.size, n⟩ (zeroS n 0) rfl
  have e : sl w.heap.size (zeroS n 0).ages.length n = .slice (some ⟨w.heap.size, 0, none⟩) n n := by simp [sl, zeroS]
  simp only [e] at hz
  rw [hz]
  refine ⟨⟨fun _ => 0, ⟨fun _ => by omega, fun k j _ _ => ?_⟩, blk_new1 _ _ _ _⟩, ⟨[], ?_⟩, by simp, by simp [zeroS, upto_len], by simpa [zeroS] using h1, by simpa [zeroS] using h2⟩
  · show (0 : Nat).testBit j = (upto n 0).getD _ false
    rw [upto_zero, Nat.zero_testBit]
  · rw [List.append_nil]
    exact (Blk.new w (ints (List.replicate n 0)) 3).alloc _
set_option maxRecDepth 100000 in
set_option maxHeartbeats 4000000 in
theorem snew (w : World) (n : Nat) (h1 : 1 ≤ n) (h2 : n ≤ 4096) : Calls Tryd.prog 25 #[.int .i64 (n : Int)] w fun e w' =>
    ∃ B : SB, e = .returned (.pointer (some ⟨B.P, 0, none⟩)) ∧ SAt w' B (zeroS n n) ∧ Still w w' ∧ ∀ k, B.foot k → w.heap.size ≤ k := by
  have hmk := mk_ints n (by omega)
  have g1 : ¬ (n : Int) < 1 := by omega
  have g2 : ¬ (4096 : Int) < (n : Int) := by omega
  go_enter Tryd.func25, Tryd.ntmps25
  go_wp2
  refine wp_abs (fun w1 => SAt w1 ⟨w.heap.size + 1, w.heap.size, n⟩ (zeroS n 0) ∧ Still w w1) ⟨SAt.made w n h1 h2, ((Fr.refl _ w).alloc _).alloc _⟩ ?_
  rintro w1 ⟨a1, b1⟩
  obtain ⟨p, hp⟩ : ∃ p, w.heap.size + 1 = p := ⟨_, rfl⟩
  rw [hp] at a1 ⊢
  clear hmk
  go_loopg [4, 16] n (fun g s4 s16 wr => ∃ j : Nat, j + g = n ∧ s16 = .int .i64 (j : Int) ∧ Hid (SAt wr ⟨p, w.heap.size, n⟩ (zeroS n j)) ∧ Hid (Still w wr))
  case atStart => exact ⟨0, by omega, rfl, hid a1, hid b1⟩
  case round =>
    obtain ⟨j, hj, rfl, A, S⟩ := hrel
    cases gk with
    | zero =>
      have hlt : ¬ (j : Int) < (n : Int) := by omega
      have e : Hid (j = n) := hid (by omega)
      have P := hid hp
      clear hp
      go_wp2
      go_ret
      exact ⟨⟨p, w.heap.size, n⟩, rfl, by have := A.out; rwa [e.out] at this, S.out, fun k hk => by have := P.out; have q : k = p ∨ k = w.heap.size := hk; omega⟩
    | succ g =>
      have hlt : (j : Int) < (n : Int) := by omega
      have M := hid (smark wr _ _ A.out j (by simp [zeroS]; omega))
      go_wp2_with (go_at_call 84; refine M.out.mono ?_; rintro e w2 ⟨rfl, A2, F2⟩)
      go_roundg g
      case measure => omega
      case rel =>
        refine ⟨j + 1, by omega, by go_num, hid ?_, hid (S.out.then F2 fun k hk he => ?_)⟩
        · rw [show zeroS n (j + 1) = { zeroS n j with fr := (zeroS n j).fr.set j true } by simp [zeroS, upto_set]]; exact A2
        · have he' : k = p := he
          omega
end Go.Proofs.YtffjaaolcphonaaDoor
