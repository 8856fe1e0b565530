/- Threads: New; Count. -/
import Derived.Test.YtffjaaolcphonaaDoorThr5
namespace Go.Proofs.YtffjaaolcphonaaDoor
open Go.RowKit Go.Maps
set_option linter.unusedSimpArgs false
theorem tnew_no (w : World) (x : Int) (hx : x < 1 ∨ 32 < x) : Calls Tryd.prog 38 #[.int .i64 x] w fun e w' => e = .returned (.pointer none) ∧ w = w' := by
  go_enter Tryd.func38, Tryd.ntmps38
  rcases hx with h | h
  · go_wp2_with fail
    go_ret
    exact ⟨rfl, rfl⟩
  · have h2 : ¬ x < 1 := by omega
    go_wp2_with fail
    go_ret
    exact ⟨rfl, rfl⟩
/-- A table's own blocks are new. -/
structure TNew (w : World) (P : Nat) (B : SB) (M : Nat) : Prop where
  p : w.heap.size ≤ P
  m : w.heap.size ≤ M
  b : ∀ k, B.foot k → w.heap.size ≤ k
set_option maxRecDepth 100000 in
set_option maxHeartbeats 4000000 in
theorem tnew (w : World) (x : Nat) (x0 : 1 ≤ x) (x1 : x ≤ 32) : Calls Tryd.prog 38 #[.int .i64 (x : Int)] w fun e w' => ∃ P B M, e = .returned (.pointer (some ⟨P, 0, none⟩)) ∧ TAt w' P B M (zeroS x x) [] ∧ Still w w' ∧ TNew w P B M := by
  have h1 : ¬ (x : Int) < 1 := by omega
  have h2 : ¬ (32 : Int) < (x : Int) := by omega
  have HN := hid (snew w x x0 (by omega))
  have hmm := @run_makeMap Tryd.prog
  go_enter Tryd.func38, Tryd.ntmps38
  go_wp2_with fail
  refine HN.out.mono ?_
  rintro e w1 ⟨B, rfl, hB, hs, hnn⟩
  have HB := hid hB
  have S1 := hid hs
  have NN := hid hnn
  have hl := fun k hk => hB.lt (k := k) hk
  have HLT := hid hl
  clear hB hs hnn hl HN
  go_wp2_with fail
  go_ret
  have S1s := S1.out.size
  refine ⟨w1.heap.size + 1, B, w1.heap.size, rfl, ⟨?_, ?_, HB.out.still (((Fr.refl _ _).alloc _).alloc _), (MapL.made w1).alloc _, by omega, fun h => by have := HLT.out _ h; omega, fun h => by have := HLT.out _ h; omega⟩, (S1.out.alloc _).alloc _, ⟨by omega, S1s, NN.out⟩⟩
  · simp
  · simp
end Go.Proofs.YtffjaaolcphonaaDoor
