/- The locks' law: lives. -/
import Derived.Test.YtffjaaolcphonaaLock7
import Derived.Test.YtffjaaolcphonaaLockN
namespace Go.Proofs.Ytffjaaolcphonaa
open Go.RowKit
theorem kfresh {w a b : World} {K : KB} (hs : Still w a) (hf : Fr K.foot a b) (hK : ∀ k, K.all k → w.heap.size ≤ k) : Still w b :=
  hs.then hf fun k hk h => by have := hK k (.inr h); omega
set_option maxRecDepth 100000 in
set_option maxHeartbeats 2000000 in
theorem klives (w : World) : Calls Try.prog 53 #[] w fun e w' => e = .returned (.bool true) ∧ Still w w' := by
  go_enter Try.func53, Try.ntmps53
  go_wp2_with fail
  refine (lknew _ 1 3 (by omega) (by omega) (by omega) (by omega)).mono ?_
  rintro e w1 ⟨K, rfl, h1, hs1, hK⟩
  go_wp2_with fail
  refine (lklock h1 0 1).mono ?_
  rw [show lockE (newLS 1 3) 0 1 = 0 from by decide, show lockB (newLS 1 3) 0 1 = true from by decide, show lockS (newLS 1 3) 0 1 = ⟨1, 3, [1], [0, 0, 0], [[], []]⟩ from by rfl]
  rintro e w2 ⟨rfl, h2, f2⟩
  go_wp2_with fail
  refine (lklock h2 0 2).mono ?_
  rw [show lockE ⟨1, 3, [1], [0, 0, 0], [[], []]⟩ 0 2 = 0 from by decide, show lockB ⟨1, 3, [1], [0, 0, 0], [[], []]⟩ 0 2 = false from by decide, show lockS ⟨1, 3, [1], [0, 0, 0], [[], []]⟩ 0 2 = ⟨1, 3, [1], [0, 0, 0], [[2], []]⟩ from by rfl]
  rintro e w3 ⟨rfl, h3, f3⟩
  go_wp2_with fail
  refine (lkunlock h3 0 1).mono ?_
  rw [show unlockE ⟨1, 3, [1], [0, 0, 0], [[2], []]⟩ 0 1 = 0 from by decide, show unlockT ⟨1, 3, [1], [0, 0, 0], [[2], []]⟩ 0 1 = 2 from by decide]
  rintro e w4 ⟨rfl, h4, f4⟩
  go_wp2_with fail
  go_ret
  exact ⟨rfl, kfresh (kfresh (kfresh hs1 f2 hK) f3 hK) f4 hK⟩
end Go.Proofs.Ytffjaaolcphonaa
