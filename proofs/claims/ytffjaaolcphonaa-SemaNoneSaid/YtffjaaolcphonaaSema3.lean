/- The semaphores' laws: the example; SemaOrder's walk. -/
import Derived.Test.YtffjaaolcphonaaSema2
namespace Go.Proofs.Ytffjaaolcphonaa
open Go.RowKit

def sl0 : SS := ⟨1, 3, List.replicate 64 0, List.replicate 1 []⟩
theorem sfoot_still {w w' : World} {P : Nat} {B : LB} {w0 : World} (h0 : Still w0 w) (hn : ∀ k, sfoot P B k → w0.heap.size ≤ k) (h : Fr (sfoot P B) w w') : Still w0 w' :=
  Fr.then h0 h fun i hi hk => by have := hn i hk; omega

set_option maxRecDepth 100000 in
theorem slives (w : World) : Calls Try.prog 37 #[] w fun e w' => e = .returned (.bool true) ∧ Still w w' := by
  go_enter Try.func37, Try.ntmps37
  go_wp2_with fail
  refine (snew _ 1 3 (by omega) (by omega) (by omega) (by omega)).mono ?_
  rintro e w1 ⟨P, B, rfl, h1, hs, hn⟩
  go_wp2_with fail
  refine (sup _ P B _ h1 0).mono ?_
  rw [show supT ⟨1, 3, List.replicate 64 0, List.replicate 1 []⟩ 0 = -1 from by decide]
  rintro e w2 ⟨rfl, h2, f2⟩
  go_wp2_with fail
  refine (sdown _ P B _ h2 0 1).mono ?_
  rw [show sdownB (supS ⟨1, 3, List.replicate 64 0, List.replicate 1 []⟩ 0) 0 1 = true from by decide]
  rintro e w3 ⟨rfl, h3, f3⟩
  go_wp2_with fail
  refine (sdown _ P B _ h3 0 2).mono ?_
  rw [show sdownB (sdownS (supS ⟨1, 3, List.replicate 64 0, List.replicate 1 []⟩ 0) 0 1) 0 2 = false from by decide]
  rintro e w4 ⟨rfl, h4, f4⟩
  go_wp2_with fail
  refine (sup _ P B _ h4 0).mono ?_
  rw [show supT (sdownS (sdownS (supS ⟨1, 3, List.replicate 64 0, List.replicate 1 []⟩ 0) 0 1) 0 2) 0 = 2 from by decide, show supE (sdownS (sdownS (supS ⟨1, 3, List.replicate 64 0, List.replicate 1 []⟩ 0) 0 1) 0 2) 0 = 0 from by decide]
  rintro e w5 ⟨rfl, h5, f5⟩
  go_wp2_with fail
  go_ret
  exact ⟨rfl, sfoot_still (sfoot_still (sfoot_still (sfoot_still hs hn f2) hn f3) hn f4) hn f5⟩
end Go.Proofs.Ytffjaaolcphonaa
