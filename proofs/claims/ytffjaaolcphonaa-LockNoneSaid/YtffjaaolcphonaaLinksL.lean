/- The law's lives. -/
import Derived.Test.YtffjaaolcphonaaLs2
import Derived.Test.YtffjaaolcphonaaInts
namespace Go.Proofs.Ytffjaaolcphonaa
open Go.RowKit
theorem tv_eq (xs : List Nat) : tv xs = (xs.map fun x : Nat => (x : Int)).map (Value.int .i64) := by simp [tv]
theorem IRow.of_tv {w : World} {base n : Nat} {v : Value} {xs : List Nat} (h : w.ownsRow base 3 1 v n (tv xs)) (hn : n = xs.length) : IRow w v (xs.map fun x : Nat => (x : Int)) := by
  rw [tv_eq] at h
  exact IRow.of_owns h (by simpa using hn)
theorem IRow.alloc {w : World} {v : Value} {xs : List Int} (h : IRow w v xs) (o : Obj) : IRow (w.alloc o) v xs := by
  rcases h with h | ⟨h0, b, off, c, hv, hc⟩
  · exact .inl h
  · exact .inr ⟨h0, b, off, c, hv, fun i hi => by rw [World.cell?_alloc_lt _ _ _ (World.block_lt_of_cell? _ _ (hc i hi))]; exact hc i hi⟩
theorem IRow.still {w w' : World} {v : Value} {xs : List Int} (h : IRow w v xs) (hs : Still w w') : IRow w' v xs := by
  rcases h with h | ⟨h0, b, off, c, hv, hc⟩
  · exact .inl h
  · exact .inr ⟨h0, b, off, c, hv, fun i hi => ((hs.below (Nat.le_refl _) (fun _ h => h.elim)).cell (World.block_lt_of_cell? _ _ (hc i hi))).trans (hc i hi)⟩

set_option maxRecDepth 100000 in
set_option maxHeartbeats 2000000 in
theorem llives (w : World) : Calls Try.prog 20 #[] w fun e w' => e = .returned (.bool true) ∧ Still w w' := by
  go_enter Try.func20, Try.ntmps20
  go_wp2_with fail
  refine (new_ls _ 3 2 (by omega) (by omega) (by omega) (by omega)).mono ?_
  rintro e w1 ⟨B, rfl, h1, hs, hnn⟩
  go_wp2_with fail
  refine (push_ls h1 0 2).mono ?_
  rw [show pushE 3 (List.replicate 2 []) 0 2 = 0 from by decide, show pushL 3 (List.replicate 2 []) 0 2 = [[2], []] from by decide]
  rintro e w2 ⟨rfl, h2, f2⟩
  go_wp2_with fail
  refine (push_ls h2 0 1).mono ?_
  rw [show pushE 3 [[2], []] 0 1 = 0 from by decide, show pushL 3 [[2], []] 0 1 = [[2, 1], []] from by decide]
  rintro e w3 ⟨rfl, h3, f3⟩
  go_wp2_with fail
  refine (move_ls h3 0 1).mono ?_
  rw [show moveLE [[2, 1], []] 0 1 = 0 from by decide, show moveN [[2, 1], []] 0 1 = 2 from by decide, show moveL [[2, 1], []] 0 1 = [[], [2, 1]] from by decide]
  rintro e w4 ⟨rfl, h4, f4⟩
  go_wp2_with fail
  refine (all_ls h4 1 (by decide)).mono ?_
  rw [show gl [[], [2, 1]] 1 = [2, 1] from by decide]
  rintro e w5 ⟨v, rfl, hrow, hb5⟩
  have hst : Still w w5 := by
    have k : ∀ {a b : World}, Fr B.foot a b → w.heap.size ≤ a.heap.size → Still w a → Still w b := fun hf hl hs => hs.then hf (fun k hk e => by have := hnn k e; omega)
    have s1 := hs
    have s2 := k f2 s1.size s1
    have s3 := k f3 s2.size s2
    have s4 := k f4 s3.size s3
    exact s4.trans (Fr.of_below0 hb5 _)
  have hI := IRow.of_tv hrow rfl
  go_wp2_with fail
  refine (ints_ok _ _ _ [2, 1] [2, 1] (hI.alloc _) (IRow.of_blk (Blk.new w5 [.int .i64 2, .int .i64 1] 3) (by decide)) (by decide)).mono ?_
  rw [show decide (([2, 1] : List Int) = [2, 1]) = true from by decide]
  rintro e w6 ⟨rfl, hs6⟩
  go_wp2_with fail
  go_ret
  exact ⟨rfl, (hst.alloc _).trans hs6⟩
end Go.Proofs.Ytffjaaolcphonaa
