/- The document's links: Push. -/
import Derived.Test.YtffjaaolcphonaaRef5b
namespace Go.Proofs.Ytffjaaolcphonaa
open Go.RowKit
theorem grown_cell {w w' : World} {row : Option Nat} (hg : w.grownBy w' row) {b i : Nat} {v : Value} (hc : w.cell? ⟨b, i, none⟩ = some v) (hn : row ≠ some b) : w'.cell? ⟨b, i, none⟩ = some v := by
  rw [← hc]; exact World.cell?_of_block (hg.block b (World.block_lt_of_cell? _ _ hc) (fun e => hn e.symm))
theorem IRow.drew {w : World} {v : Value} {xs : List Int} (h : IRow w v xs) : IRow w.drew v xs := h
theorem owns_alloc0 (w : World) (b : Nat) (o : Obj) (hb : b ≤ w.heap.size) : ((w.alloc (.cells #[] 3)).alloc o).ownsRow b 3 1 (.slice (some ⟨w.heap.size, 0, none⟩) 0 0) 0 [] :=
  (ownsRow_base (owns_new w 3) hb).alloc o
theorem owns_b (w : World) (b : Nat) (hb : b ≤ w.heap.size) : (w.alloc (.cells #[] 3)).ownsRow b 3 1 (.slice (some ⟨w.heap.size, 0, none⟩) 0 0) 0 [] := ownsRow_base (owns_new w 3) hb
theorem blk_new1 (w : World) (o : Obj) (A : List Value) (T : TypeId) : Blk ((w.alloc o).alloc (.cells A.toArray T)) (w.heap.size + 1) A T := by have := Blk.new (w.alloc o) A T; simpa using this
theorem one_new (w : World) (t : Int) (c : Nat) : IRow (w.alloc (.cells #[.int .i64 t] 3)) (.slice (some ⟨w.heap.size, 0, none⟩) 1 c) [t] := IRow.of_blk (xs := [t]) (Blk.new w [.int .i64 t] 3) (Nat.succ_pos 0)
theorem one_grown {W w1 : World} {b g c : Nat} {t : Int} (h : Blk W b [.int .i64 t] 3) (hg : W.grownBy w1 (some g)) (hn : g ≠ b) : IRow w1 (.slice (some ⟨b, 0, none⟩) 1 c) [t] := IRow.of_blk (xs := [t]) (h.grown hg (by simpa using hn)) (Nat.succ_pos 0)
theorem own_shape {w : World} {base : Nat} {e : TypeId} {size n : Nat} {v : Value} {xs : List Value} (h : w.ownsRow base e size v n xs) (m : Nat) (hm : n = m) : ∃ a c, v = .slice a m c := by
  subst hm
  obtain ⟨_, ⟨rfl, rfl⟩ | ⟨g, cap, _, rfl, _⟩⟩ := h
  · exact ⟨_, _, rfl⟩
  · exact ⟨_, _, rfl⟩
theorem put_far {w : World} {p R i j : Nat} {v u : Value} (h : w.cell? ⟨p, j, none⟩ = some v) (hn : p ≠ R) : (w.setCell ⟨R, i, none⟩ u).cell? ⟨p, j, none⟩ = some v :=
  (World.cell?_of_block (Below.heap_setCell w ⟨R, i, none⟩ u p hn)).trans h
theorem owns_b1 (w : World) (o : Obj) : ((w.alloc o).alloc (.cells #[] 3)).ownsRow w.heap.size 3 1 (.slice (some ⟨w.heap.size + 1, 0, none⟩) 0 0) 0 [] := by
  have := owns_b (w.alloc o) w.heap.size (by simp); simpa using this
theorem own_ne {w : World} {base : Nat} {e : TypeId} {size n b : Nat} {v : Value} {xs : List Value} (h : w.ownsRow base e size v n xs) (hb : b < base) : v.ownBlock ≠ some b := by
  obtain ⟨_, ⟨rfl, _⟩ | ⟨g, cap, _, rfl, hg, _⟩⟩ := h
  · simp [Value.ownBlock]
  · intro e; have : g = b := by simpa [Value.ownBlock] using e
    omega
theorem Still.frz {w w' : World} (hs : Still w w') {b i : Nat} {f : Bool} (hb : b < w.heap.size) (h : w.frozen? ⟨b, i, none⟩ = f) : w'.frozen? ⟨b, i, none⟩ = f := by
  rw [← h]; unfold World.frozen?; rw [hs.block b hb (fun h => h)]
section
variable {w : World} {lo p R T : Nat} {L : List (List Nat)}
set_option maxRecDepth 100000 in
set_option maxHeartbeats 2000000 in
theorem rpush_ok (h : RefAt w lo p R T L) (i t : Nat) (he : pushE T L i t = 0) (hi : i < L.length) (htT : t < T) (hsz : (gl L i).length < 4096) :
    Calls Try.prog 84 #[.pointer (some ⟨p, 0, none⟩), .int .i64 i, .int .i64 t] w fun e w' => e = .returned (.int .i64 0) ∧ RefAt w' lo p R T (L.set i (gl L i ++ [t])) ∧ Fr (fun k => k = R) w w' := by
  have HE := hid he
  clear he
  have F1 := h.f1
  have hi' : (i : Int) < (L.length : Int) := by omega
  obtain ⟨a, c, C1, hr⟩ := h.row hi
  have Z := h.frz i
  have hs := h.sh i hi
  have hRl : R < w.heap.size := World.block_lt_of_cell? _ _ C1
  have hpl : p < w.heap.size := World.block_lt_of_cell? _ _ F1
  have hpR := h.pR
  have hr1 := hr.1
  obtain ⟨l, hl⟩ : ∃ l, gl L i = l := ⟨_, rfl⟩
  have HL := hid hl
  rw [hl] at C1 hs hr1 hsz
  clear hl
  go_enter Try.func84, Try.ntmps84
  go_wp2_with (go_at_call 134; refine (rmay h _ _).mono ?_; rw [HE.out]; rintro e w' ⟨rfl, rfl⟩)
  go_region_held3 (fun w' => w'.cell? ⟨p, 1, none⟩ = some (.slice (some ⟨R, 0, none⟩) L.length L.length))
    (first | exact Still.cell ‹Still w _› F1 | exact put_far (Still.cell ‹Still w _› F1) hpR | go_keep)
    (first
      | (refine step_append_irow rfl (.tmp 20) (.tmp 27) rfl w.heap.size 0 [] (zi l) (.slice (some ⟨_, 0, none⟩) 0 0) _ rfl rfl ?_ ?_ ?_ ?_ ?_
         · first | exact (owns_b w w.heap.size (Nat.le_refl _)).drew | exact (owns_alloc0 w w.heap.size _ (Nat.le_refl _)).drew | exact (owns_b1 w _).drew
         · first | exact (hr1.alloc _).drew | exact ((hr1.alloc _).alloc _).drew
         · rw [zi_len]; omega
         · simp; try omega
         intro v1 w1 ho1 hg1 _
         have s1 : Still w w1 := by first | exact Fr.of_own ((Fr.refl _ w).alloc _).drew (owns_b w w.heap.size (Nat.le_refl _)).drew hg1 (Nat.le_refl _) | exact Fr.of_own (((Fr.refl _ w).alloc _).alloc _).drew (owns_alloc0 w w.heap.size _ (Nat.le_refl _)).drew hg1 (Nat.le_refl _) | exact Fr.of_own (((Fr.refl _ w).alloc _).alloc _).drew (owns_b1 w _).drew hg1 (Nat.le_refl _)
         have z1 := s1.size)
      | (refine step_append_irow rfl (.tmp 28) (.tmp 30) rfl w.heap.size (0 + (zi l).length) ([] ++ zi l) [(t : Int)] _ _ rfl rfl ?_ ?_ ?_ ?_ ?_
         · first | exact ho1 | exact ho1.alloc _
         · first | exact one_new _ _ _ | exact one_grown (blk_new1 w _ [.int .i64 (t : Int)] 3).drew hg1 (by simp) | exact one_grown ((Blk.new w [.int .i64 (t : Int)] 3).alloc _).drew hg1 (by simp)
         · simp only [zi_len, List.length_cons, List.length_nil]; omega
         · first | omega | (simp; omega)
         intro v2 w2 ho2 hg2 _
         obtain ⟨a2, c2, rfl⟩ := own_shape ho2 (l.length + 1) (by simp [zi_len])
         have s2 : Still w w2 := by first | exact Fr.of_own s1 ho1 hg2 (Nat.le_refl _) | exact Fr.of_own (s1.alloc _) (ho1.alloc _) hg2 (Nat.le_refl _)
         have C2 := Still.cell s2 C1
         have Z2 := Still.frz s2 hRl Z))
  all_goals
    go_wp2
    go_ret
    refine ⟨rfl, ?_, Fr.putR (s2.fr _) _ _⟩
    rw [HL.out]
    have hz : ([] ++ zi l ++ [(t : Int)]) = zi (l ++ [t]) := by simp [zi]
    rw [hz] at ho2
    refine (h.still s2).put (RowIn.own ho2 (by simp [zi_len]) hRl (by have := h.lp; omega) rfl) (fun x hx => ?_) (by have := hsz; simp; omega)
    rcases List.mem_append.1 hx with hx | hx
    · exact h.bd i hi x (by rw [HL.out]; exact hx)
    · simp at hx; subst hx; exact htT
end
end Go.Proofs.Ytffjaaolcphonaa
