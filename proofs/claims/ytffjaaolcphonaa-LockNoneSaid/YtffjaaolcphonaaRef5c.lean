/- The document's links: Push. -/
import Derived.Test.YtffjaaolcphonaaRef5b
import Derived.Test.YtffjaaolcphonaaHeld
namespace Go.Proofs.Ytffjaaolcphonaa
open Go.RowKit
set_option linter.unusedSimpArgs false
theorem grown_cell {w w' : World} {row : Option Nat} (hg : w.grownBy w' row) {b i : Nat} {v : Value} (hc : w.cell? ⟨b, i, none⟩ = some v) (hn : row ≠ some b) : w'.cell? ⟨b, i, none⟩ = some v := by
  rw [← hc]; exact World.cell?_of_block (hg.block b (World.block_lt_of_cell? _ _ hc) (fun e => hn e.symm))
theorem IRow.drew {w : World} {v : Value} {xs : List Int} (h : IRow w v xs) : IRow w.drew v xs := h
theorem owns_alloc0 (w : World) (b : Nat) (o : Obj) (hb : b ≤ w.heap.size) : ((w.alloc (.cells #[] 3)).alloc o).ownsRow b 3 1 (.slice (some ⟨w.heap.size, 0, none⟩) 0 0) 0 [] :=
  (ownsRow_base (owns_new w 3) hb).alloc o
theorem owns_b (w : World) (b : Nat) (hb : b ≤ w.heap.size) : (w.alloc (.cells #[] 3)).ownsRow b 3 1 (.slice (some ⟨w.heap.size, 0, none⟩) 0 0) 0 [] := ownsRow_base (owns_new w 3) hb
theorem blk_new1 (w : World) (o : Obj) (A : List Value) (T : TypeId) : Blk ((w.alloc o).alloc (.cells A.toArray T)) (w.heap.size + 1) A T := by have := Blk.new (w.alloc o) A T; simpa using this
theorem one_new (w : World) (t : Int) (c : Nat) : IRow (w.alloc (.cells #[.int .i64 t] 3)) (.slice (some ⟨w.heap.size, 0, none⟩) 1 c) [t] := IRow.of_blk (xs := [t]) (Blk.new w [.int .i64 t] 3) (Nat.succ_pos 0)
theorem one_grown {W w1 : World} {b g c : Nat} {t : Int} (h : Blk W b [.int .i64 t] 3) (hg : W.grownBy w1 (some g)) (hn : g ≠ b) : IRow w1 (.slice (some ⟨b, 0, none⟩) 1 c) [t] := IRow.of_blk (xs := [t]) (h.grown hg (by simpa using hn)) (Nat.succ_pos 0)
theorem own_shape {w : World} {base : Nat} {e : TypeId} {size n : Nat} {v : Value} {xs : List Value} (h : w.ownsRow base e size v n xs) (m : Nat) (hm : n = m) : ∃ a c, v = .slice a m c := by
  subst hm
  obtain ⟨_, ⟨rfl, rfl⟩ | ⟨g, cap, _, rfl, _⟩⟩ := h
  · exact ⟨_, _, rfl⟩
  · exact ⟨_, _, rfl⟩
theorem put_far {w : World} {p R i j : Nat} {v u : Value} (h : w.cell? ⟨p, j, none⟩ = some v) (hn : p ≠ R) : (w.setCell ⟨R, i, none⟩ u).cell? ⟨p, j, none⟩ = some v :=
  (World.cell?_of_block (Below.heap_setCell w ⟨R, i, none⟩ u p hn)).trans h
theorem owns_b1 (w : World) (o : Obj) : ((w.alloc o).alloc (.cells #[] 3)).ownsRow w.heap.size 3 1 (.slice (some ⟨w.heap.size + 1, 0, none⟩) 0 0) 0 [] := by
  have := owns_b (w.alloc o) w.heap.size (by simp); simpa using this
theorem own_ne {w : World} {base : Nat} {e : TypeId} {size n b : Nat} {v : Value} {xs : List Value} (h : w.ownsRow base e size v n xs) (hb : b < base) : v.ownBlock ≠ some b := by
  obtain ⟨_, ⟨rfl, _⟩ | ⟨g, cap, _, rfl, hg, _⟩⟩ := h
  · simp [Value.ownBlock]
  · intro e; have : g = b := by simpa [Value.ownBlock] using e
    omega
theorem Still.frz {w w' : World} (hs : Still w w') {b i : Nat} {f : Bool} (hb : b < w.heap.size) (h : w.frozen? ⟨b, i, none⟩ = f) : w'.frozen? ⟨b, i, none⟩ = f := by
  rw [← h]; unfold World.frozen?; rw [hs.block b hb (fun h => h)]
section
variable {w : World} {lo p R T : Nat} {L : List (List Nat)}
set_option maxRecDepth 100000 in
set_option maxHeartbeats 2000000 in
theorem rpush_ok (h : RefAt w lo p R T L) (i t : Nat) (he : pushE T L i t = 0) (hi : i < L.length) (htT : t < T) (hsz : (gl L i).length < 4096) :
    Calls Try.prog 84 #[.pointer (some ⟨p, 0, none⟩), .int .i64 i, .int .i64 t] w fun e w' => e = .returned (.int .i64 0) ∧ RefAt w' lo p R T (L.set i (gl L i ++ [t])) ∧ Fr (fun k => k = R) w w' := by
  have HE := hid he
  clear he
  have F1 := h.f1
  have hi' : (i : Int) < (L.length : Int) := by omega
  obtain ⟨a, c, C1, hr⟩ := h.row hi
  have Z := h.frz i
  have hs := h.sh i hi
  have hRl : R < w.heap.size := World.block_lt_of_cell? _ _ C1
  have hpl : p < w.heap.size := World.block_lt_of_cell? _ _ F1
  have hpR := h.pR
  have hr1 := hr.1
  obtain ⟨l, hl⟩ : ∃ l, gl L i = l := ⟨_, rfl⟩
  have HL := hid hl
  rw [hl] at C1 hs hr1 hsz
  clear hl
  go_enter Try.func84, Try.ntmps84
  go_wp2_with (go_at_call 134; refine (rmay h _ _).mono ?_; rw [HE.out]; rintro e w' ⟨rfl, rfl⟩)
  refine Held.wp_region_held_tail (S := (fun w' => w'.cell? ⟨p, 1, none⟩ = some (.slice (some ⟨R, 0, none⟩) L.length L.length) ∧ w'.cell? ⟨R, i, none⟩ = some (.slice a l.length c))) 18 (by kernel_rfl) (by kernel_rfl) (by decide) ?hS1 (fun hHeld => ?hR1)
  case hS1 =>
    exact ⟨F1, C1⟩
  simp only [List.take_succ_cons, List.take_zero, List.drop_succ_cons, List.drop_zero]
  refine wpAnyH_take (i := 0) (oi := _) (v := ?v2) rfl (by kernel_rfl) (by kernel_rfl) (by kernel_rfl) (fun _ _ _ h => h) (Or.inl ⟨by rfl, ?y2⟩) (by assumption) ?r2
  case y2 => ((intro w hSw); (try dsimp only at hSw); go_simp; (try with_reducible rfl))
  (try simp only [Act.put, List.setIfInBounds_toArray, List.set_cons_zero, List.set_cons_succ])
  refine wpAnyH_take (i := 1) (oi := _) (v := ?v3) rfl (by kernel_rfl) (by kernel_rfl) (by kernel_rfl) (fun _ _ _ h => h) (Or.inl ⟨by rfl, ?y3⟩) (by assumption) ?r3
  case y3 => ((intro w hSw); (try dsimp only at hSw); go_simp; (try with_reducible rfl))
  (try simp only [Act.put, List.setIfInBounds_toArray, List.set_cons_zero, List.set_cons_succ])
  refine wpAnyH_take (i := 2) (oi := _) (v := ?v4) rfl (by kernel_rfl) (by kernel_rfl) (by kernel_rfl) (fun _ _ _ h => h) (Or.inl ⟨by rfl, ?y4⟩) (by assumption) ?r4
  case y4 => ((intro w hSw); (try dsimp only at hSw); go_simp; (try with_reducible rfl))
  (try simp only [Act.put, List.setIfInBounds_toArray, List.set_cons_zero, List.set_cons_succ])
  refine wpAnyH_take (i := 3) (oi := _) (v := ?v5) rfl (by kernel_rfl) (by kernel_rfl) (by kernel_rfl) (fun _ _ _ h => h) (Or.inl ⟨by rfl, ?y5⟩) (by assumption) ?r5
  case y5 => ((intro w hSw); (try dsimp only at hSw); go_simp; (try with_reducible rfl))
  (try simp only [Act.put, List.setIfInBounds_toArray, List.set_cons_zero, List.set_cons_succ])
  refine wpAnyH_take (i := 4) (oi := _) (v := ?v6) rfl (by kernel_rfl) (by kernel_rfl) (by kernel_rfl) (fun _ _ _ h => h) (Or.inl ⟨by rfl, ?y6⟩) (by assumption) ?r6
  case y6 => ((intro w hSw); (try dsimp only at hSw); go_simp; (try with_reducible rfl))
  (try simp only [Act.put, List.setIfInBounds_toArray, List.set_cons_zero, List.set_cons_succ])
  refine wpAnyH_take (i := 6) (oi := _) (v := ?v7) rfl (by kernel_rfl) (by kernel_rfl) (by kernel_rfl) (fun _ _ _ h => h) (Or.inl ⟨by rfl, ?y7⟩) (by assumption) ?r7
  case y7 => ((intro w hSw); (try dsimp only at hSw); go_simp; (try with_reducible rfl))
  (try simp only [Act.put, List.setIfInBounds_toArray, List.set_cons_zero, List.set_cons_succ])
  refine wpAnyH_take (i := 7) (oi := _) (v := ?v8) rfl (by kernel_rfl) (by kernel_rfl) (by kernel_rfl) (fun _ _ _ h => h) (Or.inl ⟨by rfl, ?y8⟩) (by assumption) ?r8
  case y8 => ((intro w hSw); (try dsimp only at hSw); go_simp; (try with_reducible rfl))
  (try simp only [Act.put, List.setIfInBounds_toArray, List.set_cons_zero, List.set_cons_succ])
  refine wpAnyH_take (i := 8) (oi := _) (v := ?v9) rfl (by kernel_rfl) (by kernel_rfl) (by kernel_rfl) (fun _ _ _ h => h) (Or.inl ⟨by rfl, ?y9⟩) (by assumption) ?r9
  case y9 => ((intro w hSw); (try dsimp only at hSw); go_simp; (try with_reducible rfl))
  (try simp only [Act.put, List.setIfInBounds_toArray, List.set_cons_zero, List.set_cons_succ])
  refine wpAnyH_take (i := 9) (oi := _) (v := ?v10) rfl (by kernel_rfl) (by kernel_rfl) (by kernel_rfl) (fun _ _ _ h => h) (Or.inl ⟨by rfl, ?y10⟩) (by assumption) ?r10
  case y10 => ((intro w hSw); (try dsimp only at hSw); go_simp; (try with_reducible rfl))
  (try simp only [Act.put, List.setIfInBounds_toArray, List.set_cons_zero, List.set_cons_succ])
  refine wpAnyH_take (i := 10) (oi := _) (v := ?v11) rfl (by kernel_rfl) (by kernel_rfl) (by kernel_rfl) (fun _ _ _ h => h) (Or.inl ⟨by rfl, ?y11⟩) (by assumption) ?r11
  case y11 => ((intro w hSw); (try dsimp only at hSw); go_simp; (try with_reducible rfl))
  (try simp only [Act.put, List.setIfInBounds_toArray, List.set_cons_zero, List.set_cons_succ])
  refine wpAnyH_take (i := 11) (oi := _) (v := ?v12) rfl (by kernel_rfl) (by kernel_rfl) (by kernel_rfl) (fun _ _ _ h => h) (Or.inl ⟨by rfl, ?y12⟩) (by assumption) ?r12
  case y12 => ((intro w hSw); (try dsimp only at hSw); go_simp; (try with_reducible rfl))
  (try simp only [Act.put, List.setIfInBounds_toArray, List.set_cons_zero, List.set_cons_succ])
  refine wpAnyH_take (i := 12) (oi := _) (v := ?v13) rfl (by kernel_rfl) (by kernel_rfl) (by kernel_rfl) (fun _ _ _ h => h) (Or.inl ⟨by rfl, ?y13⟩) (by assumption) ?r13
  case y13 => ((intro w hSw); (try dsimp only at hSw); go_simp; (try with_reducible rfl))
  (try simp only [Act.put, List.setIfInBounds_toArray, List.set_cons_zero, List.set_cons_succ])
  refine wpAnyH_take (i := 14) (oi := _) (v := ?v14) rfl (by kernel_rfl) (by kernel_rfl) (by kernel_rfl) (fun _ _ _ h => h) (Or.inl ⟨by rfl, ?y14⟩) (by assumption) ?r14
  case y14 => ((intro w hSw); (try dsimp only at hSw); go_simp; (try with_reducible rfl))
  (try simp only [Act.put, List.setIfInBounds_toArray, List.set_cons_zero, List.set_cons_succ])
  refine wpAnyH_ready (rs := [5, 15]) (by kernel_rfl) (by simp) ?_
  refine AllReadyH.cons rfl (fun K hK => ?_) (AllReadyH.cons rfl (fun K hK => ?_) AllReadyH.nil)
  · skip
    go_simp
    refine hK.out _ _ ?k15 (fun hHeld15 => ?_)
    case k15 =>
      go_keep
    clear hK K
    (try simp only [Act.put, List.setIfInBounds_toArray, List.set_cons_zero, List.set_cons_succ])
    refine wpAnyH_ready (rs := [13, 15]) (by kernel_rfl) (by simp) ?_
    refine AllReadyH.cons rfl (fun K hK => ?_) (AllReadyH.cons rfl (fun K hK => ?_) AllReadyH.nil)
    · skip
      refine step_append_irow rfl (.tmp 20) (.tmp 27) rfl w.heap.size 0 [] (zi l) (.slice (some ⟨_, 0, none⟩) 0 0) _ rfl rfl ?_ ?_ ?_ ?_ ?_
      · exact (owns_b w w.heap.size (Nat.le_refl _)).drew
      · exact (hr1.alloc _).drew
      · rw [zi_len]; omega
      · simp; try omega
      intro v1 w1 ho1 hg1 _
      have s1 : Still w w1 := Fr.of_own ((Fr.refl _ w).alloc _).drew (owns_b w w.heap.size (Nat.le_refl _)).drew hg1 (Nat.le_refl _)
      have z1 := s1.size
      refine hK.out _ _ ?k16 (fun hHeld16 => ?_)
      case k16 =>
        exact ⟨Still.cell s1 F1, Still.cell s1 C1⟩
      clear hK K
      (try simp only [Act.put, List.setIfInBounds_toArray, List.set_cons_zero, List.set_cons_succ])
      refine wpAnyH_ready (rs := [15]) (by kernel_rfl) (by simp) ?_
      refine AllReadyH.cons rfl (fun K hK => ?st17) AllReadyH.nil
      go_simp
      refine hK.out _ _ ?k17 (fun hHeld17 => ?_)
      case k17 =>
        exact ⟨Still.cell (s1.alloc _) F1, Still.cell (s1.alloc _) C1⟩
      clear hK K
      (try simp only [Act.put, List.setIfInBounds_toArray, List.set_cons_zero, List.set_cons_succ])
      refine wpAnyH_ready (rs := [16]) (by kernel_rfl) (by simp) ?_
      refine AllReadyH.cons rfl (fun K hK => ?st18) AllReadyH.nil
      refine step_append_irow rfl (.tmp 28) (.tmp 30) rfl w.heap.size (0 + (zi l).length) ([] ++ zi l) [(t : Int)] _ _ rfl rfl ?_ ?_ ?_ ?_ ?_
      · exact (ho1.alloc _)
      · exact one_new _ _ _
      · simp only [zi_len, List.length_cons, List.length_nil]; omega
      · (simp; omega)
      intro v2 w2 ho2 hg2 _
      obtain ⟨a2, c2, rfl⟩ := own_shape ho2 (l.length + 1) (by simp [zi_len])
      have s2 : Still w w2 := Fr.of_own (s1.alloc _) (ho1.alloc _) hg2 (Nat.le_refl _)
      have C2 := Still.cell s2 C1
      have Z2 := Still.frz s2 hRl Z
      refine hK.out _ _ ?k18 (fun hHeld18 => ?_)
      case k18 =>
        exact ⟨Still.cell s2 F1, C2⟩
      clear hK K
      (try simp only [Act.put, List.setIfInBounds_toArray, List.set_cons_zero, List.set_cons_succ])
      refine wpAnyH_take (i := 17) (oi := _) (v := ?v19) rfl (by kernel_rfl) (by kernel_rfl) (by kernel_rfl) (fun _ _ _ h => h) (Or.inl ⟨by rfl, ?y19⟩) (by assumption) ?r19
      case y19 => ((intro w hSw); (try dsimp only at hSw); go_simp; (try with_reducible rfl))
      (try simp only [Act.put, List.setIfInBounds_toArray, List.set_cons_zero, List.set_cons_succ])
      refine wpAnyH_done (by kernel_rfl) (Held.tailQ_normal ?_) _
      go_wp2
      go_ret
      refine ⟨rfl, ?_, Fr.putR (s2.fr _) _ _⟩
      rw [HL.out]
      have hz : ([] ++ zi l ++ [(t : Int)]) = zi (l ++ [t]) := by simp [zi]
      rw [hz] at ho2
      refine (h.still s2).put (RowIn.own ho2 (by simp [zi_len]) hRl (by have := h.lp; omega) rfl) (fun x hx => ?_) (by have := hsz; simp; omega)
      rcases List.mem_append.1 hx with hx | hx
      · exact h.bd i hi x (by rw [HL.out]; exact hx)
      · simp at hx; subst hx; exact htT
    · skip
      go_simp
      refine hK.out _ _ ?k20 (fun hHeld20 => ?_)
      case k20 =>
        go_keep
      clear hK K
      (try simp only [Act.put, List.setIfInBounds_toArray, List.set_cons_zero, List.set_cons_succ])
      refine wpAnyH_ready (rs := [13]) (by kernel_rfl) (by simp) ?_
      refine AllReadyH.cons rfl (fun K hK => ?st21) AllReadyH.nil
      refine step_append_irow rfl (.tmp 20) (.tmp 27) rfl w.heap.size 0 [] (zi l) (.slice (some ⟨_, 0, none⟩) 0 0) _ rfl rfl ?_ ?_ ?_ ?_ ?_
      · exact (owns_alloc0 w w.heap.size _ (Nat.le_refl _)).drew
      · exact ((hr1.alloc _).alloc _).drew
      · rw [zi_len]; omega
      · simp; try omega
      intro v1 w1 ho1 hg1 _
      have s1 : Still w w1 := Fr.of_own (((Fr.refl _ w).alloc _).alloc _).drew (owns_alloc0 w w.heap.size _ (Nat.le_refl _)).drew hg1 (Nat.le_refl _)
      have z1 := s1.size
      refine hK.out _ _ ?k21 (fun hHeld21 => ?_)
      case k21 =>
        exact ⟨Still.cell s1 F1, Still.cell s1 C1⟩
      clear hK K
      (try simp only [Act.put, List.setIfInBounds_toArray, List.set_cons_zero, List.set_cons_succ])
      refine wpAnyH_ready (rs := [16]) (by kernel_rfl) (by simp) ?_
      refine AllReadyH.cons rfl (fun K hK => ?st22) AllReadyH.nil
      refine step_append_irow rfl (.tmp 28) (.tmp 30) rfl w.heap.size (0 + (zi l).length) ([] ++ zi l) [(t : Int)] _ _ rfl rfl ?_ ?_ ?_ ?_ ?_
      · exact ho1
      · exact one_grown (blk_new1 w _ [.int .i64 (t : Int)] 3).drew hg1 (by simp)
      · simp only [zi_len, List.length_cons, List.length_nil]; omega
      · exact z1
      intro v2 w2 ho2 hg2 _
      obtain ⟨a2, c2, rfl⟩ := own_shape ho2 (l.length + 1) (by simp [zi_len])
      have s2 : Still w w2 := Fr.of_own s1 ho1 hg2 (Nat.le_refl _)
      have C2 := Still.cell s2 C1
      have Z2 := Still.frz s2 hRl Z
      refine hK.out _ _ ?k22 (fun hHeld22 => ?_)
      case k22 =>
        exact ⟨Still.cell s2 F1, C2⟩
      clear hK K
      (try simp only [Act.put, List.setIfInBounds_toArray, List.set_cons_zero, List.set_cons_succ])
      refine wpAnyH_take (i := 17) (oi := _) (v := ?v23) rfl (by kernel_rfl) (by kernel_rfl) (by kernel_rfl) (fun _ _ _ h => h) (Or.inl ⟨by rfl, ?y23⟩) (by assumption) ?r23
      case y23 => ((intro w hSw); (try dsimp only at hSw); go_simp; (try with_reducible rfl))
      (try simp only [Act.put, List.setIfInBounds_toArray, List.set_cons_zero, List.set_cons_succ])
      refine wpAnyH_done (by kernel_rfl) (Held.tailQ_normal ?_) _
      go_wp2
      go_ret
      refine ⟨rfl, ?_, Fr.putR (s2.fr _) _ _⟩
      rw [HL.out]
      have hz : ([] ++ zi l ++ [(t : Int)]) = zi (l ++ [t]) := by simp [zi]
      rw [hz] at ho2
      refine (h.still s2).put (RowIn.own ho2 (by simp [zi_len]) hRl (by have := h.lp; omega) rfl) (fun x hx => ?_) (by have := hsz; simp; omega)
      rcases List.mem_append.1 hx with hx | hx
      · exact h.bd i hi x (by rw [HL.out]; exact hx)
      · simp at hx; subst hx; exact htT
  · skip
    go_simp
    refine hK.out _ _ ?k24 (fun hHeld24 => ?_)
    case k24 =>
      go_keep
    clear hK K
    (try simp only [Act.put, List.setIfInBounds_toArray, List.set_cons_zero, List.set_cons_succ])
    refine wpAnyH_ready (rs := [5]) (by kernel_rfl) (by simp) ?_
    refine AllReadyH.cons rfl (fun K hK => ?st25) AllReadyH.nil
    go_simp
    refine hK.out _ _ ?k25 (fun hHeld25 => ?_)
    case k25 =>
      go_keep
    clear hK K
    (try simp only [Act.put, List.setIfInBounds_toArray, List.set_cons_zero, List.set_cons_succ])
    refine wpAnyH_ready (rs := [13]) (by kernel_rfl) (by simp) ?_
    refine AllReadyH.cons rfl (fun K hK => ?st26) AllReadyH.nil
    refine step_append_irow rfl (.tmp 20) (.tmp 27) rfl w.heap.size 0 [] (zi l) (.slice (some ⟨_, 0, none⟩) 0 0) _ rfl rfl ?_ ?_ ?_ ?_ ?_
    · exact (owns_b1 w _).drew
    · exact ((hr1.alloc _).alloc _).drew
    · rw [zi_len]; omega
    · simp; try omega
    intro v1 w1 ho1 hg1 _
    have s1 : Still w w1 := Fr.of_own (((Fr.refl _ w).alloc _).alloc _).drew (owns_b1 w _).drew hg1 (Nat.le_refl _)
    have z1 := s1.size
    refine hK.out _ _ ?k26 (fun hHeld26 => ?_)
    case k26 =>
      exact ⟨Still.cell s1 F1, Still.cell s1 C1⟩
    clear hK K
    (try simp only [Act.put, List.setIfInBounds_toArray, List.set_cons_zero, List.set_cons_succ])
    refine wpAnyH_ready (rs := [16]) (by kernel_rfl) (by simp) ?_
    refine AllReadyH.cons rfl (fun K hK => ?st27) AllReadyH.nil
    refine step_append_irow rfl (.tmp 28) (.tmp 30) rfl w.heap.size (0 + (zi l).length) ([] ++ zi l) [(t : Int)] _ _ rfl rfl ?_ ?_ ?_ ?_ ?_
    · exact ho1
    · exact one_grown ((Blk.new w [.int .i64 (t : Int)] 3).alloc _).drew hg1 (by simp)
    · simp only [zi_len, List.length_cons, List.length_nil]; omega
    · exact z1
    intro v2 w2 ho2 hg2 _
    obtain ⟨a2, c2, rfl⟩ := own_shape ho2 (l.length + 1) (by simp [zi_len])
    have s2 : Still w w2 := Fr.of_own s1 ho1 hg2 (Nat.le_refl _)
    have C2 := Still.cell s2 C1
    have Z2 := Still.frz s2 hRl Z
    refine hK.out _ _ ?k27 (fun hHeld27 => ?_)
    case k27 =>
      exact ⟨Still.cell s2 F1, C2⟩
    clear hK K
    (try simp only [Act.put, List.setIfInBounds_toArray, List.set_cons_zero, List.set_cons_succ])
    refine wpAnyH_take (i := 17) (oi := _) (v := ?v28) rfl (by kernel_rfl) (by kernel_rfl) (by kernel_rfl) (fun _ _ _ h => h) (Or.inl ⟨by rfl, ?y28⟩) (by assumption) ?r28
    case y28 => ((intro w hSw); (try dsimp only at hSw); go_simp; (try with_reducible rfl))
    (try simp only [Act.put, List.setIfInBounds_toArray, List.set_cons_zero, List.set_cons_succ])
    refine wpAnyH_done (by kernel_rfl) (Held.tailQ_normal ?_) _
    go_wp2
    go_ret
    refine ⟨rfl, ?_, Fr.putR (s2.fr _) _ _⟩
    rw [HL.out]
    have hz : ([] ++ zi l ++ [(t : Int)]) = zi (l ++ [t]) := by simp [zi]
    rw [hz] at ho2
    refine (h.still s2).put (RowIn.own ho2 (by simp [zi_len]) hRl (by have := h.lp; omega) rfl) (fun x hx => ?_) (by have := hsz; simp; omega)
    rcases List.mem_append.1 hx with hx | hx
    · exact h.bd i hi x (by rw [HL.out]; exact hx)
    · simp at hx; subst hx; exact htT
end
end Go.Proofs.Ytffjaaolcphonaa
