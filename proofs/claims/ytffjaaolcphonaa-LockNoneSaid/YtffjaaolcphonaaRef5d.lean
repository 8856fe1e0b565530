/- The document's links: Front, All. -/
import Derived.Test.YtffjaaolcphonaaRef5c
import Derived.Test.YtffjaaolcphonaaHeld
namespace Go.Proofs.Ytffjaaolcphonaa
open Go.RowKit
set_option linter.unusedSimpArgs false
theorem owns_one (w : World) (t : Int) : (w.alloc (.cells #[.int .i64 t] 3)).ownsRow w.heap.size 3 1 (.slice (some ⟨w.heap.size, 0, none⟩) 1 1) 1 (ints [t]) :=
  ⟨rfl, .inr ⟨_, 1, #[.int .i64 t], rfl, Nat.le_refl _, heap_at _ _ _ rfl, Nat.le_refl _, by unfold maxLen; omega, rfl, rfl⟩⟩
section
variable {w : World} {lo p R T : Nat} {L : List (List Nat)}
set_option maxRecDepth 100000 in
set_option maxHeartbeats 2000000 in
theorem rfront_ok (h : RefAt w lo p R T L) (i t : Nat) (he : pushE T L i t = 0) (hi : i < L.length) (htT : t < T) (hsz : (gl L i).length < 4096) :
    Calls Try.prog 85 #[.pointer (some ⟨p, 0, none⟩), .int .i64 i, .int .i64 t] w fun e w' => e = .returned (.int .i64 0) ∧ RefAt w' lo p R T (L.set i (t :: gl L i)) ∧ Fr (fun k => k = R) w w' := by
  have HE := hid he
  clear he
  have F1 := h.f1
  have hi' : (i : Int) < (L.length : Int) := by omega
  obtain ⟨a, c, C1, hr⟩ := h.row hi
  have Z := h.frz i
  have hs := h.sh i hi
  have hRl : R < w.heap.size := World.block_lt_of_cell? _ _ C1
  have hpl : p < w.heap.size := World.block_lt_of_cell? _ _ F1
  have hpR := h.pR
  have hr1 := hr.1
  obtain ⟨l, hl⟩ : ∃ l, gl L i = l := ⟨_, rfl⟩
  have HL := hid hl
  rw [hl] at C1 hs hr1 hsz
  clear hl
  go_enter Try.func85, Try.ntmps85
  go_wp2_with (go_at_call 134; refine (rmay h _ _).mono ?_; rw [HE.out]; rintro e w' ⟨rfl, rfl⟩)
  refine Held.wp_region_held_tail (S := (fun w' => w'.cell? ⟨p, 1, none⟩ = some (.slice (some ⟨R, 0, none⟩) L.length L.length) ∧ w'.cell? ⟨R, i, none⟩ = some (.slice a l.length c))) 16 (by kernel_rfl) (by kernel_rfl) (by decide) ?hS1 (fun hHeld => ?hR1)
  case hS1 =>
    exact ⟨F1, C1⟩
  simp only [List.take_succ_cons, List.take_zero, List.drop_succ_cons, List.drop_zero]
  refine wpAnyH_take (i := 0) (oi := _) (v := ?v2) rfl (by kernel_rfl) (by kernel_rfl) (by kernel_rfl) (fun _ _ _ h => h) (Or.inl ⟨by rfl, ?y2⟩) (by assumption) ?r2
  case y2 => ((intro w hSw); (try dsimp only at hSw); go_simp; (try with_reducible rfl))
  (try simp only [Act.put, List.setIfInBounds_toArray, List.set_cons_zero, List.set_cons_succ])
  refine wpAnyH_take (i := 1) (oi := _) (v := ?v3) rfl (by kernel_rfl) (by kernel_rfl) (by kernel_rfl) (fun _ _ _ h => h) (Or.inl ⟨by rfl, ?y3⟩) (by assumption) ?r3
  case y3 => ((intro w hSw); (try dsimp only at hSw); go_simp; (try with_reducible rfl))
  (try simp only [Act.put, List.setIfInBounds_toArray, List.set_cons_zero, List.set_cons_succ])
  refine wpAnyH_take (i := 2) (oi := _) (v := ?v4) rfl (by kernel_rfl) (by kernel_rfl) (by kernel_rfl) (fun _ _ _ h => h) (Or.inl ⟨by rfl, ?y4⟩) (by assumption) ?r4
  case y4 => ((intro w hSw); (try dsimp only at hSw); go_simp; (try with_reducible rfl))
  (try simp only [Act.put, List.setIfInBounds_toArray, List.set_cons_zero, List.set_cons_succ])
  refine wpAnyH_take (i := 3) (oi := _) (v := ?v5) rfl (by kernel_rfl) (by kernel_rfl) (by kernel_rfl) (fun _ _ _ h => h) (Or.inl ⟨by rfl, ?y5⟩) (by assumption) ?r5
  case y5 => ((intro w hSw); (try dsimp only at hSw); go_simp; (try with_reducible rfl))
  (try simp only [Act.put, List.setIfInBounds_toArray, List.set_cons_zero, List.set_cons_succ])
  refine wpAnyH_take (i := 4) (oi := _) (v := ?v6) rfl (by kernel_rfl) (by kernel_rfl) (by kernel_rfl) (fun _ _ _ h => h) (Or.inl ⟨by rfl, ?y6⟩) (by assumption) ?r6
  case y6 => ((intro w hSw); (try dsimp only at hSw); go_simp; (try with_reducible rfl))
  (try simp only [Act.put, List.setIfInBounds_toArray, List.set_cons_zero, List.set_cons_succ])
  refine wpAnyH_take (i := 5) (oi := _) (v := ?v7) rfl (by kernel_rfl) (by kernel_rfl) (by kernel_rfl) (fun _ _ _ h => h) (Or.inl ⟨by rfl, ?y7⟩) (by assumption) ?r7
  case y7 => ((intro w hSw); (try dsimp only at hSw); go_simp; (try with_reducible rfl))
  (try simp only [Act.put, List.setIfInBounds_toArray, List.set_cons_zero, List.set_cons_succ])
  refine wpAnyH_take (i := 7) (oi := _) (v := ?v8) rfl (by kernel_rfl) (by kernel_rfl) (by kernel_rfl) (fun _ _ _ h => h) (Or.inl ⟨by rfl, ?y8⟩) (by assumption) ?r8
  case y8 => ((intro w hSw); (try dsimp only at hSw); go_simp; (try with_reducible rfl))
  (try simp only [Act.put, List.setIfInBounds_toArray, List.set_cons_zero, List.set_cons_succ])
  refine wpAnyH_take (i := 8) (oi := _) (v := ?v9) rfl (by kernel_rfl) (by kernel_rfl) (by kernel_rfl) (fun _ _ _ h => h) (Or.inl ⟨by rfl, ?y9⟩) (by assumption) ?r9
  case y9 => ((intro w hSw); (try dsimp only at hSw); go_simp; (try with_reducible rfl))
  (try simp only [Act.put, List.setIfInBounds_toArray, List.set_cons_zero, List.set_cons_succ])
  refine wpAnyH_take (i := 9) (oi := _) (v := ?v10) rfl (by kernel_rfl) (by kernel_rfl) (by kernel_rfl) (fun _ _ _ h => h) (Or.inl ⟨by rfl, ?y10⟩) (by assumption) ?r10
  case y10 => ((intro w hSw); (try dsimp only at hSw); go_simp; (try with_reducible rfl))
  (try simp only [Act.put, List.setIfInBounds_toArray, List.set_cons_zero, List.set_cons_succ])
  refine wpAnyH_take (i := 10) (oi := _) (v := ?v11) rfl (by kernel_rfl) (by kernel_rfl) (by kernel_rfl) (fun _ _ _ h => h) (Or.inl ⟨by rfl, ?y11⟩) (by assumption) ?r11
  case y11 => ((intro w hSw); (try dsimp only at hSw); go_simp; (try with_reducible rfl))
  (try simp only [Act.put, List.setIfInBounds_toArray, List.set_cons_zero, List.set_cons_succ])
  refine wpAnyH_take (i := 11) (oi := _) (v := ?v12) rfl (by kernel_rfl) (by kernel_rfl) (by kernel_rfl) (fun _ _ _ h => h) (Or.inl ⟨by rfl, ?y12⟩) (by assumption) ?r12
  case y12 => ((intro w hSw); (try dsimp only at hSw); go_simp; (try with_reducible rfl))
  (try simp only [Act.put, List.setIfInBounds_toArray, List.set_cons_zero, List.set_cons_succ])
  refine wpAnyH_take (i := 12) (oi := _) (v := ?v13) rfl (by kernel_rfl) (by kernel_rfl) (by kernel_rfl) (fun _ _ _ h => h) (Or.inl ⟨by rfl, ?y13⟩) (by assumption) ?r13
  case y13 => ((intro w hSw); (try dsimp only at hSw); go_simp; (try with_reducible rfl))
  (try simp only [Act.put, List.setIfInBounds_toArray, List.set_cons_zero, List.set_cons_succ])
  refine wpAnyH_take (i := 13) (oi := _) (v := ?v14) rfl (by kernel_rfl) (by kernel_rfl) (by kernel_rfl) (fun _ _ _ h => h) (Or.inl ⟨by rfl, ?y14⟩) (by assumption) ?r14
  case y14 => ((intro w hSw); (try dsimp only at hSw); go_simp; (try with_reducible rfl))
  (try simp only [Act.put, List.setIfInBounds_toArray, List.set_cons_zero, List.set_cons_succ])
  refine wpAnyH_ready (rs := [6]) (by kernel_rfl) (by simp) ?_
  refine AllReadyH.cons rfl (fun K hK => ?st15) AllReadyH.nil
  go_simp
  refine hK.out _ _ ?k15 (fun hHeld15 => ?_)
  case k15 =>
    go_keep
  clear hK K
  (try simp only [Act.put, List.setIfInBounds_toArray, List.set_cons_zero, List.set_cons_succ])
  refine wpAnyH_ready (rs := [14]) (by kernel_rfl) (by simp) ?_
  refine AllReadyH.cons rfl (fun K hK => ?st16) AllReadyH.nil
  refine step_append_irow rfl (.tmp 21) (.tmp 28) rfl w.heap.size 1 [(t : Int)] (zi l) (.slice (some ⟨_, 0, none⟩) 1 1) _ rfl rfl ?_ ?_ ?_ ?_ ?_
  · exact (owns_one w _).drew
  · exact (hr1.alloc _).drew
  · rw [zi_len]; omega
  · simp; try omega
  intro v2 w2 ho2 hg2 _
  obtain ⟨a2, c2, rfl⟩ := own_shape ho2 (l.length + 1) (by simp [zi_len]; omega)
  have s2 : Still w w2 := Fr.of_own ((Fr.refl _ w).alloc _).drew (owns_one w _).drew hg2 (Nat.le_refl _)
  have C2 := Still.cell s2 C1
  have Z2 := Still.frz s2 hRl Z
  refine hK.out _ _ ?k16 (fun hHeld16 => ?_)
  case k16 =>
    exact ⟨Still.cell s2 F1, C2⟩
  clear hK K
  (try simp only [Act.put, List.setIfInBounds_toArray, List.set_cons_zero, List.set_cons_succ])
  refine wpAnyH_take (i := 15) (oi := _) (v := ?v17) rfl (by kernel_rfl) (by kernel_rfl) (by kernel_rfl) (fun _ _ _ h => h) (Or.inl ⟨by rfl, ?y17⟩) (by assumption) ?r17
  case y17 => ((intro w hSw); (try dsimp only at hSw); go_simp; (try with_reducible rfl))
  (try simp only [Act.put, List.setIfInBounds_toArray, List.set_cons_zero, List.set_cons_succ])
  refine wpAnyH_done (by kernel_rfl) (Held.tailQ_normal ?_) _
  all_goals
    go_wp2
    go_ret
    refine ⟨rfl, ?_, Fr.putR (s2.fr _) _ _⟩
    rw [HL.out]
    have hz : ([(t : Int)] ++ zi l) = zi (t :: l) := by simp [zi]
    rw [hz] at ho2
    refine (h.still s2).put (RowIn.own ho2 (by simp [zi_len]; omega) hRl (by have := h.lp; omega) rfl) (fun x hx => ?_) (by have := hsz; simp; omega)
    rcases List.mem_cons.1 hx with hx | hx
    · subst hx; exact htT
    · exact h.bd i hi x (by rw [HL.out]; exact hx)
theorem rall (h : RefAt w lo p R T L) (i : Int) : Calls Try.prog 31 #[.pointer (some ⟨p, 0, none⟩), .int .i64 i] w fun e w' => ∃ a c, e = .returned (.slice a (if inR i L.length then gl L i.toNat else []).length c) ∧
      IRow w' (.slice a (if inR i L.length then gl L i.toNat else []).length c) (zi (if inR i L.length then gl L i.toNat else [])) ∧ Still w w' := by
  by_cases hi : inR i L.length
  · simp only [if_pos hi]
    obtain ⟨i, rfl⟩ := Int.eq_ofNat_of_zero_le hi.1
    rw [Int.toNat_natCast]
    have hi' : i < L.length := by have := hi.2; omega
    have hi'' : (i : Int) < (L.length : Int) := hi.2
    have HD := hid (decide_eq_true hi)
    have F1 := h.f1
    obtain ⟨a, c, C1, hr⟩ := h.row hi'
    have hs := h.sh i hi'
    have hr1 := hr.1
    have hRl : R < w.heap.size := World.block_lt_of_cell? _ _ C1
    have hpl : p < w.heap.size := World.block_lt_of_cell? _ _ F1
    obtain ⟨l, hl⟩ : ∃ l, gl L i = l := ⟨_, rfl⟩
    rw [hl] at C1 hs hr1 ⊢
    clear hl hi
    go_enter Try.func31, Try.ntmps31
    go_wp2_with (first | (go_at_call 90; refine (rlist h _).mono ?_; rw [HD.out]; rintro e w' ⟨rfl, rfl⟩) | (at_builtin; refine wpList_append_irow rfl (.tmp 9) (.tmp 16) rfl w.heap.size 0 [] (zi l) (.slice (some ⟨_, 0, none⟩) 0 0) _ rfl rfl (owns_b w _ (Nat.le_refl _)) (hr1.alloc _) (by rw [zi_len]; omega) (by simp) ?_; intro v2 w2 ho2 hg2 _; obtain ⟨a2, c2, rfl⟩ := own_shape ho2 l.length (by simp [zi_len])))
    go_ret
    exact ⟨a2, c2, rfl, by simpa using IRow.own ho2 (by simp [zi_len]), Fr.of_own ((Fr.refl _ w).alloc _) (owns_b w _ (Nat.le_refl _)) hg2 (Nat.le_refl _)⟩
  · simp only [if_neg hi]
    have HD := hid (decide_eq_false hi)
    clear hi
    go_enter Try.func31, Try.ntmps31
    go_wp2_with (first | (go_at_call 90; refine (rlist h _).mono ?_; rw [HD.out]; rintro e w' ⟨rfl, rfl⟩))
    go_ret
    exact ⟨none, 0, rfl, .inl ⟨rfl, _, _, rfl⟩, Fr.refl _ _⟩
end
end Go.Proofs.Ytffjaaolcphonaa
