/- The document's links: Move. -/
import Derived.Test.YtffjaaolcphonaaRef5e
namespace Go.Proofs.Ytffjaaolcphonaa
open Go.RowKit
set_option linter.unusedSimpArgs false
section
variable {w : World} {lo p R T : Nat} {L : List (List Nat)}
set_option maxRecDepth 100000 in
set_option maxHeartbeats 4000000 in
theorem rmove_ok (h : RefAt w lo p R T L) (f t : Nat) (hf : f < L.length) (ht : t < L.length) (hft : f ≠ t) (hsz : (gl L t).length + (gl L f).length ≤ 4096) :
    Calls Try.prog 88 #[.pointer (some ⟨p, 0, none⟩), .int .i64 f, .int .i64 t] w fun e w' => e = .returned (.tuple #[.int .i64 (gl L f).length, .int .i64 0]) ∧
      RefAt w' lo p R T ((L.set t (gl L t ++ gl L f)).set f []) ∧ Fr (fun k => k = R) w w' := by
  have F1 := h.f1
  have hf' : (f : Int) < (L.length : Int) := by omega
  have ht' : (t : Int) < (L.length : Int) := by omega
  have hft' : (f : Int) ≠ (t : Int) := by omega
  have HDf := hid (decide_eq_true (p := inR f L.length) ⟨by omega, hf'⟩)
  have HDt := hid (decide_eq_true (p := inR t L.length) ⟨by omega, ht'⟩)
  obtain ⟨af, cf, Cf, hrf⟩ := h.row hf
  obtain ⟨a, c, Ct, hrt⟩ := h.row ht
  have Z := h.frz t
  have hsf := h.sh f hf
  have hst := h.sh t ht
  have hRl : R < w.heap.size := World.block_lt_of_cell? _ _ Ct
  have hpl : p < w.heap.size := World.block_lt_of_cell? _ _ F1
  have hpR := h.pR
  have hr1f := hrf.1
  have hr1t := hrt.1
  obtain ⟨lf, hlf⟩ : ∃ l, gl L f = l := ⟨_, rfl⟩
  obtain ⟨lt, hlt⟩ : ∃ l, gl L t = l := ⟨_, rfl⟩
  have HLf := hid hlf
  have HLt := hid hlt
  rw [hlf] at Cf hsf hr1f hsz
  rw [hlt] at Ct hst hr1t hsz
  rw [hlf, hlt]
  clear hlf hlt hrf hrt
  go_enter Try.func88, Try.ntmps88
  go_wp2_with (first | (go_at_call 90; refine (rlist h _).mono ?_; (first | rw [HDf.out] | rw [HDt.out]); rintro e w' ⟨rfl, rfl⟩))
  refine Held.wp_region_held_tail (S := (fun w' => w'.cell? ⟨p, 1, none⟩ = some (.slice (some ⟨R, 0, none⟩) L.length L.length) ∧ w'.cell? ⟨R, t, none⟩ = some (.slice a lt.length c) ∧ w'.cell? ⟨R, f, none⟩ = some (.slice af lf.length cf))) 23 (by kernel_rfl) (by kernel_rfl) (by decide) ?hS1 (fun hHeld => ?hR1)
  case hS1 =>
    exact ⟨F1, Ct, Cf⟩
  simp only [List.take_succ_cons, List.take_zero, List.drop_succ_cons, List.drop_zero]
  refine wpAnyH_take (i := 0) (oi := _) (v := ?v2) rfl (by kernel_rfl) (by kernel_rfl) (by kernel_rfl) (fun _ _ _ h => h) (Or.inl ⟨by rfl, ?y2⟩) (by assumption) ?r2
  case y2 => ((intro w hSw); (try dsimp only at hSw); go_simp; (try with_reducible rfl))
  (try simp only [Act.put, List.setIfInBounds_toArray, List.set_cons_zero, List.set_cons_succ])
  refine wpAnyH_take (i := 1) (oi := _) (v := ?v3) rfl (by kernel_rfl) (by kernel_rfl) (by kernel_rfl) (fun _ _ _ h => h) (Or.inl ⟨by rfl, ?y3⟩) (by assumption) ?r3
  case y3 => ((intro w hSw); (try dsimp only at hSw); go_simp; (try with_reducible rfl))
  (try simp only [Act.put, List.setIfInBounds_toArray, List.set_cons_zero, List.set_cons_succ])
  refine wpAnyH_take (i := 2) (oi := _) (v := ?v4) rfl (by kernel_rfl) (by kernel_rfl) (by kernel_rfl) (fun _ _ _ h => h) (Or.inl ⟨by rfl, ?y4⟩) (by assumption) ?r4
  case y4 => ((intro w hSw); (try dsimp only at hSw); go_simp; (try with_reducible rfl))
  (try simp only [Act.put, List.setIfInBounds_toArray, List.set_cons_zero, List.set_cons_succ])
  refine wpAnyH_take (i := 3) (oi := _) (v := ?v5) rfl (by kernel_rfl) (by kernel_rfl) (by kernel_rfl) (fun _ _ _ h => h) (Or.inl ⟨by rfl, ?y5⟩) (by assumption) ?r5
  case y5 => ((intro w hSw); (try dsimp only at hSw); go_simp; (try with_reducible rfl))
  (try simp only [Act.put, List.setIfInBounds_toArray, List.set_cons_zero, List.set_cons_succ])
  refine wpAnyH_take (i := 4) (oi := _) (v := ?v6) rfl (by kernel_rfl) (by kernel_rfl) (by kernel_rfl) (fun _ _ _ h => h) (Or.inl ⟨by rfl, ?y6⟩) (by assumption) ?r6
  case y6 => ((intro w hSw); (try dsimp only at hSw); go_simp; (try with_reducible rfl))
  (try simp only [Act.put, List.setIfInBounds_toArray, List.set_cons_zero, List.set_cons_succ])
  refine wpAnyH_take (i := 6) (oi := _) (v := ?v7) rfl (by kernel_rfl) (by kernel_rfl) (by kernel_rfl) (fun _ _ _ h => h) (Or.inl ⟨by rfl, ?y7⟩) (by assumption) ?r7
  case y7 => ((intro w hSw); (try dsimp only at hSw); go_simp; (try with_reducible rfl))
  (try simp only [Act.put, List.setIfInBounds_toArray, List.set_cons_zero, List.set_cons_succ])
  refine wpAnyH_take (i := 7) (oi := _) (v := ?v8) rfl (by kernel_rfl) (by kernel_rfl) (by kernel_rfl) (fun _ _ _ h => h) (Or.inl ⟨by rfl, ?y8⟩) (by assumption) ?r8
  case y8 => ((intro w hSw); (try dsimp only at hSw); go_simp; (try with_reducible rfl))
  (try simp only [Act.put, List.setIfInBounds_toArray, List.set_cons_zero, List.set_cons_succ])
  refine wpAnyH_take (i := 8) (oi := _) (v := ?v9) rfl (by kernel_rfl) (by kernel_rfl) (by kernel_rfl) (fun _ _ _ h => h) (Or.inl ⟨by rfl, ?y9⟩) (by assumption) ?r9
  case y9 => ((intro w hSw); (try dsimp only at hSw); go_simp; (try with_reducible rfl))
  (try simp only [Act.put, List.setIfInBounds_toArray, List.set_cons_zero, List.set_cons_succ])
  refine wpAnyH_take (i := 9) (oi := _) (v := ?v10) rfl (by kernel_rfl) (by kernel_rfl) (by kernel_rfl) (fun _ _ _ h => h) (Or.inl ⟨by rfl, ?y10⟩) (by assumption) ?r10
  case y10 => ((intro w hSw); (try dsimp only at hSw); go_simp; (try with_reducible rfl))
  (try simp only [Act.put, List.setIfInBounds_toArray, List.set_cons_zero, List.set_cons_succ])
  refine wpAnyH_take (i := 10) (oi := _) (v := ?v11) rfl (by kernel_rfl) (by kernel_rfl) (by kernel_rfl) (fun _ _ _ h => h) (Or.inl ⟨by rfl, ?y11⟩) (by assumption) ?r11
  case y11 => ((intro w hSw); (try dsimp only at hSw); go_simp; (try with_reducible rfl))
  (try simp only [Act.put, List.setIfInBounds_toArray, List.set_cons_zero, List.set_cons_succ])
  refine wpAnyH_take (i := 11) (oi := _) (v := ?v12) rfl (by kernel_rfl) (by kernel_rfl) (by kernel_rfl) (fun _ _ _ h => h) (Or.inl ⟨by rfl, ?y12⟩) (by assumption) ?r12
  case y12 => ((intro w hSw); (try dsimp only at hSw); go_simp; (try with_reducible rfl))
  (try simp only [Act.put, List.setIfInBounds_toArray, List.set_cons_zero, List.set_cons_succ])
  refine wpAnyH_take (i := 12) (oi := _) (v := ?v13) rfl (by kernel_rfl) (by kernel_rfl) (by kernel_rfl) (fun _ _ _ h => h) (Or.inl ⟨by rfl, ?y13⟩) (by assumption) ?r13
  case y13 => ((intro w hSw); (try dsimp only at hSw); go_simp; (try with_reducible rfl))
  (try simp only [Act.put, List.setIfInBounds_toArray, List.set_cons_zero, List.set_cons_succ])
  refine wpAnyH_take (i := 14) (oi := _) (v := ?v14) rfl (by kernel_rfl) (by kernel_rfl) (by kernel_rfl) (fun _ _ _ h => h) (Or.inl ⟨by rfl, ?y14⟩) (by assumption) ?r14
  case y14 => ((intro w hSw); (try dsimp only at hSw); go_simp; (try with_reducible rfl))
  (try simp only [Act.put, List.setIfInBounds_toArray, List.set_cons_zero, List.set_cons_succ])
  refine wpAnyH_take (i := 15) (oi := _) (v := ?v15) rfl (by kernel_rfl) (by kernel_rfl) (by kernel_rfl) (fun _ _ _ h => h) (Or.inl ⟨by rfl, ?y15⟩) (by assumption) ?r15
  case y15 => ((intro w hSw); (try dsimp only at hSw); go_simp; (try with_reducible rfl))
  (try simp only [Act.put, List.setIfInBounds_toArray, List.set_cons_zero, List.set_cons_succ])
  refine wpAnyH_take (i := 16) (oi := _) (v := ?v16) rfl (by kernel_rfl) (by kernel_rfl) (by kernel_rfl) (fun _ _ _ h => h) (Or.inl ⟨by rfl, ?y16⟩) (by assumption) ?r16
  case y16 => ((intro w hSw); (try dsimp only at hSw); go_simp; (try with_reducible rfl))
  (try simp only [Act.put, List.setIfInBounds_toArray, List.set_cons_zero, List.set_cons_succ])
  refine wpAnyH_take (i := 17) (oi := _) (v := ?v17) rfl (by kernel_rfl) (by kernel_rfl) (by kernel_rfl) (fun _ _ _ h => h) (Or.inl ⟨by rfl, ?y17⟩) (by assumption) ?r17
  case y17 => ((intro w hSw); (try dsimp only at hSw); go_simp; (try with_reducible rfl))
  (try simp only [Act.put, List.setIfInBounds_toArray, List.set_cons_zero, List.set_cons_succ])
  refine wpAnyH_take (i := 18) (oi := _) (v := ?v18) rfl (by kernel_rfl) (by kernel_rfl) (by kernel_rfl) (fun _ _ _ h => h) (Or.inl ⟨by rfl, ?y18⟩) (by assumption) ?r18
  case y18 => ((intro w hSw); (try dsimp only at hSw); go_simp; (try with_reducible rfl))
  (try simp only [Act.put, List.setIfInBounds_toArray, List.set_cons_zero, List.set_cons_succ])
  refine wpAnyH_take (i := 19) (oi := _) (v := ?v19) rfl (by kernel_rfl) (by kernel_rfl) (by kernel_rfl) (fun _ _ _ h => h) (Or.inl ⟨by rfl, ?y19⟩) (by assumption) ?r19
  case y19 => ((intro w hSw); (try dsimp only at hSw); go_simp; (try with_reducible rfl))
  (try simp only [Act.put, List.setIfInBounds_toArray, List.set_cons_zero, List.set_cons_succ])
  refine wpAnyH_take (i := 20) (oi := _) (v := ?v20) rfl (by kernel_rfl) (by kernel_rfl) (by kernel_rfl) (fun _ _ _ h => h) (Or.inl ⟨by rfl, ?y20⟩) (by assumption) ?r20
  case y20 => ((intro w hSw); (try dsimp only at hSw); go_simp; (try with_reducible rfl))
  (try simp only [Act.put, List.setIfInBounds_toArray, List.set_cons_zero, List.set_cons_succ])
  refine wpAnyH_ready (rs := [5]) (by kernel_rfl) (by simp) ?_
  refine AllReadyH.cons rfl (fun K hK => ?st21) AllReadyH.nil
  go_simp
  refine hK.out _ _ ?k21 (fun hHeld21 => ?_)
  case k21 =>
    go_keep
  clear hK K
  (try simp only [Act.put, List.setIfInBounds_toArray, List.set_cons_zero, List.set_cons_succ])
  refine wpAnyH_ready (rs := [13]) (by kernel_rfl) (by simp) ?_
  refine AllReadyH.cons rfl (fun K hK => ?st22) AllReadyH.nil
  refine step_append_irow rfl (.tmp 35) (.tmp 42) rfl w.heap.size 0 [] (zi lt) (.slice (some ⟨_, 0, none⟩) 0 0) _ rfl rfl ?_ ?_ ?_ ?_ ?_
  · exact (owns_b w _ (Nat.le_refl _)).drew
  · exact (hr1t.alloc _).drew
  · rw [zi_len]; omega
  · simp; try omega
  intro v1 w1 ho1 hg1 _
  have s1 : Still w w1 := Fr.of_own ((Fr.refl _ w).alloc _).drew (owns_b w _ (Nat.le_refl _)).drew hg1 (Nat.le_refl _)
  have z1 := s1.size
  refine hK.out _ _ ?k22 (fun hHeld22 => ?_)
  case k22 =>
    exact ⟨Still.cell s1 F1, Still.cell s1 Ct, Still.cell s1 Cf⟩
  clear hK K
  (try simp only [Act.put, List.setIfInBounds_toArray, List.set_cons_zero, List.set_cons_succ])
  refine wpAnyH_ready (rs := [21]) (by kernel_rfl) (by simp) ?_
  refine AllReadyH.cons rfl (fun K hK => ?st23) AllReadyH.nil
  refine step_append_irow rfl (.tmp 43) (.tmp 50) rfl w.heap.size (0 + (zi lt).length) ([] ++ zi lt) (zi lf) _ _ rfl rfl ?_ ?_ ?_ ?_ ?_
  · exact ho1
  · exact hr1f.still s1
  · simp only [zi_len]; omega
  · exact z1
  intro v2 w2 ho2 hg2 _
  obtain ⟨a2, c2, rfl⟩ := own_shape ho2 (lt.length + lf.length) (by simp [zi_len])
  have s2 : Still w w2 := Fr.of_own s1 ho1 hg2 (Nat.le_refl _)
  have C2 := Still.cell s2 Ct
  have Z2 := Still.frz s2 hRl Z
  refine hK.out _ _ ?k23 (fun hHeld23 => ?_)
  case k23 =>
    exact ⟨Still.cell s2 F1, C2, Still.cell s2 Cf⟩
  clear hK K
  (try simp only [Act.put, List.setIfInBounds_toArray, List.set_cons_zero, List.set_cons_succ])
  refine wpAnyH_take (i := 22) (oi := _) (v := ?v24) rfl (by kernel_rfl) (by kernel_rfl) (by kernel_rfl) (fun _ _ _ h => h) (Or.inl ⟨by rfl, ?y24⟩) (by assumption) ?r24
  case y24 => ((intro w hSw); (try dsimp only at hSw); go_simp; (try with_reducible rfl))
  (try simp only [Act.put, List.setIfInBounds_toArray, List.set_cons_zero, List.set_cons_succ])
  refine wpAnyH_done (by kernel_rfl) (Held.tailQ_normal ?_) _
  have hz : ([] ++ zi lt ++ zi lf) = zi (lt ++ lf) := by simp [zi]
  rw [hz] at ho2
  have hP := (h.still s2).put (i := t) (RowIn.own ho2 (by simp [zi_len]) hRl (by have := h.lp; omega) rfl) (fun x hx => by
    rcases List.mem_append.1 hx with hx | hx
    · exact h.bd t ht x (by rw [HLt.out]; exact hx)
    · exact h.bd f hf x (by rw [HLf.out]; exact hx)) (by simp; omega)
  have hF : Fr (fun k => k = R) w (w2.setCell ⟨R, t, none⟩ (.slice a2 (lt.length + lf.length) c2)) := Fr.putR (s2.fr _) _ _
  have F2 := Still.cell s2 F1
  have Cf2 := Still.cell s2 Cf
  have Zf2 := Still.frz s2 hRl (h.frz f)
  have HP := hid hP
  have HF := hid hF
  have htf : t ≠ f := fun e => hft e.symm
  clear hP hF ho2 hg2 hz Ct Cf F1 Z
  go_wp2
  go_ret2
  exact ⟨rfl, HP.out.put (RowIn.nil _ _ _ _) (fun x hx => by simp at hx) (by simp), Fr.putR HF.out _ _⟩
end
end Go.Proofs.Ytffjaaolcphonaa
