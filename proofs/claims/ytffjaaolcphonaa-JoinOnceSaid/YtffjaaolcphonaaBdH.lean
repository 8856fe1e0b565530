/- The document's links: Pop. -/
import Derived.Test.YtffjaaolcphonaaBdG
namespace Go.Proofs.Ytffjaaolcphonaa
open Go.RowKit
set_option linter.unusedSimpArgs false
section
variable {w : World} {lo p R T : Nat} {L : List (List Nat)}
set_option maxRecDepth 100000 in
set_option maxHeartbeats 2000000 in
theorem rpop_ok (h : RefAt w lo p R T L) (i x : Nat) (ys : List Nat) (hi : i < L.length) (hl : gl L i = x :: ys) :
    Calls Try.prog 87 #[.pointer (some ⟨p, 0, none⟩), .int .i64 i] w fun e w' => e = .returned (.tuple #[.int .i64 x, .int .i64 0]) ∧ RefAt w' lo p R T (L.set i ys) ∧ Fr (fun k => k = R) w w' := by
  have F1 := h.f1
  have hi' : (i : Int) < (L.length : Int) := by omega
  have HD := hid (decide_eq_true (p := inR i L.length) ⟨by omega, hi'⟩)
  obtain ⟨a, c, C1, hr⟩ := h.row hi
  have Z := h.frz i
  have hs := h.sh i hi
  have hRl : R < w.heap.size := World.block_lt_of_cell? _ _ C1
  have hpl : p < w.heap.size := World.block_lt_of_cell? _ _ F1
  have hpR := h.pR
  have HL := hid hl
  have hcap := hr.2.2 _ _ _ rfl
  rw [hl] at C1 hs hr hcap
  clear hl
  rcases hr.1 with ⟨h0, _⟩ | ⟨_, b, off, c', hv, hcell⟩
  · simp [zi] at h0
  have hx := hcell 0 (by simp [zi])
  simp only [zi, List.map_cons, List.getD_cons_zero, Nat.add_zero] at hx
  obtain ⟨rfl, rfl⟩ : a = some ⟨b, off, none⟩ ∧ c = c' := by injection hv with h1 h2 h3; exact ⟨h1, h3⟩
  simp only [List.length_cons] at C1 hcap hs
  have hys : IRow w (if c = 1 then .slice (some ⟨b, off, none⟩) ys.length (c - 1) else .slice (some ⟨b, off + 1, none⟩) ys.length (c - 1)) (zi ys) := by
    by_cases e : ys.length = 0
    · have : ys = [] := List.length_eq_zero_iff.1 e
      subst this
      split <;> exact .inl ⟨rfl, _, _, rfl⟩
    · rw [if_neg (by omega)]
      refine .inr ⟨by rw [zi_len]; omega, b, off + 1, c - 1, by rw [zi_len], fun j hj => ?_⟩
      rw [zi_len] at hj
      have := hcell (j + 1) (by simp [zi]; omega)
      rw [show off + 1 + j = off + (j + 1) by omega, this]
      simp [zi]
  have hbl : b < w.heap.size := World.block_lt_of_cell? _ _ hx
  clear hcell hv hr
  by_cases hc1 : c = 1
  · subst hc1
    rw [if_pos rfl, show ys.length = 0 by omega, show (1 - 1 : Nat) = 0 from rfl] at hys
    have hn0 : (1 : Int) ≤ ((ys.length + 1 : Nat) : Int) := by omega
    have hn1 : ((ys.length + 1 : Nat) : Int) ≠ 0 := by omega
    have hn2 : (1 : Int) ≤ (ys.length : Int) + 1 := by omega
    go_enter Try.func87, Try.ntmps87
    go_wp2_with (first | (go_at_call 90; refine (rlist h _).mono ?_; rw [HD.out]; rintro e w' ⟨rfl, rfl⟩))
    refine Held.wp_region_held_tail (S := (fun w' => w'.cell? ⟨p, 1, none⟩ = some (.slice (some ⟨R, 0, none⟩) L.length L.length) ∧ w'.cell? ⟨R, i, none⟩ = some (.slice (some ⟨b, off, none⟩) (ys.length + 1) 1))) 16 (by kernel_rfl) (by kernel_rfl) (by decide) ?hS1 (fun hHeld => ?hR1)
    case hS1 =>
      exact ⟨F1, C1⟩
    simp only [List.take_succ_cons, List.take_zero, List.drop_succ_cons, List.drop_zero]
    refine wpAnyH_take (i := 0) (oi := _) (v := ?v2) rfl (by kernel_rfl) (by kernel_rfl) (by kernel_rfl) (fun _ _ _ h => h) (Or.inl ⟨by rfl, ?y2⟩) (by assumption) ?r2
    case y2 => ((intro w hSw); (try dsimp only at hSw); go_simp; (try with_reducible rfl))
    (try simp only [Act.put, List.setIfInBounds_toArray, List.set_cons_zero, List.set_cons_succ])
    refine wpAnyH_take (i := 1) (oi := _) (v := ?v3) rfl (by kernel_rfl) (by kernel_rfl) (by kernel_rfl) (fun _ _ _ h => h) (Or.inl ⟨by rfl, ?y3⟩) (by assumption) ?r3
    case y3 => ((intro w hSw); (try dsimp only at hSw); go_simp; (try with_reducible rfl))
    (try simp only [Act.put, List.setIfInBounds_toArray, List.set_cons_zero, List.set_cons_succ])
    refine wpAnyH_take (i := 2) (oi := _) (v := ?v4) rfl (by kernel_rfl) (by kernel_rfl) (by kernel_rfl) (fun _ _ _ h => h) (Or.inl ⟨by rfl, ?y4⟩) (by assumption) ?r4
    case y4 => ((intro w hSw); (try dsimp only at hSw); go_simp; (try with_reducible rfl))
    (try simp only [Act.put, List.setIfInBounds_toArray, List.set_cons_zero, List.set_cons_succ])
    refine wpAnyH_take (i := 3) (oi := _) (v := ?v5) rfl (by kernel_rfl) (by kernel_rfl) (by kernel_rfl) (fun _ _ _ h => h) (Or.inl ⟨by rfl, ?y5⟩) (by assumption) ?r5
    case y5 => ((intro w hSw); (try dsimp only at hSw); go_simp; (try with_reducible rfl))
    (try simp only [Act.put, List.setIfInBounds_toArray, List.set_cons_zero, List.set_cons_succ])
    refine wpAnyH_take (i := 4) (oi := _) (v := ?v6) rfl (by kernel_rfl) (by kernel_rfl) (by kernel_rfl) (fun _ _ _ h => h) (Or.inl ⟨by rfl, ?y6⟩) (by assumption) ?r6
    case y6 => ((intro w hSw); (try dsimp only at hSw); go_simp; (try with_reducible rfl))
    (try simp only [Act.put, List.setIfInBounds_toArray, List.set_cons_zero, List.set_cons_succ])
    refine wpAnyH_take (i := 6) (oi := _) (v := ?v7) rfl (by kernel_rfl) (by kernel_rfl) (by kernel_rfl) (fun _ _ _ h => h) (Or.inl ⟨by rfl, ?y7⟩) (by assumption) ?r7
    case y7 => ((intro w hSw); (try dsimp only at hSw); go_simp; (try with_reducible rfl))
    (try simp only [Act.put, List.setIfInBounds_toArray, List.set_cons_zero, List.set_cons_succ])
    refine wpAnyH_take (i := 7) (oi := _) (v := ?v8) rfl (by kernel_rfl) (by kernel_rfl) (by kernel_rfl) (fun _ _ _ h => h) (Or.inl ⟨by rfl, ?y8⟩) (by assumption) ?r8
    case y8 => ((intro w hSw); (try dsimp only at hSw); go_simp; (try with_reducible rfl))
    (try simp only [Act.put, List.setIfInBounds_toArray, List.set_cons_zero, List.set_cons_succ])
    refine wpAnyH_take (i := 8) (oi := _) (v := ?v9) rfl (by kernel_rfl) (by kernel_rfl) (by kernel_rfl) (fun _ _ _ h => h) (Or.inl ⟨by rfl, ?y9⟩) (by assumption) ?r9
    case y9 => ((intro w hSw); (try dsimp only at hSw); go_simp; (try with_reducible rfl))
    (try simp only [Act.put, List.setIfInBounds_toArray, List.set_cons_zero, List.set_cons_succ])
    refine wpAnyH_take (i := 9) (oi := _) (v := ?v10) rfl (by kernel_rfl) (by kernel_rfl) (by kernel_rfl) (fun _ _ _ h => h) (Or.inl ⟨by rfl, ?y10⟩) (by assumption) ?r10
    case y10 => ((intro w hSw); (try dsimp only at hSw); go_simp; (try with_reducible rfl))
    (try simp only [Act.put, List.setIfInBounds_toArray, List.set_cons_zero, List.set_cons_succ])
    refine wpAnyH_take (i := 10) (oi := _) (v := ?v11) rfl (by kernel_rfl) (by kernel_rfl) (by kernel_rfl) (fun _ _ _ h => h) (Or.inl ⟨by rfl, ?y11⟩) (by assumption) ?r11
    case y11 => ((intro w hSw); (try dsimp only at hSw); go_simp; (try with_reducible rfl))
    (try simp only [Act.put, List.setIfInBounds_toArray, List.set_cons_zero, List.set_cons_succ])
    refine wpAnyH_take (i := 11) (oi := _) (v := ?v12) rfl (by kernel_rfl) (by kernel_rfl) (by kernel_rfl) (fun _ _ _ h => h) (Or.inl ⟨by rfl, ?y12⟩) (by assumption) ?r12
    case y12 => ((intro w hSw); (try dsimp only at hSw); go_simp; (try with_reducible rfl))
    (try simp only [Act.put, List.setIfInBounds_toArray, List.set_cons_zero, List.set_cons_succ])
    refine wpAnyH_take (i := 12) (oi := _) (v := ?v13) rfl (by kernel_rfl) (by kernel_rfl) (by kernel_rfl) (fun _ _ _ h => h) (Or.inl ⟨by rfl, ?y13⟩) (by assumption) ?r13
    case y13 => ((intro w hSw); (try dsimp only at hSw); go_simp; (try with_reducible rfl))
    (try simp only [Act.put, List.setIfInBounds_toArray, List.set_cons_zero, List.set_cons_succ])
    refine wpAnyH_take (i := 13) (oi := _) (v := ?v14) rfl (by kernel_rfl) (by kernel_rfl) (by kernel_rfl) (fun _ _ _ h => h) (Or.inl ⟨by rfl, ?y14⟩) (by assumption) ?r14
    case y14 => ((intro w hSw); (try dsimp only at hSw); go_simp; (try with_reducible rfl))
    (try simp only [Act.put, List.setIfInBounds_toArray, List.set_cons_zero, List.set_cons_succ])
    refine wpAnyH_ready (rs := [5]) (by kernel_rfl) (by simp) ?_
    refine AllReadyH.cons rfl (fun K hK => ?st15) AllReadyH.nil
    go_simp
    refine hK.out _ _ ?k15 (fun hHeld15 => ?_)
    case k15 =>
      go_keep
    clear hK K
    (try simp only [Act.put, List.setIfInBounds_toArray, List.set_cons_zero, List.set_cons_succ])
    refine wpAnyH_ready (rs := [14]) (by kernel_rfl) (by simp) ?_
    refine AllReadyH.cons rfl (fun K hK => ?st16) AllReadyH.nil
    refine step_append_irow rfl (.tmp 34) (.tmp 42) rfl w.heap.size 0 [] (zi ys) (.slice (some ⟨_, 0, none⟩) 0 0) _ rfl rfl ?_ ?_ ?_ ?_ ?_
    · exact (owns_b w _ (Nat.le_refl _)).drew
    · exact (hys.alloc _).drew
    · rw [zi_len]; omega
    · simp; try omega
    intro v2 w2 ho2 hg2 _
    obtain ⟨a2, c2, rfl⟩ := own_shape ho2 ys.length (by simp [zi_len])
    have s2 : Still w w2 := Fr.of_own ((Fr.refl _ w).alloc _).drew (owns_b w _ (Nat.le_refl _)).drew hg2 (Nat.le_refl _)
    have C2 := Still.cell s2 C1
    have Z2 := Still.frz s2 hRl Z
    refine hK.out _ _ ?k16 (fun hHeld16 => ?_)
    case k16 =>
      exact ⟨Still.cell s2 F1, C2⟩
    clear hK K
    (try simp only [Act.put, List.setIfInBounds_toArray, List.set_cons_zero, List.set_cons_succ])
    refine wpAnyH_take (i := 15) (oi := _) (v := ?v17) rfl (by kernel_rfl) (by kernel_rfl) (by kernel_rfl) (fun _ _ _ h => h) (Or.inl ⟨by rfl, ?y17⟩) (by assumption) ?r17
    case y17 => ((intro w hSw); (try dsimp only at hSw); go_simp; (try with_reducible rfl))
    (try simp only [Act.put, List.setIfInBounds_toArray, List.set_cons_zero, List.set_cons_succ])
    refine wpAnyH_done (by kernel_rfl) (Held.tailQ_normal ?_) _
    all_goals
      go_wp2
      go_ret2
      refine ⟨rfl, ?_, Fr.putR (s2.fr _) _ _⟩
      refine (h.still s2).put (RowIn.own (by simpa using ho2) (by simp [zi_len]) hRl (by have := h.lp; omega) rfl) (fun x hx => ?_) (by omega)
      exact h.bd i hi x (by rw [HL.out]; simp [hx])
  · rw [if_neg hc1] at hys
    have hn0 : (1 : Int) ≤ ((ys.length + 1 : Nat) : Int) := by omega
    have hn1 : ((ys.length + 1 : Nat) : Int) ≠ 0 := by omega
    have hn2 : (1 : Int) ≤ (ys.length : Int) + 1 := by omega
    go_enter Try.func87, Try.ntmps87
    go_wp2_with (first | (go_at_call 90; refine (rlist h _).mono ?_; rw [HD.out]; rintro e w' ⟨rfl, rfl⟩))
    refine Held.wp_region_held_tail (S := (fun w' => w'.cell? ⟨p, 1, none⟩ = some (.slice (some ⟨R, 0, none⟩) L.length L.length) ∧ w'.cell? ⟨R, i, none⟩ = some (.slice (some ⟨b, off, none⟩) (ys.length + 1) c))) 16 (by kernel_rfl) (by kernel_rfl) (by decide) ?hS18 (fun hHeld => ?hR18)
    case hS18 =>
      exact ⟨F1, C1⟩
    simp only [List.take_succ_cons, List.take_zero, List.drop_succ_cons, List.drop_zero]
    refine wpAnyH_take (i := 0) (oi := _) (v := ?v19) rfl (by kernel_rfl) (by kernel_rfl) (by kernel_rfl) (fun _ _ _ h => h) (Or.inl ⟨by rfl, ?y19⟩) (by assumption) ?r19
    case y19 => ((intro w hSw); (try dsimp only at hSw); go_simp; (try with_reducible rfl))
    (try simp only [Act.put, List.setIfInBounds_toArray, List.set_cons_zero, List.set_cons_succ])
    refine wpAnyH_take (i := 1) (oi := _) (v := ?v20) rfl (by kernel_rfl) (by kernel_rfl) (by kernel_rfl) (fun _ _ _ h => h) (Or.inl ⟨by rfl, ?y20⟩) (by assumption) ?r20
    case y20 => ((intro w hSw); (try dsimp only at hSw); go_simp; (try with_reducible rfl))
    (try simp only [Act.put, List.setIfInBounds_toArray, List.set_cons_zero, List.set_cons_succ])
    refine wpAnyH_take (i := 2) (oi := _) (v := ?v21) rfl (by kernel_rfl) (by kernel_rfl) (by kernel_rfl) (fun _ _ _ h => h) (Or.inl ⟨by rfl, ?y21⟩) (by assumption) ?r21
    case y21 => ((intro w hSw); (try dsimp only at hSw); go_simp; (try with_reducible rfl))
    (try simp only [Act.put, List.setIfInBounds_toArray, List.set_cons_zero, List.set_cons_succ])
    refine wpAnyH_take (i := 3) (oi := _) (v := ?v22) rfl (by kernel_rfl) (by kernel_rfl) (by kernel_rfl) (fun _ _ _ h => h) (Or.inl ⟨by rfl, ?y22⟩) (by assumption) ?r22
    case y22 => ((intro w hSw); (try dsimp only at hSw); go_simp; (try with_reducible rfl))
    (try simp only [Act.put, List.setIfInBounds_toArray, List.set_cons_zero, List.set_cons_succ])
    refine wpAnyH_take (i := 4) (oi := _) (v := ?v23) rfl (by kernel_rfl) (by kernel_rfl) (by kernel_rfl) (fun _ _ _ h => h) (Or.inl ⟨by rfl, ?y23⟩) (by assumption) ?r23
    case y23 => ((intro w hSw); (try dsimp only at hSw); go_simp; (try with_reducible rfl))
    (try simp only [Act.put, List.setIfInBounds_toArray, List.set_cons_zero, List.set_cons_succ])
    refine wpAnyH_take (i := 6) (oi := _) (v := ?v24) rfl (by kernel_rfl) (by kernel_rfl) (by kernel_rfl) (fun _ _ _ h => h) (Or.inl ⟨by rfl, ?y24⟩) (by assumption) ?r24
    case y24 => ((intro w hSw); (try dsimp only at hSw); go_simp; (try with_reducible rfl))
    (try simp only [Act.put, List.setIfInBounds_toArray, List.set_cons_zero, List.set_cons_succ])
    refine wpAnyH_take (i := 7) (oi := _) (v := ?v25) rfl (by kernel_rfl) (by kernel_rfl) (by kernel_rfl) (fun _ _ _ h => h) (Or.inl ⟨by rfl, ?y25⟩) (by assumption) ?r25
    case y25 => ((intro w hSw); (try dsimp only at hSw); go_simp; (try with_reducible rfl))
    (try simp only [Act.put, List.setIfInBounds_toArray, List.set_cons_zero, List.set_cons_succ])
    refine wpAnyH_take (i := 8) (oi := _) (v := ?v26) rfl (by kernel_rfl) (by kernel_rfl) (by kernel_rfl) (fun _ _ _ h => h) (Or.inl ⟨by rfl, ?y26⟩) (by assumption) ?r26
    case y26 => ((intro w hSw); (try dsimp only at hSw); go_simp; (try with_reducible rfl))
    (try simp only [Act.put, List.setIfInBounds_toArray, List.set_cons_zero, List.set_cons_succ])
    refine wpAnyH_take (i := 9) (oi := _) (v := ?v27) rfl (by kernel_rfl) (by kernel_rfl) (by kernel_rfl) (fun _ _ _ h => h) (Or.inl ⟨by rfl, ?y27⟩) (by assumption) ?r27
    case y27 => ((intro w hSw); (try dsimp only at hSw); go_simp; (try with_reducible rfl))
    (try simp only [Act.put, List.setIfInBounds_toArray, List.set_cons_zero, List.set_cons_succ])
    refine wpAnyH_take (i := 10) (oi := _) (v := ?v28) rfl (by kernel_rfl) (by kernel_rfl) (by kernel_rfl) (fun _ _ _ h => h) (Or.inl ⟨by rfl, ?y28⟩) (by assumption) ?r28
    case y28 => ((intro w hSw); (try dsimp only at hSw); go_simp; (try with_reducible rfl))
    (try simp only [Act.put, List.setIfInBounds_toArray, List.set_cons_zero, List.set_cons_succ])
    refine wpAnyH_take (i := 11) (oi := _) (v := ?v29) rfl (by kernel_rfl) (by kernel_rfl) (by kernel_rfl) (fun _ _ _ h => h) (Or.inl ⟨by rfl, ?y29⟩) (by assumption) ?r29
    case y29 => ((intro w hSw); (try dsimp only at hSw); go_simp; (try with_reducible rfl))
    (try simp only [Act.put, List.setIfInBounds_toArray, List.set_cons_zero, List.set_cons_succ])
    refine wpAnyH_take (i := 12) (oi := _) (v := ?v30) rfl (by kernel_rfl) (by kernel_rfl) (by kernel_rfl) (fun _ _ _ h => h) (Or.inl ⟨by rfl, ?y30⟩) (by assumption) ?r30
    case y30 => ((intro w hSw); (try dsimp only at hSw); go_simp; (try with_reducible rfl))
    (try simp only [Act.put, List.setIfInBounds_toArray, List.set_cons_zero, List.set_cons_succ])
    refine wpAnyH_take (i := 13) (oi := _) (v := ?v31) rfl (by kernel_rfl) (by kernel_rfl) (by kernel_rfl) (fun _ _ _ h => h) (Or.inl ⟨by rfl, ?y31⟩) (by assumption) ?r31
    case y31 => ((intro w hSw); (try dsimp only at hSw); go_simp; (try with_reducible rfl))
    (try simp only [Act.put, List.setIfInBounds_toArray, List.set_cons_zero, List.set_cons_succ])
    refine wpAnyH_ready (rs := [5]) (by kernel_rfl) (by simp) ?_
    refine AllReadyH.cons rfl (fun K hK => ?st32) AllReadyH.nil
    go_simp
    refine hK.out _ _ ?k32 (fun hHeld32 => ?_)
    case k32 =>
      go_keep
    clear hK K
    (try simp only [Act.put, List.setIfInBounds_toArray, List.set_cons_zero, List.set_cons_succ])
    refine wpAnyH_ready (rs := [14]) (by kernel_rfl) (by simp) ?_
    refine AllReadyH.cons rfl (fun K hK => ?st33) AllReadyH.nil
    refine step_append_irow rfl (.tmp 34) (.tmp 42) rfl w.heap.size 0 [] (zi ys) (.slice (some ⟨_, 0, none⟩) 0 0) _ rfl rfl ?_ ?_ ?_ ?_ ?_
    · exact (owns_b w _ (Nat.le_refl _)).drew
    · exact (hys.alloc _).drew
    · rw [zi_len]; omega
    · simp; try omega
    intro v2 w2 ho2 hg2 _
    obtain ⟨a2, c2, rfl⟩ := own_shape ho2 ys.length (by simp [zi_len])
    have s2 : Still w w2 := Fr.of_own ((Fr.refl _ w).alloc _).drew (owns_b w _ (Nat.le_refl _)).drew hg2 (Nat.le_refl _)
    have C2 := Still.cell s2 C1
    have Z2 := Still.frz s2 hRl Z
    refine hK.out _ _ ?k33 (fun hHeld33 => ?_)
    case k33 =>
      exact ⟨Still.cell s2 F1, C2⟩
    clear hK K
    (try simp only [Act.put, List.setIfInBounds_toArray, List.set_cons_zero, List.set_cons_succ])
    refine wpAnyH_take (i := 15) (oi := _) (v := ?v34) rfl (by kernel_rfl) (by kernel_rfl) (by kernel_rfl) (fun _ _ _ h => h) (Or.inl ⟨by rfl, ?y34⟩) (by assumption) ?r34
    case y34 => ((intro w hSw); (try dsimp only at hSw); go_simp; (try with_reducible rfl))
    (try simp only [Act.put, List.setIfInBounds_toArray, List.set_cons_zero, List.set_cons_succ])
    refine wpAnyH_done (by kernel_rfl) (Held.tailQ_normal ?_) _
    all_goals
      go_wp2
      go_ret2
      refine ⟨rfl, ?_, Fr.putR (s2.fr _) _ _⟩
      refine (h.still s2).put (RowIn.own (by simpa using ho2) (by simp [zi_len]) hRl (by have := h.lp; omega) rfl) (fun x hx => ?_) (by omega)
      exact h.bd i hi x (by rw [HL.out]; simp [hx])
end
end Go.Proofs.Ytffjaaolcphonaa
/- The document's links: Move. -/
namespace Go.Proofs.Ytffjaaolcphonaa
open Go.RowKit
set_option linter.unusedSimpArgs false
section
variable {w : World} {lo p R T : Nat} {L : List (List Nat)}
set_option maxRecDepth 100000 in
set_option maxHeartbeats 4000000 in
theorem rmove_ok (h : RefAt w lo p R T L) (f t : Nat) (hf : f < L.length) (ht : t < L.length) (hft : f ≠ t) (hsz : (gl L t).length + (gl L f).length ≤ 4096) :
    Calls Try.prog 88 #[.pointer (some ⟨p, 0, none⟩), .int .i64 f, .int .i64 t] w fun e w' => e = .returned (.tuple #[.int .i64 (gl L f).length, .int .i64 0]) ∧
      RefAt w' lo p R T ((L.set t (gl L t ++ gl L f)).set f []) ∧ Fr (fun k => k = R) w w' := by
  have F1 := h.f1
  have hf' : (f : Int) < (L.length : Int) := by omega
  have ht' : (t : Int) < (L.length : Int) := by omega
  have hft' : (f : Int) ≠ (t : Int) := by omega
  have HDf := hid (decide_eq_true (p := inR f L.length) ⟨by omega, hf'⟩)
  have HDt := hid (decide_eq_true (p := inR t L.length) ⟨by omega, ht'⟩)
  obtain ⟨af, cf, Cf, hrf⟩ := h.row hf
  obtain ⟨a, c, Ct, hrt⟩ := h.row ht
  have Z := h.frz t
  have hsf := h.sh f hf
  have hst := h.sh t ht
  have hRl : R < w.heap.size := World.block_lt_of_cell? _ _ Ct
  have hpl : p < w.heap.size := World.block_lt_of_cell? _ _ F1
  have hpR := h.pR
  have hr1f := hrf.1
  have hr1t := hrt.1
  obtain ⟨lf, hlf⟩ : ∃ l, gl L f = l := ⟨_, rfl⟩
  obtain ⟨lt, hlt⟩ : ∃ l, gl L t = l := ⟨_, rfl⟩
  have HLf := hid hlf
  have HLt := hid hlt
  rw [hlf] at Cf hsf hr1f hsz
  rw [hlt] at Ct hst hr1t hsz
  rw [hlf, hlt]
  clear hlf hlt hrf hrt
  go_enter Try.func88, Try.ntmps88
  go_wp2_with (first | (go_at_call 90; refine (rlist h _).mono ?_; (first | rw [HDf.out] | rw [HDt.out]); rintro e w' ⟨rfl, rfl⟩))
  refine Held.wp_region_held_tail (S := (fun w' => w'.cell? ⟨p, 1, none⟩ = some (.slice (some ⟨R, 0, none⟩) L.length L.length) ∧ w'.cell? ⟨R, t, none⟩ = some (.slice a lt.length c) ∧ w'.cell? ⟨R, f, none⟩ = some (.slice af lf.length cf))) 23 (by kernel_rfl) (by kernel_rfl) (by decide) ?hS1 (fun hHeld => ?hR1)
  case hS1 =>
    exact ⟨F1, Ct, Cf⟩
  simp only [List.take_succ_cons, List.take_zero, List.drop_succ_cons, List.drop_zero]
  refine wpAnyH_take (i := 0) (oi := _) (v := ?v2) rfl (by kernel_rfl) (by kernel_rfl) (by kernel_rfl) (fun _ _ _ h => h) (Or.inl ⟨by rfl, ?y2⟩) (by assumption) ?r2
  case y2 => ((intro w hSw); (try dsimp only at hSw); go_simp; (try with_reducible rfl))
  (try simp only [Act.put, List.setIfInBounds_toArray, List.set_cons_zero, List.set_cons_succ])
  refine wpAnyH_take (i := 1) (oi := _) (v := ?v3) rfl (by kernel_rfl) (by kernel_rfl) (by kernel_rfl) (fun _ _ _ h => h) (Or.inl ⟨by rfl, ?y3⟩) (by assumption) ?r3
  case y3 => ((intro w hSw); (try dsimp only at hSw); go_simp; (try with_reducible rfl))
  (try simp only [Act.put, List.setIfInBounds_toArray, List.set_cons_zero, List.set_cons_succ])
  refine wpAnyH_take (i := 2) (oi := _) (v := ?v4) rfl (by kernel_rfl) (by kernel_rfl) (by kernel_rfl) (fun _ _ _ h => h) (Or.inl ⟨by rfl, ?y4⟩) (by assumption) ?r4
  case y4 => ((intro w hSw); (try dsimp only at hSw); go_simp; (try with_reducible rfl))
  (try simp only [Act.put, List.setIfInBounds_toArray, List.set_cons_zero, List.set_cons_succ])
  refine wpAnyH_take (i := 3) (oi := _) (v := ?v5) rfl (by kernel_rfl) (by kernel_rfl) (by kernel_rfl) (fun _ _ _ h => h) (Or.inl ⟨by rfl, ?y5⟩) (by assumption) ?r5
  case y5 => ((intro w hSw); (try dsimp only at hSw); go_simp; (try with_reducible rfl))
  (try simp only [Act.put, List.setIfInBounds_toArray, List.set_cons_zero, List.set_cons_succ])
  refine wpAnyH_take (i := 4) (oi := _) (v := ?v6) rfl (by kernel_rfl) (by kernel_rfl) (by kernel_rfl) (fun _ _ _ h => h) (Or.inl ⟨by rfl, ?y6⟩) (by assumption) ?r6
  case y6 => ((intro w hSw); (try dsimp only at hSw); go_simp; (try with_reducible rfl))
  (try simp only [Act.put, List.setIfInBounds_toArray, List.set_cons_zero, List.set_cons_succ])
  refine wpAnyH_take (i := 6) (oi := _) (v := ?v7) rfl (by kernel_rfl) (by kernel_rfl) (by kernel_rfl) (fun _ _ _ h => h) (Or.inl ⟨by rfl, ?y7⟩) (by assumption) ?r7
  case y7 => ((intro w hSw); (try dsimp only at hSw); go_simp; (try with_reducible rfl))
  (try simp only [Act.put, List.setIfInBounds_toArray, List.set_cons_zero, List.set_cons_succ])
  refine wpAnyH_take (i := 7) (oi := _) (v := ?v8) rfl (by kernel_rfl) (by kernel_rfl) (by kernel_rfl) (fun _ _ _ h => h) (Or.inl ⟨by rfl, ?y8⟩) (by assumption) ?r8
  case y8 => ((intro w hSw); (try dsimp only at hSw); go_simp; (try with_reducible rfl))
  (try simp only [Act.put, List.setIfInBounds_toArray, List.set_cons_zero, List.set_cons_succ])
  refine wpAnyH_take (i := 8) (oi := _) (v := ?v9) rfl (by kernel_rfl) (by kernel_rfl) (by kernel_rfl) (fun _ _ _ h => h) (Or.inl ⟨by rfl, ?y9⟩) (by assumption) ?r9
  case y9 => ((intro w hSw); (try dsimp only at hSw); go_simp; (try with_reducible rfl))
  (try simp only [Act.put, List.setIfInBounds_toArray, List.set_cons_zero, List.set_cons_succ])
  refine wpAnyH_take (i := 9) (oi := _) (v := ?v10) rfl (by kernel_rfl) (by kernel_rfl) (by kernel_rfl) (fun _ _ _ h => h) (Or.inl ⟨by rfl, ?y10⟩) (by assumption) ?r10
  case y10 => ((intro w hSw); (try dsimp only at hSw); go_simp; (try with_reducible rfl))
  (try simp only [Act.put, List.setIfInBounds_toArray, List.set_cons_zero, List.set_cons_succ])
  refine wpAnyH_take (i := 10) (oi := _) (v := ?v11) rfl (by kernel_rfl) (by kernel_rfl) (by kernel_rfl) (fun _ _ _ h => h) (Or.inl ⟨by rfl, ?y11⟩) (by assumption) ?r11
  case y11 => ((intro w hSw); (try dsimp only at hSw); go_simp; (try with_reducible rfl))
  (try simp only [Act.put, List.setIfInBounds_toArray, List.set_cons_zero, List.set_cons_succ])
  refine wpAnyH_take (i := 11) (oi := _) (v := ?v12) rfl (by kernel_rfl) (by kernel_rfl) (by kernel_rfl) (fun _ _ _ h => h) (Or.inl ⟨by rfl, ?y12⟩) (by assumption) ?r12
  case y12 => ((intro w hSw); (try dsimp only at hSw); go_simp; (try with_reducible rfl))
  (try simp only [Act.put, List.setIfInBounds_toArray, List.set_cons_zero, List.set_cons_succ])
  refine wpAnyH_take (i := 12) (oi := _) (v := ?v13) rfl (by kernel_rfl) (by kernel_rfl) (by kernel_rfl) (fun _ _ _ h => h) (Or.inl ⟨by rfl, ?y13⟩) (by assumption) ?r13
  case y13 => ((intro w hSw); (try dsimp only at hSw); go_simp; (try with_reducible rfl))
  (try simp only [Act.put, List.setIfInBounds_toArray, List.set_cons_zero, List.set_cons_succ])
  refine wpAnyH_take (i := 14) (oi := _) (v := ?v14) rfl (by kernel_rfl) (by kernel_rfl) (by kernel_rfl) (fun _ _ _ h => h) (Or.inl ⟨by rfl, ?y14⟩) (by assumption) ?r14
  case y14 => ((intro w hSw); (try dsimp only at hSw); go_simp; (try with_reducible rfl))
  (try simp only [Act.put, List.setIfInBounds_toArray, List.set_cons_zero, List.set_cons_succ])
  refine wpAnyH_take (i := 15) (oi := _) (v := ?v15) rfl (by kernel_rfl) (by kernel_rfl) (by kernel_rfl) (fun _ _ _ h => h) (Or.inl ⟨by rfl, ?y15⟩) (by assumption) ?r15
  case y15 => ((intro w hSw); (try dsimp only at hSw); go_simp; (try with_reducible rfl))
  (try simp only [Act.put, List.setIfInBounds_toArray, List.set_cons_zero, List.set_cons_succ])
  refine wpAnyH_take (i := 16) (oi := _) (v := ?v16) rfl (by kernel_rfl) (by kernel_rfl) (by kernel_rfl) (fun _ _ _ h => h) (Or.inl ⟨by rfl, ?y16⟩) (by assumption) ?r16
  case y16 => ((intro w hSw); (try dsimp only at hSw); go_simp; (try with_reducible rfl))
  (try simp only [Act.put, List.setIfInBounds_toArray, List.set_cons_zero, List.set_cons_succ])
  refine wpAnyH_take (i := 17) (oi := _) (v := ?v17) rfl (by kernel_rfl) (by kernel_rfl) (by kernel_rfl) (fun _ _ _ h => h) (Or.inl ⟨by rfl, ?y17⟩) (by assumption) ?r17
  case y17 => ((intro w hSw); (try dsimp only at hSw); go_simp; (try with_reducible rfl))
  (try simp only [Act.put, List.setIfInBounds_toArray, List.set_cons_zero, List.set_cons_succ])
  refine wpAnyH_take (i := 18) (oi := _) (v := ?v18) rfl (by kernel_rfl) (by kernel_rfl) (by kernel_rfl) (fun _ _ _ h => h) (Or.inl ⟨by rfl, ?y18⟩) (by assumption) ?r18
  case y18 => ((intro w hSw); (try dsimp only at hSw); go_simp; (try with_reducible rfl))
  (try simp only [Act.put, List.setIfInBounds_toArray, List.set_cons_zero, List.set_cons_succ])
  refine wpAnyH_take (i := 19) (oi := _) (v := ?v19) rfl (by kernel_rfl) (by kernel_rfl) (by kernel_rfl) (fun _ _ _ h => h) (Or.inl ⟨by rfl, ?y19⟩) (by assumption) ?r19
  case y19 => ((intro w hSw); (try dsimp only at hSw); go_simp; (try with_reducible rfl))
  (try simp only [Act.put, List.setIfInBounds_toArray, List.set_cons_zero, List.set_cons_succ])
  refine wpAnyH_take (i := 20) (oi := _) (v := ?v20) rfl (by kernel_rfl) (by kernel_rfl) (by kernel_rfl) (fun _ _ _ h => h) (Or.inl ⟨by rfl, ?y20⟩) (by assumption) ?r20
  case y20 => ((intro w hSw); (try dsimp only at hSw); go_simp; (try with_reducible rfl))
  (try simp only [Act.put, List.setIfInBounds_toArray, List.set_cons_zero, List.set_cons_succ])
  refine wpAnyH_ready (rs := [5]) (by kernel_rfl) (by simp) ?_
  refine AllReadyH.cons rfl (fun K hK => ?st21) AllReadyH.nil
  go_simp
  refine hK.out _ _ ?k21 (fun hHeld21 => ?_)
  case k21 =>
    go_keep
  clear hK K
  (try simp only [Act.put, List.setIfInBounds_toArray, List.set_cons_zero, List.set_cons_succ])
  refine wpAnyH_ready (rs := [13]) (by kernel_rfl) (by simp) ?_
  refine AllReadyH.cons rfl (fun K hK => ?st22) AllReadyH.nil
  refine step_append_irow rfl (.tmp 35) (.tmp 42) rfl w.heap.size 0 [] (zi lt) (.slice (some ⟨_, 0, none⟩) 0 0) _ rfl rfl ?_ ?_ ?_ ?_ ?_
  · exact (owns_b w _ (Nat.le_refl _)).drew
  · exact (hr1t.alloc _).drew
  · rw [zi_len]; omega
  · simp; try omega
  intro v1 w1 ho1 hg1 _
  have s1 : Still w w1 := Fr.of_own ((Fr.refl _ w).alloc _).drew (owns_b w _ (Nat.le_refl _)).drew hg1 (Nat.le_refl _)
  have z1 := s1.size
  refine hK.out _ _ ?k22 (fun hHeld22 => ?_)
  case k22 =>
    exact ⟨Still.cell s1 F1, Still.cell s1 Ct, Still.cell s1 Cf⟩
  clear hK K
  (try simp only [Act.put, List.setIfInBounds_toArray, List.set_cons_zero, List.set_cons_succ])
  refine wpAnyH_ready (rs := [21]) (by kernel_rfl) (by simp) ?_
  refine AllReadyH.cons rfl (fun K hK => ?st23) AllReadyH.nil
  refine step_append_irow rfl (.tmp 43) (.tmp 50) rfl w.heap.size (0 + (zi lt).length) ([] ++ zi lt) (zi lf) _ _ rfl rfl ?_ ?_ ?_ ?_ ?_
  · exact ho1
  · exact hr1f.still s1
  · simp only [zi_len]; omega
  · exact z1
  intro v2 w2 ho2 hg2 _
  obtain ⟨a2, c2, rfl⟩ := own_shape ho2 (lt.length + lf.length) (by simp [zi_len])
  have s2 : Still w w2 := Fr.of_own s1 ho1 hg2 (Nat.le_refl _)
  have C2 := Still.cell s2 Ct
  have Z2 := Still.frz s2 hRl Z
  refine hK.out _ _ ?k23 (fun hHeld23 => ?_)
  case k23 =>
    exact ⟨Still.cell s2 F1, C2, Still.cell s2 Cf⟩
  clear hK K
  (try simp only [Act.put, List.setIfInBounds_toArray, List.set_cons_zero, List.set_cons_succ])
  refine wpAnyH_take (i := 22) (oi := _) (v := ?v24) rfl (by kernel_rfl) (by kernel_rfl) (by kernel_rfl) (fun _ _ _ h => h) (Or.inl ⟨by rfl, ?y24⟩) (by assumption) ?r24
  case y24 => ((intro w hSw); (try dsimp only at hSw); go_simp; (try with_reducible rfl))
  (try simp only [Act.put, List.setIfInBounds_toArray, List.set_cons_zero, List.set_cons_succ])
  refine wpAnyH_done (by kernel_rfl) (Held.tailQ_normal ?_) _
  have hz : ([] ++ zi lt ++ zi lf) = zi (lt ++ lf) := by simp [zi]
  rw [hz] at ho2
  have hP := (h.still s2).put (i := t) (RowIn.own ho2 (by simp [zi_len]) hRl (by have := h.lp; omega) rfl) (fun x hx => by
    rcases List.mem_append.1 hx with hx | hx
    · exact h.bd t ht x (by rw [HLt.out]; exact hx)
    · exact h.bd f hf x (by rw [HLf.out]; exact hx)) (by simp; omega)
  have hF : Fr (fun k => k = R) w (w2.setCell ⟨R, t, none⟩ (.slice a2 (lt.length + lf.length) c2)) := Fr.putR (s2.fr _) _ _
  have F2 := Still.cell s2 F1
  have Cf2 := Still.cell s2 Cf
  have Zf2 := Still.frz s2 hRl (h.frz f)
  have HP := hid hP
  have HF := hid hF
  have htf : t ≠ f := fun e => hft e.symm
  clear hP hF ho2 hg2 hz Ct Cf F1 Z
  go_wp2
  go_ret2
  exact ⟨rfl, HP.out.put (RowIn.nil _ _ _ _) (fun x hx => by simp at hx) (by simp), Fr.putR HF.out _ _⟩
end
end Go.Proofs.Ytffjaaolcphonaa
/- The document's links: Remove. -/
namespace Go.Proofs.Ytffjaaolcphonaa
open Go.RowKit
theorem filter_step (l : List Nat) (t j : Nat) (hj : j < l.length) : (l.take (j + 1)).filter (fun y => y != t) = (l.take j).filter (fun y => y != t) ++ (if l.getD j 0 ≠ t then [l.getD j 0] else []) := by
  rw [List.take_succ_eq_append_getElem hj, List.filter_append]
  congr 1
  have : l.getD j 0 = l[j] := by simp [List.getD, hj]
  rw [this]
  by_cases e : l[j] = t <;> simp [e]
section
variable {w : World} {lo p R T : Nat} {L : List (List Nat)}
set_option maxRecDepth 100000 in
set_option maxHeartbeats 4000000 in
theorem rremove_ok (h : RefAt w lo p R T L) (i t : Nat) (hi : i < L.length) (ht : t < T) (hw : whI T L t = i) (hnd : (gl L i).Nodup) :
    Calls Try.prog 86 #[.pointer (some ⟨p, 0, none⟩), .int .i64 t] w fun e w' => e = .returned (.int .i64 0) ∧
      RefAt w' lo p R T (L.set i ((gl L i).erase t)) ∧ Fr (fun k => k = R) w w' := by
  have F1 := h.f1
  have hi' : (i : Int) < (L.length : Int) := by omega
  have HD := hid (decide_eq_true (p := inR t T) ⟨by omega, by omega⟩)
  have HW := hid hw
  obtain ⟨a, c, Ct, hr⟩ := h.row hi
  have Z := h.frz i
  have hs := h.sh i hi
  have hRl : R < w.heap.size := World.block_lt_of_cell? _ _ Ct
  have hr1 := hid hr.1
  have HN := hid (List.Nodup.erase_eq_filter hnd t)
  obtain ⟨l, hl⟩ : ∃ l, gl L i = l := ⟨_, rfl⟩
  have HL := hid hl
  rw [hl] at Ct hs hr1 HN
  rw [hl]
  clear hl hw hr hnd
  go_enter Try.func86, Try.ntmps86
  go_wp2_with (first | (go_at_call 135; refine (rthing h _).mono ?_; rw [HD.out]; rintro e w' ⟨rfl, rfl⟩) | (go_at_call 30; refine (rwhere h _).mono ?_; rw [HW.out]; rintro e w' ⟨rfl, rfl⟩))
  go_loopw [6, 26] (fun x c wr => ∃ j : Nat, c = .int .i64 j ∧ j ≤ l.length ∧ wr.ownsRow w.heap.size 3 1 x ((l.take j).filter fun y => y != t).length (ints (zi ((l.take j).filter fun y => y != t))) ∧ Still w wr) (fun _ c _ => l.length - (intOf c).toNat)
  case atStart => exact ⟨0, rfl, Nat.zero_le _, by simpa [ints, zi] using World.ownsRow_nil _ _ _ _, Fr.refl _ _⟩
  case round =>
    obtain ⟨j, rfl, hj, hown, hst⟩ := hrel
    have hfl : ((l.take j).filter fun y => y != t).length ≤ j := Nat.le_trans (List.length_filter_le _ _) (List.length_take_le _ _)
    by_cases hlt : j < l.length
    · have hlt' : (j : Int) < (l.length : Int) := by omega
      have HS := hid (filter_step l t j hlt)
      rcases hr1.out with ⟨h0, _⟩ | ⟨_, b, off, c', hv, hcell⟩
      · simp [zi] at h0; subst h0; simp at hlt
      obtain rfl : a = some ⟨b, off, none⟩ := by injection hv
      clear hv
      have hx := Still.cell hst (hcell j (by rw [zi_len]; exact hlt))
      rw [show (zi l).getD j 0 = ((l.getD j 0 : Nat) : Int) by simp [zi, hlt]] at hx
      clear hcell
      obtain ⟨x, hxe⟩ : ∃ x, l.getD j 0 = x := ⟨_, rfl⟩
      rw [hxe] at hx HS
      clear hxe
      obtain ⟨A, hA⟩ : ∃ A, (l.take j).filter (fun y => y != t) = A := ⟨_, rfl⟩
      rw [hA] at hown hfl HS
      clear hA
      have hz1 := hst.size
      by_cases hxt : x = t
      · have hd : ((x : Int) != (t : Int)) = false := by simp [hxt]
        have HS' : Hid ((l.take (j + 1)).filter (fun y => y != t) = A) := hid (by rw [HS.out, if_neg (fun h => h hxt), List.append_nil])
        clear hxt
        go_wp2
        go_roundw
        case rel => exact ⟨j + 1, by go_num, by omega, by rw [HS'.out]; exact hown, hst⟩
        case measure => simp [intOf]; omega
      · have hd : ((x : Int) != (t : Int)) = true := by simp; omega
        have HS' : Hid ((l.take (j + 1)).filter (fun y => y != t) = A ++ [x]) := hid (by rw [HS.out, if_pos hxt])
        clear hxt
        go_wp2_with (at_builtin; refine wpList_append_irow rfl (.tmp 33) (.tmp 35) rfl w.heap.size A.length (zi A) [(x : Int)] _ _ rfl rfl (hown.alloc _) (one_new _ _ _) (by simp; omega) (by simp; omega) ?_; intro v2 w2 ho2 hg2 _; have s2 : Still w w2 := Fr.of_own (hst.alloc _) (hown.alloc _) hg2 (Nat.le_refl _))
        go_roundw
        case rel => exact ⟨j + 1, by go_num, by omega, by rw [HS'.out]; simpa [zi] using ho2, s2⟩
        case measure => simp [intOf]; omega
    · have hjl : j = l.length := by omega
      subst hjl
      rw [List.take_length] at hown hfl
      rw [← HN.out] at hown hfl
      have hz1 := hst.size
      have F1' := Still.cell hst F1
      have Ct' := Still.cell hst Ct
      have Z' := Still.frz hst hRl Z
      obtain ⟨a2, c2, rfl⟩ := own_shape hown _ rfl
      go_wp2
      go_ret
      refine ⟨rfl, ?_, Fr.putR (hst.fr _) _ _⟩
      refine (h.still hst).put (RowIn.own hown (by simp [zi_len]) hRl (by have := h.lp; have := h.hp.lt; omega) rfl) (fun x hx => ?_) (by omega)
      exact h.bd i hi x (by rw [HL.out]; exact List.mem_of_mem_erase hx)
end
end Go.Proofs.Ytffjaaolcphonaa
/- The document's links: New, Copy. -/
namespace Go.Proofs.Ytffjaaolcphonaa
open Go.RowKit
set_option linter.unusedSimpArgs false
def nils (n : Nat) : List Value := List.replicate n (.slice none 0 0)
theorem info28 : (Try.prog.info? 28).map (fun i => (i.zero, i.size, i.bytes)) = some (some (.slice none 0 0), 1, 24) := by kernel_rfl
theorem mk_nils (n : Nat) (hn : n ≤ 1000000) : ∀ w, (Instr.makeSlice 124 (.int .i64 (n : Int)) (.int .i64 (n : Int))).run Try.prog w = .ok (.slice (some ⟨w.heap.size, 0, none⟩) n n) (w.alloc (.cells (nils n).toArray 28)) := by
  intro w
  obtain ⟨i0, hi, hz0, hz1, hz2⟩ := info_parts info28
  have := run_make (P := Try.prog) w 124 28 i0 _ Try.underlying124 hi hz0 .i64 .i64 (n : Int) (n : Int) (by omega) (by omega) (by rw [hz2]; omega) (by omega)
  rw [this, hz1, Int.toNat_natCast, Nat.mul_one]
  have e : madeCells (Value.slice none 0 0).cells n = (nils n).toArray := by
    show madeCells #[.slice none 0 0] n = _
    apply Array.ext'
    rw [toList_madeCells_one]; simp [nils]
  rw [e]
theorem gl_rep (m i : Nat) : gl (List.replicate m []) i = [] := by
  unfold gl; simp only [List.getD_eq_getElem?_getD, List.getElem?_replicate]; split <;> rfl
theorem refAt_new {w : World} {lo p R T m : Nat} (hp : Blk w p [.int .i64 T, .slice (some ⟨R, 0, none⟩) m m] 126) (hR : Blk w R (nils m) 28) (hpR : p ≠ R) (lp : lo ≤ p) (lR : lo ≤ R) (t1 : T ≤ 4096) (m1 : m ≤ 4096) :
    RefAt w lo p R T (List.replicate m []) :=
  { hp := by simpa using hp, pR := hpR, lp := lp, lR := lR, t1 := t1, m1 := by simpa using m1
    rows := ⟨nils m, by simp [nils], hR, fun i hi => by
      rw [gl_rep]
      rw [show (nils m).getD i undef = .slice none 0 0 by simp at hi; simp [nils, List.getD, hi]]
      exact RowIn.nil _ _ _ _⟩
    bd := fun i _ x hx => by rw [gl_rep] at hx; simp at hx
    sh := fun i _ => by rw [gl_rep]; simp }
/-- New links of the document's came back. -/
def RMade (w : World) (T : Nat) (L : List (List Nat)) (e : Ending) (w' : World) : Prop := ∃ p R, e = .returned (.pointer (some ⟨p, 0, none⟩)) ∧ RefAt w' w.heap.size p R T L ∧ Still w w'
theorem rnew_ok (w : World) (t m : Nat) (t0 : 1 ≤ t) (t1 : t ≤ 4096) (m0 : 1 ≤ m) (m1 : m ≤ 4096) : Calls Try.prog 27 #[.int .i64 t, .int .i64 m] w (RMade w t (List.replicate m [])) := by
  have a1 : ¬ (t : Int) < 1 := by omega
  have a2 : ¬ (4096 : Int) < (t : Int) := by omega
  have a3 : ¬ (m : Int) < 1 := by omega
  have a4 : ¬ (4096 : Int) < (m : Int) := by omega
  have HM := mk_nils m (by omega)
  go_enter Try.func27, Try.ntmps27
  go_wp2
  go_ret
  refine ⟨w.heap.size + 1, w.heap.size, rfl, refAt_new ?_ ?_ (by omega) (by omega) (by omega) t1 m1, ((Fr.refl _ _).alloc _).alloc _⟩
  · exact blk_new1 w _ [_, _] 126
  · exact (Blk.new w (nils m) 28).alloc _
def badN (t m : Int) : Prop := t < 1 ∨ 4096 < t ∨ m < 1 ∨ 4096 < m
theorem rnew_no (w : World) (t m : Int) (h : badN t m) : Calls Try.prog 27 #[.int .i64 t, .int .i64 m] w fun e w' => e = .returned (.pointer none) ∧ w = w' := by
  by_cases h1 : t < 1
  · clear h
    go_enter Try.func27, Try.ntmps27
    go_wp2
    go_ret
    exact ⟨rfl, rfl⟩
  · by_cases h2 : 4096 < t
    · clear h
      go_enter Try.func27, Try.ntmps27
      go_wp2
      go_ret
      exact ⟨rfl, rfl⟩
    · by_cases h3 : m < 1
      · clear h
        go_enter Try.func27, Try.ntmps27
        go_wp2
        go_ret
        exact ⟨rfl, rfl⟩
      · have h4 : 4096 < m := by unfold badN at h; omega
        clear h
        go_enter Try.func27, Try.ntmps27
        go_wp2
        go_ret
        exact ⟨rfl, rfl⟩
theorem take_set (L : List (List Nat)) (j : Nat) (hj : j < L.length) : (L.take j ++ List.replicate (L.length - j) []).set j (gl L j) = L.take (j + 1) ++ List.replicate (L.length - (j + 1)) [] := by
  rw [List.set_append, if_neg (by simp; omega), List.length_take, Nat.min_eq_left (by omega), Nat.sub_self, show L.length - j = (L.length - (j + 1)) + 1 by omega, List.replicate_succ, List.set_cons_zero, List.take_succ_eq_append_getElem hj, List.append_assoc]
  simp [gl, hj]
section
variable {w : World} {lo p R T : Nat} {L : List (List Nat)}
set_option maxRecDepth 100000 in
set_option maxHeartbeats 4000000 in
theorem rcopy (h : RefAt w lo p R T L) : Calls Try.prog 39 #[.pointer (some ⟨p, 0, none⟩)] w (RMade w T L) := by
  have F0 := h.f0
  have F1 := h.f1
  have hpl : p < w.heap.size := World.block_lt_of_cell? _ _ F1
  have m1 := h.m1
  have HM := mk_nils L.length (by have := h.m1; omega)
  go_enter Try.func39, Try.ntmps39
  go_wp2_with fail
  go_region_held3 (fun w' => w'.cell? ⟨p, 0, none⟩ = some (.int .i64 T) ∧ w'.cell? ⟨p, 1, none⟩ = some (.slice (some ⟨R, 0, none⟩) L.length L.length))
    (go_keep) (fail)
  have hW : RefAt (((w.alloc (.cells (nils L.length).toArray 28)).alloc (.cells #[.int .i64 T, .slice (some ⟨w.heap.size, 0, none⟩) L.length L.length] 126)).drew) w.heap.size (w.heap.size + 1) w.heap.size T (List.replicate L.length []) :=
    refAt_new (blk_new1 w _ [_, _] 126).drew ((Blk.new w (nils L.length) 28).alloc _).drew (by omega) (by omega) (by omega) h.t1 h.m1
  have hs : Still w (((w.alloc (.cells (nils L.length).toArray 28)).alloc (.cells #[.int .i64 T, .slice (some ⟨w.heap.size, 0, none⟩) L.length L.length] 126)).drew) := (((Fr.refl _ _).alloc _).alloc _).drew
  have F1' := Still.cell hs F1
  have HH := hid h
  have HM' := hid HM
  clear HM
  go_wp2_with fail
  go_loopw [23] (fun c wr => ∃ j : Nat, c = .int .i64 j ∧ j ≤ L.length ∧ RefAt wr w.heap.size (w.heap.size + 1) w.heap.size T (L.take j ++ List.replicate (L.length - j) []) ∧ Still w wr) (fun c _ => L.length - (intOf c).toNat)
  case atStart => exact ⟨0, rfl, Nat.zero_le _, by simpa using hW, hs⟩
  case round =>
    clear hW hs F1'
    obtain ⟨j, rfl, hj, hW, hs⟩ := hrel
    by_cases hlt : j < L.length
    · have hlt' : (j : Int) < (L.length : Int) := by omega
      have hln : (L.take j ++ List.replicate (L.length - j) []).length = L.length := by simp; omega
      have hr0 := HH.out.row hlt
      obtain ⟨a, c, C1, hr⟩ := hr0
      have C1' := Still.cell hs C1
      have hr1 := hr.1.still hs
      have hsl := HH.out.sh j hlt
      have E1 := hW.f1
      obtain ⟨_, _, D1, _⟩ := hW.row (i := j) (by omega)
      have Z := hW.frz j
      rw [hln] at E1
      have hz := hs.size
      have hw1 : w.heap.size + 1 < wr.heap.size := World.block_lt_of_cell? _ _ E1
      have HTS := hid (take_set L j hlt)
      clear C1 hr hln
      obtain ⟨l, hl⟩ : ∃ l, gl L j = l := ⟨_, rfl⟩
      have HL := hid hl
      rw [hl] at C1' hr1 hsl HTS
      clear hl
      go_wp2_with fail
      refine Held.wp_region_held_tail (S := (fun w' => w'.cell? ⟨w.heap.size + 1, 1, none⟩ = some (.slice (some ⟨w.heap.size, 0, none⟩) L.length L.length))) 9 (by kernel_rfl) (by kernel_rfl) (by decide) ?hS1 (fun hHeld => ?hR1)
      case hS1 =>
        exact E1
      simp only [List.take_succ_cons, List.take_zero, List.drop_succ_cons, List.drop_zero]
      refine wpAnyH_take (i := 0) (oi := _) (v := ?v2) rfl (by kernel_rfl) (by kernel_rfl) (by kernel_rfl) (fun _ _ _ h => h) (Or.inl ⟨by rfl, ?y2⟩) (by assumption) ?r2
      case y2 => ((intro w hSw); (try dsimp only at hSw); go_simp; (try with_reducible rfl))
      (try simp only [Act.put, List.setIfInBounds_toArray, List.set_cons_zero, List.set_cons_succ])
      refine wpAnyH_take (i := 1) (oi := _) (v := ?v3) rfl (by kernel_rfl) (by kernel_rfl) (by kernel_rfl) (fun _ _ _ h => h) (Or.inl ⟨by rfl, ?y3⟩) (by assumption) ?r3
      case y3 => ((intro w hSw); (try dsimp only at hSw); go_simp; (try with_reducible rfl))
      (try simp only [Act.put, List.setIfInBounds_toArray, List.set_cons_zero, List.set_cons_succ])
      refine wpAnyH_take (i := 2) (oi := _) (v := ?v4) rfl (by kernel_rfl) (by kernel_rfl) (by kernel_rfl) (fun _ _ _ h => h) (Or.inl ⟨by rfl, ?y4⟩) (by assumption) ?r4
      case y4 => ((intro w hSw); (try dsimp only at hSw); go_simp; (try with_reducible rfl))
      (try simp only [Act.put, List.setIfInBounds_toArray, List.set_cons_zero, List.set_cons_succ])
      refine wpAnyH_take (i := 3) (oi := _) (v := ?v5) rfl (by kernel_rfl) (by kernel_rfl) (by kernel_rfl) (fun _ _ _ h => h) (Or.inl ⟨by rfl, ?y5⟩) (by assumption) ?r5
      case y5 => ((intro w hSw); (try dsimp only at hSw); go_simp; (try with_reducible rfl))
      (try simp only [Act.put, List.setIfInBounds_toArray, List.set_cons_zero, List.set_cons_succ])
      refine wpAnyH_take (i := 4) (oi := _) (v := ?v6) rfl (by kernel_rfl) (by kernel_rfl) (by kernel_rfl) (fun _ _ _ h => h) (Or.inl ⟨by rfl, ?y6⟩) (by assumption) ?r6
      case y6 => ((intro w hSw); (try dsimp only at hSw); go_simp; (try with_reducible rfl))
      (try simp only [Act.put, List.setIfInBounds_toArray, List.set_cons_zero, List.set_cons_succ])
      refine wpAnyH_take (i := 6) (oi := _) (v := ?v7) rfl (by kernel_rfl) (by kernel_rfl) (by kernel_rfl) (fun _ _ _ h => h) (Or.inl ⟨by rfl, ?y7⟩) (by assumption) ?r7
      case y7 => ((intro w hSw); (try dsimp only at hSw); go_simp; (try with_reducible rfl))
      (try simp only [Act.put, List.setIfInBounds_toArray, List.set_cons_zero, List.set_cons_succ])
      refine wpAnyH_ready (rs := [5]) (by kernel_rfl) (by simp) ?_
      refine AllReadyH.cons rfl (fun K hK => ?st8) AllReadyH.nil
      go_simp
      refine hK.out _ _ ?k8 (fun hHeld8 => ?_)
      case k8 =>
        go_keep
      clear hK K
      (try simp only [Act.put, List.setIfInBounds_toArray, List.set_cons_zero, List.set_cons_succ])
      refine wpAnyH_ready (rs := [7]) (by kernel_rfl) (by simp) ?_
      refine AllReadyH.cons rfl (fun K hK => ?st9) AllReadyH.nil
      refine step_append_irow rfl (.tmp 33) (.tmp 34) rfl wr.heap.size 0 [] (zi l) (.slice (some ⟨_, 0, none⟩) 0 0) _ rfl rfl ?_ ?_ ?_ ?_ ?_
      · exact (owns_b wr _ (Nat.le_refl _)).drew
      · exact (hr1.alloc _).drew
      · rw [zi_len]; omega
      · simp; try omega
      intro v2 w2 ho2 hg2 _
      obtain ⟨a2, c2, rfl⟩ := own_shape ho2 l.length (by simp [zi_len])
      have s2 : Still wr w2 := Fr.of_own ((Fr.refl _ wr).alloc _).drew (owns_b wr _ (Nat.le_refl _)).drew hg2 (Nat.le_refl _)
      have C2 := Still.cell s2 D1
      have Z2 := Still.frz s2 (by omega) Z
      refine hK.out _ _ ?k9 (fun hHeld9 => ?_)
      case k9 =>
        exact Still.cell s2 E1
      clear hK K
      (try simp only [Act.put, List.setIfInBounds_toArray, List.set_cons_zero, List.set_cons_succ])
      refine wpAnyH_take (i := 8) (oi := _) (v := ?v10) rfl (by kernel_rfl) (by kernel_rfl) (by kernel_rfl) (fun _ _ _ h => h) (Or.inl ⟨by rfl, ?y10⟩) (by assumption) ?r10
      case y10 => ((intro w hSw); (try dsimp only at hSw); go_simp; (try with_reducible rfl))
      (try simp only [Act.put, List.setIfInBounds_toArray, List.set_cons_zero, List.set_cons_succ])
      refine wpAnyH_done (by kernel_rfl) (Held.tailQ_normal ?_) _
      go_wp2_with fail
      go_roundw
      case rel =>
        refine ⟨j + 1, by go_num, by omega, ?_, (hs.trans s2).setCell (.inr (Nat.le_refl _)) _⟩
        rw [← HTS.out]
        exact (hW.still s2).put (RowIn.own (by simpa using ho2) (by simp [zi_len]) (by omega) (by omega) rfl) (fun x hx => HH.out.bd j hlt x (by rw [HL.out]; exact hx)) (by omega)
      case measure => simp [intOf]; omega
    · have hjl : j = L.length := by omega
      subst hjl
      rw [List.take_length, Nat.sub_self, List.replicate_zero, List.append_nil] at hW
      go_wp2_with fail
      go_ret
      exact ⟨_, _, rfl, hW, hs⟩
end
end Go.Proofs.Ytffjaaolcphonaa
/- The document's links: each call, whatever comes in. -/
namespace Go.Proofs.Ytffjaaolcphonaa
open Go.RowKit
structure Nice (L : List (List Nat)) : Prop where
  nd : ∀ i, i < L.length → (gl L i).Nodup
  uq : ∀ i j x, i < L.length → j < L.length → x ∈ gl L i → x ∈ gl L j → i = j
theorem LsAt.nice {w : World} {B : LB} {T : Nat} {L : List (List Nat)} (h : LsAt w B T L) : Nice L := by
  obtain ⟨r, _, hv, _⟩ := h
  exact ⟨hv.nd, fun i j x a b c d => hv.uniq a b c d⟩
theorem nice_rep (m : Nat) : Nice (List.replicate m []) := ⟨fun i _ => by rw [gl_rep]; simp, fun i j x _ _ h => by rw [gl_rep] at h; simp at h⟩
section
variable {w : World} {lo p R T : Nat} {L : List (List Nat)}
theorem RefAt.short (h : RefAt w lo p R T L) (hn : Nice L) {i t : Nat} (hi : i < L.length) (ht : t < T) (hw : wh L t = -1) : (gl L i).length < 4096 := by
  have h1 := nodup_le T (t :: gl L i) (List.nodup_cons.2 ⟨wh_no.1 hw i hi, hn.nd i hi⟩) (fun x hx => by
    rcases List.mem_cons.1 hx with rfl | hx
    · exact ht
    · exact h.bd i hi x hx)
  have := h.t1
  simp at h1; omega
theorem RefAt.short2 (h : RefAt w lo p R T L) (hn : Nice L) {i j : Nat} (hi : i < L.length) (hj : j < L.length) (hij : i ≠ j) : (gl L i).length + (gl L j).length ≤ 4096 := by
  have h1 := nodup_le T (gl L i ++ gl L j) (List.nodup_append.2 ⟨hn.nd i hi, hn.nd j hj, fun a ha b hb e => by subst e; exact hij (hn.uq i j a hi hj ha hb)⟩) (fun x hx => by
    rcases List.mem_append.1 hx with hx | hx
    · exact h.bd i hi x hx
    · exact h.bd j hj x hx)
  have := h.t1
  simp at h1; omega
theorem rpush_err (h : RefAt w lo p R T L) (i t z : Int) (hz : pushE T L i t = z) (hz0 : z ≠ 0) (f : Nat) (hf : f = 84 ∨ f = 85) : Calls Try.prog f #[.pointer (some ⟨p, 0, none⟩), .int .i64 i, .int .i64 t] w fun e w' => e = .returned (.int .i64 z) ∧ w = w' := by
  have HZ := hid hz
  clear hz
  rcases hf with rfl | rfl
  · go_enter Try.func84, Try.ntmps84
    go_wp2_with (go_at_call 134; refine (rmay h _ _).mono ?_; rw [HZ.out]; rintro e w' ⟨rfl, rfl⟩)
    go_ret
    exact ⟨rfl, rfl⟩
  · go_enter Try.func85, Try.ntmps85
    go_wp2_with (go_at_call 134; refine (rmay h _ _).mono ?_; rw [HZ.out]; rintro e w' ⟨rfl, rfl⟩)
    go_ret
    exact ⟨rfl, rfl⟩
theorem rpush (h : RefAt w lo p R T L) (hn : Nice L) (i t : Int) : Calls Try.prog 84 #[.pointer (some ⟨p, 0, none⟩), .int .i64 i, .int .i64 t] w fun e w' => e = .returned (.int .i64 (pushE T L i t)) ∧ RefAt w' lo p R T (pushL T L i t) ∧ Fr (fun k => k = R) w w' := by
  by_cases h0 : pushE T L i t = 0
  · obtain ⟨hi, ht, hw⟩ := pushE_zero h0
    obtain ⟨i, rfl⟩ := Int.eq_ofNat_of_zero_le hi.1
    obtain ⟨t, rfl⟩ := Int.eq_ofNat_of_zero_le ht.1
    have hi' : i < L.length := by have := hi.2; omega
    have ht' : t < T := by have := ht.2; omega
    refine (rpush_ok h i t h0 hi' ht' (h.short hn hi' ht' (by simpa using hw))).mono ?_
    rintro e w' ⟨rfl, h1, h2⟩
    exact ⟨by rw [h0], by unfold pushL; rw [if_pos h0, Int.toNat_natCast, Int.toNat_natCast]; exact h1, h2⟩
  · refine (rpush_err h i t _ rfl h0 84 (.inl rfl)).mono ?_
    rintro e w' ⟨rfl, rfl⟩
    exact ⟨rfl, by unfold pushL; rw [if_neg h0]; exact h, Fr.refl _ _⟩
theorem rfront (h : RefAt w lo p R T L) (hn : Nice L) (i t : Int) : Calls Try.prog 85 #[.pointer (some ⟨p, 0, none⟩), .int .i64 i, .int .i64 t] w fun e w' => e = .returned (.int .i64 (pushE T L i t)) ∧ RefAt w' lo p R T (frontL T L i t) ∧ Fr (fun k => k = R) w w' := by
  by_cases h0 : pushE T L i t = 0
  · obtain ⟨hi, ht, hw⟩ := pushE_zero h0
    obtain ⟨i, rfl⟩ := Int.eq_ofNat_of_zero_le hi.1
    obtain ⟨t, rfl⟩ := Int.eq_ofNat_of_zero_le ht.1
    have hi' : i < L.length := by have := hi.2; omega
    have ht' : t < T := by have := ht.2; omega
    refine (rfront_ok h i t h0 hi' ht' (h.short hn hi' ht' (by simpa using hw))).mono ?_
    rintro e w' ⟨rfl, h1, h2⟩
    exact ⟨by rw [h0], by unfold frontL; rw [if_pos h0, Int.toNat_natCast, Int.toNat_natCast]; exact h1, h2⟩
  · refine (rpush_err h i t _ rfl h0 85 (.inr rfl)).mono ?_
    rintro e w' ⟨rfl, rfl⟩
    exact ⟨rfl, by unfold frontL; rw [if_neg h0]; exact h, Fr.refl _ _⟩
theorem rremove_err (h : RefAt w lo p R T L) (t z : Int) (hz : remE' T L t = z) (hz0 : z ≠ 0) : Calls Try.prog 86 #[.pointer (some ⟨p, 0, none⟩), .int .i64 t] w fun e w' => e = .returned (.int .i64 z) ∧ w = w' := by
  by_cases ht : inR t T
  · have HT := hid (decide_eq_true ht)
    have hz' := hz
    unfold remE' at hz'
    rw [if_pos ht] at hz'
    by_cases hw : wh L t.toNat = -1
    · rw [if_pos hw] at hz'
      subst hz'
      have HW : Hid (whI T L t = -1) := by unfold whI; rw [if_pos ht, hw]; exact rfl
      clear hz hz0 hw ht
      go_enter Try.func86, Try.ntmps86
      go_wp2_with (first | (go_at_call 135; refine (rthing h _).mono ?_; rw [HT.out]; rintro e w' ⟨rfl, rfl⟩) | (go_at_call 30; refine (rwhere h _).mono ?_; rw [HW.out]; rintro e w' ⟨rfl, rfl⟩))
      go_ret
      exact ⟨rfl, rfl⟩
    · rw [if_neg hw] at hz'; exact absurd hz'.symm hz0
  · have HT := hid (decide_eq_false ht)
    have hz' := hz
    unfold remE' at hz'
    rw [if_neg ht] at hz'
    subst hz'
    clear hz hz0 ht
    go_enter Try.func86, Try.ntmps86
    go_wp2_with (first | (go_at_call 135; refine (rthing h _).mono ?_; rw [HT.out]; rintro e w' ⟨rfl, rfl⟩))
    go_ret
    exact ⟨rfl, rfl⟩
theorem rremove (h : RefAt w lo p R T L) (hn : Nice L) (t : Int) : Calls Try.prog 86 #[.pointer (some ⟨p, 0, none⟩), .int .i64 t] w fun e w' => e = .returned (.int .i64 (remE' T L t)) ∧ RefAt w' lo p R T (remL T L t) ∧ Fr (fun k => k = R) w w' := by
  by_cases h0 : remE' T L t = 0
  · have ht : inR t T ∧ wh L t.toNat ≠ -1 := by
      unfold remE' at h0
      split at h0
      · rename_i h1
        split at h0
        · omega
        · rename_i h2; exact ⟨h1, h2⟩
      · omega
    obtain ⟨ht, hw⟩ := ht
    obtain ⟨t, rfl⟩ := Int.eq_ofNat_of_zero_le ht.1
    rw [Int.toNat_natCast] at hw
    obtain ⟨i, hi⟩ := (wh_cases L t).resolve_left hw
    obtain ⟨hil, him⟩ := wh_yes hi
    refine (rremove_ok h i t hil (by have := ht.2; omega) (by unfold whI; rw [if_pos ht, Int.toNat_natCast, hi]) (hn.nd i hil)).mono ?_
    rintro e w' ⟨rfl, h1, h2⟩
    exact ⟨by rw [h0], by unfold remL; rw [if_pos h0, Int.toNat_natCast, hi, Int.toNat_natCast]; exact h1, h2⟩
  · refine (rremove_err h t _ rfl h0).mono ?_
    rintro e w' ⟨rfl, rfl⟩
    exact ⟨rfl, by unfold remL; rw [if_neg h0]; exact h, Fr.refl _ _⟩
theorem rpop_err (h : RefAt w lo p R T L) (i z : Int) (hz : popE' L i = z) (hz0 : z ≠ 0) : Calls Try.prog 87 #[.pointer (some ⟨p, 0, none⟩), .int .i64 i] w fun e w' => e = .returned (.tuple #[.int .i64 0, .int .i64 z]) ∧ w = w' := by
  by_cases ht : inR i L.length
  · have HT := hid (decide_eq_true ht)
    have hz' := hz
    unfold popE' at hz'
    rw [if_pos ht] at hz'
    by_cases hw : gl L i.toNat = []
    · rw [if_pos hw] at hz'
      subst hz'
      obtain ⟨i, rfl⟩ := Int.eq_ofNat_of_zero_le ht.1
      have hi' := ht.2
      rw [Int.toNat_natCast] at hw
      have F1 := h.f1
      obtain ⟨a, c, C1, _⟩ := h.row (i := i) (by omega)
      rw [hw] at C1
      simp only [List.length_nil] at C1
      clear hz hz0 hw ht
      go_enter Try.func87, Try.ntmps87
      go_wp2_with (first | (go_at_call 90; refine (rlist h _).mono ?_; rw [HT.out]; rintro e w' ⟨rfl, rfl⟩))
      go_ret2
      exact ⟨rfl, rfl⟩
    · rw [if_neg hw] at hz'; exact absurd hz'.symm hz0
  · have HT := hid (decide_eq_false ht)
    have hz' := hz
    unfold popE' at hz'
    rw [if_neg ht] at hz'
    subst hz'
    clear hz hz0 ht
    go_enter Try.func87, Try.ntmps87
    go_wp2_with (first | (go_at_call 90; refine (rlist h _).mono ?_; rw [HT.out]; rintro e w' ⟨rfl, rfl⟩))
    go_ret2
    exact ⟨rfl, rfl⟩
theorem rpop (h : RefAt w lo p R T L) (i : Int) : Calls Try.prog 87 #[.pointer (some ⟨p, 0, none⟩), .int .i64 i] w fun e w' => e = .returned (.tuple #[.int .i64 (popT L i), .int .i64 (popE' L i)]) ∧ RefAt w' lo p R T (popL L i) ∧ Fr (fun k => k = R) w w' := by
  by_cases h0 : popE' L i = 0
  · have ht : inR i L.length ∧ gl L i.toNat ≠ [] := by
      unfold popE' at h0
      split at h0
      · rename_i h1
        split at h0
        · omega
        · rename_i h2; exact ⟨h1, h2⟩
      · omega
    obtain ⟨hi, hne⟩ := ht
    obtain ⟨i, rfl⟩ := Int.eq_ofNat_of_zero_le hi.1
    rw [Int.toNat_natCast] at hne
    obtain ⟨x, ys, hL⟩ := List.exists_cons_of_ne_nil hne
    refine (rpop_ok h i x ys (by have := hi.2; omega) hL).mono ?_
    rintro e w' ⟨rfl, h1, h2⟩
    refine ⟨?_, by unfold popL; rw [if_pos h0, Int.toNat_natCast, hL]; exact h1, h2⟩
    rw [h0]; unfold popT; rw [if_pos hi, Int.toNat_natCast, hL]; rfl
  · refine (rpop_err h i _ rfl h0).mono ?_
    rintro e w' ⟨rfl, rfl⟩
    refine ⟨?_, by unfold popL; rw [if_neg h0]; exact h, Fr.refl _ _⟩
    unfold popT
    by_cases hi : inR i L.length
    · have : gl L i.toNat = [] := by
        unfold popE' at h0; rw [if_pos hi] at h0
        by_cases h2 : gl L i.toNat = []
        · exact h2
        · rw [if_neg h2] at h0; exact absurd rfl h0
      rw [if_pos hi, this]; rfl
    · rw [if_neg hi]
theorem rmove_err (h : RefAt w lo p R T L) (f t z : Int) (hz : moveLE L f t = z) (hz0 : z ≠ 0) : Calls Try.prog 88 #[.pointer (some ⟨p, 0, none⟩), .int .i64 f, .int .i64 t] w fun e w' => e = .returned (.tuple #[.int .i64 0, .int .i64 z]) ∧ w = w' := by
  unfold moveLE at hz
  by_cases hf : inR f L.length
  · have HF := hid (decide_eq_true hf)
    by_cases ht : inR t L.length
    · have HT := hid (decide_eq_true ht)
      rw [if_pos ⟨hf, ht⟩] at hz
      by_cases hft : f = t
      · rw [if_pos hft] at hz
        subst hz hft
        clear hz0 hf ht
        go_enter Try.func88, Try.ntmps88
        go_wp2_with (first | (go_at_call 90; refine (rlist h _).mono ?_; rw [HF.out]; rintro e w' ⟨rfl, rfl⟩))
        go_ret2
        exact ⟨rfl, rfl⟩
      · rw [if_neg hft] at hz; exact absurd hz.symm hz0
    · have HT := hid (decide_eq_false ht)
      rw [if_neg (fun h => ht h.2)] at hz
      subst hz
      clear hz0 hf ht
      go_enter Try.func88, Try.ntmps88
      go_wp2_with (first | (go_at_call 90; refine (rlist h _).mono ?_; (first | rw [HF.out] | rw [HT.out]); rintro e w' ⟨rfl, rfl⟩))
      go_ret2
      exact ⟨rfl, rfl⟩
  · have HF := hid (decide_eq_false hf)
    rw [if_neg (fun h => hf h.1)] at hz
    subst hz
    clear hz0 hf
    go_enter Try.func88, Try.ntmps88
    go_wp2_with (first | (go_at_call 90; refine (rlist h _).mono ?_; (first | rw [HF.out]); rintro e w' ⟨rfl, rfl⟩))
    go_ret2
    exact ⟨rfl, rfl⟩
theorem rmove (h : RefAt w lo p R T L) (hn : Nice L) (f t : Int) : Calls Try.prog 88 #[.pointer (some ⟨p, 0, none⟩), .int .i64 f, .int .i64 t] w fun e w' => e = .returned (.tuple #[.int .i64 (moveN L f t), .int .i64 (moveLE L f t)]) ∧ RefAt w' lo p R T (moveL L f t) ∧ Fr (fun k => k = R) w w' := by
  by_cases h0 : moveLE L f t = 0
  · have hh : inR f L.length ∧ inR t L.length ∧ f ≠ t := by
      unfold moveLE at h0
      split at h0
      · rename_i h1
        split at h0
        · omega
        · rename_i h2; exact ⟨h1.1, h1.2, h2⟩
      · omega
    obtain ⟨hf, ht, hft⟩ := hh
    obtain ⟨f, rfl⟩ := Int.eq_ofNat_of_zero_le hf.1
    obtain ⟨t, rfl⟩ := Int.eq_ofNat_of_zero_le ht.1
    have hf' : f < L.length := by have := hf.2; omega
    have ht' : t < L.length := by have := ht.2; omega
    have hft' : f ≠ t := by omega
    refine (rmove_ok h f t hf' ht' hft' (h.short2 hn ht' hf' (fun e => hft' e.symm))).mono ?_
    rintro e w' ⟨rfl, h1, h2⟩
    refine ⟨by unfold moveN; rw [if_pos h0, h0, Int.toNat_natCast], ?_, h2⟩
    unfold moveL; rw [if_pos h0, Int.toNat_natCast, Int.toNat_natCast, List.set_comm _ _ hft']
    exact h1
  · refine (rmove_err h f t _ rfl h0).mono ?_
    rintro e w' ⟨rfl, rfl⟩
    exact ⟨by unfold moveN; rw [if_neg h0], by unfold moveL; rw [if_neg h0]; exact h, Fr.refl _ _⟩
end
end Go.Proofs.Ytffjaaolcphonaa
