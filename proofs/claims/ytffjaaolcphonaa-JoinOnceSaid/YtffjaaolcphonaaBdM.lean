/- The document's locks: Lock. -/
import Derived.Test.YtffjaaolcphonaaBdL
namespace Go.Proofs.Ytffjaaolcphonaa
open Go.RowKit
set_option linter.unusedSimpArgs false
section
variable {w : World} {lo : Nat} {Q : QB} {s : LS}
set_option maxRecDepth 100000 in
set_option maxHeartbeats 1000000 in
theorem qlock_no (h : QAt w lo Q s) (o t : Int) (hno : ¬ inR o s.n ∨ ¬ inR t s.T) : Calls Try.prog 123 #[.pointer (some ⟨Q.p, 0, none⟩), .int .i64 o, .int .i64 t] w fun e w' =>
    e = .returned (.tuple #[.bool false, .int .i64 8]) ∧ w = w' := by
  by_cases ho : inR o s.n
  · have HO := hid (decide_eq_true ho)
    have HT := hid (decide_eq_false (hno.resolve_left (fun h => h ho)))
    clear ho hno
    go_enter Try.func123, Try.ntmps123
    go_wp2_with (first
      | (go_at_call 145; refine (qobject h _).mono ?_; rw [HO.out]; rintro e w' ⟨rfl, rfl⟩)
      | (go_at_call 146; refine (qthread h _).mono ?_; rw [HT.out]; rintro e w' ⟨rfl, rfl⟩))
    go_ret2
    exact ⟨rfl, rfl⟩
  · have HO := hid (decide_eq_false ho)
    clear ho hno
    go_enter Try.func123, Try.ntmps123
    go_wp2_with (first
      | (go_at_call 145; refine (qobject h _).mono ?_; rw [HO.out]; rintro e w' ⟨rfl, rfl⟩))
    go_ret2
    exact ⟨rfl, rfl⟩
set_option maxRecDepth 100000 in
set_option maxHeartbeats 1000000 in
theorem qlock_st (h : QAt w lo Q s) (hn : Nice s.L) (o : Nat) (t : Int) (ho : o < s.n) (ht : inR t s.T) (hs : ¬ whI s.T s.L t < 0 ∨ s.ow.getD o 0 = t) : Calls Try.prog 123 #[.pointer (some ⟨Q.p, 0, none⟩), .int .i64 o, .int .i64 t] w fun e w' =>
    e = .returned (.tuple #[.bool false, .int .i64 5]) ∧ w = w' := by
  have HO := hid (decide_eq_true (p := inR (o : Int) s.n) ⟨by omega, by omega⟩)
  have HT := hid (decide_eq_true ht)
  have F1 := h.f1
  have C := h.cO ho
  have hi : (o : Int) < (s.n : Int) := by omega
  by_cases hw : whI s.T s.L t < 0
  · have HW := hid (decide_eq_true hw)
    have he := hs.resolve_left (fun h => h hw)
    obtain ⟨x, hx⟩ : ∃ x, s.ow.getD o 0 = x := ⟨_, rfl⟩
    rw [hx] at C he
    have hd : (x == t) = true := by simpa using he
    clear hw hs hx he ht
    go_enter Try.func123, Try.ntmps123
    go_wp2_with (first
      | (go_at_call 145; refine (qobject h _).mono ?_; rw [HO.out]; rintro e w' ⟨rfl, rfl⟩)
      | (go_at_call 146; refine (qthread h _).mono ?_; rw [HT.out]; rintro e w' ⟨rfl, rfl⟩)
      | (go_at_call 147; refine (qwaits h hn _).mono ?_; rw [HW.out]; rintro e w' ⟨rfl, rfl⟩))
    go_ret2
    exact ⟨rfl, rfl⟩
  · have HW := hid (decide_eq_false hw)
    clear hw hs ht
    go_enter Try.func123, Try.ntmps123
    go_wp2_with (first
      | (go_at_call 145; refine (qobject h _).mono ?_; rw [HO.out]; rintro e w' ⟨rfl, rfl⟩)
      | (go_at_call 146; refine (qthread h _).mono ?_; rw [HT.out]; rintro e w' ⟨rfl, rfl⟩)
      | (go_at_call 147; refine (qwaits h hn _).mono ?_; rw [HW.out]; rintro e w' ⟨rfl, rfl⟩))
    go_ret2
    exact ⟨rfl, rfl⟩
set_option maxRecDepth 100000 in
set_option maxHeartbeats 1000000 in
theorem qlock_free (h : QAt w lo Q s) (hn : Nice s.L) (o : Nat) (t : Int) (ho : o < s.n) (ht : inR t s.T) (hw : whI s.T s.L t < 0) (he : s.ow.getD o 0 = -1) : Calls Try.prog 123 #[.pointer (some ⟨Q.p, 0, none⟩), .int .i64 o, .int .i64 t] w fun e w' =>
    e = .returned (.tuple #[.bool true, .int .i64 0]) ∧ QAt w' lo Q { s with ow := s.ow.set o t } ∧ Fr Q.X w w' := by
  have HO := hid (decide_eq_true (p := inR (o : Int) s.n) ⟨by omega, by omega⟩)
  have HT := hid (decide_eq_true ht)
  have HW := hid (decide_eq_true hw)
  have F1 := h.f1
  have C := h.cO ho
  have Z : w.frozen? ⟨Q.O, o, none⟩ = false := IBlk.frozen h.ho o
  have hi : (o : Int) < (s.n : Int) := by omega
  have hq := h.setO o t (by have := ht.1; omega)
  have hf : Fr Q.X w (w.setCell ⟨Q.O, o, none⟩ (.int .i64 t)) := Fr.putX (Fr.refl _ w) (.inl rfl) o _
  have hd : ((-1 : Int) == t) = false := by have := ht.1; simp; omega
  rw [he] at C
  clear hw he ht
  have HQ := hid hq
  have HF := hid hf
  clear hq hf
  go_enter Try.func123, Try.ntmps123
  go_wp2_with (first
    | (go_at_call 145; refine (qobject h _).mono ?_; rw [HO.out]; rintro e w' ⟨rfl, rfl⟩)
    | (go_at_call 146; refine (qthread h _).mono ?_; rw [HT.out]; rintro e w' ⟨rfl, rfl⟩)
    | (go_at_call 147; refine (qwaits h hn _).mono ?_; rw [HW.out]; rintro e w' ⟨rfl, rfl⟩))
  go_ret2
  exact ⟨rfl, HQ.out, HF.out⟩
set_option maxRecDepth 100000 in
set_option maxHeartbeats 4000000 in
theorem qlock_push (h : QAt w lo Q s) (hn : Nice s.L) (o t : Nat) (ho : o < s.n) (ht : t < s.T) (hw : whI s.T s.L t < 0) (he : s.ow.getD o 0 ≠ -1) (hne : s.ow.getD o 0 ≠ (t : Int)) : Calls Try.prog 123 #[.pointer (some ⟨Q.p, 0, none⟩), .int .i64 o, .int .i64 t] w fun e w' =>
    e = .returned (.tuple #[.bool false, .int .i64 0]) ∧ QAt w' lo Q { s with L := s.L.set o (gl s.L o ++ [t]) } ∧ Fr Q.X w w' := by
  have HO := hid (decide_eq_true (p := inR (o : Int) s.n) ⟨by omega, by omega⟩)
  have htR : inR (t : Int) s.T := ⟨by omega, by omega⟩
  have HT := hid (decide_eq_true htR)
  have HW := hid (decide_eq_true hw)
  have hsz := h.short hn (i := o) (t := t) (by omega) ht (by simpa using whI_neg htR hw)
  have F1 := h.f1
  have C := h.cO ho
  have hi : (o : Int) < (s.n : Int) := by omega
  have nn := h.nn o ho
  obtain ⟨x, hx⟩ : ∃ x, s.ow.getD o 0 = x := ⟨_, rfl⟩
  rw [hx] at C he hne nn
  have x0 : ¬ x < 0 := by omega
  have hd : (x == (t : Int)) = false := by simpa using hne
  have F2 := h.f2
  obtain ⟨a, c, CW, hr⟩ := h.hw.row ho
  have ZW := h.hw.frz o
  have hWl : Q.W < w.heap.size := World.block_lt_of_cell? _ _ CW
  have hr1 := hr.1
  obtain ⟨l, hl⟩ : ∃ l, gl s.L o = l := ⟨_, rfl⟩
  have HL := hid hl
  rw [hl] at CW hsz hr1
  have HB : Hid (∀ x ∈ l ++ [t], x < s.T) := hid fun x hx => by
    rcases List.mem_append.1 hx with hx | hx
    · exact h.bd o (by omega) x (by rw [hl]; exact hx)
    · simp at hx; subst hx; exact ht
  have hX := h.newX
  have hlo : lo ≤ w.heap.size := by have := h.lp; have := h.hp.lt; omega
  rw [hl]
  clear hl hw he hne hx htR hr
  go_enter Try.func123, Try.ntmps123
  go_wp2_with (first
    | (go_at_call 145; refine (qobject h _).mono ?_; rw [HO.out]; rintro e w' ⟨rfl, rfl⟩)
    | (go_at_call 146; refine (qthread h _).mono ?_; rw [HT.out]; rintro e w' ⟨rfl, rfl⟩)
    | (go_at_call 147; refine (qwaits h hn _).mono ?_; rw [HW.out]; rintro e w' ⟨rfl, rfl⟩))
  refine Held.wp_region_held_tail (S := (fun w' => w'.cell? ⟨Q.p, 2, none⟩ = some (.slice (some ⟨Q.W, 0, none⟩) s.n s.n) ∧ w'.cell? ⟨Q.W, o, none⟩ = some (.slice a l.length c))) 18 (by kernel_rfl) (by kernel_rfl) (by decide) ?hS1 (fun hHeld => ?hR1)
  case hS1 =>
    exact ⟨F2, CW⟩
  simp only [List.take_succ_cons, List.take_zero, List.drop_succ_cons, List.drop_zero]
  refine wpAnyH_take (i := 0) (oi := _) (v := ?v2) rfl (by kernel_rfl) (by kernel_rfl) (by kernel_rfl) (fun _ _ _ h => h) (Or.inl ⟨by rfl, ?y2⟩) (by assumption) ?r2
  case y2 => ((intro w hSw); (try dsimp only at hSw); go_simp; (try with_reducible rfl))
  (try simp only [Act.put, List.setIfInBounds_toArray, List.set_cons_zero, List.set_cons_succ])
  refine wpAnyH_take (i := 1) (oi := _) (v := ?v3) rfl (by kernel_rfl) (by kernel_rfl) (by kernel_rfl) (fun _ _ _ h => h) (Or.inl ⟨by rfl, ?y3⟩) (by assumption) ?r3
  case y3 => ((intro w hSw); (try dsimp only at hSw); go_simp; (try with_reducible rfl))
  (try simp only [Act.put, List.setIfInBounds_toArray, List.set_cons_zero, List.set_cons_succ])
  refine wpAnyH_take (i := 2) (oi := _) (v := ?v4) rfl (by kernel_rfl) (by kernel_rfl) (by kernel_rfl) (fun _ _ _ h => h) (Or.inl ⟨by rfl, ?y4⟩) (by assumption) ?r4
  case y4 => ((intro w hSw); (try dsimp only at hSw); go_simp; (try with_reducible rfl))
  (try simp only [Act.put, List.setIfInBounds_toArray, List.set_cons_zero, List.set_cons_succ])
  refine wpAnyH_take (i := 3) (oi := _) (v := ?v5) rfl (by kernel_rfl) (by kernel_rfl) (by kernel_rfl) (fun _ _ _ h => h) (Or.inl ⟨by rfl, ?y5⟩) (by assumption) ?r5
  case y5 => ((intro w hSw); (try dsimp only at hSw); go_simp; (try with_reducible rfl))
  (try simp only [Act.put, List.setIfInBounds_toArray, List.set_cons_zero, List.set_cons_succ])
  refine wpAnyH_take (i := 4) (oi := _) (v := ?v6) rfl (by kernel_rfl) (by kernel_rfl) (by kernel_rfl) (fun _ _ _ h => h) (Or.inl ⟨by rfl, ?y6⟩) (by assumption) ?r6
  case y6 => ((intro w hSw); (try dsimp only at hSw); go_simp; (try with_reducible rfl))
  (try simp only [Act.put, List.setIfInBounds_toArray, List.set_cons_zero, List.set_cons_succ])
  refine wpAnyH_take (i := 6) (oi := _) (v := ?v7) rfl (by kernel_rfl) (by kernel_rfl) (by kernel_rfl) (fun _ _ _ h => h) (Or.inl ⟨by rfl, ?y7⟩) (by assumption) ?r7
  case y7 => ((intro w hSw); (try dsimp only at hSw); go_simp; (try with_reducible rfl))
  (try simp only [Act.put, List.setIfInBounds_toArray, List.set_cons_zero, List.set_cons_succ])
  refine wpAnyH_take (i := 7) (oi := _) (v := ?v8) rfl (by kernel_rfl) (by kernel_rfl) (by kernel_rfl) (fun _ _ _ h => h) (Or.inl ⟨by rfl, ?y8⟩) (by assumption) ?r8
  case y8 => ((intro w hSw); (try dsimp only at hSw); go_simp; (try with_reducible rfl))
  (try simp only [Act.put, List.setIfInBounds_toArray, List.set_cons_zero, List.set_cons_succ])
  refine wpAnyH_take (i := 8) (oi := _) (v := ?v9) rfl (by kernel_rfl) (by kernel_rfl) (by kernel_rfl) (fun _ _ _ h => h) (Or.inl ⟨by rfl, ?y9⟩) (by assumption) ?r9
  case y9 => ((intro w hSw); (try dsimp only at hSw); go_simp; (try with_reducible rfl))
  (try simp only [Act.put, List.setIfInBounds_toArray, List.set_cons_zero, List.set_cons_succ])
  refine wpAnyH_take (i := 9) (oi := _) (v := ?v10) rfl (by kernel_rfl) (by kernel_rfl) (by kernel_rfl) (fun _ _ _ h => h) (Or.inl ⟨by rfl, ?y10⟩) (by assumption) ?r10
  case y10 => ((intro w hSw); (try dsimp only at hSw); go_simp; (try with_reducible rfl))
  (try simp only [Act.put, List.setIfInBounds_toArray, List.set_cons_zero, List.set_cons_succ])
  refine wpAnyH_take (i := 10) (oi := _) (v := ?v11) rfl (by kernel_rfl) (by kernel_rfl) (by kernel_rfl) (fun _ _ _ h => h) (Or.inl ⟨by rfl, ?y11⟩) (by assumption) ?r11
  case y11 => ((intro w hSw); (try dsimp only at hSw); go_simp; (try with_reducible rfl))
  (try simp only [Act.put, List.setIfInBounds_toArray, List.set_cons_zero, List.set_cons_succ])
  refine wpAnyH_take (i := 11) (oi := _) (v := ?v12) rfl (by kernel_rfl) (by kernel_rfl) (by kernel_rfl) (fun _ _ _ h => h) (Or.inl ⟨by rfl, ?y12⟩) (by assumption) ?r12
  case y12 => ((intro w hSw); (try dsimp only at hSw); go_simp; (try with_reducible rfl))
  (try simp only [Act.put, List.setIfInBounds_toArray, List.set_cons_zero, List.set_cons_succ])
  refine wpAnyH_take (i := 12) (oi := _) (v := ?v13) rfl (by kernel_rfl) (by kernel_rfl) (by kernel_rfl) (fun _ _ _ h => h) (Or.inl ⟨by rfl, ?y13⟩) (by assumption) ?r13
  case y13 => ((intro w hSw); (try dsimp only at hSw); go_simp; (try with_reducible rfl))
  (try simp only [Act.put, List.setIfInBounds_toArray, List.set_cons_zero, List.set_cons_succ])
  refine wpAnyH_take (i := 14) (oi := _) (v := ?v14) rfl (by kernel_rfl) (by kernel_rfl) (by kernel_rfl) (fun _ _ _ h => h) (Or.inl ⟨by rfl, ?y14⟩) (by assumption) ?r14
  case y14 => ((intro w hSw); (try dsimp only at hSw); go_simp; (try with_reducible rfl))
  (try simp only [Act.put, List.setIfInBounds_toArray, List.set_cons_zero, List.set_cons_succ])
  refine wpAnyH_ready (rs := [5, 15]) (by kernel_rfl) (by simp) ?_
  refine AllReadyH.cons rfl (fun K hK => ?_) (AllReadyH.cons rfl (fun K hK => ?_) AllReadyH.nil)
  · skip
    go_simp
    refine hK.out _ _ ?k15 (fun hHeld15 => ?_)
    case k15 =>
      go_keep
    clear hK K
    (try simp only [Act.put, List.setIfInBounds_toArray, List.set_cons_zero, List.set_cons_succ])
    refine wpAnyH_ready (rs := [13, 15]) (by kernel_rfl) (by simp) ?_
    refine AllReadyH.cons rfl (fun K hK => ?_) (AllReadyH.cons rfl (fun K hK => ?_) AllReadyH.nil)
    · skip
      refine step_append_irow rfl (.tmp 52) (.tmp 59) rfl w.heap.size 0 [] (zi l) (.slice (some ⟨_, 0, none⟩) 0 0) _ rfl rfl ?_ ?_ ?_ ?_ ?_
      · exact (owns_b w w.heap.size (Nat.le_refl _)).drew
      · exact (hr1.alloc _).drew
      · rw [zi_len]; omega
      · simp; try omega
      intro v1 w1 ho1 hg1 _
      have s1 : Still w w1 := Fr.of_own ((Fr.refl _ w).alloc _).drew (owns_b w w.heap.size (Nat.le_refl _)).drew hg1 (Nat.le_refl _)
      have z1 := s1.size
      refine hK.out _ _ ?k16 (fun hHeld16 => ?_)
      case k16 =>
        exact ⟨Still.cell s1 F2, Still.cell s1 CW⟩
      clear hK K
      (try simp only [Act.put, List.setIfInBounds_toArray, List.set_cons_zero, List.set_cons_succ])
      refine wpAnyH_ready (rs := [15]) (by kernel_rfl) (by simp) ?_
      refine AllReadyH.cons rfl (fun K hK => ?st17) AllReadyH.nil
      go_simp
      refine hK.out _ _ ?k17 (fun hHeld17 => ?_)
      case k17 =>
        exact ⟨Still.cell (s1.alloc _) F2, Still.cell (s1.alloc _) CW⟩
      clear hK K
      (try simp only [Act.put, List.setIfInBounds_toArray, List.set_cons_zero, List.set_cons_succ])
      refine wpAnyH_ready (rs := [16]) (by kernel_rfl) (by simp) ?_
      refine AllReadyH.cons rfl (fun K hK => ?st18) AllReadyH.nil
      refine step_append_irow rfl (.tmp 60) (.tmp 62) rfl w.heap.size (0 + (zi l).length) ([] ++ zi l) [(t : Int)] _ _ rfl rfl ?_ ?_ ?_ ?_ ?_
      · exact (ho1.alloc _)
      · exact one_new _ _ _
      · simp only [zi_len, List.length_cons, List.length_nil]; omega
      · (simp; omega)
      intro v2 w2 ho2 hg2 _
      obtain ⟨a2, c2, rfl⟩ := own_shape ho2 (l.length + 1) (by simp [zi_len])
      have s2 : Still w w2 := Fr.of_own (s1.alloc _) (ho1.alloc _) hg2 (Nat.le_refl _)
      have C2 := Still.cell s2 CW
      have Z2 := Still.frz s2 hWl ZW
      refine hK.out _ _ ?k18 (fun hHeld18 => ?_)
      case k18 =>
        exact ⟨Still.cell s2 F2, C2⟩
      clear hK K
      (try simp only [Act.put, List.setIfInBounds_toArray, List.set_cons_zero, List.set_cons_succ])
      refine wpAnyH_take (i := 17) (oi := _) (v := ?v19) rfl (by kernel_rfl) (by kernel_rfl) (by kernel_rfl) (fun _ _ _ h => h) (Or.inl ⟨by rfl, ?y19⟩) (by assumption) ?r19
      case y19 => ((intro w hSw); (try dsimp only at hSw); go_simp; (try with_reducible rfl))
      (try simp only [Act.put, List.setIfInBounds_toArray, List.set_cons_zero, List.set_cons_succ])
      refine wpAnyH_done (by kernel_rfl) (Held.tailQ_normal ?_) _
      have hz : ([] ++ zi l ++ [(t : Int)]) = zi (l ++ [t]) := by simp [zi]
      rw [hz] at ho2
      have hq := (h.still s2).putW ho (RowX.own ho2 (by simp [zi_len]) hX hlo) HB.out (by have := hsz; simp; omega)
      have hf : Fr Q.X w (w2.setCell ⟨Q.W, o, none⟩ (.slice a2 (l.length + 1) c2)) := Fr.putX (s2.fr _) (.inr (.inl rfl)) o _
      have HQ := hid hq
      have HF := hid hf
      clear hq hf hz ho2 hg2
      go_wp2
      go_ret2
      exact ⟨rfl, HQ.out, HF.out⟩
    · skip
      go_simp
      refine hK.out _ _ ?k20 (fun hHeld20 => ?_)
      case k20 =>
        go_keep
      clear hK K
      (try simp only [Act.put, List.setIfInBounds_toArray, List.set_cons_zero, List.set_cons_succ])
      refine wpAnyH_ready (rs := [13]) (by kernel_rfl) (by simp) ?_
      refine AllReadyH.cons rfl (fun K hK => ?st21) AllReadyH.nil
      refine step_append_irow rfl (.tmp 52) (.tmp 59) rfl w.heap.size 0 [] (zi l) (.slice (some ⟨_, 0, none⟩) 0 0) _ rfl rfl ?_ ?_ ?_ ?_ ?_
      · exact (owns_alloc0 w w.heap.size _ (Nat.le_refl _)).drew
      · exact ((hr1.alloc _).alloc _).drew
      · rw [zi_len]; omega
      · simp; try omega
      intro v1 w1 ho1 hg1 _
      have s1 : Still w w1 := Fr.of_own (((Fr.refl _ w).alloc _).alloc _).drew (owns_alloc0 w w.heap.size _ (Nat.le_refl _)).drew hg1 (Nat.le_refl _)
      have z1 := s1.size
      refine hK.out _ _ ?k21 (fun hHeld21 => ?_)
      case k21 =>
        exact ⟨Still.cell s1 F2, Still.cell s1 CW⟩
      clear hK K
      (try simp only [Act.put, List.setIfInBounds_toArray, List.set_cons_zero, List.set_cons_succ])
      refine wpAnyH_ready (rs := [16]) (by kernel_rfl) (by simp) ?_
      refine AllReadyH.cons rfl (fun K hK => ?st22) AllReadyH.nil
      refine step_append_irow rfl (.tmp 60) (.tmp 62) rfl w.heap.size (0 + (zi l).length) ([] ++ zi l) [(t : Int)] _ _ rfl rfl ?_ ?_ ?_ ?_ ?_
      · exact ho1
      · exact one_grown (blk_new1 w _ [.int .i64 (t : Int)] 3).drew hg1 (by simp)
      · simp only [zi_len, List.length_cons, List.length_nil]; omega
      · exact z1
      intro v2 w2 ho2 hg2 _
      obtain ⟨a2, c2, rfl⟩ := own_shape ho2 (l.length + 1) (by simp [zi_len])
      have s2 : Still w w2 := Fr.of_own s1 ho1 hg2 (Nat.le_refl _)
      have C2 := Still.cell s2 CW
      have Z2 := Still.frz s2 hWl ZW
      refine hK.out _ _ ?k22 (fun hHeld22 => ?_)
      case k22 =>
        exact ⟨Still.cell s2 F2, C2⟩
      clear hK K
      (try simp only [Act.put, List.setIfInBounds_toArray, List.set_cons_zero, List.set_cons_succ])
      refine wpAnyH_take (i := 17) (oi := _) (v := ?v23) rfl (by kernel_rfl) (by kernel_rfl) (by kernel_rfl) (fun _ _ _ h => h) (Or.inl ⟨by rfl, ?y23⟩) (by assumption) ?r23
      case y23 => ((intro w hSw); (try dsimp only at hSw); go_simp; (try with_reducible rfl))
      (try simp only [Act.put, List.setIfInBounds_toArray, List.set_cons_zero, List.set_cons_succ])
      refine wpAnyH_done (by kernel_rfl) (Held.tailQ_normal ?_) _
      have hz : ([] ++ zi l ++ [(t : Int)]) = zi (l ++ [t]) := by simp [zi]
      rw [hz] at ho2
      have hq := (h.still s2).putW ho (RowX.own ho2 (by simp [zi_len]) hX hlo) HB.out (by have := hsz; simp; omega)
      have hf : Fr Q.X w (w2.setCell ⟨Q.W, o, none⟩ (.slice a2 (l.length + 1) c2)) := Fr.putX (s2.fr _) (.inr (.inl rfl)) o _
      have HQ := hid hq
      have HF := hid hf
      clear hq hf hz ho2 hg2
      go_wp2
      go_ret2
      exact ⟨rfl, HQ.out, HF.out⟩
  · skip
    go_simp
    refine hK.out _ _ ?k24 (fun hHeld24 => ?_)
    case k24 =>
      go_keep
    clear hK K
    (try simp only [Act.put, List.setIfInBounds_toArray, List.set_cons_zero, List.set_cons_succ])
    refine wpAnyH_ready (rs := [5]) (by kernel_rfl) (by simp) ?_
    refine AllReadyH.cons rfl (fun K hK => ?st25) AllReadyH.nil
    go_simp
    refine hK.out _ _ ?k25 (fun hHeld25 => ?_)
    case k25 =>
      go_keep
    clear hK K
    (try simp only [Act.put, List.setIfInBounds_toArray, List.set_cons_zero, List.set_cons_succ])
    refine wpAnyH_ready (rs := [13]) (by kernel_rfl) (by simp) ?_
    refine AllReadyH.cons rfl (fun K hK => ?st26) AllReadyH.nil
    refine step_append_irow rfl (.tmp 52) (.tmp 59) rfl w.heap.size 0 [] (zi l) (.slice (some ⟨_, 0, none⟩) 0 0) _ rfl rfl ?_ ?_ ?_ ?_ ?_
    · exact (owns_b1 w _).drew
    · exact ((hr1.alloc _).alloc _).drew
    · rw [zi_len]; omega
    · simp; try omega
    intro v1 w1 ho1 hg1 _
    have s1 : Still w w1 := Fr.of_own (((Fr.refl _ w).alloc _).alloc _).drew (owns_b1 w _).drew hg1 (Nat.le_refl _)
    have z1 := s1.size
    refine hK.out _ _ ?k26 (fun hHeld26 => ?_)
    case k26 =>
      exact ⟨Still.cell s1 F2, Still.cell s1 CW⟩
    clear hK K
    (try simp only [Act.put, List.setIfInBounds_toArray, List.set_cons_zero, List.set_cons_succ])
    refine wpAnyH_ready (rs := [16]) (by kernel_rfl) (by simp) ?_
    refine AllReadyH.cons rfl (fun K hK => ?st27) AllReadyH.nil
    refine step_append_irow rfl (.tmp 60) (.tmp 62) rfl w.heap.size (0 + (zi l).length) ([] ++ zi l) [(t : Int)] _ _ rfl rfl ?_ ?_ ?_ ?_ ?_
    · exact ho1
    · exact one_grown ((Blk.new w [.int .i64 (t : Int)] 3).alloc _).drew hg1 (by simp)
    · simp only [zi_len, List.length_cons, List.length_nil]; omega
    · exact z1
    intro v2 w2 ho2 hg2 _
    obtain ⟨a2, c2, rfl⟩ := own_shape ho2 (l.length + 1) (by simp [zi_len])
    have s2 : Still w w2 := Fr.of_own s1 ho1 hg2 (Nat.le_refl _)
    have C2 := Still.cell s2 CW
    have Z2 := Still.frz s2 hWl ZW
    refine hK.out _ _ ?k27 (fun hHeld27 => ?_)
    case k27 =>
      exact ⟨Still.cell s2 F2, C2⟩
    clear hK K
    (try simp only [Act.put, List.setIfInBounds_toArray, List.set_cons_zero, List.set_cons_succ])
    refine wpAnyH_take (i := 17) (oi := _) (v := ?v28) rfl (by kernel_rfl) (by kernel_rfl) (by kernel_rfl) (fun _ _ _ h => h) (Or.inl ⟨by rfl, ?y28⟩) (by assumption) ?r28
    case y28 => ((intro w hSw); (try dsimp only at hSw); go_simp; (try with_reducible rfl))
    (try simp only [Act.put, List.setIfInBounds_toArray, List.set_cons_zero, List.set_cons_succ])
    refine wpAnyH_done (by kernel_rfl) (Held.tailQ_normal ?_) _
    have hz : ([] ++ zi l ++ [(t : Int)]) = zi (l ++ [t]) := by simp [zi]
    rw [hz] at ho2
    have hq := (h.still s2).putW ho (RowX.own ho2 (by simp [zi_len]) hX hlo) HB.out (by have := hsz; simp; omega)
    have hf : Fr Q.X w (w2.setCell ⟨Q.W, o, none⟩ (.slice a2 (l.length + 1) c2)) := Fr.putX (s2.fr _) (.inr (.inl rfl)) o _
    have HQ := hid hq
    have HF := hid hf
    clear hq hf hz ho2 hg2
    go_wp2
    go_ret2
    exact ⟨rfl, HQ.out, HF.out⟩
end
end Go.Proofs.Ytffjaaolcphonaa
/- The document's locks: Lock, Unlock. -/
namespace Go.Proofs.Ytffjaaolcphonaa
open Go.RowKit
set_option linter.unusedSimpArgs false
section
variable {w : World} {lo : Nat} {Q : QB} {s : LS}
theorem qlock (h : QAt w lo Q s) (hn : Nice s.L) (o t : Int) : Calls Try.prog 123 #[.pointer (some ⟨Q.p, 0, none⟩), .int .i64 o, .int .i64 t] w fun e w' =>
    e = .returned (.tuple #[.bool (lockB s o t), .int .i64 (lockE s o t)]) ∧ QAt w' lo Q (lockS s o t) ∧ Fr Q.X w w' := by
  by_cases ho : inR o s.n
  case neg =>
    have hE := lockE_no (s := s) (o := o) (t := t) (.inl ho)
    refine (qlock_no h o t (.inl ho)).mono ?_
    rintro e w' ⟨rfl, rfl⟩
    unfold lockB lockS; rw [hE, if_neg (by decide), if_neg (by decide)]
    exact ⟨rfl, h, Fr.refl _ _⟩
  by_cases ht : inR t s.T
  case neg =>
    have hE := lockE_no (s := s) (o := o) (t := t) (.inr ht)
    refine (qlock_no h o t (.inr ht)).mono ?_
    rintro e w' ⟨rfl, rfl⟩
    unfold lockB lockS; rw [hE, if_neg (by decide), if_neg (by decide)]
    exact ⟨rfl, h, Fr.refl _ _⟩
  obtain ⟨o, rfl⟩ := Int.eq_ofNat_of_zero_le ho.1
  have ho' : o < s.n := by have := ho.2; omega
  by_cases hw : whI s.T s.L t < 0
  case neg =>
    have hE := lockE_w ho ht hw
    refine (qlock_st h hn o t ho' ht (.inl hw)).mono ?_
    rintro e w' ⟨rfl, rfl⟩
    unfold lockB lockS; rw [hE, if_neg (by decide), if_neg (by decide)]
    exact ⟨rfl, h, Fr.refl _ _⟩
  by_cases hne : s.ow.getD o 0 = t
  · have hE := lockE_own ho ht hw (by rw [Int.toNat_natCast]; exact hne)
    refine (qlock_st h hn o t ho' ht (.inr hne)).mono ?_
    rintro e w' ⟨rfl, rfl⟩
    unfold lockB lockS; rw [hE, if_neg (by decide), if_neg (by decide)]
    exact ⟨rfl, h, Fr.refl _ _⟩
  have hE := lockE_0 ho ht hw (by rw [Int.toNat_natCast]; exact hne)
  by_cases hf : s.ow.getD o 0 = -1
  · refine (qlock_free h hn o t ho' ht hw hf).mono ?_
    rintro e w' ⟨rfl, h1, h2⟩
    unfold lockB lockS getB getS; rw [hE, if_pos rfl, if_pos rfl, Int.toNat_natCast, if_pos hf, hf]
    exact ⟨rfl, h1, h2⟩
  · obtain ⟨t, rfl⟩ := Int.eq_ofNat_of_zero_le ht.1
    have ht' : t < s.T := by have := ht.2; omega
    refine (qlock_push h hn o t ho' ht' hw hf hne).mono ?_
    rintro e w' ⟨rfl, h1, h2⟩
    unfold lockB lockS getB getS; rw [hE, if_pos rfl, if_pos rfl, Int.toNat_natCast, if_neg hf, pushL_0 (by rw [h.ll]; omega) ht hw]
    refine ⟨?_, h1, h2⟩
    rw [show (s.ow.getD o 0 == -1) = false by simpa using hf]
set_option maxRecDepth 100000 in
set_option maxHeartbeats 1000000 in
theorem qunlock (h : QAt w lo Q s) (hn : Nice s.L) (o t : Int) : Calls Try.prog 124 #[.pointer (some ⟨Q.p, 0, none⟩), .int .i64 o, .int .i64 t] w fun e w' =>
    e = .returned (.tuple #[.int .i64 (unlockT s o t), .int .i64 (unlockE s o t)]) ∧ QAt w' lo Q (unlockS s o t) ∧ Fr Q.X w w' := by
  by_cases ho : inR o s.n
  case neg =>
    have hE := unlockE_no (s := s) (o := o) (t := t) (.inl ho)
    unfold unlockT unlockS; rw [hE, if_neg (by decide), if_neg (by decide)]
    have HO := hid (decide_eq_false ho)
    clear ho hE
    go_enter Try.func124, Try.ntmps124
    go_wp2_with (first
      | (go_at_call 145; refine (qobject h _).mono ?_; rw [HO.out]; rintro e w' ⟨rfl, rfl⟩))
    go_ret2
    exact ⟨rfl, h, Fr.refl _ _⟩
  have HO := hid (decide_eq_true ho)
  by_cases ht : inR t s.T
  case neg =>
    have hE := unlockE_no (s := s) (o := o) (t := t) (.inr ht)
    unfold unlockT unlockS; rw [hE, if_neg (by decide), if_neg (by decide)]
    have HT := hid (decide_eq_false ht)
    clear ho ht hE
    go_enter Try.func124, Try.ntmps124
    go_wp2_with (first
      | (go_at_call 145; refine (qobject h _).mono ?_; rw [HO.out]; rintro e w' ⟨rfl, rfl⟩)
      | (go_at_call 146; refine (qthread h _).mono ?_; rw [HT.out]; rintro e w' ⟨rfl, rfl⟩))
    go_ret2
    exact ⟨rfl, h, Fr.refl _ _⟩
  have HT := hid (decide_eq_true ht)
  obtain ⟨o, rfl⟩ := Int.eq_ofNat_of_zero_le ho.1
  have ho' : o < s.n := by have := ho.2; omega
  by_cases hw : whI s.T s.L t < 0
  case neg =>
    have hE := unlockE_w ho ht hw
    unfold unlockT unlockS; rw [hE, if_neg (by decide), if_neg (by decide)]
    have HW := hid (decide_eq_false hw)
    clear ho ht hw hE
    go_enter Try.func124, Try.ntmps124
    go_wp2_with (first
      | (go_at_call 145; refine (qobject h _).mono ?_; rw [HO.out]; rintro e w' ⟨rfl, rfl⟩)
      | (go_at_call 146; refine (qthread h _).mono ?_; rw [HT.out]; rintro e w' ⟨rfl, rfl⟩)
      | (go_at_call 147; refine (qwaits h hn _).mono ?_; rw [HW.out]; rintro e w' ⟨rfl, rfl⟩))
    go_ret2
    exact ⟨rfl, h, Fr.refl _ _⟩
  have HW := hid (decide_eq_true hw)
  have F1 := h.f1
  have C := h.cO ho'
  have hi : (o : Int) < (s.n : Int) := by omega
  by_cases hne : s.ow.getD o 0 = t
  · have hE := unlockE_0 ho ht hw (by rw [Int.toNat_natCast]; exact hne)
    unfold unlockT unlockS; rw [hE, if_pos rfl, if_pos rfl, Int.toNat_natCast]
    rw [hne] at C
    have hd : (t != t) = false := by simp
    have HP := hid (qpass h hn o ho')
    clear ho ht hw hE hne
    go_enter Try.func124, Try.ntmps124
    go_wp2_with (first
      | (go_at_call 145; refine (qobject h _).mono ?_; rw [HO.out]; rintro e w' ⟨rfl, rfl⟩)
      | (go_at_call 146; refine (qthread h _).mono ?_; rw [HT.out]; rintro e w' ⟨rfl, rfl⟩)
      | (go_at_call 147; refine (qwaits h hn _).mono ?_; rw [HW.out]; rintro e w' ⟨rfl, rfl⟩)
      | (go_at_call 148; refine HP.out.mono ?_; rintro e w1 ⟨rfl, h1, h2⟩))
    go_ret2
    exact ⟨rfl, h1, h2⟩
  · have hE := unlockE_own ho ht hw (by rw [Int.toNat_natCast]; exact hne)
    unfold unlockT unlockS; rw [hE, if_neg (by decide), if_neg (by decide)]
    obtain ⟨x, hx⟩ : ∃ x, s.ow.getD o 0 = x := ⟨_, rfl⟩
    rw [hx] at C hne
    have hd : (x != t) = true := by simpa using hne
    clear ho ht hw hE hne hx
    go_enter Try.func124, Try.ntmps124
    go_wp2_with (first
      | (go_at_call 145; refine (qobject h _).mono ?_; rw [HO.out]; rintro e w' ⟨rfl, rfl⟩)
      | (go_at_call 146; refine (qthread h _).mono ?_; rw [HT.out]; rintro e w' ⟨rfl, rfl⟩)
      | (go_at_call 147; refine (qwaits h hn _).mono ?_; rw [HW.out]; rintro e w' ⟨rfl, rfl⟩))
    go_ret2
    exact ⟨rfl, h, Fr.refl _ _⟩
end
end Go.Proofs.Ytffjaaolcphonaa
/- The document's locks: Wait. -/
namespace Go.Proofs.Ytffjaaolcphonaa
open Go.RowKit
set_option linter.unusedSimpArgs false
section
variable {w0 : World} {lo : Nat} {Q : QB} {s : LS}
set_option maxRecDepth 100000 in
set_option maxHeartbeats 4000000 in
theorem qwait (h0 : QAt w0 lo Q s) (hi : LInv s) (c o t : Int) : Calls Try.prog 125 #[.pointer (some ⟨Q.p, 0, none⟩), .int .i64 c, .int .i64 o, .int .i64 t] w0 fun e w' =>
    e = .returned (.tuple #[.int .i64 (waitT s c o t), .int .i64 (waitE s c o t)]) ∧ QAt w' lo Q (waitS s c o t) ∧ Fr Q.X w0 w' := by
  by_cases hc : inR c s.n
  case neg =>
    have hE := waitE_no (s := s) (o := o) (t := t) hc
    unfold waitT waitS; rw [hE, if_neg (by decide), if_neg (by decide)]
    have HC := hid (decide_eq_false hc)
    clear hc hE
    go_enter Try.func125, Try.ntmps125
    go_wp2_with (go_at_call 145; refine (qobject h0 _).mono ?_; rw [HC.out]; rintro e w' ⟨rfl, rfl⟩)
    go_ret2
    exact ⟨rfl, h0, Fr.refl _ _⟩
  have HC := hid (decide_eq_true hc)
  have U := qunlock h0 hi.nc o t
  have hWE : waitE s c o t = unlockE s o t := waitE_un hc
  by_cases hE : unlockE s o t = 0
  case neg =>
    unfold waitT waitS; rw [hWE, if_neg hE, if_neg hE]
    unfold unlockT unlockS at U; rw [if_neg hE, if_neg hE] at U
    obtain ⟨z, hz⟩ : ∃ z, unlockE s o t = z := ⟨_, rfl⟩
    rw [hz] at U hE ⊢
    have hd : (z != 0) = true := by simpa using hE
    have HU := hid U
    clear hc hE hWE hz U
    go_enter Try.func125, Try.ntmps125
    go_wp2_with (first
      | (go_at_call 145; refine (qobject h0 _).mono ?_; rw [HC.out]; rintro e w' ⟨rfl, rfl⟩)
      | (go_at_call 124; refine HU.out.mono ?_; rintro e w1 ⟨rfl, h1, f1⟩))
    go_ret2
    exact ⟨rfl, h1, f1⟩
  obtain ⟨ho, ht, hw, hown⟩ := unlockE_ok hE
  obtain ⟨c0, rfl⟩ := Int.eq_ofNat_of_zero_le hc.1
  obtain ⟨o, rfl⟩ := Int.eq_ofNat_of_zero_le ho.1
  obtain ⟨t, rfl⟩ := Int.eq_ofNat_of_zero_le ht.1
  have hcn : c0 < s.n := by have := hc.2; omega
  have ho' : o < s.n := by have := ho.2; omega
  have ht' : t < s.T := by have := ht.2; omega
  have hp := hi.pass ho'
  have hw0 : wh s.L t = -1 := by simpa using whI_neg ht hw
  have hw1 : wh (passS s o).L t = -1 := wh_sub (popL_len _ _) (popL_sub _ _) hw0
  have hL : (passS s o).L.length = 2 * s.n := hp.ll
  unfold waitT waitS; rw [hWE, hE, if_pos rfl, if_pos rfl, Int.toNat_natCast, Int.toNat_natCast]
  unfold unlockT unlockS at U; rw [hE, if_pos rfl, if_pos rfl, Int.toNat_natCast] at U
  rw [show (s.n + (c0 : Int)) = ((s.n + c0 : Nat) : Int) by omega, pushL_0 (by rw [hL]; omega) ht (by unfold whI; split <;> (try rw [Int.toNat_natCast, hw1]) <;> omega)]
  have HU := hid U
  obtain ⟨l, hl⟩ : ∃ l, gl (passS s o).L (s.n + c0) = l := ⟨_, rfl⟩
  obtain ⟨z, hz⟩ : ∃ z, passT s o = z := ⟨_, rfl⟩
  rw [hz] at U ⊢
  have HU := hid U
  have HL := hid hl
  have HW1 := hid hw1
  have htI : (t : Int) < (s.T : Int) := by omega
  rw [hl]
  have HN : Hid (∀ (w : World) (h : QAt w lo Q (passS s o)), l.length < 1024 ∧ ∀ x ∈ l ++ [t], x < s.T) := hid fun w h => by
    refine ⟨?_, fun x hx => ?_⟩
    · have := h.short hp.nc (i := s.n + c0) (t := t) (show _ < 2 * s.n by omega) ht' hw1; rw [hl] at this; exact this
    · rcases List.mem_append.1 hx with hx | hx
      · exact h.bd (s.n + c0) (show _ < 2 * s.n by omega) x (by rw [hl]; exact hx)
      · simp at hx; subst hx; exact ht'
  have hci : (c0 : Int) < (s.n : Int) := by omega
  clear hc ho ht hw hown hp hw0 hw1 hL hWE hE U hl hz
  go_enter Try.func125, Try.ntmps125
  go_wp2_with (go_at_call 145; refine (qobject h0 _).mono ?_; rw [HC.out]; rintro e w' ⟨rfl, rfl⟩)
  refine HU.out.mono ?_
  rintro e w ⟨rfl, h, f0⟩
  obtain ⟨hsz, hB⟩ := HN.out w h
  have HB := hid hB
  have F3 : w.cell? ⟨Q.p, 3, none⟩ = some (.slice (some ⟨Q.S, 0, none⟩) s.n s.n) := h.f3
  obtain ⟨a, c, CS, hr⟩ : ∃ a c, w.cell? ⟨Q.S, c0, none⟩ = some (.slice a (gl (passS s o).L (s.n + c0)).length c) ∧ RowX w lo Q.Y (.slice a (gl (passS s o).L (s.n + c0)).length c) (zi (gl (passS s o).L (s.n + c0))) := h.hs.row (i := c0) hcn
  have ZW := h.hs.frz c0
  have hX := h.newX
  rw [HL.out] at CS hr
  have hr1 := hr.1
  have hWl : Q.S < w.heap.size := World.block_lt_of_cell? _ _ CS
  have hlo : lo ≤ w.heap.size := by have := h.lp; have := h.hp.lt; omega
  clear hB hr
  go_wp2_with fail
  refine Held.wp_region_held_tail (S := (fun w' => w'.cell? ⟨Q.p, 3, none⟩ = some (.slice (some ⟨Q.S, 0, none⟩) s.n s.n) ∧ w'.cell? ⟨Q.S, c0, none⟩ = some (.slice a l.length c))) 18 (by kernel_rfl) (by kernel_rfl) (by decide) ?hS1 (fun hHeld => ?hR1)
  case hS1 =>
    exact ⟨F3, CS⟩
  simp only [List.take_succ_cons, List.take_zero, List.drop_succ_cons, List.drop_zero]
  refine wpAnyH_take (i := 0) (oi := _) (v := ?v2) rfl (by kernel_rfl) (by kernel_rfl) (by kernel_rfl) (fun _ _ _ h => h) (Or.inl ⟨by rfl, ?y2⟩) (by assumption) ?r2
  case y2 => ((intro w hSw); (try dsimp only at hSw); go_simp; (try with_reducible rfl))
  (try simp only [Act.put, List.setIfInBounds_toArray, List.set_cons_zero, List.set_cons_succ])
  refine wpAnyH_take (i := 1) (oi := _) (v := ?v3) rfl (by kernel_rfl) (by kernel_rfl) (by kernel_rfl) (fun _ _ _ h => h) (Or.inl ⟨by rfl, ?y3⟩) (by assumption) ?r3
  case y3 => ((intro w hSw); (try dsimp only at hSw); go_simp; (try with_reducible rfl))
  (try simp only [Act.put, List.setIfInBounds_toArray, List.set_cons_zero, List.set_cons_succ])
  refine wpAnyH_take (i := 2) (oi := _) (v := ?v4) rfl (by kernel_rfl) (by kernel_rfl) (by kernel_rfl) (fun _ _ _ h => h) (Or.inl ⟨by rfl, ?y4⟩) (by assumption) ?r4
  case y4 => ((intro w hSw); (try dsimp only at hSw); go_simp; (try with_reducible rfl))
  (try simp only [Act.put, List.setIfInBounds_toArray, List.set_cons_zero, List.set_cons_succ])
  refine wpAnyH_take (i := 3) (oi := _) (v := ?v5) rfl (by kernel_rfl) (by kernel_rfl) (by kernel_rfl) (fun _ _ _ h => h) (Or.inl ⟨by rfl, ?y5⟩) (by assumption) ?r5
  case y5 => ((intro w hSw); (try dsimp only at hSw); go_simp; (try with_reducible rfl))
  (try simp only [Act.put, List.setIfInBounds_toArray, List.set_cons_zero, List.set_cons_succ])
  refine wpAnyH_take (i := 4) (oi := _) (v := ?v6) rfl (by kernel_rfl) (by kernel_rfl) (by kernel_rfl) (fun _ _ _ h => h) (Or.inl ⟨by rfl, ?y6⟩) (by assumption) ?r6
  case y6 => ((intro w hSw); (try dsimp only at hSw); go_simp; (try with_reducible rfl))
  (try simp only [Act.put, List.setIfInBounds_toArray, List.set_cons_zero, List.set_cons_succ])
  refine wpAnyH_take (i := 6) (oi := _) (v := ?v7) rfl (by kernel_rfl) (by kernel_rfl) (by kernel_rfl) (fun _ _ _ h => h) (Or.inl ⟨by rfl, ?y7⟩) (by assumption) ?r7
  case y7 => ((intro w hSw); (try dsimp only at hSw); go_simp; (try with_reducible rfl))
  (try simp only [Act.put, List.setIfInBounds_toArray, List.set_cons_zero, List.set_cons_succ])
  refine wpAnyH_take (i := 7) (oi := _) (v := ?v8) rfl (by kernel_rfl) (by kernel_rfl) (by kernel_rfl) (fun _ _ _ h => h) (Or.inl ⟨by rfl, ?y8⟩) (by assumption) ?r8
  case y8 => ((intro w hSw); (try dsimp only at hSw); go_simp; (try with_reducible rfl))
  (try simp only [Act.put, List.setIfInBounds_toArray, List.set_cons_zero, List.set_cons_succ])
  refine wpAnyH_take (i := 8) (oi := _) (v := ?v9) rfl (by kernel_rfl) (by kernel_rfl) (by kernel_rfl) (fun _ _ _ h => h) (Or.inl ⟨by rfl, ?y9⟩) (by assumption) ?r9
  case y9 => ((intro w hSw); (try dsimp only at hSw); go_simp; (try with_reducible rfl))
  (try simp only [Act.put, List.setIfInBounds_toArray, List.set_cons_zero, List.set_cons_succ])
  refine wpAnyH_take (i := 9) (oi := _) (v := ?v10) rfl (by kernel_rfl) (by kernel_rfl) (by kernel_rfl) (fun _ _ _ h => h) (Or.inl ⟨by rfl, ?y10⟩) (by assumption) ?r10
  case y10 => ((intro w hSw); (try dsimp only at hSw); go_simp; (try with_reducible rfl))
  (try simp only [Act.put, List.setIfInBounds_toArray, List.set_cons_zero, List.set_cons_succ])
  refine wpAnyH_take (i := 10) (oi := _) (v := ?v11) rfl (by kernel_rfl) (by kernel_rfl) (by kernel_rfl) (fun _ _ _ h => h) (Or.inl ⟨by rfl, ?y11⟩) (by assumption) ?r11
  case y11 => ((intro w hSw); (try dsimp only at hSw); go_simp; (try with_reducible rfl))
  (try simp only [Act.put, List.setIfInBounds_toArray, List.set_cons_zero, List.set_cons_succ])
  refine wpAnyH_take (i := 11) (oi := _) (v := ?v12) rfl (by kernel_rfl) (by kernel_rfl) (by kernel_rfl) (fun _ _ _ h => h) (Or.inl ⟨by rfl, ?y12⟩) (by assumption) ?r12
  case y12 => ((intro w hSw); (try dsimp only at hSw); go_simp; (try with_reducible rfl))
  (try simp only [Act.put, List.setIfInBounds_toArray, List.set_cons_zero, List.set_cons_succ])
  refine wpAnyH_take (i := 12) (oi := _) (v := ?v13) rfl (by kernel_rfl) (by kernel_rfl) (by kernel_rfl) (fun _ _ _ h => h) (Or.inl ⟨by rfl, ?y13⟩) (by assumption) ?r13
  case y13 => ((intro w hSw); (try dsimp only at hSw); go_simp; (try with_reducible rfl))
  (try simp only [Act.put, List.setIfInBounds_toArray, List.set_cons_zero, List.set_cons_succ])
  refine wpAnyH_take (i := 14) (oi := _) (v := ?v14) rfl (by kernel_rfl) (by kernel_rfl) (by kernel_rfl) (fun _ _ _ h => h) (Or.inl ⟨by rfl, ?y14⟩) (by assumption) ?r14
  case y14 => ((intro w hSw); (try dsimp only at hSw); go_simp; (try with_reducible rfl))
  (try simp only [Act.put, List.setIfInBounds_toArray, List.set_cons_zero, List.set_cons_succ])
  refine wpAnyH_ready (rs := [5, 15]) (by kernel_rfl) (by simp) ?_
  refine AllReadyH.cons rfl (fun K hK => ?_) (AllReadyH.cons rfl (fun K hK => ?_) AllReadyH.nil)
  · skip
    go_simp
    refine hK.out _ _ ?k15 (fun hHeld15 => ?_)
    case k15 =>
      go_keep
    clear hK K
    (try simp only [Act.put, List.setIfInBounds_toArray, List.set_cons_zero, List.set_cons_succ])
    refine wpAnyH_ready (rs := [13, 15]) (by kernel_rfl) (by simp) ?_
    refine AllReadyH.cons rfl (fun K hK => ?_) (AllReadyH.cons rfl (fun K hK => ?_) AllReadyH.nil)
    · skip
      refine step_append_irow rfl (.tmp 31) (.tmp 38) rfl w.heap.size 0 [] (zi l) (.slice (some ⟨_, 0, none⟩) 0 0) _ rfl rfl ?_ ?_ ?_ ?_ ?_
      · exact (owns_b w w.heap.size (Nat.le_refl _)).drew
      · exact (hr1.alloc _).drew
      · rw [zi_len]; omega
      · simp; try omega
      intro v1 w1 ho1 hg1 _
      have s1 : Still w w1 := Fr.of_own ((Fr.refl _ w).alloc _).drew (owns_b w w.heap.size (Nat.le_refl _)).drew hg1 (Nat.le_refl _)
      have z1 := s1.size
      refine hK.out _ _ ?k16 (fun hHeld16 => ?_)
      case k16 =>
        exact ⟨Still.cell s1 F3, Still.cell s1 CS⟩
      clear hK K
      (try simp only [Act.put, List.setIfInBounds_toArray, List.set_cons_zero, List.set_cons_succ])
      refine wpAnyH_ready (rs := [15]) (by kernel_rfl) (by simp) ?_
      refine AllReadyH.cons rfl (fun K hK => ?st17) AllReadyH.nil
      go_simp
      refine hK.out _ _ ?k17 (fun hHeld17 => ?_)
      case k17 =>
        exact ⟨Still.cell (s1.alloc _) F3, Still.cell (s1.alloc _) CS⟩
      clear hK K
      (try simp only [Act.put, List.setIfInBounds_toArray, List.set_cons_zero, List.set_cons_succ])
      refine wpAnyH_ready (rs := [16]) (by kernel_rfl) (by simp) ?_
      refine AllReadyH.cons rfl (fun K hK => ?st18) AllReadyH.nil
      refine step_append_irow rfl (.tmp 39) (.tmp 41) rfl w.heap.size (0 + (zi l).length) ([] ++ zi l) [(t : Int)] _ _ rfl rfl ?_ ?_ ?_ ?_ ?_
      · exact (ho1.alloc _)
      · exact one_new _ _ _
      · simp only [zi_len, List.length_cons, List.length_nil]; omega
      · (simp; omega)
      intro v2 w2 ho2 hg2 _
      obtain ⟨a2, c2, rfl⟩ := own_shape ho2 (l.length + 1) (by simp [zi_len])
      have s2 : Still w w2 := Fr.of_own (s1.alloc _) (ho1.alloc _) hg2 (Nat.le_refl _)
      have C2 := Still.cell s2 CS
      have Z2 := Still.frz s2 hWl ZW
      refine hK.out _ _ ?k18 (fun hHeld18 => ?_)
      case k18 =>
        exact ⟨Still.cell s2 F3, C2⟩
      clear hK K
      (try simp only [Act.put, List.setIfInBounds_toArray, List.set_cons_zero, List.set_cons_succ])
      refine wpAnyH_take (i := 17) (oi := _) (v := ?v19) rfl (by kernel_rfl) (by kernel_rfl) (by kernel_rfl) (fun _ _ _ h => h) (Or.inl ⟨by rfl, ?y19⟩) (by assumption) ?r19
      case y19 => ((intro w hSw); (try dsimp only at hSw); go_simp; (try with_reducible rfl))
      (try simp only [Act.put, List.setIfInBounds_toArray, List.set_cons_zero, List.set_cons_succ])
      refine wpAnyH_done (by kernel_rfl) (Held.tailQ_normal ?_) _
      have hz : ([] ++ zi l ++ [(t : Int)]) = zi (l ++ [t]) := by simp [zi]
      rw [hz] at ho2
      have hq := (h.still s2).putS hcn (RowX.own ho2 (by simp [zi_len]) hX hlo) HB.out (by have := hsz; simp; omega)
      have hf : Fr Q.X w0 (w2.setCell ⟨Q.S, c0, none⟩ (.slice a2 (l.length + 1) c2)) := f0.trans (Fr.putX (s2.fr _) (.inr (.inr (.inl rfl))) c0 _)
      have hw2 := h.still s2
      have G4 : w2.cell? ⟨Q.p, 4, none⟩ = some (.slice (some ⟨Q.A, 0, none⟩) s.T Q.kA) := hw2.f4
      have CA : w2.cell? ⟨Q.A, t, none⟩ = some (.int .i64 (s.ag.getD t 0)) := hw2.cA (i := t) ht'
      have ZA : w2.frozen? ⟨Q.A, t, none⟩ = false := IBlk.frozen hw2.ha t
      have hpS : Q.p ≠ Q.S := fun e => h.pX (.inr (.inr (.inl e)))
      have hAS : Q.A ≠ Q.S := h.SA.symm
      have hq2 := hq.setA t o ⟨by omega, by show (o : Int) < (s.n : Int); omega⟩
      have hf2 : Fr Q.X w0 ((w2.setCell ⟨Q.S, c0, none⟩ (.slice a2 (l.length + 1) c2)).setCell ⟨Q.A, t, none⟩ (.int .i64 o)) := Fr.putX hf (.inr (.inr (.inr rfl))) t _
      have HQ := hid hq2
      have HF := hid hf2
      clear hq hf hq2 hf2 hz ho2 hg2 F3 CS ZW hr1 hw2
      go_wp2
      go_ret2
      exact ⟨rfl, HQ.out, HF.out⟩
    · skip
      go_simp
      refine hK.out _ _ ?k20 (fun hHeld20 => ?_)
      case k20 =>
        go_keep
      clear hK K
      (try simp only [Act.put, List.setIfInBounds_toArray, List.set_cons_zero, List.set_cons_succ])
      refine wpAnyH_ready (rs := [13]) (by kernel_rfl) (by simp) ?_
      refine AllReadyH.cons rfl (fun K hK => ?st21) AllReadyH.nil
      refine step_append_irow rfl (.tmp 31) (.tmp 38) rfl w.heap.size 0 [] (zi l) (.slice (some ⟨_, 0, none⟩) 0 0) _ rfl rfl ?_ ?_ ?_ ?_ ?_
      · exact (owns_alloc0 w w.heap.size _ (Nat.le_refl _)).drew
      · exact ((hr1.alloc _).alloc _).drew
      · rw [zi_len]; omega
      · simp; try omega
      intro v1 w1 ho1 hg1 _
      have s1 : Still w w1 := Fr.of_own (((Fr.refl _ w).alloc _).alloc _).drew (owns_alloc0 w w.heap.size _ (Nat.le_refl _)).drew hg1 (Nat.le_refl _)
      have z1 := s1.size
      refine hK.out _ _ ?k21 (fun hHeld21 => ?_)
      case k21 =>
        exact ⟨Still.cell s1 F3, Still.cell s1 CS⟩
      clear hK K
      (try simp only [Act.put, List.setIfInBounds_toArray, List.set_cons_zero, List.set_cons_succ])
      refine wpAnyH_ready (rs := [16]) (by kernel_rfl) (by simp) ?_
      refine AllReadyH.cons rfl (fun K hK => ?st22) AllReadyH.nil
      refine step_append_irow rfl (.tmp 39) (.tmp 41) rfl w.heap.size (0 + (zi l).length) ([] ++ zi l) [(t : Int)] _ _ rfl rfl ?_ ?_ ?_ ?_ ?_
      · exact ho1
      · exact one_grown (blk_new1 w _ [.int .i64 (t : Int)] 3).drew hg1 (by simp)
      · simp only [zi_len, List.length_cons, List.length_nil]; omega
      · exact z1
      intro v2 w2 ho2 hg2 _
      obtain ⟨a2, c2, rfl⟩ := own_shape ho2 (l.length + 1) (by simp [zi_len])
      have s2 : Still w w2 := Fr.of_own s1 ho1 hg2 (Nat.le_refl _)
      have C2 := Still.cell s2 CS
      have Z2 := Still.frz s2 hWl ZW
      refine hK.out _ _ ?k22 (fun hHeld22 => ?_)
      case k22 =>
        exact ⟨Still.cell s2 F3, C2⟩
      clear hK K
      (try simp only [Act.put, List.setIfInBounds_toArray, List.set_cons_zero, List.set_cons_succ])
      refine wpAnyH_take (i := 17) (oi := _) (v := ?v23) rfl (by kernel_rfl) (by kernel_rfl) (by kernel_rfl) (fun _ _ _ h => h) (Or.inl ⟨by rfl, ?y23⟩) (by assumption) ?r23
      case y23 => ((intro w hSw); (try dsimp only at hSw); go_simp; (try with_reducible rfl))
      (try simp only [Act.put, List.setIfInBounds_toArray, List.set_cons_zero, List.set_cons_succ])
      refine wpAnyH_done (by kernel_rfl) (Held.tailQ_normal ?_) _
      have hz : ([] ++ zi l ++ [(t : Int)]) = zi (l ++ [t]) := by simp [zi]
      rw [hz] at ho2
      have hq := (h.still s2).putS hcn (RowX.own ho2 (by simp [zi_len]) hX hlo) HB.out (by have := hsz; simp; omega)
      have hf : Fr Q.X w0 (w2.setCell ⟨Q.S, c0, none⟩ (.slice a2 (l.length + 1) c2)) := f0.trans (Fr.putX (s2.fr _) (.inr (.inr (.inl rfl))) c0 _)
      have hw2 := h.still s2
      have G4 : w2.cell? ⟨Q.p, 4, none⟩ = some (.slice (some ⟨Q.A, 0, none⟩) s.T Q.kA) := hw2.f4
      have CA : w2.cell? ⟨Q.A, t, none⟩ = some (.int .i64 (s.ag.getD t 0)) := hw2.cA (i := t) ht'
      have ZA : w2.frozen? ⟨Q.A, t, none⟩ = false := IBlk.frozen hw2.ha t
      have hpS : Q.p ≠ Q.S := fun e => h.pX (.inr (.inr (.inl e)))
      have hAS : Q.A ≠ Q.S := h.SA.symm
      have hq2 := hq.setA t o ⟨by omega, by show (o : Int) < (s.n : Int); omega⟩
      have hf2 : Fr Q.X w0 ((w2.setCell ⟨Q.S, c0, none⟩ (.slice a2 (l.length + 1) c2)).setCell ⟨Q.A, t, none⟩ (.int .i64 o)) := Fr.putX hf (.inr (.inr (.inr rfl))) t _
      have HQ := hid hq2
      have HF := hid hf2
      clear hq hf hq2 hf2 hz ho2 hg2 F3 CS ZW hr1 hw2
      go_wp2
      go_ret2
      exact ⟨rfl, HQ.out, HF.out⟩
  · skip
    go_simp
    refine hK.out _ _ ?k24 (fun hHeld24 => ?_)
    case k24 =>
      go_keep
    clear hK K
    (try simp only [Act.put, List.setIfInBounds_toArray, List.set_cons_zero, List.set_cons_succ])
    refine wpAnyH_ready (rs := [5]) (by kernel_rfl) (by simp) ?_
    refine AllReadyH.cons rfl (fun K hK => ?st25) AllReadyH.nil
    go_simp
    refine hK.out _ _ ?k25 (fun hHeld25 => ?_)
    case k25 =>
      go_keep
    clear hK K
    (try simp only [Act.put, List.setIfInBounds_toArray, List.set_cons_zero, List.set_cons_succ])
    refine wpAnyH_ready (rs := [13]) (by kernel_rfl) (by simp) ?_
    refine AllReadyH.cons rfl (fun K hK => ?st26) AllReadyH.nil
    refine step_append_irow rfl (.tmp 31) (.tmp 38) rfl w.heap.size 0 [] (zi l) (.slice (some ⟨_, 0, none⟩) 0 0) _ rfl rfl ?_ ?_ ?_ ?_ ?_
    · exact (owns_b1 w _).drew
    · exact ((hr1.alloc _).alloc _).drew
    · rw [zi_len]; omega
    · simp; try omega
    intro v1 w1 ho1 hg1 _
    have s1 : Still w w1 := Fr.of_own (((Fr.refl _ w).alloc _).alloc _).drew (owns_b1 w _).drew hg1 (Nat.le_refl _)
    have z1 := s1.size
    refine hK.out _ _ ?k26 (fun hHeld26 => ?_)
    case k26 =>
      exact ⟨Still.cell s1 F3, Still.cell s1 CS⟩
    clear hK K
    (try simp only [Act.put, List.setIfInBounds_toArray, List.set_cons_zero, List.set_cons_succ])
    refine wpAnyH_ready (rs := [16]) (by kernel_rfl) (by simp) ?_
    refine AllReadyH.cons rfl (fun K hK => ?st27) AllReadyH.nil
    refine step_append_irow rfl (.tmp 39) (.tmp 41) rfl w.heap.size (0 + (zi l).length) ([] ++ zi l) [(t : Int)] _ _ rfl rfl ?_ ?_ ?_ ?_ ?_
    · exact ho1
    · exact one_grown ((Blk.new w [.int .i64 (t : Int)] 3).alloc _).drew hg1 (by simp)
    · simp only [zi_len, List.length_cons, List.length_nil]; omega
    · exact z1
    intro v2 w2 ho2 hg2 _
    obtain ⟨a2, c2, rfl⟩ := own_shape ho2 (l.length + 1) (by simp [zi_len])
    have s2 : Still w w2 := Fr.of_own s1 ho1 hg2 (Nat.le_refl _)
    have C2 := Still.cell s2 CS
    have Z2 := Still.frz s2 hWl ZW
    refine hK.out _ _ ?k27 (fun hHeld27 => ?_)
    case k27 =>
      exact ⟨Still.cell s2 F3, C2⟩
    clear hK K
    (try simp only [Act.put, List.setIfInBounds_toArray, List.set_cons_zero, List.set_cons_succ])
    refine wpAnyH_take (i := 17) (oi := _) (v := ?v28) rfl (by kernel_rfl) (by kernel_rfl) (by kernel_rfl) (fun _ _ _ h => h) (Or.inl ⟨by rfl, ?y28⟩) (by assumption) ?r28
    case y28 => ((intro w hSw); (try dsimp only at hSw); go_simp; (try with_reducible rfl))
    (try simp only [Act.put, List.setIfInBounds_toArray, List.set_cons_zero, List.set_cons_succ])
    refine wpAnyH_done (by kernel_rfl) (Held.tailQ_normal ?_) _
    have hz : ([] ++ zi l ++ [(t : Int)]) = zi (l ++ [t]) := by simp [zi]
    rw [hz] at ho2
    have hq := (h.still s2).putS hcn (RowX.own ho2 (by simp [zi_len]) hX hlo) HB.out (by have := hsz; simp; omega)
    have hf : Fr Q.X w0 (w2.setCell ⟨Q.S, c0, none⟩ (.slice a2 (l.length + 1) c2)) := f0.trans (Fr.putX (s2.fr _) (.inr (.inr (.inl rfl))) c0 _)
    have hw2 := h.still s2
    have G4 : w2.cell? ⟨Q.p, 4, none⟩ = some (.slice (some ⟨Q.A, 0, none⟩) s.T Q.kA) := hw2.f4
    have CA : w2.cell? ⟨Q.A, t, none⟩ = some (.int .i64 (s.ag.getD t 0)) := hw2.cA (i := t) ht'
    have ZA : w2.frozen? ⟨Q.A, t, none⟩ = false := IBlk.frozen hw2.ha t
    have hpS : Q.p ≠ Q.S := fun e => h.pX (.inr (.inr (.inl e)))
    have hAS : Q.A ≠ Q.S := h.SA.symm
    have hq2 := hq.setA t o ⟨by omega, by show (o : Int) < (s.n : Int); omega⟩
    have hf2 : Fr Q.X w0 ((w2.setCell ⟨Q.S, c0, none⟩ (.slice a2 (l.length + 1) c2)).setCell ⟨Q.A, t, none⟩ (.int .i64 o)) := Fr.putX hf (.inr (.inr (.inr rfl))) t _
    have HQ := hid hq2
    have HF := hid hf2
    clear hq hf hq2 hf2 hz ho2 hg2 F3 CS ZW hr1 hw2
    go_wp2
    go_ret2
    exact ⟨rfl, HQ.out, HF.out⟩
end
end Go.Proofs.Ytffjaaolcphonaa
/- The document's locks: Signal. -/
namespace Go.Proofs.Ytffjaaolcphonaa
open Go.RowKit
set_option linter.unusedSimpArgs false
section
variable {w : World} {lo : Nat} {Q : QB} {s : LS}
theorem popL_set {L : List (List Nat)} {i : Nat} (hi : i < L.length) {x : Nat} {ys : List Nat} (h : gl L i = x :: ys) : popL L (i : Int) = L.set i ys := by
  have hE : popE' L (i : Int) = 0 := by unfold popE'; rw [if_pos ⟨by omega, by omega⟩, Int.toNat_natCast, h]; simp
  unfold popL; rw [if_pos hE, Int.toNat_natCast, h]; rfl
theorem ask1E_no {c : Int} (h : ¬ inR c s.n) : ask1E s c = 8 := by unfold ask1E; rw [allR_one, decide_eq_false h]; rfl
theorem ask1E_yes {c : Int} (h : inR c s.n) : ask1E s c = 0 := by unfold ask1E; rw [allR_one, decide_eq_true h]; rfl
set_option maxRecDepth 100000 in
set_option maxHeartbeats 4000000 in
theorem qsignal_some (h : QAt w lo Q s) (hn : Nice s.L) (c : Nat) (hc : c < s.n) (x : Nat) (ys : List Nat) (hx : gl s.L (s.n + c) = x :: ys) (hxT : x < s.T) (b : Bool)
    (hL : ∀ W, QAt W lo Q { s with L := s.L.set (s.n + c) ys } → Calls Try.prog 123 #[.pointer (some ⟨Q.p, 0, none⟩), .int .i64 (s.ag.getD x 0), .int .i64 x] W fun e w' =>
      e = .returned (.tuple #[.bool b, .int .i64 0]) ∧ QAt w' lo Q (sigS s c) ∧ Fr Q.X W w') :
    Calls Try.prog 126 #[.pointer (some ⟨Q.p, 0, none⟩), .int .i64 c] w fun e w' =>
    e = .returned (.tuple #[.int .i64 (if b then (x : Int) else -1), .int .i64 0]) ∧ QAt w' lo Q (sigS s c) ∧ Fr Q.X w w' := by
  have HC := hid (decide_eq_true (p := inR (c : Int) s.n) ⟨by omega, by omega⟩)
  have hci : (c : Int) < (s.n : Int) := by omega
  have hxI : (x : Int) < (s.T : Int) := by omega
  have HL := hid hL
  have hcL : s.n + c < s.L.length := by rw [h.ll]; omega
  have hxy : x ∉ ys := by have := hn.nd (s.n + c) hcL; rw [hx] at this; exact (List.nodup_cons.1 this).1
  have HOU := hid (outL_head hxy)
  have hbd : Hid (∀ y ∈ ys, y < s.T) := hid fun y hy => h.bd (s.n + c) (by omega) y (by rw [hx]; simp [hy])
  have F3 := h.f3
  have hsh := h.sh (s.n + c) (by omega)
  obtain ⟨a, k, CS, hr⟩ := h.hs.row hc
  have ZS := h.hs.frz c
  rw [hx] at CS hsh hr
  simp only [List.length_cons] at CS hsh
  have HR := hid hr.1
  have hSl : Q.S < w.heap.size := World.block_lt_of_cell? _ _ CS
  have hX := h.newX
  have hlo : lo ≤ w.heap.size := by have := h.lp; have := h.hp.lt; omega
  have hl0 : (0 : Int) < ((ys.length + 1 : Nat) : Int) := by omega
  rcases hr.1 with ⟨h0, _⟩ | ⟨_, b0, off, c', hv, hcell⟩
  · simp [zi] at h0
  obtain rfl : a = some ⟨b0, off, none⟩ := by injection hv
  clear hv
  have hx0 := hcell 0 (by simp [zi])
  simp only [zi, List.map_cons, List.getD_cons_zero, Nat.add_zero] at hx0
  clear hcell hr hL hx hxy
  go_enter Try.func126, Try.ntmps126
  go_wp2_with (go_at_call 145; refine (qobject h _).mono ?_; rw [HC.out]; rintro e w' ⟨rfl, rfl⟩)
  refine Held.wp_region_held_tail (S := (fun w' => w'.cell? ⟨Q.p, 3, none⟩ = some (.slice (some ⟨Q.S, 0, none⟩) s.n s.n) ∧ w'.cell? ⟨Q.S, c, none⟩ = some (.slice (some ⟨b0, off, none⟩) (ys.length + 1) k))) 15 (by kernel_rfl) (by kernel_rfl) (by decide) ?hS1 (fun hHeld => ?hR1)
  case hS1 =>
    exact ⟨F3, CS⟩
  simp only [List.take_succ_cons, List.take_zero, List.drop_succ_cons, List.drop_zero]
  refine wpAnyH_take (i := 0) (oi := _) (v := ?v2) rfl (by kernel_rfl) (by kernel_rfl) (by kernel_rfl) (fun _ _ _ h => h) (Or.inl ⟨by rfl, ?y2⟩) (by assumption) ?r2
  case y2 => ((intro w hSw); (try dsimp only at hSw); go_simp; (try with_reducible rfl))
  (try simp only [Act.put, List.setIfInBounds_toArray, List.set_cons_zero, List.set_cons_succ])
  refine wpAnyH_take (i := 1) (oi := _) (v := ?v3) rfl (by kernel_rfl) (by kernel_rfl) (by kernel_rfl) (fun _ _ _ h => h) (Or.inl ⟨by rfl, ?y3⟩) (by assumption) ?r3
  case y3 => ((intro w hSw); (try dsimp only at hSw); go_simp; (try with_reducible rfl))
  (try simp only [Act.put, List.setIfInBounds_toArray, List.set_cons_zero, List.set_cons_succ])
  refine wpAnyH_take (i := 2) (oi := _) (v := ?v4) rfl (by kernel_rfl) (by kernel_rfl) (by kernel_rfl) (fun _ _ _ h => h) (Or.inl ⟨by rfl, ?y4⟩) (by assumption) ?r4
  case y4 => ((intro w hSw); (try dsimp only at hSw); go_simp; (try with_reducible rfl))
  (try simp only [Act.put, List.setIfInBounds_toArray, List.set_cons_zero, List.set_cons_succ])
  refine wpAnyH_take (i := 3) (oi := _) (v := ?v5) rfl (by kernel_rfl) (by kernel_rfl) (by kernel_rfl) (fun _ _ _ h => h) (Or.inl ⟨by rfl, ?y5⟩) (by assumption) ?r5
  case y5 => ((intro w hSw); (try dsimp only at hSw); go_simp; (try with_reducible rfl))
  (try simp only [Act.put, List.setIfInBounds_toArray, List.set_cons_zero, List.set_cons_succ])
  refine wpAnyH_take (i := 4) (oi := _) (v := ?v6) rfl (by kernel_rfl) (by kernel_rfl) (by kernel_rfl) (fun _ _ _ h => h) (Or.inl ⟨by rfl, ?y6⟩) (by assumption) ?r6
  case y6 => ((intro w hSw); (try dsimp only at hSw); go_simp; (try with_reducible rfl))
  (try simp only [Act.put, List.setIfInBounds_toArray, List.set_cons_zero, List.set_cons_succ])
  refine wpAnyH_take (i := 5) (oi := _) (v := ?v7) rfl (by kernel_rfl) (by kernel_rfl) (by kernel_rfl) (fun _ _ _ h => h) (Or.inl ⟨by rfl, ?y7⟩) (by assumption) ?r7
  case y7 => ((intro w hSw); (try dsimp only at hSw); go_simp; (try with_reducible rfl))
  (try simp only [Act.put, List.setIfInBounds_toArray, List.set_cons_zero, List.set_cons_succ])
  refine wpAnyH_take (i := 6) (oi := _) (v := ?v8) rfl (by kernel_rfl) (by kernel_rfl) (by kernel_rfl) (fun _ _ _ h => h) (Or.inl ⟨by rfl, ?y8⟩) (by assumption) ?r8
  case y8 => ((intro w hSw); (try dsimp only at hSw); go_simp; (try with_reducible rfl))
  (try simp only [Act.put, List.setIfInBounds_toArray, List.set_cons_zero, List.set_cons_succ])
  refine wpAnyH_take (i := 7) (oi := _) (v := ?v9) rfl (by kernel_rfl) (by kernel_rfl) (by kernel_rfl) (fun _ _ _ h => h) (Or.inl ⟨by rfl, ?y9⟩) (by assumption) ?r9
  case y9 => ((intro w hSw); (try dsimp only at hSw); go_simp; (try with_reducible rfl))
  (try simp only [Act.put, List.setIfInBounds_toArray, List.set_cons_zero, List.set_cons_succ])
  refine wpAnyH_take (i := 8) (oi := _) (v := ?v10) rfl (by kernel_rfl) (by kernel_rfl) (by kernel_rfl) (fun _ _ _ h => h) (Or.inl ⟨by rfl, ?y10⟩) (by assumption) ?r10
  case y10 => ((intro w hSw); (try dsimp only at hSw); go_simp; (try with_reducible rfl))
  (try simp only [Act.put, List.setIfInBounds_toArray, List.set_cons_zero, List.set_cons_succ])
  refine wpAnyH_take (i := 9) (oi := _) (v := ?v11) rfl (by kernel_rfl) (by kernel_rfl) (by kernel_rfl) (fun _ _ _ h => h) (Or.inl ⟨by rfl, ?y11⟩) (by assumption) ?r11
  case y11 => ((intro w hSw); (try dsimp only at hSw); go_simp; (try with_reducible rfl))
  (try simp only [Act.put, List.setIfInBounds_toArray, List.set_cons_zero, List.set_cons_succ])
  refine wpAnyH_take (i := 10) (oi := _) (v := ?v12) rfl (by kernel_rfl) (by kernel_rfl) (by kernel_rfl) (fun _ _ _ h => h) (Or.inl ⟨by rfl, ?y12⟩) (by assumption) ?r12
  case y12 => ((intro w hSw); (try dsimp only at hSw); go_simp; (try with_reducible rfl))
  (try simp only [Act.put, List.setIfInBounds_toArray, List.set_cons_zero, List.set_cons_succ])
  refine wpAnyH_take (i := 11) (oi := _) (v := ?v13) rfl (by kernel_rfl) (by kernel_rfl) (by kernel_rfl) (fun _ _ _ h => h) (Or.inl ⟨by rfl, ?y13⟩) (by assumption) ?r13
  case y13 => ((intro w hSw); (try dsimp only at hSw); go_simp; (try with_reducible rfl))
  (try simp only [Act.put, List.setIfInBounds_toArray, List.set_cons_zero, List.set_cons_succ])
  refine wpAnyH_take (i := 12) (oi := _) (v := ?v14) rfl (by kernel_rfl) (by kernel_rfl) (by kernel_rfl) (fun _ _ _ h => h) (Or.inl ⟨by rfl, ?y14⟩) (by assumption) ?r14
  case y14 => ((intro w hSw); (try dsimp only at hSw); go_simp; (try with_reducible rfl))
  (try simp only [Act.put, List.setIfInBounds_toArray, List.set_cons_zero, List.set_cons_succ])
  refine wpAnyH_ready (rs := [13]) (by kernel_rfl) (by simp) ?_
  refine AllReadyH.cons rfl (fun K hK => ?st15) AllReadyH.nil
  go_simp
  go_at_call 149
  refine (qout _ _ (x :: ys) x (HR.out.still ((Fr.refl _ w).drew)) (by simp; omega)).mono ?_
  rw [HOU.out]
  rintro e w5 ⟨a5, c5, rfl, ho5, hs5'⟩
  have hs5 : Still w w5 := ((Fr.refl _ w).drew).trans hs5'
  have CS5 := Still.cell hs5 CS
  have ZS5 := Still.frz hs5 hSl ZS
  refine hK.out _ _ ?k15 (fun hHeld15 => ?_)
  case k15 =>
    exact ⟨Still.cell hs5 F3, CS5⟩
  clear hK K
  (try simp only [Act.put, List.setIfInBounds_toArray, List.set_cons_zero, List.set_cons_succ])
  refine wpAnyH_take (i := 14) (oi := _) (v := ?v16) rfl (by kernel_rfl) (by kernel_rfl) (by kernel_rfl) (fun _ _ _ h => h) (Or.inl ⟨by rfl, ?y16⟩) (by assumption) ?r16
  case y16 => ((intro w hSw); (try dsimp only at hSw); go_simp; (try with_reducible rfl))
  (try simp only [Act.put, List.setIfInBounds_toArray, List.set_cons_zero, List.set_cons_succ])
  refine wpAnyH_done (by kernel_rfl) (Held.tailQ_normal ?_) _
  have h5 := h.still hs5
  have hq := h5.putS hc (RowX.own ho5 (by simp [zi_len]) hX hlo) hbd.out (by omega)
  have hf : Fr Q.X w (w5.setCell ⟨Q.S, c, none⟩ (.slice a5 ys.length c5)) := Fr.putX (hs5.fr _) (.inr (.inr (.inl rfl))) c _
  have G4 := h5.f4
  have CA := h5.cA hxT
  have hpS : Q.p ≠ Q.S := fun e => h.pX (.inr (.inr (.inl e)))
  have hAS : Q.A ≠ Q.S := h.SA.symm
  have HQ := hid (HL.out _ hq)
  have HF := hid hf
  clear hq hf ho5 hs5 hs5' h5 hX F3 CS hx0 ZS
  obtain ⟨v, hv⟩ : ∃ v, s.ag.getD x 0 = v := ⟨_, rfl⟩
  rw [hv] at CA HQ
  clear hv
  cases b
  all_goals
    go_wp2_with (go_at_call 123; refine HQ.out.mono ?_; rintro e w6 ⟨rfl, h6, f6⟩)
    go_ret2
    exact ⟨rfl, h6, HF.out.trans f6⟩
set_option maxRecDepth 100000 in
set_option maxHeartbeats 1000000 in
theorem qsignal (h : QAt w lo Q s) (hi : LInv s) (c : Int) : Calls Try.prog 126 #[.pointer (some ⟨Q.p, 0, none⟩), .int .i64 c] w fun e w' =>
    e = .returned (.tuple #[.int .i64 (signalT s c), .int .i64 (ask1E s c)]) ∧ QAt w' lo Q (signalS s c) ∧ Fr Q.X w w' := by
  by_cases hc : inR c s.n
  case neg =>
    unfold signalT signalS; rw [ask1E_no hc, if_neg (by decide), if_neg (by decide)]
    have HC := hid (decide_eq_false hc)
    clear hc
    go_enter Try.func126, Try.ntmps126
    go_wp2_with (go_at_call 145; refine (qobject h _).mono ?_; rw [HC.out]; rintro e w' ⟨rfl, rfl⟩)
    go_ret2
    exact ⟨rfl, h, Fr.refl _ _⟩
  have hE := ask1E_yes hc
  unfold signalT signalS; rw [hE, if_pos rfl, if_pos rfl]
  obtain ⟨c, rfl⟩ := Int.eq_ofNat_of_zero_le hc.1
  rw [Int.toNat_natCast]
  have hcn : c < s.n := by have := hc.2; omega
  cases hg : gl s.L (s.n + c) with
  | nil =>
    have hT : sigT s c = -1 := by unfold sigT; rw [if_pos hg]
    have hS : sigS s c = s := by unfold sigS; rw [if_pos hg]
    rw [hT, hS]
    have HC := hid (decide_eq_true hc)
    have F3 := h.f3
    obtain ⟨a, k, CS, _⟩ := h.hs.row hcn
    rw [hg] at CS
    simp only [List.length_nil] at CS
    have hci : (c : Int) < (s.n : Int) := by omega
    clear hc hE hg hT hS
    go_enter Try.func126, Try.ntmps126
    go_wp2_with (go_at_call 145; refine (qobject h _).mono ?_; rw [HC.out]; rintro e w' ⟨rfl, rfl⟩)
    go_ret2
    exact ⟨rfl, h, Fr.refl _ _⟩
  | cons x ys =>
    obtain ⟨a1, a2, a3, a4⟩ := hi.sig_head hcn hg
    have hcL : s.n + c < s.L.length := by rw [h.ll]; omega
    have hp := popL_set hcL hg
    have hh : sigH s c = x := by unfold sigH; rw [hg]; rfl
    have hne : gl s.L (s.n + c) ≠ [] := by rw [hg]; simp
    have hS : sigS s c = getS { s with L := s.L.set (s.n + c) ys } (s.ag.getD x 0).toNat x := by unfold sigS; rw [if_neg hne, hh, hp]
    have hT : sigT s c = if getB s (s.ag.getD x 0).toNat then (x : Int) else -1 := by unfold sigT; rw [if_neg hne, hh]
    rw [hT]
    have hag := h.wf x a1
    have hn2 : Nice (s.L.set (s.n + c) ys) := nice_sub hi.nc (by simp) (gl_sub_set (by rw [hg]; exact List.sublist_cons_self _ _))
    rw [hp] at a2
    have hwI : whI s.T (s.L.set (s.n + c) ys) (x : Int) < 0 := by unfold whI; split <;> (try rw [Int.toNat_natCast, a2]) <;> omega
    have hLE : lockE { s with L := s.L.set (s.n + c) ys } (s.ag.getD x 0) x = 0 := lockE_0 hag ⟨by omega, by show (x : Int) < s.T; omega⟩ hwI a3
    refine qsignal_some h hi.nc c hcn x ys hg a1 _ fun W hW => ?_
    have := qlock hW hn2 (s.ag.getD x 0) x
    unfold lockB lockS at this
    rw [hLE, if_pos rfl, if_pos rfl, ← hS] at this
    exact this
end
end Go.Proofs.Ytffjaaolcphonaa
