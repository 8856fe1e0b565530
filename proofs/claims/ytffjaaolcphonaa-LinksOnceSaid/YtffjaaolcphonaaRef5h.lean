/- The document's links: New, Copy. -/
import Derived.Test.YtffjaaolcphonaaRef5g
namespace Go.Proofs.Ytffjaaolcphonaa
open Go.RowKit
set_option linter.unusedSimpArgs false
def nils (n : Nat) : List Value := List.replicate n (.slice none 0 0)
theorem info28 : (Try.prog.info? 28).map (fun i => (i.zero, i.size, i.bytes)) = some (some (.slice none 0 0), 1, 24) := by kernel_rfl
theorem mk_nils (n : Nat) (hn : n ≤ 1000000) : ∀ w, (Instr.makeSlice 124 (.int .i64 (n : Int)) (.int .i64 (n : Int))).run Try.prog w = .ok (.slice (some ⟨w.heap.size, 0, none⟩) n n) (w.alloc (.cells (nils n).toArray 28)) := by
  intro w
  obtain ⟨i0, hi, hz0, hz1, hz2⟩ := info_parts info28
  have := run_make (P := Try.prog) w 124 28 i0 _ Try.underlying124 hi hz0 .i64 .i64 (n : Int) (n : Int) (by omega) (by omega) (by rw [hz2]; omega) (by omega)
  rw [this, hz1, Int.toNat_natCast, Nat.mul_one]
  have e : madeCells (Value.slice none 0 0).cells n = (nils n).toArray := by
    show madeCells #[.slice none 0 0] n = _
    apply Array.ext'
    rw [toList_madeCells_one]; simp [nils]
  rw [e]
theorem gl_rep (m i : Nat) : gl (List.replicate m []) i = [] := by
  unfold gl; simp only [List.getD_eq_getElem?_getD, List.getElem?_replicate]; split <;> rfl
theorem refAt_new {w : World} {lo p R T m : Nat} (hp : Blk w p [.int .i64 T, .slice (some ⟨R, 0, none⟩) m m] 126) (hR : Blk w R (nils m) 28) (hpR : p ≠ R) (lp : lo ≤ p) (lR : lo ≤ R) (t1 : T ≤ 4096) (m1 : m ≤ 4096) :
    RefAt w lo p R T (List.replicate m []) :=
  { hp := by simpa using hp, pR := hpR, lp := lp, lR := lR, t1 := t1, m1 := by simpa using m1
    rows := ⟨nils m, by simp [nils], hR, fun i hi => by
      rw [gl_rep]
      rw [show (nils m).getD i undef = .slice none 0 0 by simp at hi; simp [nils, List.getD, hi]]
      exact RowIn.nil _ _ _ _⟩
    bd := fun i _ x hx => by rw [gl_rep] at hx; simp at hx
    sh := fun i _ => by rw [gl_rep]; simp }
/-- New links of the document's came back. -/
def RMade (w : World) (T : Nat) (L : List (List Nat)) (e : Ending) (w' : World) : Prop := ∃ p R, e = .returned (.pointer (some ⟨p, 0, none⟩)) ∧ RefAt w' w.heap.size p R T L ∧ Still w w'
theorem rnew_ok (w : World) (t m : Nat) (t0 : 1 ≤ t) (t1 : t ≤ 4096) (m0 : 1 ≤ m) (m1 : m ≤ 4096) : Calls Try.prog 27 #[.int .i64 t, .int .i64 m] w (RMade w t (List.replicate m [])) := by
  have a1 : ¬ (t : Int) < 1 := by omega
  have a2 : ¬ (4096 : Int) < (t : Int) := by omega
  have a3 : ¬ (m : Int) < 1 := by omega
  have a4 : ¬ (4096 : Int) < (m : Int) := by omega
  have HM := mk_nils m (by omega)
  go_enter Try.func27, Try.ntmps27
  go_wp2
  go_ret
  refine ⟨w.heap.size + 1, w.heap.size, rfl, refAt_new ?_ ?_ (by omega) (by omega) (by omega) t1 m1, ((Fr.refl _ _).alloc _).alloc _⟩
  · exact blk_new1 w _ [_, _] 126
  · exact (Blk.new w (nils m) 28).alloc _
def badN (t m : Int) : Prop := t < 1 ∨ 4096 < t ∨ m < 1 ∨ 4096 < m
theorem rnew_no (w : World) (t m : Int) (h : badN t m) : Calls Try.prog 27 #[.int .i64 t, .int .i64 m] w fun e w' => e = .returned (.pointer none) ∧ w = w' := by
  by_cases h1 : t < 1
  · clear h
    go_enter Try.func27, Try.ntmps27
    go_wp2
    go_ret
    exact ⟨rfl, rfl⟩
  · by_cases h2 : 4096 < t
    · clear h
      go_enter Try.func27, Try.ntmps27
      go_wp2
      go_ret
      exact ⟨rfl, rfl⟩
    · by_cases h3 : m < 1
      · clear h
        go_enter Try.func27, Try.ntmps27
        go_wp2
        go_ret
        exact ⟨rfl, rfl⟩
      · have h4 : 4096 < m := by unfold badN at h; omega
        clear h
        go_enter Try.func27, Try.ntmps27
        go_wp2
        go_ret
        exact ⟨rfl, rfl⟩
theorem take_set (L : List (List Nat)) (j : Nat) (hj : j < L.length) : (L.take j ++ List.replicate (L.length - j) []).set j (gl L j) = L.take (j + 1) ++ List.replicate (L.length - (j + 1)) [] := by
  rw [List.set_append, if_neg (by simp; omega), List.length_take, Nat.min_eq_left (by omega), Nat.sub_self, show L.length - j = (L.length - (j + 1)) + 1 by omega, List.replicate_succ, List.set_cons_zero, List.take_succ_eq_append_getElem hj, List.append_assoc]
  simp [gl, hj]
section
variable {w : World} {lo p R T : Nat} {L : List (List Nat)}
set_option maxRecDepth 100000 in
set_option maxHeartbeats 4000000 in
theorem rcopy (h : RefAt w lo p R T L) : Calls Try.prog 39 #[.pointer (some ⟨p, 0, none⟩)] w (RMade w T L) := by
  have F0 := h.f0
  have F1 := h.f1
  have hpl : p < w.heap.size := World.block_lt_of_cell? _ _ F1
  have m1 := h.m1
  have HM := mk_nils L.length (by have := h.m1; omega)
  go_enter Try.func39, Try.ntmps39
  go_wp2_with fail
  go_region_held3 (fun w' => w'.cell? ⟨p, 0, none⟩ = some (.int .i64 T) ∧ w'.cell? ⟨p, 1, none⟩ = some (.slice (some ⟨R, 0, none⟩) L.length L.length))
    (go_keep) (fail)
  have hW : RefAt (((w.alloc (.cells (nils L.length).toArray 28)).alloc (.cells #[.int .i64 T, .slice (some ⟨w.heap.size, 0, none⟩) L.length L.length] 126)).drew) w.heap.size (w.heap.size + 1) w.heap.size T (List.replicate L.length []) :=
    refAt_new (blk_new1 w _ [_, _] 126).drew ((Blk.new w (nils L.length) 28).alloc _).drew (by omega) (by omega) (by omega) h.t1 h.m1
  have hs : Still w (((w.alloc (.cells (nils L.length).toArray 28)).alloc (.cells #[.int .i64 T, .slice (some ⟨w.heap.size, 0, none⟩) L.length L.length] 126)).drew) := (((Fr.refl _ _).alloc _).alloc _).drew
  have F1' := Still.cell hs F1
  have HH := hid h
  have HM' := hid HM
  clear HM
  go_wp2_with fail
  go_loopw [23] (fun c wr => ∃ j : Nat, c = .int .i64 j ∧ j ≤ L.length ∧ RefAt wr w.heap.size (w.heap.size + 1) w.heap.size T (L.take j ++ List.replicate (L.length - j) []) ∧ Still w wr) (fun c _ => L.length - (intOf c).toNat)
  case atStart => exact ⟨0, rfl, Nat.zero_le _, by simpa using hW, hs⟩
  case round =>
    clear hW hs F1'
    obtain ⟨j, rfl, hj, hW, hs⟩ := hrel
    by_cases hlt : j < L.length
    · have hlt' : (j : Int) < (L.length : Int) := by omega
      have hln : (L.take j ++ List.replicate (L.length - j) []).length = L.length := by simp; omega
      have hr0 := HH.out.row hlt
      obtain ⟨a, c, C1, hr⟩ := hr0
      have C1' := Still.cell hs C1
      have hr1 := hr.1.still hs
      have hsl := HH.out.sh j hlt
      have E1 := hW.f1
      obtain ⟨_, _, D1, _⟩ := hW.row (i := j) (by omega)
      have Z := hW.frz j
      rw [hln] at E1
      have hz := hs.size
      have hw1 : w.heap.size + 1 < wr.heap.size := World.block_lt_of_cell? _ _ E1
      have HTS := hid (take_set L j hlt)
      clear C1 hr hln
      obtain ⟨l, hl⟩ : ∃ l, gl L j = l := ⟨_, rfl⟩
      have HL := hid hl
      rw [hl] at C1' hr1 hsl HTS
      clear hl
      go_wp2_with fail
      refine Held.wp_region_held_tail (S := (fun w' => w'.cell? ⟨w.heap.size + 1, 1, none⟩ = some (.slice (some ⟨w.heap.size, 0, none⟩) L.length L.length))) 9 (by kernel_rfl) (by kernel_rfl) (by decide) ?hS1 (fun hHeld => ?hR1)
      case hS1 =>
        exact E1
      simp only [List.take_succ_cons, List.take_zero, List.drop_succ_cons, List.drop_zero]
      refine wpAnyH_take (i := 0) (oi := _) (v := ?v2) rfl (by kernel_rfl) (by kernel_rfl) (by kernel_rfl) (fun _ _ _ h => h) (Or.inl ⟨by rfl, ?y2⟩) (by assumption) ?r2
      case y2 => ((intro w hSw); (try dsimp only at hSw); go_simp; (try with_reducible rfl))
      (try simp only [Act.put, List.setIfInBounds_toArray, List.set_cons_zero, List.set_cons_succ])
      refine wpAnyH_take (i := 1) (oi := _) (v := ?v3) rfl (by kernel_rfl) (by kernel_rfl) (by kernel_rfl) (fun _ _ _ h => h) (Or.inl ⟨by rfl, ?y3⟩) (by assumption) ?r3
      case y3 => ((intro w hSw); (try dsimp only at hSw); go_simp; (try with_reducible rfl))
      (try simp only [Act.put, List.setIfInBounds_toArray, List.set_cons_zero, List.set_cons_succ])
      refine wpAnyH_take (i := 2) (oi := _) (v := ?v4) rfl (by kernel_rfl) (by kernel_rfl) (by kernel_rfl) (fun _ _ _ h => h) (Or.inl ⟨by rfl, ?y4⟩) (by assumption) ?r4
      case y4 => ((intro w hSw); (try dsimp only at hSw); go_simp; (try with_reducible rfl))
      (try simp only [Act.put, List.setIfInBounds_toArray, List.set_cons_zero, List.set_cons_succ])
      refine wpAnyH_take (i := 3) (oi := _) (v := ?v5) rfl (by kernel_rfl) (by kernel_rfl) (by kernel_rfl) (fun _ _ _ h => h) (Or.inl ⟨by rfl, ?y5⟩) (by assumption) ?r5
      case y5 => ((intro w hSw); (try dsimp only at hSw); go_simp; (try with_reducible rfl))
      (try simp only [Act.put, List.setIfInBounds_toArray, List.set_cons_zero, List.set_cons_succ])
      refine wpAnyH_take (i := 4) (oi := _) (v := ?v6) rfl (by kernel_rfl) (by kernel_rfl) (by kernel_rfl) (fun _ _ _ h => h) (Or.inl ⟨by rfl, ?y6⟩) (by assumption) ?r6
      case y6 => ((intro w hSw); (try dsimp only at hSw); go_simp; (try with_reducible rfl))
      (try simp only [Act.put, List.setIfInBounds_toArray, List.set_cons_zero, List.set_cons_succ])
      refine wpAnyH_take (i := 6) (oi := _) (v := ?v7) rfl (by kernel_rfl) (by kernel_rfl) (by kernel_rfl) (fun _ _ _ h => h) (Or.inl ⟨by rfl, ?y7⟩) (by assumption) ?r7
      case y7 => ((intro w hSw); (try dsimp only at hSw); go_simp; (try with_reducible rfl))
      (try simp only [Act.put, List.setIfInBounds_toArray, List.set_cons_zero, List.set_cons_succ])
      refine wpAnyH_ready (rs := [5]) (by kernel_rfl) (by simp) ?_
      refine AllReadyH.cons rfl (fun K hK => ?st8) AllReadyH.nil
      go_simp
      refine hK.out _ _ ?k8 (fun hHeld8 => ?_)
      case k8 =>
        go_keep
      clear hK K
      (try simp only [Act.put, List.setIfInBounds_toArray, List.set_cons_zero, List.set_cons_succ])
      refine wpAnyH_ready (rs := [7]) (by kernel_rfl) (by simp) ?_
      refine AllReadyH.cons rfl (fun K hK => ?st9) AllReadyH.nil
      refine step_append_irow rfl (.tmp 33) (.tmp 34) rfl wr.heap.size 0 [] (zi l) (.slice (some ⟨_, 0, none⟩) 0 0) _ rfl rfl ?_ ?_ ?_ ?_ ?_
      · exact (owns_b wr _ (Nat.le_refl _)).drew
      · exact (hr1.alloc _).drew
      · rw [zi_len]; omega
      · simp; try omega
      intro v2 w2 ho2 hg2 _
      obtain ⟨a2, c2, rfl⟩ := own_shape ho2 l.length (by simp [zi_len])
      have s2 : Still wr w2 := Fr.of_own ((Fr.refl _ wr).alloc _).drew (owns_b wr _ (Nat.le_refl _)).drew hg2 (Nat.le_refl _)
      have C2 := Still.cell s2 D1
      have Z2 := Still.frz s2 (by omega) Z
      refine hK.out _ _ ?k9 (fun hHeld9 => ?_)
      case k9 =>
        exact Still.cell s2 E1
      clear hK K
      (try simp only [Act.put, List.setIfInBounds_toArray, List.set_cons_zero, List.set_cons_succ])
      refine wpAnyH_take (i := 8) (oi := _) (v := ?v10) rfl (by kernel_rfl) (by kernel_rfl) (by kernel_rfl) (fun _ _ _ h => h) (Or.inl ⟨by rfl, ?y10⟩) (by assumption) ?r10
      case y10 => ((intro w hSw); (try dsimp only at hSw); go_simp; (try with_reducible rfl))
      (try simp only [Act.put, List.setIfInBounds_toArray, List.set_cons_zero, List.set_cons_succ])
      refine wpAnyH_done (by kernel_rfl) (Held.tailQ_normal ?_) _
      go_wp2_with fail
      go_roundw
      case rel =>
        refine ⟨j + 1, by go_num, by omega, ?_, (hs.trans s2).setCell (.inr (Nat.le_refl _)) _⟩
        rw [← HTS.out]
        exact (hW.still s2).put (RowIn.own (by simpa using ho2) (by simp [zi_len]) (by omega) (by omega) rfl) (fun x hx => HH.out.bd j hlt x (by rw [HL.out]; exact hx)) (by omega)
      case measure => simp [intOf]; omega
    · have hjl : j = L.length := by omega
      subst hjl
      rw [List.take_length, Nat.sub_self, List.replicate_zero, List.append_nil] at hW
      go_wp2_with fail
      go_ret
      exact ⟨_, _, rfl, hW, hs⟩
end
end Go.Proofs.Ytffjaaolcphonaa
