/- The law's 'all': a list's things, collected. -/
import Derived.Test.YtffjaaolcphonaaRange
namespace Go.Proofs.Ytffjaaolcphonaa
open Go.RowKit Go.Shelf
attribute [local go_sem] Oper.semAt_some
set_option maxRecDepth 100000 in
set_option maxHeartbeats 2000000 in
theorem all_law (w : World) (i : Nat) (B : LB) (r : Raw) (xs : List Nat) (hR : RawAt w B r) (hi : i < r.count.length) (q0 : Nat) (hq0 : r.next.getD (r.things + i) 0 = (q0 : Int)) (hL : Seq r.next (r.things + i) q0 xs) (hx : xs.length ≤ 10000) (hxt : ∀ x ∈ xs, x < r.things) :
    Calls Try.prog 23 #[.pointer (some ⟨B.p, 0, none⟩), .int .i64 i] w fun e W' => ∃ v, e = .returned (.tuple #[v, .bool true]) ∧ W'.ownsRow w.heap.size 3 1 v xs.length (tv xs) ∧ Below w.heap.size w W' := by
  obtain ⟨i0, ti, tz0, tz1, tz2⟩ := info_parts info3
  have HI := hid ti
  have HZ0 := hid tz0
  have HZ1 := hid tz1
  have HZ2 := hid tz2
  clear ti tz0 tz1 tz2
  have HQ := hid hq0
  have HL := hid hL
  clear hq0 hL
  have hRlt := hR.hp.lt
  have hNlt := hR.hn.lt
  refine (callsIn_wide (n := 4)).1 ?_
  refine callsIn_of_wp_marks Try.func23 rfl trivial ?_ rfl
  simp only [Try.ntmps23, List.size_toArray, List.length_cons, List.length_nil, Nat.reduceAdd, Nat.reduceSub, Array.replicate_succ, Array.replicate_zero, List.push_toArray, List.append_toArray, List.nil_append, List.cons_append]
  have HNF := func_nil 120 rfl
  gi_wp2_with (refine ⟨trivial, ?_⟩; gi_at_call 78; refine (callsIn_wide.2 (all_any _ _ _)).mono ?_; rintro e w' ⟨rfl, rfl⟩)
  obtain ⟨W0, hW0⟩ : ∃ W0, ((w.alloc (.cells #[.pointer (some ⟨B.p, 0, none⟩)] 23)).alloc (.cells #[.int .i64 (i : Int)] 3)).alloc (.cells #[.slice none 0 0] 28) = W0 := ⟨_, rfl⟩
  have hS0 : W0.heap.size = w.heap.size + 1 + 1 + 1 := by rw [← hW0]; simp
  have bP : Box W0 w.heap.size (.pointer (some ⟨B.p, 0, none⟩)) 23 := by rw [← hW0]; exact ((box_new w _ _).alloc _).alloc _
  have bI : Box W0 (w.heap.size + 1) (.int .i64 (i : Int)) 3 := by rw [← hW0]; have := (box_new (w.alloc (.cells #[.pointer (some ⟨B.p, 0, none⟩)] 23)) (.int .i64 (i : Int)) 3).alloc (.cells #[.slice none 0 0] 28); simpa using this
  have bO : Boxed W0 (w.heap.size + 1 + 1) 28 (.slice none 0 0) := by rw [← hW0]; have := Boxed.new ((w.alloc (.cells #[.pointer (some ⟨B.p, 0, none⟩)] 23)).alloc (.cells #[.int .i64 (i : Int)] 3)) 28 (.slice none 0 0); simpa using this
  have hB0 : Below w.heap.size w W0 := by rw [← hW0]; exact (((Below.refl _ w).alloc (Nat.le_refl _) _).alloc (by simp) _).alloc (by simp; omega) _
  have hR0 : RawAt W0 B r := hR.still (Fr.of_below0 hB0 _)
  rw [hW0]
  refine range_one (n := r.things) (xs := xs) rfl (by simp) (all_stops W0 w.heap.size (w.heap.size + 1) i r.things B r xs bP bI hR0 hi q0 HQ.out HL.out hxt) Kb.trans (kb_b (fun k hk => by rw [hS0]; simp only [aK] at hk; omega))
    (fun pre W => (∃ v, Boxed W (w.heap.size + 1 + 1) 28 v ∧ W.ownsRow (w.heap.size + 1 + 1) 3 1 v pre.length (tv pre) ∧ True) ∧ Below (w.heap.size + 1 + 1) W0 W)
    (OwnFrom.and (Own.from (holdsRow_own (w.heap.size + 1 + 1) (w.heap.size + 1 + 1) 28 3 1 List.length tv (fun _ _ => True)) _) (ownFrom_below (by omega) (by omega)))
    ⟨⟨_, bO, World.ownsRow_nil _ _ _ _, trivial⟩, Below.refl _ _⟩ ?body ?done
  case body =>
    rintro l pre x W ⟨⟨v, hv, hrow, _⟩, hB⟩ hlen _
    simp only [List.setIfInBounds_toArray, List.set_cons_succ, List.set_cons_zero]
    have hc := hv.cell
    have hf := hv.frozen
    have hz := hB.size
    gi_wp2_with (gi_at_builtin; refine wpListIn_append_own _ rfl _ _ 28 rfl (w.heap.size + 1 + 1) 3 i0 (.int .i64 0) 1 8 Try.underlying28 HI.out HZ0.out HZ1.out HZ2.out rfl (by decide) _ _ _ rfl (hrow.alloc _) ⟨W.heap.size, 0, none⟩ 1 1 [.int .i64 (x : Int)] rfl rfl (cell_one_new _ _ _) (by simp [Value.oneCell']) (by unfold maxLen; omega) (by omega) (by simp; omega) ?_; intro v' w1 hown' hgrow _; obtain ⟨g', cap', rfl⟩ := ownsRow_succ hown'; obtain ⟨hv1, hv2, hr2, hk2, hb2⟩ := hv.appended (by decide) hrow (by omega) (Nat.le_refl _) hown' hgrow; have hc1 := hv1.cell; have hf1 := hv1.frozen)
    refine ⟨rfl, hk2.from _, ?_, ⟨_, hv2, ?_, trivial⟩, hB.trans hb2⟩
    · intro k hk
      exact hb2.block k (by simp only [aK] at hk; omega)
    · rw [tv_snoc]; simpa using hr2
  case done =>
    rintro D W hD ⟨⟨v, hv, hrow, _⟩, hB⟩ hK
    have hc := hv.cell
    gi_wp2
    refine ⟨by simp, .inl ⟨_, _, rfl, run_takeDeferred hK, ?_⟩⟩
    exact ⟨_, results_tmp2 rfl _ _ _, v, rfl, ownsRow_base (ownsRow_putObj hrow _ hK rfl) (by omega), hB0.trans ((hB.mono (by omega)).trans (belowK_b (w := w) (Nat.le_refl _) W D _ _ (by omega) hK rfl rfl))⟩
end Go.Proofs.Ytffjaaolcphonaa
