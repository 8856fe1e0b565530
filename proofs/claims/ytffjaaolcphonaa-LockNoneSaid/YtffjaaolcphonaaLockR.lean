/- The locks' row: who stands in a list. -/
import Derived.Test.YtffjaaolcphonaaLock4
import Derived.Test.YtffjaaolcphonaaMoves
import Derived.Test.YtffjaaolcphonaaRange
namespace Go.Proofs.Ytffjaaolcphonaa
open Go.RowKit Go.Shelf
attribute [local go_sem] Oper.semAt_some

set_option maxRecDepth 100000 in
set_option maxHeartbeats 2000000 in
theorem lkrow0 (w : World) (K : KB) (s : LS) (h : LkAt w K s) (i : Nat) (hi' : i < s.L.length) :
    Calls Try.prog 121 #[.pointer (some ⟨K.P, 0, none⟩), .int .i64 i] w fun e W' => ∃ v, e = .returned v ∧ W'.ownsRow w.heap.size 3 1 v (gl s.L i).length (tv (gl s.L i)) ∧ Below w.heap.size w W' := by
  obtain ⟨r, hR, hv, hrt⟩ := h.hl
  have hlen : (gl s.L i).length ≤ 10000 := by have := hv.le hi'; have := hR.t1; omega
  obtain ⟨q0, hq0, hseq⟩ := hv.seq hR.sz hi'
  have hxt := hid (fun x (hx : x ∈ gl s.L i) => (hv.yes i x hi' hx).1)
  have hic := hv.len ▸ hi'
  obtain ⟨xs, hxs⟩ : ∃ xs, gl s.L i = xs := ⟨_, rfl⟩
  rw [hxs] at hlen hseq hxt ⊢
  have HQ := hid hq0
  have HL := hid hseq
  obtain ⟨i0, ti, tz0, tz1, tz2⟩ := info_parts info3
  have HI := hid ti
  have HZ0 := hid tz0
  have HZ1 := hid tz1
  have HZ2 := hid tz2
  clear ti tz0 tz1 tz2 hq0 hseq hxs hrt
  have hRlt := hR.hp.lt
  have hNlt := hR.hn.lt
  have hPlt := h.hp.lt
  refine (callsIn_wide (n := 4)).1 ?_
  refine callsIn_of_wp_marks Try.func121 rfl trivial ?_ rfl
  simp only [Try.ntmps121, List.size_toArray, List.length_cons, List.length_nil, Nat.reduceAdd, Nat.reduceSub, Array.replicate_succ, Array.replicate_zero, List.push_toArray, List.append_toArray, List.nil_append, List.cons_append]
  have h0 : LkAt (w.alloc (.cells #[.slice none 0 0] 28)) K s := h.still ((Still.refl w).alloc _)
  have cl := h0.f2
  gi_wp2_with (first | (refine ⟨trivial, ?_⟩; gi_at_call 78; refine (callsIn_wide.2 (all_any _ _ _)).mono ?_; rintro e w' ⟨rfl, rfl⟩))
  obtain ⟨W0, hW0⟩ : ∃ W0, ((w.alloc (.cells #[.slice none 0 0] 28)).alloc (.cells #[.pointer (some ⟨K.B.p, 0, none⟩)] 23)).alloc (.cells #[.int .i64 (i : Int)] 3) = W0 := ⟨_, rfl⟩
  have hS0 : W0.heap.size = w.heap.size + 1 + 1 + 1 := by rw [← hW0]; simp
  have bO : Boxed W0 w.heap.size 28 (.slice none 0 0) := by rw [← hW0]; exact ((Boxed.new w 28 _).alloc _).alloc _
  have bP : Box W0 (w.heap.size + 1) (.pointer (some ⟨K.B.p, 0, none⟩)) 23 := by rw [← hW0]; have := (box_new (w.alloc (.cells #[.slice none 0 0] 28)) (.pointer (some ⟨K.B.p, 0, none⟩)) 23).alloc (.cells #[.int .i64 (i : Int)] 3); simpa using this
  have bI : Box W0 (w.heap.size + 1 + 1) (.int .i64 (i : Int)) 3 := by rw [← hW0]; have := box_new ((w.alloc (.cells #[.slice none 0 0] 28)).alloc (.cells #[.pointer (some ⟨K.B.p, 0, none⟩)] 23)) (.int .i64 (i : Int)) 3; simpa using this
  have hB0 : Below w.heap.size w W0 := by rw [← hW0]; exact (((Below.refl _ w).alloc (Nat.le_refl _) _).alloc (by simp) _).alloc (by simp; omega) _
  have hR0 : RawAt W0 K.B r := hR.still (Fr.of_below0 hB0 _)
  rw [hW0]
  refine range_one (n := r.things) (xs := xs) rfl (by simp) (all_stops W0 (w.heap.size + 1) (w.heap.size + 1 + 1) i r.things K.B r xs bP bI hR0 hic q0 HQ.out HL.out hxt.out) Kb.trans (kb_b (fun k hk => by rw [hS0]; simp only [aK] at hk; omega))
    (fun pre W => (∃ v, Boxed W w.heap.size 28 v ∧ W.ownsRow (w.heap.size + 1 + 1 + 1) 3 1 v pre.length (tv pre) ∧ True) ∧ Fr (fun k => k = w.heap.size) W0 W)
    ?own ⟨⟨_, bO, World.ownsRow_nil _ _ _ _, trivial⟩, Fr.refl _ _⟩ ?body ?done
  case own =>
    refine OwnFrom.and (Own.from (holdsRow_own (w.heap.size + 1 + 1 + 1) w.heap.size 28 3 1 List.length tv (fun _ _ => True)) _) ?_
    intro pre A A' row hf hg hrow
    exact hf.then (Fr.of_grownBy hg (F := fun k => W0.heap.size ≤ k) (fun k e _ => (hrow k e).1)) (fun i hi h => by omega)
  case body =>
    rintro l pre x W ⟨⟨v, hv, hrow, _⟩, hB⟩ hlen _
    simp only [List.setIfInBounds_toArray, List.set_cons_succ, List.set_cons_zero]
    have hc := hv.cell
    have hf := hv.frozen
    have hz := hB.size
    gi_wp2_with (gi_at_builtin; refine wpListIn_append_own _ rfl _ _ 28 rfl (w.heap.size + 1 + 1 + 1) 3 i0 (.int .i64 0) 1 8 Try.underlying28 HI.out HZ0.out HZ1.out HZ2.out rfl (by decide) _ _ _ rfl (hrow.alloc _) ⟨W.heap.size, 0, none⟩ 1 1 [.int .i64 (x : Int)] rfl rfl (cell_one_new _ _ _) (by simp [Value.oneCell']) (by unfold maxLen; omega) (by omega) (by simp; omega) ?_; intro v' w1 hown' hgrow _; obtain ⟨g', cap', rfl⟩ := ownsRow_succ hown'; obtain ⟨hv1, hv2, hr2, hk2, hf2⟩ := appended_fr hv (by decide) hrow (by omega) hown' hgrow; have hc1 := hv1.cell; have hf1 := hv1.frozen)
    refine ⟨rfl, hk2.from _, ?_, ⟨_, hv2, ?_, trivial⟩, hB.then hf2 (fun k hk h => by rcases h with h | h <;> omega)⟩
    · exact Kb.of_fr hf2 (fun k hk => ⟨by simp only [aK] at hk; omega, by simp only [aK] at hk; omega⟩)
    · rw [tv_snoc]; simpa using hr2
  case done =>
    rintro D W hD ⟨⟨v, hv, hrow, _⟩, hB⟩ hK
    have hc := hv.cell
    gi_wp2
    refine ⟨by simp, .inl ⟨_, _, rfl, run_takeDeferred hK, ?_⟩⟩
    refine ⟨_, results_tmp rfl _ _ _, v, rfl, ownsRow_base (ownsRow_putObj hrow _ hK rfl) (by omega), hB0.trans (Below.trans ?_ (belowK_b (w := w) (Nat.le_refl _) W D _ _ (by omega) hK rfl rfl))⟩
    exact (hB.below (B := w.heap.size) (by omega) (fun k h => by omega))
theorem lkrow {w : World} {K : KB} {s : LS} (h : LkAt w K s) (i : Nat) (hi : i < s.L.length) :
    Calls Try.prog 121 #[.pointer (some ⟨K.P, 0, none⟩), .int .i64 i] w fun e W' => ∃ a c, e = .returned (.slice a (gl s.L i).length c) ∧ IRow W' (.slice a (gl s.L i).length c) (zi (gl s.L i)) ∧ Still w W' ∧ (∀ b o, a = some ⟨b, o, none⟩ → w.heap.size ≤ b) := by
  refine (lkrow0 w K s h i hi).mono ?_
  rintro e W' ⟨v, rfl, h1, h2⟩
  have hr : IRow W' v (zi (gl s.L i)) := IRow.of_tv h1 rfl
  obtain ⟨a, c, hv⟩ := hr.len
  rw [zi_len] at hv
  subst hv
  refine ⟨a, c, rfl, hr, Fr.of_below0 h2 _, ?_⟩
  rintro b o rfl
  obtain ⟨_, ⟨_, _⟩ | ⟨g, cap, _, hv, hg, _⟩⟩ := h1
  · simp_all
  · injection hv with e1 _ _
    injection e1 with e1
    injection e1 with e1 _ _
    omega
end Go.Proofs.Ytffjaaolcphonaa
