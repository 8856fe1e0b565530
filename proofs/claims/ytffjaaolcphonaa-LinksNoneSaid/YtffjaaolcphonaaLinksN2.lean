/- Links that were never made: Move, and the law's all. -/
import Derived.Test.YtffjaaolcphonaaLinksN
import Derived.Test.YtffjaaolcphonaaRange
import Derived.Test.YtffjaaolcphonaaOwnsZero
namespace Go.Proofs.Ytffjaaolcphonaa
open Go.RowKit Go.Shelf
attribute [local go_sem] Oper.semAt_some
theorem LNone.below {w w' : World} {v : Value} (h : LNone w v) (hs : Below w.heap.size w w') : LNone w' v := h.still (Fr.of_below0 hs _)

set_option maxRecDepth 100000 in
theorem ln_move (w : World) (v : Value) (h : LNone w v) (i t : Int) : Calls Try.prog 24 #[v, .int .i64 i, .int .i64 t] w fun e w' => e = .returned (.tuple #[.int .i64 0, .int .i64 1]) ∧ Still w w' := by
  have hh := h
  rcases hh with rfl | ⟨P, rfl, c, d⟩
  all_goals
    go_enter Try.func24, Try.ntmps24
    go_wp2_with fail
    refine (ln_first _ _ (h.still ?_) _ _ _).mono ?_
    · exact ((((Fr.refl _ _).alloc _).alloc _).alloc _).alloc _
    rintro e w' ⟨rfl, rfl⟩
    go_wp2_with fail
    go_region
    go_wp2
    go_ret2
    exact ⟨rfl, (((((Fr.refl _ _).alloc _).alloc _).alloc _).alloc _).drew⟩

theorem all_v (w : World) (v : Value) (h : LNone w v) (i : Int) : Calls Try.prog 78 #[v, .int .i64 i] w fun e w' =>
    e = .returned (.func (.func 133) #[] #[.pointer (some ⟨w.heap.size, 0, none⟩), .pointer (some ⟨w.heap.size + 1, 0, none⟩)]) ∧ w' = (w.alloc (.cells #[v] 23)).alloc (.cells #[.int .i64 i] 3) := by
  rcases h with rfl | ⟨P, rfl, _, _⟩
  · exact all_any w none i
  · exact all_any w _ i

set_option maxRecDepth 100000 in
set_option maxHeartbeats 2000000 in
theorem all1_none (l b1 b2 : Nat) (i : Int) (v : Value) (J : List Nat → World → Prop)
    (W : World) (h1 : Box W b1 v 23) (h2 : Box W b2 (.int .i64 i) 3) (hR : LNone W v) (h0 : J [] W) :
    CallsIn Fence.wide 3 Try.prog 133 #[.func (.yield l) #[] #[], .pointer (some ⟨b1, 0, none⟩), .pointer (some ⟨b2, 0, none⟩)] W fun e W' => (∃ v, e = .returned v) ∧ J [] W' := by
  have c1 := h1.c
  have c2 := h2.c
  refine callsIn_of_wp Try.func133 rfl trivial ?_ rfl
  simp only [Try.ntmps133, List.size_toArray, List.length_cons, List.length_nil, Nat.reduceAdd, Nat.reduceSub, Array.replicate_succ, Array.replicate_zero, List.push_toArray, List.append_toArray, List.nil_append, List.cons_append]
  gi_wp2_with (first | (refine ⟨trivial, ?_⟩; gi_at_call 83; refine (callsIn_wide.2 (ln_made _ v hR)).mono ?_; rintro e w' ⟨rfl, rfl⟩) | refine ⟨trivial, ?_⟩)
  refine bodyPost_ret (results_none rfl _ _ _) rfl ?_
  exact ⟨⟨_, rfl⟩, h0⟩

theorem all_stops_none (w : World) (b1 b2 : Nat) (i : Int) (v : Value) (h1 : Box w b1 v 23) (h2 : Box w b2 (.int .i64 i) 3) (hR : LNone w v) :
    SeqStopsK Fence.wide 3 Try.prog 133 #[.pointer (some ⟨b1, 0, none⟩), .pointer (some ⟨b2, 0, none⟩)] (fun x : Th 0 => #[Value.int .i64 (x.1 : Int)]) (Kb (fun _ => False)) (fun ys => vals ys = []) (fun pre => vals pre <+: []) 0 w := by
  intro l J Jx W hW hJ hJx hY h0
  refine (all1_none l b1 b2 i v (fun pre W => pre = [] ∧ J [] W) W (Blk.below h1 hW (Blk.lt h1)) (Blk.below h2 hW (Blk.lt h2)) (hR.below hW) ⟨rfl, h0⟩).mono ?_
  rintro e W' ⟨h1, _, h2⟩
  exact ⟨h1, .inl ⟨[], rfl, h2⟩⟩

set_option maxRecDepth 100000 in
set_option maxHeartbeats 2000000 in
theorem all_none (w : World) (v : Value) (i : Int) (hR : LNone w v) :
    Calls Try.prog 23 #[v, .int .i64 i] w fun e W' => ∃ a c, e = .returned (.tuple #[.slice a 0 c, .bool true]) ∧ Still w W' := by
  refine (callsIn_wide (n := 4)).1 ?_
  refine callsIn_of_wp_marks Try.func23 rfl trivial ?_ rfl
  simp only [Try.ntmps23, List.size_toArray, List.length_cons, List.length_nil, Nat.reduceAdd, Nat.reduceSub, Array.replicate_succ, Array.replicate_zero, List.push_toArray, List.append_toArray, List.nil_append, List.cons_append]
  have HNF := func_nil 120 rfl
  gi_wp2_with (refine ⟨trivial, ?_⟩; gi_at_call 78; refine (callsIn_wide.2 (all_v _ _ hR _)).mono ?_; rintro e w' ⟨rfl, rfl⟩)
  obtain ⟨W0, hW0⟩ : ∃ W0, ((w.alloc (.cells #[v] 23)).alloc (.cells #[.int .i64 i] 3)).alloc (.cells #[.slice none 0 0] 28) = W0 := ⟨_, rfl⟩
  have hS0 : W0.heap.size = w.heap.size + 1 + 1 + 1 := by rw [← hW0]; simp
  have bP : Box W0 w.heap.size v 23 := by rw [← hW0]; exact ((box_new w _ _).alloc _).alloc _
  have bI : Box W0 (w.heap.size + 1) (.int .i64 i) 3 := by rw [← hW0]; have := (box_new (w.alloc (.cells #[v] 23)) (.int .i64 i) 3).alloc (.cells #[.slice none 0 0] 28); simpa using this
  have bO : Boxed W0 (w.heap.size + 1 + 1) 28 (.slice none 0 0) := by rw [← hW0]; have := Boxed.new ((w.alloc (.cells #[v] 23)).alloc (.cells #[.int .i64 i] 3)) 28 (.slice none 0 0); simpa using this
  have hB0 : Below w.heap.size w W0 := by rw [← hW0]; exact (((Below.refl _ w).alloc (Nat.le_refl _) _).alloc (by simp) _).alloc (by simp; omega) _
  have hR0 : LNone W0 v := hR.below hB0
  rw [hW0]
  refine range_one (n := 0) (xs := []) rfl (by simp) (all_stops_none W0 w.heap.size (w.heap.size + 1) i v bP bI hR0) Kb.trans (kb_b (fun k hk => hk.elim))
    (fun pre W => (∃ v, Boxed W (w.heap.size + 1 + 1) 28 v ∧ W.ownsRow (w.heap.size + 1 + 1) 3 1 v pre.length (tv pre) ∧ True) ∧ Below (w.heap.size + 1 + 1) W0 W)
    (OwnFrom.and (Own.from (holdsRow_own (w.heap.size + 1 + 1) (w.heap.size + 1 + 1) 28 3 1 List.length tv (fun _ _ => True)) _) (ownFrom_below (by omega) (by omega)))
    ⟨⟨_, bO, World.ownsRow_nil _ _ _ _, trivial⟩, Below.refl _ _⟩ ?body ?done
  case body =>
    rintro l pre x W _ hlen _
    exact absurd hlen (Nat.not_lt_zero _)
  case done =>
    rintro D W hD ⟨⟨v, hv, hrow, _⟩, hB⟩ hK
    have hc := hv.cell
    obtain ⟨a6, c6, rfl⟩ := owns_zero0 hrow
    gi_wp2
    refine ⟨by simp, .inl ⟨_, _, rfl, run_takeDeferred hK, ?_⟩⟩
    refine ⟨_, results_tmp2 rfl _ _ _, _, _, rfl, Fr.of_below0 (hB0.trans ((hB.mono (by omega)).trans (belowK_b (w := w) (Nat.le_refl _) W D _ _ (by omega) hK rfl rfl))) _⟩
end Go.Proofs.Ytffjaaolcphonaa
