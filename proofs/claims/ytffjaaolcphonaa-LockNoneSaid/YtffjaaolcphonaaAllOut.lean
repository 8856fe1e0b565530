/- The law's all, whatever list is asked for. -/
import Derived.Test.YtffjaaolcphonaaRef5d
import Derived.Test.YtffjaaolcphonaaRange
import Derived.Test.YtffjaaolcphonaaOwnsZero
namespace Go.Proofs.Ytffjaaolcphonaa
open Go.RowKit Go.Shelf
attribute [local go_sem] Oper.semAt_some
set_option maxRecDepth 100000 in
set_option maxHeartbeats 2000000 in
theorem all1_out (l b1 b2 : Nat) (i : Int) (B : LB) (r : Raw) (hi : i < 0 ∨ (r.count.length : Int) ≤ i) (J : List Nat → World → Prop)
    (W : World) (h1 : Box W b1 (.pointer (some ⟨B.p, 0, none⟩)) 23) (h2 : Box W b2 (.int .i64 i) 3) (hR : RawAt W B r) (h0 : J [] W) :
    CallsIn Fence.wide 3 Try.prog 133 #[.func (.yield l) #[] #[], .pointer (some ⟨b1, 0, none⟩), .pointer (some ⟨b2, 0, none⟩)] W fun e W' => (∃ v, e = .returned v) ∧ J [] W' := by
  have c1 := h1.c
  have c2 := h2.c
  refine callsIn_of_wp Try.func133 rfl trivial ?_ rfl
  simp only [Try.ntmps133, List.size_toArray, List.length_cons, List.length_nil, Nat.reduceAdd, Nat.reduceSub, Array.replicate_succ, Array.replicate_zero, List.push_toArray, List.append_toArray, List.nil_append, List.cons_append]
  gi_wp2_with (first | (refine ⟨trivial, ?_⟩; gi_at_call 83; refine (callsIn_wide.2 (made_yes _ B r hR)).mono ?_; rintro e w' ⟨rfl, rfl⟩) | (refine ⟨trivial, ?_⟩; gi_at_call 81; refine (callsIn_wide.2 (isList_no _ B r hR _ hi)).mono ?_; rintro e w' ⟨rfl, rfl⟩) | refine ⟨trivial, ?_⟩)
  refine bodyPost_ret (results_none rfl _ _ _) rfl ?_
  exact ⟨⟨_, rfl⟩, h0⟩

theorem all_stops_out (w : World) (b1 b2 : Nat) (i : Int) (B : LB) (r : Raw) (hi : i < 0 ∨ (r.count.length : Int) ≤ i) (h1 : Box w b1 (.pointer (some ⟨B.p, 0, none⟩)) 23) (h2 : Box w b2 (.int .i64 i) 3) (hR : RawAt w B r) :
    SeqStopsK Fence.wide 3 Try.prog 133 #[.pointer (some ⟨b1, 0, none⟩), .pointer (some ⟨b2, 0, none⟩)] (fun x : Th 0 => #[Value.int .i64 (x.1 : Int)]) (Kb (fun _ => False)) (fun ys => vals ys = []) (fun pre => vals pre <+: []) 0 w := by
  intro l J Jx W hW hJ hJx hY h0
  refine (all1_out l b1 b2 i B r hi (fun pre W => pre = [] ∧ J [] W) W (Blk.below h1 hW (Blk.lt h1)) (Blk.below h2 hW (Blk.lt h2)) (hR.still (Fr.of_below0 hW _)) ⟨rfl, h0⟩).mono ?_
  rintro e W' ⟨h1, _, h2⟩
  exact ⟨h1, .inl ⟨[], rfl, h2⟩⟩

set_option maxRecDepth 100000 in
set_option maxHeartbeats 2000000 in
theorem all_out (w : World) (i : Int) (B : LB) (r : Raw) (hi : i < 0 ∨ (r.count.length : Int) ≤ i) (hR : RawAt w B r) :
    Calls Try.prog 23 #[.pointer (some ⟨B.p, 0, none⟩), .int .i64 i] w fun e W' => ∃ a c, e = .returned (.tuple #[.slice a 0 c, .bool true]) ∧ Still w W' := by
  refine (callsIn_wide (n := 4)).1 ?_
  refine callsIn_of_wp_marks Try.func23 rfl trivial ?_ rfl
  simp only [Try.ntmps23, List.size_toArray, List.length_cons, List.length_nil, Nat.reduceAdd, Nat.reduceSub, Array.replicate_succ, Array.replicate_zero, List.push_toArray, List.append_toArray, List.nil_append, List.cons_append]
  have HNF := func_nil 120 rfl
  gi_wp2_with (refine ⟨trivial, ?_⟩; gi_at_call 78; refine (callsIn_wide.2 (all_any _ _ _)).mono ?_; rintro e w' ⟨rfl, rfl⟩)
  obtain ⟨W0, hW0⟩ : ∃ W0, ((w.alloc (.cells #[.pointer (some ⟨B.p, 0, none⟩)] 23)).alloc (.cells #[.int .i64 i] 3)).alloc (.cells #[.slice none 0 0] 28) = W0 := ⟨_, rfl⟩
  have hS0 : W0.heap.size = w.heap.size + 1 + 1 + 1 := by rw [← hW0]; simp
  have bP : Box W0 w.heap.size (.pointer (some ⟨B.p, 0, none⟩)) 23 := by rw [← hW0]; exact ((box_new w _ _).alloc _).alloc _
  have bI : Box W0 (w.heap.size + 1) (.int .i64 i) 3 := by rw [← hW0]; have := (box_new (w.alloc (.cells #[.pointer (some ⟨B.p, 0, none⟩)] 23)) (.int .i64 i) 3).alloc (.cells #[.slice none 0 0] 28); simpa using this
  have bO : Boxed W0 (w.heap.size + 1 + 1) 28 (.slice none 0 0) := by rw [← hW0]; have := Boxed.new ((w.alloc (.cells #[.pointer (some ⟨B.p, 0, none⟩)] 23)).alloc (.cells #[.int .i64 i] 3)) 28 (.slice none 0 0); simpa using this
  have hB0 : Below w.heap.size w W0 := by rw [← hW0]; exact (((Below.refl _ w).alloc (Nat.le_refl _) _).alloc (by simp) _).alloc (by simp; omega) _
  have hR0 : RawAt W0 B r := hR.still (Fr.of_below0 hB0 _)
  rw [hW0]
  refine range_one (n := 0) (xs := []) rfl (by simp) (all_stops_out W0 w.heap.size (w.heap.size + 1) i B r hi bP bI hR0) Kb.trans (kb_b (fun k hk => hk.elim))
    (fun pre W => (∃ v, Boxed W (w.heap.size + 1 + 1) 28 v ∧ W.ownsRow (w.heap.size + 1 + 1) 3 1 v pre.length (tv pre) ∧ True) ∧ Below (w.heap.size + 1 + 1) W0 W)
    (OwnFrom.and (Own.from (holdsRow_own (w.heap.size + 1 + 1) (w.heap.size + 1 + 1) 28 3 1 List.length tv (fun _ _ => True)) _) (ownFrom_below (by omega) (by omega)))
    ⟨⟨_, bO, World.ownsRow_nil _ _ _ _, trivial⟩, Below.refl _ _⟩ ?body ?done
  case body =>
    rintro l pre x W _ hlen _
    exact absurd hlen (Nat.not_lt_zero _)
  case done =>
    rintro D W hD ⟨⟨v, hv, hrow, _⟩, hB⟩ hK
    have hc := hv.cell
    obtain ⟨a6, c6, rfl⟩ := owns_zero0 hrow
    gi_wp2
    refine ⟨by simp, .inl ⟨_, _, rfl, run_takeDeferred hK, ?_⟩⟩
    refine ⟨_, results_tmp2 rfl _ _ _, _, _, rfl, Fr.of_below0 (hB0.trans ((hB.mono (by omega)).trans (belowK_b (w := w) (Nat.le_refl _) W D _ _ (by omega) hK rfl rfl))) _⟩
def allL (L : List (List Nat)) (i : Int) : List Nat := if inR i L.length then gl L i.toNat else []
theorem lenI_all (L : List (List Nat)) (i : Int) : lenI L i = ((allL L i).length : Int) := by unfold lenI allL; split <;> rfl
theorem all_lsI {w : World} {B : LB} {T : Nat} {L : List (List Nat)} (h : LsAt w B T L) (i : Int) :
    Calls Try.prog 23 #[.pointer (some ⟨B.p, 0, none⟩), .int .i64 i] w fun e W' => ∃ a c, e = .returned (.tuple #[.slice a (allL L i).length c, .bool true]) ∧ IRow W' (.slice a (allL L i).length c) (zi (allL L i)) ∧ Still w W' := by
  by_cases hi : inR i L.length
  · obtain ⟨i, rfl⟩ := Int.eq_ofNat_of_zero_le hi.1
    unfold allL; rw [if_pos hi, Int.toNat_natCast]
    exact (all_irow h i (by have := hi.2; omega)).mono fun e w' ⟨a, c, h1, h2, h3, _⟩ => ⟨a, c, h1, h2, h3⟩
  · unfold allL; rw [if_neg hi]
    obtain ⟨r, hr, hv, _⟩ := h
    exact (all_out w i B r (by have := inR_no hi; rw [hv.len] at this; exact this) hr).mono fun e w' ⟨a, c, h1, h2⟩ => ⟨a, c, h1, .inl ⟨rfl, _, _, rfl⟩, h2⟩
theorem rallI {w : World} {lo p R T : Nat} {L : List (List Nat)} (h : RefAt w lo p R T L) (i : Int) : Calls Try.prog 31 #[.pointer (some ⟨p, 0, none⟩), .int .i64 i] w fun e w' => ∃ a c, e = .returned (.slice a (allL L i).length c) ∧
      IRow w' (.slice a (allL L i).length c) (zi (allL L i)) ∧ Still w w' := rall h i
theorem len_lsI {w : World} {B : LB} {T : Nat} {L : List (List Nat)} (h : LsAt w B T L) (i : Int) : Calls Try.prog 25 #[.pointer (some ⟨B.p, 0, none⟩), .int .i64 i] w fun e w' => e = .returned (.int .i64 ((allL L i).length : Int)) ∧ w = w' := by
  rw [← lenI_all]; exact len_ls h i
theorem allL_short {w : World} {B : LB} {T : Nat} {L : List (List Nat)} (h : LsAt w B T L) (i : Int) : (allL L i).length ≤ 4096 := by
  unfold allL; split
  · rename_i hi; exact ls_short h _ (by unfold inR at hi; omega)
  · simp
end Go.Proofs.Ytffjaaolcphonaa
