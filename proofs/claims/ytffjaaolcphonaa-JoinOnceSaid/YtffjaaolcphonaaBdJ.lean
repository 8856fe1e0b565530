/- The locks' row: who stands in a list. -/
import Derived.Test.YtffjaaolcphonaaBdI
import Derived.Test.YtffjaaolcphonaaBdF
import Derived.Test.YtffjaaolcphonaaBdC
import Derived.Test.YtffjaaolcphonaaBdA
import Derived.Test.YtffjaaolcphonaaBdG
namespace Go.Proofs.Ytffjaaolcphonaa
open Go.RowKit Go.Shelf
attribute [local go_sem] Oper.semAt_some

set_option maxRecDepth 100000 in
set_option maxHeartbeats 2000000 in
theorem lkrow0 (w : World) (K : KB) (s : LS) (h : LkAt w K s) (i : Nat) (hi' : i < s.L.length) :
    Calls Try.prog 121 #[.pointer (some ⟨K.P, 0, none⟩), .int .i64 i] w fun e W' => ∃ v, e = .returned v ∧ W'.ownsRow w.heap.size 3 1 v (gl s.L i).length (tv (gl s.L i)) ∧ Below w.heap.size w W' := by
  obtain ⟨r, hR, hv, hrt⟩ := h.hl
  have hlen : (gl s.L i).length ≤ 10000 := by have := hv.le hi'; have := hR.t1; omega
  obtain ⟨q0, hq0, hseq⟩ := hv.seq hR.sz hi'
  have hxt := hid (fun x (hx : x ∈ gl s.L i) => (hv.yes i x hi' hx).1)
  have hic := hv.len ▸ hi'
  obtain ⟨xs, hxs⟩ : ∃ xs, gl s.L i = xs := ⟨_, rfl⟩
  rw [hxs] at hlen hseq hxt ⊢
  have HQ := hid hq0
  have HL := hid hseq
  obtain ⟨i0, ti, tz0, tz1, tz2⟩ := info_parts info3
  have HI := hid ti
  have HZ0 := hid tz0
  have HZ1 := hid tz1
  have HZ2 := hid tz2
  clear ti tz0 tz1 tz2 hq0 hseq hxs hrt
  have hRlt := hR.hp.lt
  have hNlt := hR.hn.lt
  have hPlt := h.hp.lt
  refine (callsIn_wide (n := 4)).1 ?_
  refine callsIn_of_wp_marks Try.func121 rfl trivial ?_ rfl
  simp only [Try.ntmps121, List.size_toArray, List.length_cons, List.length_nil, Nat.reduceAdd, Nat.reduceSub, Array.replicate_succ, Array.replicate_zero, List.push_toArray, List.append_toArray, List.nil_append, List.cons_append]
  have h0 : LkAt (w.alloc (.cells #[.slice none 0 0] 28)) K s := h.still ((Still.refl w).alloc _)
  have cl := h0.f2
  gi_wp2_with (first | (refine ⟨trivial, ?_⟩; gi_at_call 78; refine (callsIn_wide.2 (all_any _ _ _)).mono ?_; rintro e w' ⟨rfl, rfl⟩))
  obtain ⟨W0, hW0⟩ : ∃ W0, ((w.alloc (.cells #[.slice none 0 0] 28)).alloc (.cells #[.pointer (some ⟨K.B.p, 0, none⟩)] 23)).alloc (.cells #[.int .i64 (i : Int)] 3) = W0 := ⟨_, rfl⟩
  have hS0 : W0.heap.size = w.heap.size + 1 + 1 + 1 := by rw [← hW0]; simp
  have bO : Boxed W0 w.heap.size 28 (.slice none 0 0) := by rw [← hW0]; exact ((Boxed.new w 28 _).alloc _).alloc _
  have bP : Box W0 (w.heap.size + 1) (.pointer (some ⟨K.B.p, 0, none⟩)) 23 := by rw [← hW0]; have := (box_new (w.alloc (.cells #[.slice none 0 0] 28)) (.pointer (some ⟨K.B.p, 0, none⟩)) 23).alloc (.cells #[.int .i64 (i : Int)] 3); simpa using this
  have bI : Box W0 (w.heap.size + 1 + 1) (.int .i64 (i : Int)) 3 := by rw [← hW0]; have := box_new ((w.alloc (.cells #[.slice none 0 0] 28)).alloc (.cells #[.pointer (some ⟨K.B.p, 0, none⟩)] 23)) (.int .i64 (i : Int)) 3; simpa using this
  have hB0 : Below w.heap.size w W0 := by rw [← hW0]; exact (((Below.refl _ w).alloc (Nat.le_refl _) _).alloc (by simp) _).alloc (by simp; omega) _
  have hR0 : RawAt W0 K.B r := hR.still (Fr.of_below0 hB0 _)
  rw [hW0]
  refine range_one (n := r.things) (xs := xs) rfl (by simp) (all_stops W0 (w.heap.size + 1) (w.heap.size + 1 + 1) i r.things K.B r xs bP bI hR0 hic q0 HQ.out HL.out hxt.out) Kb.trans (kb_b (fun k hk => by rw [hS0]; simp only [aK] at hk; omega))
    (fun pre W => (∃ v, Boxed W w.heap.size 28 v ∧ W.ownsRow (w.heap.size + 1 + 1 + 1) 3 1 v pre.length (tv pre) ∧ True) ∧ Fr (fun k => k = w.heap.size) W0 W)
    ?own ⟨⟨_, bO, World.ownsRow_nil _ _ _ _, trivial⟩, Fr.refl _ _⟩ ?body ?done
  case own =>
    refine OwnFrom.and (Own.from (holdsRow_own (w.heap.size + 1 + 1 + 1) w.heap.size 28 3 1 List.length tv (fun _ _ => True)) _) ?_
    intro pre A A' row hf hg hrow
    exact hf.then (Fr.of_grownBy hg (F := fun k => W0.heap.size ≤ k) (fun k e _ => (hrow k e).1)) (fun i hi h => by omega)
  case body =>
    rintro l pre x W ⟨⟨v, hv, hrow, _⟩, hB⟩ hlen _
    simp only [List.setIfInBounds_toArray, List.set_cons_succ, List.set_cons_zero]
    have hc := hv.cell
    have hf := hv.frozen
    have hz := hB.size
    gi_wp2_with (gi_at_builtin; refine wpListIn_append_own _ rfl _ _ 28 rfl (w.heap.size + 1 + 1 + 1) 3 i0 (.int .i64 0) 1 8 Try.underlying28 HI.out HZ0.out HZ1.out HZ2.out rfl (by decide) _ _ _ rfl (hrow.alloc _) ⟨W.heap.size, 0, none⟩ 1 1 [.int .i64 (x : Int)] rfl rfl (cell_one_new _ _ _) (by simp [Value.oneCell']) (by unfold maxLen; omega) (by omega) (by simp; omega) ?_; intro v' w1 hown' hgrow _; obtain ⟨g', cap', rfl⟩ := ownsRow_succ hown'; obtain ⟨hv1, hv2, hr2, hk2, hf2⟩ := appended_fr hv (by decide) hrow (by omega) hown' hgrow; have hc1 := hv1.cell; have hf1 := hv1.frozen)
    refine ⟨rfl, hk2.from _, ?_, ⟨_, hv2, ?_, trivial⟩, hB.then hf2 (fun k hk h => by rcases h with h | h <;> omega)⟩
    · exact Kb.of_fr hf2 (fun k hk => ⟨by simp only [aK] at hk; omega, by simp only [aK] at hk; omega⟩)
    · rw [tv_snoc]; simpa using hr2
  case done =>
    rintro D W hD ⟨⟨v, hv, hrow, _⟩, hB⟩ hK
    have hc := hv.cell
    gi_wp2
    refine ⟨by simp, .inl ⟨_, _, rfl, run_takeDeferred hK, ?_⟩⟩
    refine ⟨_, results_tmp rfl _ _ _, v, rfl, ownsRow_base (ownsRow_putObj hrow _ hK rfl) (by omega), hB0.trans (Below.trans ?_ (belowK_b (w := w) (Nat.le_refl _) W D _ _ (by omega) hK rfl rfl))⟩
    exact (hB.below (B := w.heap.size) (by omega) (fun k h => by omega))
theorem lkrow {w : World} {K : KB} {s : LS} (h : LkAt w K s) (i : Nat) (hi : i < s.L.length) :
    Calls Try.prog 121 #[.pointer (some ⟨K.P, 0, none⟩), .int .i64 i] w fun e W' => ∃ a c, e = .returned (.slice a (gl s.L i).length c) ∧ IRow W' (.slice a (gl s.L i).length c) (zi (gl s.L i)) ∧ Still w W' ∧ (∀ b o, a = some ⟨b, o, none⟩ → w.heap.size ≤ b) := by
  refine (lkrow0 w K s h i hi).mono ?_
  rintro e W' ⟨v, rfl, h1, h2⟩
  have hr : IRow W' v (zi (gl s.L i)) := IRow.of_tv h1 rfl
  obtain ⟨a, c, hv⟩ := hr.len
  rw [zi_len] at hv
  subst hv
  refine ⟨a, c, rfl, hr, Fr.of_below0 h2 _, ?_⟩
  rintro b o rfl
  obtain ⟨_, ⟨_, _⟩ | ⟨g, cap, _, hv, hg, _⟩⟩ := h1
  · simp_all
  · injection hv with e1 _ _
    injection e1 with e1
    injection e1 with e1 _ _
    omega
end Go.Proofs.Ytffjaaolcphonaa
/- A row of no elements. -/
namespace Go.Proofs.Ytffjaaolcphonaa
open Go.RowKit
theorem owns_zero0 {w : World} {base : Nat} {e : TypeId} {size : Nat} {v : Value} {xs : List Value} (h : w.ownsRow base e size v 0 xs) : ∃ a c, v = .slice a 0 c := by
  obtain ⟨_, ⟨rfl, _⟩ | ⟨g, cap, _, rfl, _⟩⟩ := h
  · exact ⟨_, _, rfl⟩
  · exact ⟨_, _, rfl⟩
end Go.Proofs.Ytffjaaolcphonaa
/- The law's all, whatever list is asked for. -/
namespace Go.Proofs.Ytffjaaolcphonaa
open Go.RowKit Go.Shelf
attribute [local go_sem] Oper.semAt_some
set_option maxRecDepth 100000 in
set_option maxHeartbeats 2000000 in
theorem all1_out (l b1 b2 : Nat) (i : Int) (B : LB) (r : Raw) (hi : i < 0 ∨ (r.count.length : Int) ≤ i) (J : List Nat → World → Prop)
    (W : World) (h1 : Box W b1 (.pointer (some ⟨B.p, 0, none⟩)) 23) (h2 : Box W b2 (.int .i64 i) 3) (hR : RawAt W B r) (h0 : J [] W) :
    CallsIn Fence.wide 3 Try.prog 133 #[.func (.yield l) #[] #[], .pointer (some ⟨b1, 0, none⟩), .pointer (some ⟨b2, 0, none⟩)] W fun e W' => (∃ v, e = .returned v) ∧ J [] W' := by
  have c1 := h1.c
  have c2 := h2.c
  refine callsIn_of_wp Try.func133 rfl trivial ?_ rfl
  simp only [Try.ntmps133, List.size_toArray, List.length_cons, List.length_nil, Nat.reduceAdd, Nat.reduceSub, Array.replicate_succ, Array.replicate_zero, List.push_toArray, List.append_toArray, List.nil_append, List.cons_append]
  gi_wp2_with (first | (refine ⟨trivial, ?_⟩; gi_at_call 83; refine (callsIn_wide.2 (made_yes _ B r hR)).mono ?_; rintro e w' ⟨rfl, rfl⟩) | (refine ⟨trivial, ?_⟩; gi_at_call 81; refine (callsIn_wide.2 (isList_no _ B r hR _ hi)).mono ?_; rintro e w' ⟨rfl, rfl⟩) | refine ⟨trivial, ?_⟩)
  refine bodyPost_ret (results_none rfl _ _ _) rfl ?_
  exact ⟨⟨_, rfl⟩, h0⟩

theorem all_stops_out (w : World) (b1 b2 : Nat) (i : Int) (B : LB) (r : Raw) (hi : i < 0 ∨ (r.count.length : Int) ≤ i) (h1 : Box w b1 (.pointer (some ⟨B.p, 0, none⟩)) 23) (h2 : Box w b2 (.int .i64 i) 3) (hR : RawAt w B r) :
    SeqStopsK Fence.wide 3 Try.prog 133 #[.pointer (some ⟨b1, 0, none⟩), .pointer (some ⟨b2, 0, none⟩)] (fun x : Th 0 => #[Value.int .i64 (x.1 : Int)]) (Kb (fun _ => False)) (fun ys => vals ys = []) (fun pre => vals pre <+: []) 0 w := by
  intro l J Jx W hW hJ hJx hY h0
  refine (all1_out l b1 b2 i B r hi (fun pre W => pre = [] ∧ J [] W) W (Blk.below h1 hW (Blk.lt h1)) (Blk.below h2 hW (Blk.lt h2)) (hR.still (Fr.of_below0 hW _)) ⟨rfl, h0⟩).mono ?_
  rintro e W' ⟨h1, _, h2⟩
  exact ⟨h1, .inl ⟨[], rfl, h2⟩⟩

set_option maxRecDepth 100000 in
set_option maxHeartbeats 2000000 in
theorem all_out (w : World) (i : Int) (B : LB) (r : Raw) (hi : i < 0 ∨ (r.count.length : Int) ≤ i) (hR : RawAt w B r) :
    Calls Try.prog 23 #[.pointer (some ⟨B.p, 0, none⟩), .int .i64 i] w fun e W' => ∃ a c, e = .returned (.tuple #[.slice a 0 c, .bool true]) ∧ Still w W' := by
  refine (callsIn_wide (n := 4)).1 ?_
  refine callsIn_of_wp_marks Try.func23 rfl trivial ?_ rfl
  simp only [Try.ntmps23, List.size_toArray, List.length_cons, List.length_nil, Nat.reduceAdd, Nat.reduceSub, Array.replicate_succ, Array.replicate_zero, List.push_toArray, List.append_toArray, List.nil_append, List.cons_append]
  have HNF := func_nil 120 rfl
  gi_wp2_with (refine ⟨trivial, ?_⟩; gi_at_call 78; refine (callsIn_wide.2 (all_any _ _ _)).mono ?_; rintro e w' ⟨rfl, rfl⟩)
  obtain ⟨W0, hW0⟩ : ∃ W0, ((w.alloc (.cells #[.pointer (some ⟨B.p, 0, none⟩)] 23)).alloc (.cells #[.int .i64 i] 3)).alloc (.cells #[.slice none 0 0] 28) = W0 := ⟨_, rfl⟩
  have hS0 : W0.heap.size = w.heap.size + 1 + 1 + 1 := by rw [← hW0]; simp
  have bP : Box W0 w.heap.size (.pointer (some ⟨B.p, 0, none⟩)) 23 := by rw [← hW0]; exact ((box_new w _ _).alloc _).alloc _
  have bI : Box W0 (w.heap.size + 1) (.int .i64 i) 3 := by rw [← hW0]; have := (box_new (w.alloc (.cells #[.pointer (some ⟨B.p, 0, none⟩)] 23)) (.int .i64 i) 3).alloc (.cells #[.slice none 0 0] 28); simpa using this
  have bO : Boxed W0 (w.heap.size + 1 + 1) 28 (.slice none 0 0) := by rw [← hW0]; have := Boxed.new ((w.alloc (.cells #[.pointer (some ⟨B.p, 0, none⟩)] 23)).alloc (.cells #[.int .i64 i] 3)) 28 (.slice none 0 0); simpa using this
  have hB0 : Below w.heap.size w W0 := by rw [← hW0]; exact (((Below.refl _ w).alloc (Nat.le_refl _) _).alloc (by simp) _).alloc (by simp; omega) _
  have hR0 : RawAt W0 B r := hR.still (Fr.of_below0 hB0 _)
  rw [hW0]
  refine range_one (n := 0) (xs := []) rfl (by simp) (all_stops_out W0 w.heap.size (w.heap.size + 1) i B r hi bP bI hR0) Kb.trans (kb_b (fun k hk => hk.elim))
    (fun pre W => (∃ v, Boxed W (w.heap.size + 1 + 1) 28 v ∧ W.ownsRow (w.heap.size + 1 + 1) 3 1 v pre.length (tv pre) ∧ True) ∧ Below (w.heap.size + 1 + 1) W0 W)
    (OwnFrom.and (Own.from (holdsRow_own (w.heap.size + 1 + 1) (w.heap.size + 1 + 1) 28 3 1 List.length tv (fun _ _ => True)) _) (ownFrom_below (by omega) (by omega)))
    ⟨⟨_, bO, World.ownsRow_nil _ _ _ _, trivial⟩, Below.refl _ _⟩ ?body ?done
  case body =>
    rintro l pre x W _ hlen _
    exact absurd hlen (Nat.not_lt_zero _)
  case done =>
    rintro D W hD ⟨⟨v, hv, hrow, _⟩, hB⟩ hK
    have hc := hv.cell
    obtain ⟨a6, c6, rfl⟩ := owns_zero0 hrow
    gi_wp2
    refine ⟨by simp, .inl ⟨_, _, rfl, run_takeDeferred hK, ?_⟩⟩
    refine ⟨_, results_tmp2 rfl _ _ _, _, _, rfl, Fr.of_below0 (hB0.trans ((hB.mono (by omega)).trans (belowK_b (w := w) (Nat.le_refl _) W D _ _ (by omega) hK rfl rfl))) _⟩
def allL (L : List (List Nat)) (i : Int) : List Nat := if inR i L.length then gl L i.toNat else []
theorem lenI_all (L : List (List Nat)) (i : Int) : lenI L i = ((allL L i).length : Int) := by unfold lenI allL; split <;> rfl
theorem all_lsI {w : World} {B : LB} {T : Nat} {L : List (List Nat)} (h : LsAt w B T L) (i : Int) :
    Calls Try.prog 23 #[.pointer (some ⟨B.p, 0, none⟩), .int .i64 i] w fun e W' => ∃ a c, e = .returned (.tuple #[.slice a (allL L i).length c, .bool true]) ∧ IRow W' (.slice a (allL L i).length c) (zi (allL L i)) ∧ Still w W' := by
  by_cases hi : inR i L.length
  · obtain ⟨i, rfl⟩ := Int.eq_ofNat_of_zero_le hi.1
    unfold allL; rw [if_pos hi, Int.toNat_natCast]
    exact (all_irow h i (by have := hi.2; omega)).mono fun e w' ⟨a, c, h1, h2, h3, _⟩ => ⟨a, c, h1, h2, h3⟩
  · unfold allL; rw [if_neg hi]
    obtain ⟨r, hr, hv, _⟩ := h
    exact (all_out w i B r (by have := inR_no hi; rw [hv.len] at this; exact this) hr).mono fun e w' ⟨a, c, h1, h2⟩ => ⟨a, c, h1, .inl ⟨rfl, _, _, rfl⟩, h2⟩
theorem rallI {w : World} {lo p R T : Nat} {L : List (List Nat)} (h : RefAt w lo p R T L) (i : Int) : Calls Try.prog 31 #[.pointer (some ⟨p, 0, none⟩), .int .i64 i] w fun e w' => ∃ a c, e = .returned (.slice a (allL L i).length c) ∧
      IRow w' (.slice a (allL L i).length c) (zi (allL L i)) ∧ Still w w' := rall h i
theorem len_lsI {w : World} {B : LB} {T : Nat} {L : List (List Nat)} (h : LsAt w B T L) (i : Int) : Calls Try.prog 25 #[.pointer (some ⟨B.p, 0, none⟩), .int .i64 i] w fun e w' => e = .returned (.int .i64 ((allL L i).length : Int)) ∧ w = w' := by
  rw [← lenI_all]; exact len_ls h i
theorem allL_short {w : World} {B : LB} {T : Nat} {L : List (List Nat)} (h : LsAt w B T L) (i : Int) : (allL L i).length ≤ 4096 := by
  unfold allL; split
  · rename_i hi; exact ls_short h _ (by unfold inR at hi; omega)
  · simp
end Go.Proofs.Ytffjaaolcphonaa
/- The locks: Unlock, Wait, signal, Signal, Owner, Where, Waiters, Sleepers. -/
namespace Go.Proofs.Ytffjaaolcphonaa
open Go.RowKit
theorem Fr.cellK {F : Nat → Prop} {w w' : World} (hf : Fr F w w') {b i : Nat} {v : Value} (h : w.cell? ⟨b, i, none⟩ = some v) (hn : ¬ F b) : w'.cell? ⟨b, i, none⟩ = some v := by
  rw [← h]; exact World.cell?_of_block (hf.block b (World.block_lt_of_cell? _ _ h) hn)
section
variable {w : World} {K : KB} {s : LS}
def unlockE (s : LS) (o t : Int) : Int := askE [(allR [o] s.n, 8), idleR s t, ((s.ow.getD o.toNat 0 == t) == true, 6)]
def unlockT (s : LS) (o t : Int) : Int := if unlockE s o t = 0 then passT s o.toNat else -1
def unlockS (s : LS) (o t : Int) : LS := if unlockE s o t = 0 then passS s o.toNat else s
theorem unlockE_ok {s : LS} {o t : Int} (h : unlockE s o t = 0) : inR o s.n ∧ inR t s.T ∧ whI s.T s.L t < 0 ∧ s.ow.getD o.toNat 0 = t := by
  obtain ⟨h1, h2, h3, h4⟩ := ask3_ok (by omega) h
  exact ⟨by simpa [allR] using h1, h2, h3, by simpa using h4⟩

set_option maxRecDepth 100000 in
set_option maxHeartbeats 1000000 in
theorem lkunlock (h : LkAt w K s) (o t : Int) : Calls Try.prog 55 #[.pointer (some ⟨K.P, 0, none⟩), .int .i64 o, .int .i64 t] w fun e w' =>
    e = .returned (.tuple #[.int .i64 (unlockT s o t), .int .i64 (unlockE s o t)]) ∧ LkAt w' K (unlockS s o t) ∧ Fr K.foot w w' := by
  by_cases h0 : unlockE s o t = 0
  · obtain ⟨ho, _, _, _⟩ := unlockE_ok h0
    have HB : Hid (unlockT s o t = passT s o.toNat) := by unfold unlockT; rw [if_pos h0]; exact rfl
    have HS : Hid (unlockS s o t = passS s o.toNat) := by unfold unlockS; rw [if_pos h0]; exact rfl
    rw [HB.out, HS.out, h0]
    have A3 := ask3 h [o] o t true 6 (by simp) (by simp) (by simp)
    rw [show askE [(allR [o] s.n, 8), idleR s t, ((s.ow.getD o.toNat 0 == t) == true, 6)] = 0 from h0] at A3
    obtain ⟨o, rfl⟩ := Int.eq_ofNat_of_zero_le ho.1
    have ho' : o < s.n := by have := ho.2; omega
    rw [Int.toNat_natCast] at HB HS ⊢
    have HA := hid A3
    clear h0 ho A3
    go_enter Try.func55, Try.ntmps55
    go_wp2_with (first
      | (go_at_call 108; refine (are_made _ _ _ ⟨_, rfl⟩ ⟨_, _, _, rfl⟩).mono ?_; rintro e w' ⟨rfl, rfl⟩)
      | (go_at_call 109; refine (idle_made _ _ _).mono ?_; rintro e w' ⟨rfl, rfl⟩)
      | (go_at_call 110; refine (owns_made _ _ _ _ _ _).mono ?_; rintro e w' ⟨rfl, rfl⟩)
      | (go_at_call 107; refine HA.out.mono ?_; rintro e w1 ⟨rfl, hs1⟩; have h1 := h.still hs1)
      | (go_at_call 112; refine (lkpass h1 o ho').mono ?_; rintro e w2 ⟨rfl, h2, f2⟩))
    go_ret2
    exact ⟨rfl, h2, (hs1.fr _).trans f2⟩
  · have HB : Hid (unlockT s o t = -1) := by unfold unlockT; rw [if_neg h0]; exact rfl
    have HS : Hid (unlockS s o t = s) := by unfold unlockS; rw [if_neg h0]; exact rfl
    rw [HB.out, HS.out]
    have A3 := ask3 h [o] o t true 6 (by simp) (by simp) (by simp)
    obtain ⟨z, hz⟩ : ∃ z, unlockE s o t = z := ⟨_, rfl⟩
    rw [show askE [(allR [o] s.n, 8), idleR s t, ((s.ow.getD o.toNat 0 == t) == true, 6)] = z from hz] at A3
    rw [hz] at h0 ⊢
    have HA := hid A3
    clear A3 hz
    go_enter Try.func55, Try.ntmps55
    go_wp2_with (first
      | (go_at_call 108; refine (are_made _ _ _ ⟨_, rfl⟩ ⟨_, _, _, rfl⟩).mono ?_; rintro e w' ⟨rfl, rfl⟩)
      | (go_at_call 109; refine (idle_made _ _ _).mono ?_; rintro e w' ⟨rfl, rfl⟩)
      | (go_at_call 110; refine (owns_made _ _ _ _ _ _).mono ?_; rintro e w' ⟨rfl, rfl⟩)
      | (go_at_call 107; refine HA.out.mono ?_; rintro e w1 ⟨rfl, hs1⟩; have h1 := h.still hs1))
    go_ret2
    exact ⟨rfl, h1, hs1.fr _⟩
def waitE (s : LS) (c o t : Int) : Int := askE [(allR [c, o] s.n, 8), idleR s t, ((s.ow.getD o.toNat 0 == t) == true, 6)]
def waitT (s : LS) (c o t : Int) : Int := if waitE s c o t = 0 then passT s o.toNat else -1
def waitS (s : LS) (c o t : Int) : LS := if waitE s c o t = 0 then { passS s o.toNat with L := pushL s.T (passS s o.toNat).L (s.n + c) t, ag := s.ag.set t.toNat o } else s
theorem waitE_ok {s : LS} {c o t : Int} (h : waitE s c o t = 0) : inR c s.n ∧ inR o s.n ∧ inR t s.T ∧ whI s.T s.L t < 0 ∧ s.ow.getD o.toNat 0 = t := by
  obtain ⟨h1, h2, h3, h4⟩ := ask3_ok (by omega) h
  have h5 : inR c s.n ∧ inR o s.n := by simpa [allR] using h1
  exact ⟨h5.1, h5.2, h2, h3, by simpa using h4⟩
set_option maxRecDepth 100000 in
set_option maxHeartbeats 2000000 in
theorem lkwait (h : LkAt w K s) (c o t : Int) : Calls Try.prog 64 #[.pointer (some ⟨K.P, 0, none⟩), .int .i64 c, .int .i64 o, .int .i64 t] w fun e w' =>
    e = .returned (.tuple #[.int .i64 (waitT s c o t), .int .i64 (waitE s c o t)]) ∧ LkAt w' K (waitS s c o t) ∧ Fr K.foot w w' := by
  by_cases h0 : waitE s c o t = 0
  · obtain ⟨hc, ho, ht, _, _⟩ := waitE_ok h0
    have HB : Hid (waitT s c o t = passT s o.toNat) := by unfold waitT; rw [if_pos h0]; exact rfl
    have HS : Hid (waitS s c o t = { passS s o.toNat with L := pushL s.T (passS s o.toNat).L (s.n + c) t, ag := s.ag.set t.toNat o }) := by unfold waitS; rw [if_pos h0]; exact rfl
    rw [HB.out, HS.out, h0]
    have A3 := ask3 h [c, o] o t true 6 (by simp) (by simp) (by simp)
    rw [show askE [(allR [c, o] s.n, 8), idleR s t, ((s.ow.getD o.toNat 0 == t) == true, 6)] = 0 from h0] at A3
    have hoi := hid ho
    obtain ⟨o, rfl⟩ := Int.eq_ofNat_of_zero_le ho.1
    obtain ⟨c, rfl⟩ := Int.eq_ofNat_of_zero_le hc.1
    obtain ⟨t, rfl⟩ := Int.eq_ofNat_of_zero_le ht.1
    have ho' : o < s.n := by have := ho.2; omega
    have hc' : c ≤ 64 := by have := hc.2; have := h.n1; omega
    have hti : (t : Int) < (s.T : Int) := ht.2
    have ht' : t < s.T := by omega
    rw [Int.toNat_natCast] at HB HS ⊢
    simp only [Int.toNat_natCast] at HS ⊢
    have HA := hid A3
    have hPB := h.dP
    clear h0 ho A3 hc ht
    go_enter Try.func64, Try.ntmps64
    go_wp2_with (first
      | (go_at_call 108; refine (are_made _ _ _ ⟨_, rfl⟩ ⟨_, _, _, rfl⟩).mono ?_; rintro e w' ⟨rfl, rfl⟩)
      | (go_at_call 109; refine (idle_made _ _ _).mono ?_; rintro e w' ⟨rfl, rfl⟩)
      | (go_at_call 110; refine (owns_made _ _ _ _ _ _).mono ?_; rintro e w' ⟨rfl, rfl⟩)
      | (go_at_call 107; refine HA.out.mono ?_; rintro e w1 ⟨rfl, hs1⟩; have h1 := h.still hs1)
      | (go_at_call 112; refine (lkpass h1 o ho').mono ?_; rintro e w2 ⟨rfl, h2, f2⟩))
    have G2 := h2.f2
    go_region_held3 (fun w' => w'.cell? ⟨K.P, 2, none⟩ = some (.pointer (some ⟨K.B.p, 0, none⟩)))
      (first | exact G2 | exact Fr.cellK f3 G2 hPB)
      (first
        | (go_at_call 120; refine (lkcond (h2.still (Fr.drew (Fr.refl _ _))) c hc').mono ?_; rintro e w' ⟨rfl, rfl⟩)
        | (go_at_call 21; refine (push_ls (h2.still (Fr.drew (Fr.refl _ _))).hl _ _).mono ?_; rintro e w3 ⟨rfl, hl3, f3⟩; have h3 := (h2.still (Fr.drew (Fr.refl _ _))).setL hl3 f3 (pushL_len' _ _ _ _)))
    have G1 := h3.f1
    have C := h3.cA ht'
    have Z := h3.zA t
    go_wp2_with fail
    go_ret2
    exact ⟨rfl, h3.setA t o hoi.out, ((((hs1.fr K.foot).trans f2).drew).then f3 (fun _ _ h => .inr (.inr h))).setCell (p := ⟨K.A, t, none⟩) (.inl (.inr (.inl rfl))) _⟩
  · have HB : Hid (waitT s c o t = -1) := by unfold waitT; rw [if_neg h0]; exact rfl
    have HS : Hid (waitS s c o t = s) := by unfold waitS; rw [if_neg h0]; exact rfl
    rw [HB.out, HS.out]
    have A3 := ask3 h [c, o] o t true 6 (by simp) (by simp) (by simp)
    obtain ⟨z, hz⟩ : ∃ z, waitE s c o t = z := ⟨_, rfl⟩
    rw [show askE [(allR [c, o] s.n, 8), idleR s t, ((s.ow.getD o.toNat 0 == t) == true, 6)] = z from hz] at A3
    rw [hz] at h0 ⊢
    have HA := hid A3
    clear A3 hz
    go_enter Try.func64, Try.ntmps64
    go_wp2_with (first
      | (go_at_call 108; refine (are_made _ _ _ ⟨_, rfl⟩ ⟨_, _, _, rfl⟩).mono ?_; rintro e w' ⟨rfl, rfl⟩)
      | (go_at_call 109; refine (idle_made _ _ _).mono ?_; rintro e w' ⟨rfl, rfl⟩)
      | (go_at_call 110; refine (owns_made _ _ _ _ _ _).mono ?_; rintro e w' ⟨rfl, rfl⟩)
      | (go_at_call 107; refine HA.out.mono ?_; rintro e w1 ⟨rfl, hs1⟩; have h1 := h.still hs1))
    go_ret2
    exact ⟨rfl, h1, hs1.fr _⟩
end
end Go.Proofs.Ytffjaaolcphonaa
/- The locks: signal, Signal, Owner, Where, Waiters, Sleepers. -/
namespace Go.Proofs.Ytffjaaolcphonaa
open Go.RowKit
/-- What a signal makes, whom it tells, whether there was one. -/
def sigH (s : LS) (c : Nat) : Nat := (gl s.L (s.n + c)).head?.getD 0
def sigB (s : LS) (c : Nat) : Bool := !(gl s.L (s.n + c)).isEmpty
def sigT (s : LS) (c : Nat) : Int := if gl s.L (s.n + c) = [] then -1 else if getB s (s.ag.getD (sigH s c) 0).toNat then (sigH s c : Int) else -1
def sigS (s : LS) (c : Nat) : LS := if gl s.L (s.n + c) = [] then s else getS { s with L := popL s.L ((s.n + c : Nat) : Int) } (s.ag.getD (sigH s c) 0).toNat (sigH s c)
def ask1E (s : LS) (c : Int) : Int := if allR [c] s.n then 0 else 8
theorem ask1E_ok {s : LS} {c : Int} (h : ask1E s c = 0) : inR c s.n := by
  unfold ask1E at h; split at h
  · rename_i h1; simpa [allR] using h1
  · omega
theorem ls_bd' {w : World} {B : LB} {T : Nat} {L : List (List Nat)} (h : LsAt w B T L) {i x : Nat} (hi : i < L.length) (hx : x ∈ gl L i) : x < T := by
  obtain ⟨r, _, hv, rfl⟩ := h; exact (hv.yes i x hi hx).1
theorem wrap_small {x : Int} (h0 : -1000000 ≤ x) (h1 : x ≤ 1000000) : wrap64 x = x := by unfold wrap64; omega
section
variable {w : World} {K : KB} {s : LS}
set_option maxRecDepth 100000 in
set_option maxHeartbeats 2000000 in
theorem lksignal (h : LkAt w K s) (c : Nat) (hc : c < s.n) : Calls Try.prog 122 #[.pointer (some ⟨K.P, 0, none⟩), .int .i64 c] w fun e w' =>
    e = .returned (.tuple #[.int .i64 (sigT s c), .bool (sigB s c)]) ∧ LkAt w' K (sigS s c) ∧ Fr K.foot w w' := by
  have G2 := h.f2
  have hPB := h.dP
  have hc' : c ≤ 64 := by have := h.n1; omega
  have hcL : inR ((s.n + c : Nat) : Int) s.L.length := ⟨by omega, by rw [h.ll]; omega⟩
  have hst : ∀ w1, LsAt w1 K.B s.T (popL s.L ((s.n + c : Nat) : Int)) → Fr K.B.foot w.drew w1 → LkAt w1 K { s with L := popL s.L ((s.n + c : Nat) : Int) } := fun w1 hl hf => (h.still (Fr.drew (Fr.refl _ _))).setL hl hf (popL_len _ _)
  have HST := hid hst
  clear hst
  by_cases h0 : gl s.L (s.n + c) = []
  · have HP : Hid (popE' s.L ((s.n + c : Nat) : Int) = 4) := by unfold popE'; rw [if_pos hcL, Int.toNat_natCast, if_pos h0]; exact rfl
    have HQ : Hid (popT s.L ((s.n + c : Nat) : Int) = 0) := by unfold popT; rw [if_pos hcL, Int.toNat_natCast, h0]; exact rfl
    have HL : Hid (popL s.L ((s.n + c : Nat) : Int) = s.L) := by unfold popL; rw [HP.out, if_neg (by decide)]; exact rfl
    have HT : Hid (sigT s c = -1) := by unfold sigT; rw [if_pos h0]; exact rfl
    have HB : Hid (sigB s c = false) := by unfold sigB; rw [h0]; exact rfl
    have HS : Hid (sigS s c = s) := by unfold sigS; rw [if_pos h0]; exact rfl
    rw [HT.out, HB.out, HS.out]
    clear h0 hcL
    go_enter Try.func122, Try.ntmps122
    go_wp2_with fail
    go_region_held3 (fun w' => w'.cell? ⟨K.P, 2, none⟩ = some (.pointer (some ⟨K.B.p, 0, none⟩)))
      (first | exact G2 | exact Fr.cellK f3 G2 hPB)
      (first
        | (go_at_call 120; refine (lkcond (h.still (Fr.drew (Fr.refl _ _))) c hc').mono ?_; rintro e w' ⟨rfl, rfl⟩)
        | (go_at_call 41; refine (pop_ls (h.still (Fr.drew (Fr.refl _ _))).hl ((s.n + c : Nat) : Int)).mono ?_; rw [HP.out, HQ.out]; rintro e w3 ⟨rfl, hl3, f3⟩; have h3 := HST.out w3 hl3 f3))
    go_wp2_with fail
    go_ret2
    refine ⟨rfl, ?_, (Fr.drew (Fr.refl K.foot w)).then f3 (fun _ _ h => .inr (.inr h))⟩
    rw [HL.out] at h3
    exact h3
  · obtain ⟨x, ys, hxy⟩ := List.exists_cons_of_ne_nil h0
    have hxs : sigH s c = x := by unfold sigH; rw [hxy]; rfl
    have hxT : x < s.T := ls_bd' h.hl (i := s.n + c) (by rw [h.ll]; omega) (by rw [hxy]; simp)
    have hwf := h.wf x hxT
    have HP : Hid (popE' s.L ((s.n + c : Nat) : Int) = 0) := by unfold popE'; rw [if_pos hcL, Int.toNat_natCast, if_neg h0]; exact rfl
    have HQ : Hid (popT s.L ((s.n + c : Nat) : Int) = x) := by unfold popT; rw [if_pos hcL, Int.toNat_natCast, hxy]; exact rfl
    obtain ⟨o, ho⟩ := Int.eq_ofNat_of_zero_le hwf.1
    have ho' : o < s.n := by have := hwf.2; omega
    have HT : Hid (sigT s c = if getB s o then (x : Int) else -1) := by unfold sigT; rw [if_neg h0, hxs, ho, Int.toNat_natCast]; exact rfl
    have HB : Hid (sigB s c = true) := by unfold sigB; rw [hxy]; exact rfl
    have HS : Hid (sigS s c = getS { s with L := popL s.L ((s.n + c : Nat) : Int) } o x) := by unfold sigS; rw [if_neg h0, hxs, ho, Int.toNat_natCast]; exact rfl
    have HO := hid ho
    rw [HT.out, HB.out, HS.out]
    have hx' : (x : Int) < (s.T : Int) := by omega
    clear h0 hcL hxy hxs hwf ho
    have HG : Hid (∀ L', getB { s with L := L' } o = getB s o) := fun _ => rfl
    cases hb : getB s o
    all_goals
      have HBB := hid hb
      clear hb
      go_enter Try.func122, Try.ntmps122
      go_wp2_with fail
      go_region_held3 (fun w' => w'.cell? ⟨K.P, 2, none⟩ = some (.pointer (some ⟨K.B.p, 0, none⟩)))
        (first | exact G2 | exact Fr.cellK f3 G2 hPB)
        (first
          | (go_at_call 120; refine (lkcond (h.still (Fr.drew (Fr.refl _ _))) c hc').mono ?_; rintro e w' ⟨rfl, rfl⟩)
          | (go_at_call 41; refine (pop_ls (h.still (Fr.drew (Fr.refl _ _))).hl ((s.n + c : Nat) : Int)).mono ?_; rw [HP.out, HQ.out]; rintro e w3 ⟨rfl, hl3, f3⟩; have h3 := HST.out w3 hl3 f3))
      have G1 := h3.f1
      have C := h3.cA hxT
      simp only [HO.out] at C
      go_wp2_with fail
      refine (lkget h3 o x ho').mono ?_
      rw [HG.out, HBB.out]
      rintro e w4 ⟨rfl, h4, f4⟩
      go_wp2_with fail
      go_ret2
      exact ⟨rfl, h4, ((Fr.drew (Fr.refl K.foot w)).then f3 (fun _ _ h => .inr (.inr h))).trans f4⟩
def signalT (s : LS) (c : Int) : Int := if ask1E s c = 0 then sigT s c.toNat else -1
def signalS (s : LS) (c : Int) : LS := if ask1E s c = 0 then sigS s c.toNat else s
set_option maxRecDepth 100000 in
set_option maxHeartbeats 1000000 in
theorem lkSignal (h : LkAt w K s) (c : Int) : Calls Try.prog 72 #[.pointer (some ⟨K.P, 0, none⟩), .int .i64 c] w fun e w' =>
    e = .returned (.tuple #[.int .i64 (signalT s c), .int .i64 (ask1E s c)]) ∧ LkAt w' K (signalS s c) ∧ Fr K.foot w w' := by
  have A1 := ask1 h [c] (by simp) (by simp)
  rw [show (if allR [c] s.n then (0 : Int) else 8) = ask1E s c from rfl] at A1
  by_cases h0 : ask1E s c = 0
  · have hc := ask1E_ok h0
    have HT : Hid (signalT s c = sigT s c.toNat) := by unfold signalT; rw [if_pos h0]; exact rfl
    have HS : Hid (signalS s c = sigS s c.toNat) := by unfold signalS; rw [if_pos h0]; exact rfl
    rw [HT.out, HS.out, h0]
    rw [h0] at A1
    obtain ⟨c, rfl⟩ := Int.eq_ofNat_of_zero_le hc.1
    have hc' : c < s.n := by have := hc.2; omega
    rw [Int.toNat_natCast] at HT HS ⊢
    have HA := hid A1
    clear h0 hc A1
    go_enter Try.func72, Try.ntmps72
    go_wp2_with (first
      | (go_at_call 108; refine (are_made _ _ _ ⟨_, rfl⟩ ⟨_, _, _, rfl⟩).mono ?_; rintro e w' ⟨rfl, rfl⟩)
      | (go_at_call 107; refine HA.out.mono ?_; rintro e w1 ⟨rfl, hs1⟩; have h1 := h.still hs1)
      | (go_at_call 122; refine (lksignal h1 c hc').mono ?_; rintro e w2 ⟨rfl, h2, f2⟩))
    go_ret2
    exact ⟨rfl, h2, (hs1.fr _).trans f2⟩
  · have HT : Hid (signalT s c = -1) := by unfold signalT; rw [if_neg h0]; exact rfl
    have HS : Hid (signalS s c = s) := by unfold signalS; rw [if_neg h0]; exact rfl
    rw [HT.out, HS.out]
    obtain ⟨z, hz⟩ : ∃ z, ask1E s c = z := ⟨_, rfl⟩
    rw [hz] at h0 A1 ⊢
    have HA := hid A1
    clear A1 hz
    go_enter Try.func72, Try.ntmps72
    go_wp2_with (first
      | (go_at_call 108; refine (are_made _ _ _ ⟨_, rfl⟩ ⟨_, _, _, rfl⟩).mono ?_; rintro e w' ⟨rfl, rfl⟩)
      | (go_at_call 107; refine HA.out.mono ?_; rintro e w1 ⟨rfl, hs1⟩; have h1 := h.still hs1))
    go_ret2
    exact ⟨rfl, h1, hs1.fr _⟩
def ownerI (s : LS) (o : Int) : Int := if ask1E s o = 0 then s.ow.getD o.toNat 0 else -1
set_option maxRecDepth 100000 in
set_option maxHeartbeats 1000000 in
theorem lkowner (h : LkAt w K s) (c : Int) : Calls Try.prog 56 #[.pointer (some ⟨K.P, 0, none⟩), .int .i64 c] w fun e w' => e = .returned (.int .i64 (ownerI s c)) ∧ Still w w' := by
  have A1 := ask1 h [c] (by simp) (by simp)
  rw [show (if allR [c] s.n then (0 : Int) else 8) = ask1E s c from rfl] at A1
  by_cases h0 : ask1E s c = 0
  · have hc := ask1E_ok h0
    have HT : Hid (ownerI s c = s.ow.getD c.toNat 0) := by unfold ownerI; rw [if_pos h0]; exact rfl
    rw [HT.out]
    rw [h0] at A1
    obtain ⟨c, rfl⟩ := Int.eq_ofNat_of_zero_le hc.1
    have hc' : c < s.n := by have := hc.2; omega
    have hci : (c : Int) < (s.n : Int) := hc.2
    rw [Int.toNat_natCast] at HT ⊢
    have HA := hid A1
    clear h0 hc A1
    go_enter Try.func56, Try.ntmps56
    go_wp2_with (first
      | (go_at_call 108; refine (are_made _ _ _ ⟨_, rfl⟩ ⟨_, _, _, rfl⟩).mono ?_; rintro e w' ⟨rfl, rfl⟩)
      | (go_at_call 107; refine HA.out.mono ?_; rintro e w1 ⟨rfl, hs1⟩; have h1 := h.still hs1; have G0 := h1.f0; have C := h1.cO hc'))
    go_ret
    exact ⟨rfl, hs1⟩
  · have HT : Hid (ownerI s c = -1) := by unfold ownerI; rw [if_neg h0]; exact rfl
    rw [HT.out]
    obtain ⟨z, hz⟩ : ∃ z, ask1E s c = z := ⟨_, rfl⟩
    rw [hz] at h0 A1
    have HA := hid A1
    clear A1 hz
    go_enter Try.func56, Try.ntmps56
    go_wp2_with (first
      | (go_at_call 108; refine (are_made _ _ _ ⟨_, rfl⟩ ⟨_, _, _, rfl⟩).mono ?_; rintro e w' ⟨rfl, rfl⟩)
      | (go_at_call 107; refine HA.out.mono ?_; rintro e w1 ⟨rfl, hs1⟩; have h1 := h.still hs1))
    go_ret
    exact ⟨rfl, hs1⟩
/-- Who stands in a list of objects from k on. -/
def rowOf (s : LS) (k : Nat) (o : Int) : List Nat := if ask1E s o = 0 then gl s.L (k + o.toNat) else []
def RowPost (w : World) (l : List Nat) (e : Ending) (W' : World) : Prop := ∃ a c, e = .returned (.slice a l.length c) ∧ IRow W' (.slice a l.length c) (zi l) ∧ Still w W' ∧ (0 < l.length → ∀ b o, a = some ⟨b, o, none⟩ → w.heap.size ≤ b)
set_option maxRecDepth 100000 in
set_option maxHeartbeats 1000000 in
theorem lkwaiters (h : LkAt w K s) (c : Int) : Calls Try.prog 70 #[.pointer (some ⟨K.P, 0, none⟩), .int .i64 c] w (RowPost w (rowOf s 0 c)) := by
  have A1 := ask1 h [c] (by simp) (by simp)
  rw [show (if allR [c] s.n then (0 : Int) else 8) = ask1E s c from rfl] at A1
  by_cases h0 : ask1E s c = 0
  · have hc := ask1E_ok h0
    have HT : Hid (rowOf s 0 c = gl s.L c.toNat) := by unfold rowOf; rw [if_pos h0, Nat.zero_add]; exact rfl
    rw [HT.out]
    rw [h0] at A1
    obtain ⟨c, rfl⟩ := Int.eq_ofNat_of_zero_le hc.1
    have hc' : c < s.L.length := by have := hc.2; rw [h.ll]; omega
    rw [Int.toNat_natCast] at HT ⊢
    have HA := hid A1
    clear h0 hc A1
    go_enter Try.func70, Try.ntmps70
    go_wp2_with (first
      | (go_at_call 108; refine (are_made _ _ _ ⟨_, rfl⟩ ⟨_, _, _, rfl⟩).mono ?_; rintro e w' ⟨rfl, rfl⟩)
      | (go_at_call 107; refine HA.out.mono ?_; rintro e w1 ⟨rfl, hs1⟩; have h1 := h.still hs1)
      | (go_at_call 121; refine (lkrow h1 c hc').mono ?_; rintro e w5 ⟨a5, c5, rfl, hr5, hs5, hb5⟩))
    go_ret
    exact ⟨a5, c5, rfl, hr5, hs1.trans hs5, fun _ b o e => Nat.le_trans hs1.size (hb5 b o e)⟩
  · have HT : Hid (rowOf s 0 c = []) := by unfold rowOf; rw [if_neg h0]; exact rfl
    rw [HT.out]
    obtain ⟨z, hz⟩ : ∃ z, ask1E s c = z := ⟨_, rfl⟩
    rw [hz] at h0 A1
    have HA := hid A1
    clear A1 hz
    go_enter Try.func70, Try.ntmps70
    go_wp2_with (first
      | (go_at_call 108; refine (are_made _ _ _ ⟨_, rfl⟩ ⟨_, _, _, rfl⟩).mono ?_; rintro e w' ⟨rfl, rfl⟩)
      | (go_at_call 107; refine HA.out.mono ?_; rintro e w1 ⟨rfl, hs1⟩; have h1 := h.still hs1))
    go_ret
    exact ⟨none, 0, rfl, .inl ⟨rfl, _, _, rfl⟩, hs1, fun h => absurd h (by simp)⟩
set_option maxRecDepth 100000 in
set_option maxHeartbeats 1000000 in
theorem lksleepers (h : LkAt w K s) (c : Int) : Calls Try.prog 65 #[.pointer (some ⟨K.P, 0, none⟩), .int .i64 c] w (RowPost w (rowOf s s.n c)) := by
  have A1 := ask1 h [c] (by simp) (by simp)
  rw [show (if allR [c] s.n then (0 : Int) else 8) = ask1E s c from rfl] at A1
  by_cases h0 : ask1E s c = 0
  · have hc := ask1E_ok h0
    have HT : Hid (rowOf s s.n c = gl s.L (s.n + c.toNat)) := by unfold rowOf; rw [if_pos h0]; exact rfl
    rw [HT.out]
    rw [h0] at A1
    obtain ⟨c, rfl⟩ := Int.eq_ofNat_of_zero_le hc.1
    have hc' : s.n + c < s.L.length := by have := hc.2; rw [h.ll]; omega
    have hc2 : c ≤ 64 := by have := hc.2; have := h.n1; omega
    rw [Int.toNat_natCast] at HT ⊢
    have HA := hid A1
    clear h0 hc A1
    go_enter Try.func65, Try.ntmps65
    go_wp2_with (first
      | (go_at_call 108; refine (are_made _ _ _ ⟨_, rfl⟩ ⟨_, _, _, rfl⟩).mono ?_; rintro e w' ⟨rfl, rfl⟩)
      | (go_at_call 107; refine HA.out.mono ?_; rintro e w1 ⟨rfl, hs1⟩; have h1 := h.still hs1)
      | (go_at_call 120; refine (lkcond h1 c hc2).mono ?_; rintro e w' ⟨rfl, rfl⟩)
      | (go_at_call 121; refine (lkrow h1 (s.n + c) hc').mono ?_; rintro e w5 ⟨a5, c5, rfl, hr5, hs5, hb5⟩))
    go_ret
    exact ⟨a5, c5, rfl, hr5, hs1.trans hs5, fun _ b o e => Nat.le_trans hs1.size (hb5 b o e)⟩
  · have HT : Hid (rowOf s s.n c = []) := by unfold rowOf; rw [if_neg h0]; exact rfl
    rw [HT.out]
    obtain ⟨z, hz⟩ : ∃ z, ask1E s c = z := ⟨_, rfl⟩
    rw [hz] at h0 A1
    have HA := hid A1
    clear A1 hz
    go_enter Try.func65, Try.ntmps65
    go_wp2_with (first
      | (go_at_call 108; refine (are_made _ _ _ ⟨_, rfl⟩ ⟨_, _, _, rfl⟩).mono ?_; rintro e w' ⟨rfl, rfl⟩)
      | (go_at_call 107; refine HA.out.mono ?_; rintro e w1 ⟨rfl, hs1⟩; have h1 := h.still hs1))
    go_ret
    exact ⟨none, 0, rfl, .inl ⟨rfl, _, _, rfl⟩, hs1, fun h => absurd h (by simp)⟩
def whereK (s : LS) (t : Int) : Int := if whI s.T s.L t < 0 then 0 else if whI s.T s.L t < s.n then 1 else 2
def whereO (s : LS) (t : Int) : Int := if whI s.T s.L t < 0 then -1 else if whI s.T s.L t < s.n then whI s.T s.L t else whI s.T s.L t - s.n
theorem lkwhere (h : LkAt w K s) (t : Int) : Calls Try.prog 71 #[.pointer (some ⟨K.P, 0, none⟩), .int .i64 t] w fun e w' =>
    e = .returned (.tuple #[.int .i64 (whereK s t), .int .i64 (whereO s t)]) ∧ Still w w' := by
  have F0 := h.f0
  have F2 := h.f2
  have n1 := h.n1
  have A := where_ls h.hl t
  have hz4 : whI s.T s.L t ≤ 4096 := by
    unfold whI; split
    · rcases wh_cases s.L t.toNat with e | ⟨i, e⟩
      · omega
      · have := (wh_yes e).1; have := h.ll; omega
    · omega
  obtain ⟨z, hz⟩ : ∃ z, whI s.T s.L t = z := ⟨_, rfl⟩
  have HK : Hid (whereK s t = if z < 0 then 0 else if z < s.n then 1 else 2) := by unfold whereK; rw [hz]; exact rfl
  have HO : Hid (whereO s t = if z < 0 then -1 else if z < s.n then z else z - s.n) := by unfold whereO; rw [hz]; exact rfl
  rw [hz] at A hz4
  have HA := hid A
  clear A hz
  rw [HK.out, HO.out]
  by_cases h0 : z < 0
  · rw [if_pos h0, if_pos h0]
    go_enter Try.func71, Try.ntmps71
    go_wp2_with (first
      | (go_at_call 130; refine (lkmade h).mono ?_; rintro e w' ⟨rfl, rfl⟩)
      | (go_at_call 29; refine HA.out.mono ?_; rintro e w' ⟨rfl, rfl⟩))
    go_ret2
    exact ⟨rfl, Fr.refl _ _⟩
  · rw [if_neg h0, if_neg h0]
    by_cases h1 : z < s.n
    · rw [if_pos h1, if_pos h1]
      go_enter Try.func71, Try.ntmps71
      go_wp2_with (first
        | (go_at_call 130; refine (lkmade h).mono ?_; rintro e w' ⟨rfl, rfl⟩)
        | (go_at_call 29; refine HA.out.mono ?_; rintro e w' ⟨rfl, rfl⟩))
      go_ret2
      exact ⟨rfl, Fr.refl _ _⟩
    · rw [if_neg h1, if_neg h1]
      have hd1 : (0 : Int) ≤ z := by omega
      have hd2 : (s.n : Int) ≤ z := by omega
      go_enter Try.func71, Try.ntmps71
      go_wp2_with (first
        | (go_at_call 130; refine (lkmade h).mono ?_; rintro e w' ⟨rfl, rfl⟩)
        | (go_at_call 29; refine HA.out.mono ?_; rintro e w' ⟨rfl, rfl⟩))
      go_quiet (fail)
      go_wp2
      go_ret2
      exact ⟨rfl, (Fr.refl _ _).drewN _⟩
end
end Go.Proofs.Ytffjaaolcphonaa
