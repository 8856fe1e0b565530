/- slices.Clone of whole numbers; the links' Copy. -/
import Derived.Test.YtffjaaolcphonaaBdB
import Derived.WalkSpells
import Derived.Deep.RegionHeld3
import Derived.Deep.DeepCutAuto
import Derived.RangeFuncNested
import Derived.RangeFuncBound
import Derived.RangeFuncCalls
import Derived.RangeFuncLeaves
import Derived.RangeFuncFrom
import Derived.Shelf.Abstract
import Derived.Shelf.RegionOpen
import Derived.OwnWalkIn
import Derived.TacticsInMore
import Derived.LoopNIn
import Derived.LoopIn
import Derived.RegionIn
import Derived.RangeFuncBox
import Derived.Maps.AppendAt
namespace Go.Proofs.Ytffjaaolcphonaa
open Go.RowKit

theorem Addr.add_zero_lit (g j : Nat) : (⟨g, 0, none⟩ : Addr).add j = ⟨g, j, none⟩ := by rw [Addr.add_lit, Nat.zero_add]
theorem ints_cells {w : World} {g : Nat} {xs : List Int} (h : IBlk w g xs) : ∀ j u, (ints xs)[j]? = some u → w.cell? ((⟨g, 0, none⟩ : Addr).add j) = some u := by
  intro j u hu
  obtain ⟨sp, h⟩ := h
  have hj := (List.getElem?_eq_some_iff.1 hu).1
  have : (⟨g, 0, none⟩ : Addr).add j = ⟨g, j, none⟩ := Addr.add_zero_lit g j
  rw [this, Blk.cell h, List.getElem?_append_left (by simpa [ints] using hj)]
  exact hu

set_option maxRecDepth 100000 in
theorem clone_any (w : World) (g n cap : Nat) (xs : List Int) (h : IBlk w g xs) (hn : xs.length = n) (h0 : 0 < n) (h1 : n ≤ 100000) : Calls Try.prog 93 #[.slice (some ⟨g, 0, none⟩) n cap] w fun e w' =>
    ∃ g' cap', e = .returned (.slice (some ⟨g', 0, none⟩) n cap') ∧ w.heap.size ≤ g' ∧ IBlk w' g' xs ∧ Still w w' := by
  have hg := h.lt
  obtain ⟨i0, hi, hz0, hz1, hz2⟩ := info_parts info3
  have HI := hid hi
  have HZ0 := hid hz0
  have HZ1 := hid hz1
  have HZ2 := hid hz2
  have HN := hid hn
  clear hi hz0 hz1 hz2 hn
  have HEQ := fun w => Lib.run_eql_slice_nil (P := Try.prog) w 28 3 (some ⟨g, 0, none⟩) n cap 0 0 Try.underlying28
  go_enter Try.func93, Try.ntmps93
  have hown : (w.alloc (.cells #[] 3)).ownsRow w.heap.size 3 1 (.slice (some ⟨w.heap.size, 0, none⟩) 0 0) 0 [] :=
    ⟨rfl, .inr ⟨_, 0, #[], rfl, Nat.le_refl _, heap_at _ _ _ rfl, Nat.le_refl _, by unfold maxLen; omega, rfl, rfl⟩⟩
  have hx := ints_cells (h.alloc (.cells #[] 3))
  have HOWN := hid hown
  have HX := hid hx
  clear hown hx
  go_wp2_with (at_builtin; refine wpList_append_own _ rfl _ _ 28 rfl w.heap.size 3 i0 (.int .i64 0) 1 8 Try.underlying28 HI.out HZ0.out HZ1.out HZ2.out rfl (by decide) _ 0 [] rfl HOWN.out ⟨g, 0, none⟩ n cap (ints xs) rfl (by simpa [ints] using HN.out) HX.out (ints_oneCell _ _) (by unfold maxLen; omega) (by omega) (by simp) ?_)
  intro v' w1 hown' hgrow hnil
  obtain ⟨g', cap', rfl, hg', _, hI⟩ := IBlk.of_owns hown' h0
  clear hown' hnil
  go_wp2
  go_ret
  refine ⟨g', cap', rfl, hg', hI, ?_⟩
  exact Fr.then ((Still.refl w).alloc _) (Fr.of_grownBy hgrow (F := fun k => w.heap.size ≤ k) (fun k hk _ => by simp only [Value.ownBlock, Option.some.injEq] at hk; omega)) (fun i hi h => by omega)

/-- The five cells of the head. -/
def Head (w : World) (B : LB) (r : Raw) : Prop := w.cell? ⟨B.p, 0, none⟩ = some (.int .i64 r.things) ∧ w.cell? ⟨B.p, 1, none⟩ = some (.slice (some ⟨B.n, 0, none⟩) r.next.length B.kn) ∧ w.cell? ⟨B.p, 2, none⟩ = some (.slice (some ⟨B.b, 0, none⟩) r.next.length B.kb) ∧
  w.cell? ⟨B.p, 3, none⟩ = some (.slice (some ⟨B.l, 0, none⟩) r.things B.kl) ∧ w.cell? ⟨B.p, 4, none⟩ = some (.slice (some ⟨B.c, 0, none⟩) r.count.length B.kc)
theorem RawAt.head {w : World} {B : LB} {r : Raw} (h : RawAt w B r) : Head w B r := ⟨h.f0, h.f1, h.f2, h.f3, h.f4⟩

/-- What a clone leaves. -/
def Cloned (B : LB) (r : Raw) (w : World) (n : Nat) (xs : List Int) (e : Ending) (w' : World) : Prop :=
  ∃ g' cap', e = .returned (.slice (some ⟨g', 0, none⟩) n cap') ∧ w.heap.size ≤ g' ∧ IBlk w' g' xs ∧ Still w w' ∧ RawAt w' B r ∧ Head w' B r
theorem clone_n (w : World) (B : LB) (r : Raw) (h : RawAt w B r) : Calls Try.prog 93 #[.slice (some ⟨B.n, 0, none⟩) r.next.length B.kn] w (Cloned B r w r.next.length r.next) :=
  (clone_any w B.n _ B.kn r.next h.hn rfl (by have := h.lnext; have := h.t0; omega) (by have := h.lnext; have := h.t1; have := h.m1; omega)).mono fun _ _ ⟨g, c, h1, h2, h3, h4⟩ => ⟨g, c, h1, h2, h3, h4, h.still h4, (h.still h4).head⟩
theorem clone_b (w : World) (B : LB) (r : Raw) (h : RawAt w B r) : Calls Try.prog 93 #[.slice (some ⟨B.b, 0, none⟩) r.next.length B.kb] w (Cloned B r w r.next.length r.back) :=
  (clone_any w B.b _ B.kb r.back h.hb (by rw [h.lnext, h.lback]) (by have := h.lnext; have := h.t0; omega) (by have := h.lnext; have := h.t1; have := h.m1; omega)).mono fun _ _ ⟨g, c, h1, h2, h3, h4⟩ => ⟨g, c, h1, h2, h3, h4, h.still h4, (h.still h4).head⟩
theorem clone_l (w : World) (B : LB) (r : Raw) (h : RawAt w B r) : Calls Try.prog 93 #[.slice (some ⟨B.l, 0, none⟩) r.things B.kl] w (Cloned B r w r.things r.list) :=
  (clone_any w B.l _ B.kl r.list h.hl h.llist h.t0 (by have := h.t1; omega)).mono fun _ _ ⟨g, c, h1, h2, h3, h4⟩ => ⟨g, c, h1, h2, h3, h4, h.still h4, (h.still h4).head⟩
theorem clone_c (w : World) (B : LB) (r : Raw) (h : RawAt w B r) : Calls Try.prog 93 #[.slice (some ⟨B.c, 0, none⟩) r.count.length B.kc] w (Cloned B r w r.count.length r.count) :=
  (clone_any w B.c _ B.kc r.count h.hc rfl h.m0 (by have := h.m1; omega)).mono fun _ _ ⟨g, c, h1, h2, h3, h4⟩ => ⟨g, c, h1, h2, h3, h4, h.still h4, (h.still h4).head⟩

theorem Still.drew {a w : World} (h : Still a w) : Still a w.drew := Fr.drew h
theorem copy_leaf {w w1 w2 w3 w4 : World} {B : LB} {r : Raw} {g1 g2 g3 g4 c1 c2 c3 c4 : Nat} (h : RawAt w B r) (hg1 : w.drew.heap.size ≤ g1) (hI1 : IBlk w1 g1 r.next) (hS1 : Still w.drew w1)
    (hg2 : w1.heap.size ≤ g2) (hI2 : IBlk w2 g2 r.back) (hS2 : Still w1 w2) (hg3 : w2.heap.size ≤ g3) (hI3 : IBlk w3 g3 r.list) (hS3 : Still w2 w3) (hg4 : w3.heap.size ≤ g4) (hI4 : IBlk w4 g4 r.count) (hS4 : Still w3 w4) :
    ∃ C : LB, Value.pointer (some ⟨w4.heap.size, 0, none⟩) = .pointer (some ⟨C.p, 0, none⟩) ∧
      RawAt (w4.alloc (.cells #[.int .i64 r.things, .slice (some ⟨g1, 0, none⟩) r.next.length c1, .slice (some ⟨g2, 0, none⟩) r.next.length c2, .slice (some ⟨g3, 0, none⟩) r.things c3, .slice (some ⟨g4, 0, none⟩) r.count.length c4] 63)) C r ∧
      Still w (w4.alloc (.cells #[.int .i64 r.things, .slice (some ⟨g1, 0, none⟩) r.next.length c1, .slice (some ⟨g2, 0, none⟩) r.next.length c2, .slice (some ⟨g3, 0, none⟩) r.things c3, .slice (some ⟨g4, 0, none⟩) r.count.length c4] 63)) ∧ ∀ k, C.foot k → w.heap.size ≤ k := by
  have l1 := hI1.lt
  have l2 := hI2.lt
  have l3 := hI3.lt
  have l4 := hI4.lt
  have s1 := hS1.size
  have s2 := hS2.size
  have s3 := hS3.size
  have s4 := hS4.size
  have hg1' : w.heap.size ≤ g1 := hg1
  have s1' : w.heap.size ≤ w1.heap.size := s1
  refine ⟨⟨w4.heap.size, g1, g2, g3, g4, c1, c2, c3, c4⟩, rfl, ⟨by simp only []; omega, by simp only []; omega, by simp only []; omega, by simp only []; omega, by simp only []; omega, by simp only []; omega, by simp only []; omega, by simp only []; omega, by simp only []; omega, by simp only []; omega, Blk.new _ [_, _, _, _, _] _,
    (((hI1.still hS2).still hS3).still hS4).alloc _, ((hI2.still hS3).still hS4).alloc _, (hI3.still hS4).alloc _, hI4.alloc _, h.lnext, h.lback, h.llist, h.t0, h.t1, h.m0, h.m1⟩, ?_, ?_⟩
  · exact ((((((Still.refl w).drew : Still w w.drew).trans hS1).trans hS2).trans hS3).trans hS4).alloc _
  · intro k hk
    simp only [LB.foot] at hk
    omega

set_option maxRecDepth 100000 in
set_option maxHeartbeats 4000000 in
theorem copy_any (w : World) (B : LB) (r : Raw) (h : RawAt w B r) : Calls Try.prog 38 #[.pointer (some ⟨B.p, 0, none⟩)] w fun e w' =>
    ∃ C : LB, e = .returned (.pointer (some ⟨C.p, 0, none⟩)) ∧ RawAt w' C r ∧ Still w w' ∧ ∀ k, C.foot k → w.heap.size ≤ k := by
  obtain ⟨F0, F1, F2, F3, F4⟩ := h.head
  go_enter Try.func38, Try.ntmps38
  go_wp2_with (go_at_call 83; refine (made_yes _ B r h).mono ?_; rintro e w' ⟨rfl, rfl⟩)
  go_cut [2] (fun s2 wx => ∃ C : LB, s2 = .pointer (some ⟨C.p, 0, none⟩) ∧ RawAt wx C r ∧ Still w wx ∧ ∀ k, C.foot k → w.heap.size ≤ k)
  case first =>
    go_region_held3 (fun w' => w'.cell? ⟨B.p, 0, none⟩ = some (.int .i64 r.things) ∧ w'.cell? ⟨B.p, 1, none⟩ = some (.slice (some ⟨B.n, 0, none⟩) r.next.length B.kn) ∧ w'.cell? ⟨B.p, 2, none⟩ = some (.slice (some ⟨B.b, 0, none⟩) r.next.length B.kb) ∧
  w'.cell? ⟨B.p, 3, none⟩ = some (.slice (some ⟨B.l, 0, none⟩) r.things B.kl) ∧ w'.cell? ⟨B.p, 4, none⟩ = some (.slice (some ⟨B.c, 0, none⟩) r.count.length B.kc)) (first | exact ⟨F0, F1, F2, F3, F4⟩ | assumption | (refine (RawAt.alloc (r := r) ?_ _).head; assumption))
      (first
        | (go_at_call_of 93 (Value.slice (some ⟨B.n, 0, none⟩) r.next.length B.kn); refine (clone_n _ B r (by first | assumption | exact h.drew)).mono ?_; rintro e w1 ⟨g1, c1, rfl, hg1, hI1, hS1, hR1, hH1⟩)
        | (go_at_call_of 93 (Value.slice (some ⟨B.b, 0, none⟩) r.next.length B.kb); refine (clone_b _ B r (by first | assumption | exact h.drew)).mono ?_; rintro e w1 ⟨g2, c2, rfl, hg2, hI2, hS2, hR2, hH2⟩)
        | (go_at_call_of 93 (Value.slice (some ⟨B.l, 0, none⟩) r.things B.kl); refine (clone_l _ B r (by first | assumption | exact h.drew)).mono ?_; rintro e w1 ⟨g3, c3, rfl, hg3, hI3, hS3, hR3, hH3⟩)
        | (go_at_call_of 93 (Value.slice (some ⟨B.c, 0, none⟩) r.count.length B.kc); refine (clone_c _ B r (by first | assumption | exact h.drew)).mono ?_; rintro e w1 ⟨g4, c4, rfl, hg4, hI4, hS4, hR4, hH4⟩))
    all_goals
      go_wp2_with fail
      go_meet
      exact copy_leaf h hg1 hI1 hS1 hg2 hI2 hS2 hg3 hI3 hS3 hg4 hI4 hS4
  case rest =>
    obtain ⟨C, rfl, hC⟩ := hcut
    go_wp2
    go_ret
    exact ⟨C, rfl, hC⟩
end Go.Proofs.Ytffjaaolcphonaa
/- The links' All: its iterator tells the list's things in order, whatever the loop's body does elsewhere. -/
namespace Go.Proofs.Ytffjaaolcphonaa
open Go.RowKit Go.Shelf
attribute [local go_sem] Oper.semAt_some

/-- The blocks of K lie as they lay. -/
def Kb (K : Nat → Prop) (A C : World) : Prop := ∀ k, K k → C.heap[k]? = A.heap[k]?
theorem Kb.refl (K : Nat → Prop) (A : World) : Kb K A A := fun _ _ => rfl
theorem Kb.trans {K : Nat → Prop} {A C D : World} (h : Kb K A C) (k : Kb K C D) : Kb K A D := fun i hi => (k i hi).trans (h i hi)
theorem kb_b {K : Nat → Prop} {w : World} (hK : ∀ k, K k → k < w.heap.size) (W : World) (l : Nat) (o o' : Obj) (hl : w.heap.size ≤ l) (_ : W.heap[l]? = some o) (_ : o.isCells = false) (_ : o.isWalk = false) : Kb K W (W.putObj l o') :=
  fun k hk => World.putObj_heap_other (by have := hK k hk; omega)
theorem Kb.of_fr {K F : Nat → Prop} {A C : World} (h : Fr F A C) (hK : ∀ k, K k → k < A.heap.size ∧ ¬ F k) : Kb K A C := fun k hk => h.block k (hK k hk).1 (hK k hk).2
theorem Blk.kb {w w' : World} {b : Nat} {A : List Value} {T : TypeId} (h : Blk w b A T) {K : Nat → Prop} (hk : Kb K w w') (hb : K b) : Blk w' b A T := (hk b hb).trans h
theorem IBlk.kb {w w' : World} {b : Nat} {xs : List Int} (h : IBlk w b xs) {K : Nat → Prop} (hk : Kb K w w') (hb : K b) : IBlk w' b xs := by obtain ⟨sp, h⟩ := h; exact ⟨sp, Blk.kb h hk hb⟩

/-- From q on the things of the list, then its end. -/
def Seq (nx : List Int) (e : Nat) : Nat → List Nat → Prop
  | q, [] => q = e
  | q, a :: l => q = a ∧ a ≠ e ∧ a < nx.length ∧ ∃ q', nx.getD a 0 = ((q' : Nat) : Int) ∧ Seq nx e q' l
theorem Seq.unique {nx : List Int} {e : Nat} : ∀ {q : Nat} {l m : List Nat}, Seq nx e q l → Seq nx e q m → l = m
  | _, [], [], _, _ => rfl
  | _, [], _ :: _, h, ⟨h1, h2, _⟩ => absurd (h1.symm.trans h) h2
  | _, _ :: _, [], ⟨h1, h2, _⟩, h => absurd (h1.symm.trans h) h2
  | _, a :: l, b :: m, ⟨h1, _, _, q, h3, h4⟩, ⟨k1, _, _, q', k3, k4⟩ => by
    obtain rfl : a = b := h1.symm.trans k1
    rw [h3] at k3
    obtain rfl : q = q' := by omega
    rw [Seq.unique h4 k4]
open Classical in
noncomputable def seqLeft (nx : List Int) (e : Nat) (v : Value) : Nat := if h : ∃ l, Seq nx e (intOf v).toNat l then (Classical.choose h).length else 0
theorem seqLeft_eq {nx : List Int} {e q : Nat} {l : List Nat} (h : Seq nx e q l) : seqLeft nx e (.int .i64 (q : Int)) = l.length := by
  have hex : ∃ l, Seq nx e (intOf (.int .i64 (q : Int))).toNat l := ⟨l, by simpa [intOf] using h⟩
  unfold seqLeft
  rw [dif_pos hex]
  have := Classical.choose_spec hex
  exact congrArg List.length (Seq.unique (by simpa [intOf] using this) h)

theorem end_cell (w : World) (p t i q : Nat) (hc : w.cell? ⟨p, 0, none⟩ = some (.int .i64 (t : Int))) (hq : t + i = q) (h1 : i ≤ 4096) (h2 : t ≤ 4096) : Calls Try.prog 77 #[.pointer (some ⟨p, 0, none⟩), .int .i64 i] w fun e w' => e = .returned (.int .i64 q) ∧ w = w' := by
  have HQ := hid hq
  clear hq
  go_enter Try.func77, Try.ntmps77
  go_wp2
  go_ret
  exact ⟨by rw [← HQ.out]; rfl, rfl⟩

def aK (B : LB) (b1 b2 : Nat) (k : Nat) : Prop := k = B.p ∨ k = B.n ∨ k = b1 ∨ k = b2

set_option maxRecDepth 100000 in
set_option maxHeartbeats 2000000 in
theorem all1_in (l b1 b2 i : Nat) (B : LB) (r : Raw) (xs : List Nat) (J Jx : List Nat → World → Prop)
    (hY : ∀ pre x W, x ∈ xs → J pre W → pre.length < xs.length → YieldAt Fence.wide 2 Try.prog l #[.int .i64 ((x : Nat) : Int)] W fun e W' =>
      (e = .returned (.bool true) ∧ J (pre ++ [x]) W' ∧ Kb (aK B b1 b2) W W') ∨ (e = .returned (.bool false) ∧ Jx (pre ++ [x]) W'))
    (W : World) (h1 : Box W b1 (.pointer (some ⟨B.p, 0, none⟩)) 23) (h2 : Box W b2 (.int .i64 i) 3) (hR : RawAt W B r) (hi : i < r.count.length) (q0 : Nat) (hq0 : r.next.getD (r.things + i) 0 = (q0 : Int)) (hL : Seq r.next (r.things + i) q0 xs)
    (hJ : ∀ pre A n, J pre A → J pre (A.drewN n)) (h0 : J [] W) :
    CallsIn Fence.wide 3 Try.prog 133 #[.func (.yield l) #[] #[], .pointer (some ⟨b1, 0, none⟩), .pointer (some ⟨b2, 0, none⟩)] W fun e W' => (∃ v, e = .returned v) ∧
      ((∃ ys, ys = xs ∧ J ys W') ∨ (∃ pre, pre <+: xs ∧ Jx pre W')) := by
  have c1 := h1.c
  have c2 := h2.c
  have t1 := hR.t1
  have m1 := hR.m1
  have ln := hR.lnext
  obtain ⟨E, hE⟩ : ∃ E, r.things + i = E := ⟨_, rfl⟩
  have hE1 : E < r.next.length := by omega
  have hE2 : (E : Int) < (r.next.length : Int) := by omega
  rw [hE] at hq0 hL
  have F0 := hR.f0
  have F1 := hR.f1
  have C0 : W.cell? ⟨B.n, E, none⟩ = some (.int .i64 q0) := by rw [hR.hn.cell hE1, hq0]
  have HE := hid hE
  have HQ := hid hq0
  have HJ := hid hJ
  have HL := hid hL
  clear hE hq0 ln hJ
  refine callsIn_of_wp Try.func133 rfl trivial ?_ rfl
  simp only [Try.ntmps133, List.size_toArray, List.length_cons, List.length_nil, Nat.reduceAdd, Nat.reduceSub, Array.replicate_succ, Array.replicate_zero, List.push_toArray, List.append_toArray, List.nil_append, List.cons_append]
  gi_wp2_with (first | (refine ⟨trivial, ?_⟩; gi_at_call 83; refine (callsIn_wide.2 (made_yes _ B r hR)).mono ?_; rintro e w' ⟨rfl, rfl⟩) | (refine ⟨trivial, ?_⟩; gi_at_call 81; refine (callsIn_wide.2 (isList_yes _ B r hR _ (by omega) (by omega))).mono ?_; rintro e w' ⟨rfl, rfl⟩))
  refine wpIn_wide.2 ?_
  go_quiet ((go_at_call 77; exact Calls.quiet_of_same (calls_flip (end_cell _ B.p r.things i E (by first | exact F0 | exact F0) HE.out (by omega) t1))))
  gi_wp2_with fail
  have K0 : Kb (aK B b1 b2) W (W.drewN nq) := fun _ _ => rfl
  have J0 := HJ.out _ _ nq h0
  gi_loopw [4] (fun v wr => ∃ (pre rest : List Nat) (q : Nat), v = .int .i64 (q : Int) ∧ xs = pre ++ rest ∧ Seq r.next E q rest ∧ Kb (aK B b1 b2) W wr ∧ J pre wr) (fun v _ => seqLeft r.next E v)
  case atStart => exact ⟨[], xs, q0, rfl, rfl, HL.out, K0, J0⟩
  case round =>
    obtain ⟨pre, rest, q, rfl, hx, hl, hk, hj⟩ := hrel
    have g1 := (Blk.kb h1 hk (by simp [aK])).cell 0
    have g2 := (Blk.kb h2 hk (by simp [aK])).cell 0
    have HP := Blk.kb hR.hp hk (by simp [aK])
    have G0 : wr.cell? ⟨B.p, 0, none⟩ = some (.int .i64 r.things) := by rw [HP.cell]; rfl
    have G1 : wr.cell? ⟨B.p, 1, none⟩ = some (.slice (some ⟨B.n, 0, none⟩) r.next.length B.kn) := by rw [HP.cell]; rfl
    simp only [List.getElem?_cons_zero] at g1 g2
    clear HP
    cases rest with
    | nil =>
      have hqE : ((q : Int) != (E : Int)) = false := by have := hl; simp only [Seq] at this; simp [this]
      gi_wp2_with (refine ⟨trivial, ?_⟩; gi_at_call 77; refine (callsIn_wide.2 (end_cell _ B.p r.things i E G0 HE.out (by omega) t1)).mono ?_; rintro e w' ⟨rfl, rfl⟩)
      go_end0
      exact ⟨⟨_, rfl⟩, .inl ⟨pre, by simp [hx], hj⟩⟩
    | cons a rest =>
      have hl' := hl
      obtain ⟨rfl, hne, hlt, q', hq', hr⟩ := hl
      have hqE : ((q : Int) != (E : Int)) = true := by simp; omega
      have hlt' : (q : Int) < (r.next.length : Int) := by omega
      obtain ⟨fn, tmps, assign, body, hy, hY'⟩ := hY pre q wr (by rw [hx]; simp) hj (by rw [hx]; simp)
      gi_wp2_with (refine ⟨trivial, ?_⟩; gi_at_call 77; refine (callsIn_wide.2 (end_cell _ B.p r.things i E G0 HE.out (by omega) t1)).mono ?_; rintro e w' ⟨rfl, rfl⟩)
      refine hY'.mono ?_
      rintro e W3 (⟨rfl, hJ3, hk3⟩ | ⟨rfl, hJx3⟩)
      · have hk' := hk.trans hk3
        have HP3 := Blk.kb hR.hp hk' (by simp [aK])
        have g1' := (Blk.kb h1 hk' (by simp [aK])).cell 0
        have G1' : W3.cell? ⟨B.p, 1, none⟩ = some (.slice (some ⟨B.n, 0, none⟩) r.next.length B.kn) := by rw [HP3.cell]; rfl
        have G2' : W3.cell? ⟨B.n, q, none⟩ = some (.int .i64 (q' : Int)) := by rw [(IBlk.kb hR.hn hk' (by simp [aK])).cell hlt, hq']
        simp only [List.getElem?_cons_zero] at g1'
        clear HP3 hq'
        gi_wp2_with fail
        go_roundw
        case rel => exact ⟨pre ++ [q], rest, q', rfl, by simp [hx], hr, hk', hJ3⟩
        case measure => rw [seqLeft_eq hr, seqLeft_eq hl']; simp
      · gi_wp2_with fail
        refine bodyPost_ret (results_none rfl _ _ _) rfl ?_
        exact ⟨⟨_, rfl⟩, .inr ⟨pre ++ [q], ⟨rest, by simp [hx]⟩, hJx3⟩⟩
end Go.Proofs.Ytffjaaolcphonaa
/- The links' All its contract. -/
namespace Go.Proofs.Ytffjaaolcphonaa
open Go.RowKit Go.Shelf
attribute [local go_sem] Oper.semAt_some

theorem all_any (w : World) (p : Option Addr) (i : Int) : Calls Try.prog 78 #[.pointer p, .int .i64 i] w fun e w' =>
    e = .returned (.func (.func 133) #[] #[.pointer (some ⟨w.heap.size, 0, none⟩), .pointer (some ⟨w.heap.size + 1, 0, none⟩)]) ∧ w' = (w.alloc (.cells #[.pointer p] 23)).alloc (.cells #[.int .i64 i] 3) := by
  go_enter Try.func78, Try.ntmps78
  go_wp2
  go_ret
  exact ⟨rfl, rfl⟩

theorem func_nil (T : TypeId) (hT : T = 120) (f : Nat) (cs : Array Value) : ∀ w, (binOp .eql T (.func (.func f) #[] cs) Value.nilFunc).run Try.prog w = .ok (.bool false) w := by
  intro w; subst hT; kernel_rfl

theorem abides_drewN {β : Type} {B : Nat} {J : β → World → Prop} (h : AbidesFrom B J) {s : β} {A : World} (n : Nat) (hj : J s A) : J s (A.drewN n) :=
  h s A _ none hj ⟨rfl, rfl, rfl, Nat.le_refl _, fun _ _ _ => rfl⟩ (fun r e => by cases e)

/-- A thing. -/
abbrev Th (n : Nat) := { x : Nat // x < n }
def vals {n : Nat} (l : List (Th n)) : List Nat := l.map fun x => x.1
theorem vals_snoc {n : Nat} (l : List (Th n)) (x : Th n) : vals (l ++ [x]) = vals l ++ [x.1] := by simp [vals]
theorem all_stops (w : World) (b1 b2 i n : Nat) (B : LB) (r : Raw) (xs : List Nat) (h1 : Box w b1 (.pointer (some ⟨B.p, 0, none⟩)) 23) (h2 : Box w b2 (.int .i64 i) 3) (hR : RawAt w B r) (hi : i < r.count.length) (q0 : Nat) (hq0 : r.next.getD (r.things + i) 0 = (q0 : Int)) (hL : Seq r.next (r.things + i) q0 xs) (hx : ∀ x ∈ xs, x < n) :
    SeqStopsK Fence.wide 3 Try.prog 133 #[.pointer (some ⟨b1, 0, none⟩), .pointer (some ⟨b2, 0, none⟩)] (fun x : Th n => #[Value.int .i64 (x.1 : Int)]) (Kb (aK B b1 b2)) (fun ys => vals ys = xs) (fun pre => vals pre <+: xs) xs.length w := by
  intro l J Jx W hW hJ hJx hY h0
  refine (all1_in l b1 b2 i B r xs (fun pre W => ∃ pre', vals pre' = pre ∧ J pre' W) (fun pre W => ∃ pre', vals pre' = pre ∧ Jx pre' W) ?_ W (Blk.below h1 hW (Blk.lt h1)) (Blk.below h2 hW (Blk.lt h2)) (hR.still (Fr.of_below0 hW _)) hi q0 hq0 hL ?_ ⟨[], rfl, h0⟩).mono ?_
  · rintro pre x W1 hxm ⟨pre', rfl, hj⟩ hl
    obtain ⟨fn, tmps, assign, body, hy, hR⟩ := hY pre' ⟨x, hx x hxm⟩ W1 hj (by simpa [vals] using hl)
    refine ⟨fn, tmps, assign, body, hy, hR.mono ?_⟩
    rintro e W' (⟨h1, h2, h3⟩ | ⟨h1, h2⟩)
    · exact .inl ⟨h1, ⟨_, vals_snoc _ _, h2⟩, h3⟩
    · exact .inr ⟨h1, ⟨_, vals_snoc _ _, h2⟩⟩
  · rintro pre A n ⟨pre', h, hj⟩
    exact ⟨pre', h, abides_drewN hJ n hj⟩
  · rintro e W' ⟨h1, ⟨ys, rfl, pre', h2, h3⟩ | ⟨pre, h2, pre', rfl, h3⟩⟩
    · exact ⟨h1, .inl ⟨pre', h2, h3⟩⟩
    · exact ⟨h1, .inr ⟨pre', h2, h3⟩⟩
theorem ownsRow_base {w : World} {b b' : Nat} {e : TypeId} {size : Nat} {v : Value} {n : Nat} {xs : List Value} (h : w.ownsRow b e size v n xs) (hb : b' ≤ b) : w.ownsRow b' e size v n xs :=
  ⟨h.1, h.2.imp id fun ⟨g, cap, cur, h1, h2, h3⟩ => ⟨g, cap, cur, h1, Nat.le_trans hb h2, h3⟩⟩
/-- The values of a list's things. -/
def tv (xs : List Nat) : List Value := xs.map fun x : Nat => Value.int .i64 (x : Int)
theorem tv_snoc (xs : List Nat) (x : Nat) : tv (xs ++ [x]) = tv xs ++ [.int .i64 (x : Int)] := by simp [tv]
theorem tv_len (xs : List Nat) : (tv xs).length = xs.length := by simp [tv]

end Go.Proofs.Ytffjaaolcphonaa
/- A loop over the links' All, in the form in which all its callers meet it. -/
namespace Go.Proofs.Ytffjaaolcphonaa
open Go.RowKit Go.Shelf
attribute [local go_sem] Oper.semAt_some

/-- 'out = append(out, ..)', out in a box that lies below the rows that it may own. -/
theorem appended_fr {W w1 : World} {n₀ B : Nat} {t e : TypeId} {size : Nat} {v v' : Value} {k m : Nat} {xs ys : List Value} {tmp : Obj}
    (hv : Boxed W B t v) (hte : t ≠ e) (hrow : W.ownsRow n₀ e size v k xs) (hn₀ : n₀ ≤ W.heap.size)
    (hown' : w1.ownsRow n₀ e size v' m ys) (hgrow : (W.alloc tmp).grownBy w1 v.ownBlock) :
    Boxed w1 B t v ∧ Boxed (w1.setCell ⟨B, 0, none⟩ v') B t v' ∧ (w1.setCell ⟨B, 0, none⟩ v').ownsRow n₀ e size v' m ys ∧ KeepsOthers W (w1.setCell ⟨B, 0, none⟩ v') ∧ Fr (fun k => k = B ∨ n₀ ≤ k) W (w1.setCell ⟨B, 0, none⟩ v') := by
  by_cases hb : n₀ ≤ B
  · obtain ⟨h1, h2, h3, h4, h5⟩ := hv.appended hte hrow hn₀ hb hown' hgrow
    exact ⟨h1, h2, h3, h4, (Fr.of_below h5).mono fun k _ h => .inr h⟩
  · obtain ⟨h1, h2, h3, h4, _⟩ := hv.appended (n₀ := 0) hte (ownsRow_base hrow (Nat.zero_le _)) (Nat.zero_le _) (Nat.zero_le _) (ownsRow_base hown' (Nat.zero_le _)) hgrow
    have hv1 := h1
    refine ⟨h1, h2, hown'.kept (grownBy_setCell' w1 B v') (.inr (hv1.not_row hte hown').symm), h4, ?_⟩
    have hg : Fr (fun k => n₀ ≤ k) W w1 := Fr.then ((Fr.refl _ W).alloc tmp) (Fr.of_grownBy hgrow (F := fun k => n₀ ≤ k) (fun j ej _ => by
      rcases hrow.2 with ⟨rfl, _⟩ | ⟨g, cap, cur, rfl, hb, _, _⟩
      · simp [Value.ownBlock] at ej
      · obtain rfl : g = j := by simpa [Value.ownBlock] using ej
        exact hb)) (fun i _ h => h)
    exact (hg.mono fun k _ h => (.inr h : k = B ∨ n₀ ≤ k)).setCell (.inl (.inl rfl)) _
/-- How a round of such a loop is left: it goes on. -/
def RoundPost (B : Nat) (Kp : World → World → Prop) (I : List Nat → World → Prop) (xs : List Nat) (W : World) (e : Exit) (_ : Act) (W' : World) : Prop := e = .normal ∧ KeepsFrom B W W' ∧ Kp W W' ∧ I xs W'
theorem range_one {n id p d : Nat} {T : TypeId} {pos : String} {ed : Array Edge} {g : Operand} {body : Code} {Q : Exit → Act → World → Prop} {a : Act} {w : World} {b1 b2 : Nat} {Kp : World → World → Prop} {xs : List Nat}
    (hg : a.eval g = .func (.func 133) #[] #[.pointer (some ⟨b1, 0, none⟩), .pointer (some ⟨b2, 0, none⟩)])
    (hp : p < a.tmps.size)
    (hseq : SeqStopsK Fence.wide 3 Try.prog 133 #[.pointer (some ⟨b1, 0, none⟩), .pointer (some ⟨b2, 0, none⟩)] (fun x : Th n => #[Value.int .i64 (x.1 : Int)]) Kp (fun ys => vals ys = xs) (fun pre => vals pre <+: xs) xs.length w)
    (hKt : ∀ {A B C : World}, Kp A B → Kp B C → Kp A C) (hKb : ∀ (W : World) (l : Nat) (o o' : Obj), w.heap.size ≤ l → W.heap[l]? = some o → o.isCells = false → o.isWalk = false → Kp W (W.putObj l o'))
    (I : List Nat → World → Prop) (hI : OwnFrom w.heap.size I) (h0 : I [] w)
    (hbody : ∀ (l : Nat) (pre : List Nat) (x : Nat) (W : World), I pre W → pre.length < xs.length → x < n → body.wpIn (Fence.wide.inRound l) 2 Try.prog (RoundPost w.heap.size Kp I (pre ++ [x]) W)
      { tmps := (a.tmps.setIfInBounds p (.int .i64 (x : Int))).setIfInBounds d (.int .i64 (x : Int)), defers := [] } W)
    (hdone : ∀ (D : Nat) (W : World), w.heap.size ≤ D → I xs W → W.heap[D]? = some (.deferred (some [])) → Q .normal { a with defers := { target := .collected D, args := #[] } :: a.defers } W) :
    (Code.rangeFunc g #[p] (.region id #[{ dst := some d, op := .assign (.tmp p), type := T, pos := pos, after := ed, guard := none }] false) body).wpIn Fence.wide 4 Try.prog Q a w := by
  refine wpIn_rangeFunc_ownG rfl (by decide) (gf := 133) (lb := #[.pointer (some ⟨b1, 0, none⟩), .pointer (some ⟨b2, 0, none⟩)]) hg trivial (enters_of Try.func133 (by kernel_rfl) rfl)
    hseq hKt hKb (Below.refl _ _) (fun _ => rfl) (fun pre W => I (vals pre) W) (fun _ _ _ => False) (fun s W W' row hs hg hr => hI (vals s) W W' row hs hg hr) (fun _ _ _ _ _ hs _ _ => hs) h0
    (fun x => { tmps := (a.tmps.setIfInBounds p (.int .i64 (x.1 : Int))).setIfInBounds d (.int .i64 (x.1 : Int)), defers := [] }) ?assign ?body ?done ?stop
  case assign =>
    intro l x W K hK
    have e : ((#[p].zip #[Value.int IntKind.i64 (x.1 : Int)]).foldl (fun t (p, v) => t.setIfInBounds p v) a.tmps) = a.tmps.setIfInBounds p (.int .i64 (x.1 : Int)) := by simp
    rw [e]
    apply wpIn_region_lit (l := [_])
    refine wpListIn_plain rfl (fun K' hK' => ?_)
    have hget : (Act.mk (a.tmps.setIfInBounds p (.int .i64 (x.1 : Int))) []).eval (.tmp p) = .int .i64 (x.1 : Int) := by simp [Act.eval, hp]
    refine ⟨fun f _ => trivial, ?_⟩
    have e2 : (Oper.semAt (Fence.wide.inRound l).round (Act.mk (a.tmps.setIfInBounds p (.int .i64 (x.1 : Int))) []).eval { dst := some d, op := Op.assign (Operand.tmp p), type := T, pos := pos, after := ed, guard := none }).run Try.prog W = .ok (.value (.int .i64 (x.1 : Int))) W := by
      show (Oper.semAt (some l) _ _).run _ _ = _
      rw [Oper.semAt_some _ _ _ (by intro c h; cases h), BigFrame.run_assign (.tmp p) rfl, hget]
    rw [e2, Oper.uponIn_value]
    refine hK' _ _ (wpListIn_nil ?_)
    exact hK
  case body =>
    intro l pre x W hI' hlen
    refine wpIn_mono (hbody l (vals pre) x.1 W hI' (by simpa [vals] using hlen) x.2) ?_
    rintro e a' W' ⟨rfl, h1, h2, h3⟩
    exact ⟨h1, h2, by show I (vals (pre ++ [x])) W'; rw [vals_snoc]; exact h3⟩
  case done =>
    rintro D ys W hD rfl hi hK
    exact hdone D W hD hi hK
  case stop =>
    rintro D c pre W _ _ h _
    exact h.elim
end Go.Proofs.Ytffjaaolcphonaa
/- The law's 'all': a list's things, collected. -/
namespace Go.Proofs.Ytffjaaolcphonaa
open Go.RowKit Go.Shelf
attribute [local go_sem] Oper.semAt_some
set_option maxRecDepth 100000 in
set_option maxHeartbeats 2000000 in
theorem all_law (w : World) (i : Nat) (B : LB) (r : Raw) (xs : List Nat) (hR : RawAt w B r) (hi : i < r.count.length) (q0 : Nat) (hq0 : r.next.getD (r.things + i) 0 = (q0 : Int)) (hL : Seq r.next (r.things + i) q0 xs) (hx : xs.length ≤ 10000) (hxt : ∀ x ∈ xs, x < r.things) :
    Calls Try.prog 23 #[.pointer (some ⟨B.p, 0, none⟩), .int .i64 i] w fun e W' => ∃ v, e = .returned (.tuple #[v, .bool true]) ∧ W'.ownsRow w.heap.size 3 1 v xs.length (tv xs) ∧ Below w.heap.size w W' := by
  obtain ⟨i0, ti, tz0, tz1, tz2⟩ := info_parts info3
  have HI := hid ti
  have HZ0 := hid tz0
  have HZ1 := hid tz1
  have HZ2 := hid tz2
  clear ti tz0 tz1 tz2
  have HQ := hid hq0
  have HL := hid hL
  clear hq0 hL
  have hRlt := hR.hp.lt
  have hNlt := hR.hn.lt
  refine (callsIn_wide (n := 4)).1 ?_
  refine callsIn_of_wp_marks Try.func23 rfl trivial ?_ rfl
  simp only [Try.ntmps23, List.size_toArray, List.length_cons, List.length_nil, Nat.reduceAdd, Nat.reduceSub, Array.replicate_succ, Array.replicate_zero, List.push_toArray, List.append_toArray, List.nil_append, List.cons_append]
  have HNF := func_nil 120 rfl
  gi_wp2_with (refine ⟨trivial, ?_⟩; gi_at_call 78; refine (callsIn_wide.2 (all_any _ _ _)).mono ?_; rintro e w' ⟨rfl, rfl⟩)
  obtain ⟨W0, hW0⟩ : ∃ W0, ((w.alloc (.cells #[.pointer (some ⟨B.p, 0, none⟩)] 23)).alloc (.cells #[.int .i64 (i : Int)] 3)).alloc (.cells #[.slice none 0 0] 28) = W0 := ⟨_, rfl⟩
  have hS0 : W0.heap.size = w.heap.size + 1 + 1 + 1 := by rw [← hW0]; simp
  have bP : Box W0 w.heap.size (.pointer (some ⟨B.p, 0, none⟩)) 23 := by rw [← hW0]; exact ((box_new w _ _).alloc _).alloc _
  have bI : Box W0 (w.heap.size + 1) (.int .i64 (i : Int)) 3 := by rw [← hW0]; have := (box_new (w.alloc (.cells #[.pointer (some ⟨B.p, 0, none⟩)] 23)) (.int .i64 (i : Int)) 3).alloc (.cells #[.slice none 0 0] 28); simpa using this
  have bO : Boxed W0 (w.heap.size + 1 + 1) 28 (.slice none 0 0) := by rw [← hW0]; have := Boxed.new ((w.alloc (.cells #[.pointer (some ⟨B.p, 0, none⟩)] 23)).alloc (.cells #[.int .i64 (i : Int)] 3)) 28 (.slice none 0 0); simpa using this
  have hB0 : Below w.heap.size w W0 := by rw [← hW0]; exact (((Below.refl _ w).alloc (Nat.le_refl _) _).alloc (by simp) _).alloc (by simp; omega) _
  have hR0 : RawAt W0 B r := hR.still (Fr.of_below0 hB0 _)
  rw [hW0]
  refine range_one (n := r.things) (xs := xs) rfl (by simp) (all_stops W0 w.heap.size (w.heap.size + 1) i r.things B r xs bP bI hR0 hi q0 HQ.out HL.out hxt) Kb.trans (kb_b (fun k hk => by rw [hS0]; simp only [aK] at hk; omega))
    (fun pre W => (∃ v, Boxed W (w.heap.size + 1 + 1) 28 v ∧ W.ownsRow (w.heap.size + 1 + 1) 3 1 v pre.length (tv pre) ∧ True) ∧ Below (w.heap.size + 1 + 1) W0 W)
    (OwnFrom.and (Own.from (holdsRow_own (w.heap.size + 1 + 1) (w.heap.size + 1 + 1) 28 3 1 List.length tv (fun _ _ => True)) _) (ownFrom_below (by omega) (by omega)))
    ⟨⟨_, bO, World.ownsRow_nil _ _ _ _, trivial⟩, Below.refl _ _⟩ ?body ?done
  case body =>
    rintro l pre x W ⟨⟨v, hv, hrow, _⟩, hB⟩ hlen _
    simp only [List.setIfInBounds_toArray, List.set_cons_succ, List.set_cons_zero]
    have hc := hv.cell
    have hf := hv.frozen
    have hz := hB.size
    gi_wp2_with (gi_at_builtin; refine wpListIn_append_own _ rfl _ _ 28 rfl (w.heap.size + 1 + 1) 3 i0 (.int .i64 0) 1 8 Try.underlying28 HI.out HZ0.out HZ1.out HZ2.out rfl (by decide) _ _ _ rfl (hrow.alloc _) ⟨W.heap.size, 0, none⟩ 1 1 [.int .i64 (x : Int)] rfl rfl (cell_one_new _ _ _) (by simp [Value.oneCell']) (by unfold maxLen; omega) (by omega) (by simp; omega) ?_; intro v' w1 hown' hgrow _; obtain ⟨g', cap', rfl⟩ := ownsRow_succ hown'; obtain ⟨hv1, hv2, hr2, hk2, hb2⟩ := hv.appended (by decide) hrow (by omega) (Nat.le_refl _) hown' hgrow; have hc1 := hv1.cell; have hf1 := hv1.frozen)
    refine ⟨rfl, hk2.from _, ?_, ⟨_, hv2, ?_, trivial⟩, hB.trans hb2⟩
    · intro k hk
      exact hb2.block k (by simp only [aK] at hk; omega)
    · rw [tv_snoc]; simpa using hr2
  case done =>
    rintro D W hD ⟨⟨v, hv, hrow, _⟩, hB⟩ hK
    have hc := hv.cell
    gi_wp2
    refine ⟨by simp, .inl ⟨_, _, rfl, run_takeDeferred hK, ?_⟩⟩
    exact ⟨_, results_tmp2 rfl _ _ _, v, rfl, ownsRow_base (ownsRow_putObj hrow _ hK rfl) (by omega), hB0.trans ((hB.mono (by omega)).trans (belowK_b (w := w) (Nat.le_refl _) W D _ _ (by omega) hK rfl rfl))⟩
end Go.Proofs.Ytffjaaolcphonaa
