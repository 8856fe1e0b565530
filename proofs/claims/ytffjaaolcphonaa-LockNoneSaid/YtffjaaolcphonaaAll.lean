/- The links' All: its iterator tells the list's things in order, whatever the loop's body does elsewhere. -/
import Derived.Test.YtffjaaolcphonaaClone
import Derived.RangeFuncNested
import Derived.RangeFuncBound
import Derived.RangeFuncCalls
import Derived.RangeFuncLeaves
import Derived.RangeFuncFrom
import Derived.Shelf.Abstract
import Derived.Shelf.RegionOpen
import Derived.OwnWalkIn
import Derived.TacticsInMore
import Derived.LoopNIn
import Derived.LoopIn
import Derived.RegionIn
namespace Go.Proofs.Ytffjaaolcphonaa
open Go.RowKit Go.Shelf
attribute [local go_sem] Oper.semAt_some

/-- The blocks of K lie as they lay. -/
def Kb (K : Nat → Prop) (A C : World) : Prop := ∀ k, K k → C.heap[k]? = A.heap[k]?
theorem Kb.refl (K : Nat → Prop) (A : World) : Kb K A A := fun _ _ => rfl
theorem Kb.trans {K : Nat → Prop} {A C D : World} (h : Kb K A C) (k : Kb K C D) : Kb K A D := fun i hi => (k i hi).trans (h i hi)
theorem kb_b {K : Nat → Prop} {w : World} (hK : ∀ k, K k → k < w.heap.size) (W : World) (l : Nat) (o o' : Obj) (hl : w.heap.size ≤ l) (_ : W.heap[l]? = some o) (_ : o.isCells = false) (_ : o.isWalk = false) : Kb K W (W.putObj l o') :=
  fun k hk => World.putObj_heap_other (by have := hK k hk; omega)
theorem Kb.of_fr {K F : Nat → Prop} {A C : World} (h : Fr F A C) (hK : ∀ k, K k → k < A.heap.size ∧ ¬ F k) : Kb K A C := fun k hk => h.block k (hK k hk).1 (hK k hk).2
theorem Blk.kb {w w' : World} {b : Nat} {A : List Value} {T : TypeId} (h : Blk w b A T) {K : Nat → Prop} (hk : Kb K w w') (hb : K b) : Blk w' b A T := (hk b hb).trans h
theorem IBlk.kb {w w' : World} {b : Nat} {xs : List Int} (h : IBlk w b xs) {K : Nat → Prop} (hk : Kb K w w') (hb : K b) : IBlk w' b xs := by obtain ⟨sp, h⟩ := h; exact ⟨sp, Blk.kb h hk hb⟩

/-- From q on the things of the list, then its end. -/
def Seq (nx : List Int) (e : Nat) : Nat → List Nat → Prop
  | q, [] => q = e
  | q, a :: l => q = a ∧ a ≠ e ∧ a < nx.length ∧ ∃ q', nx.getD a 0 = ((q' : Nat) : Int) ∧ Seq nx e q' l
theorem Seq.unique {nx : List Int} {e : Nat} : ∀ {q : Nat} {l m : List Nat}, Seq nx e q l → Seq nx e q m → l = m
  | _, [], [], _, _ => rfl
  | _, [], _ :: _, h, ⟨h1, h2, _⟩ => absurd (h1.symm.trans h) h2
  | _, _ :: _, [], ⟨h1, h2, _⟩, h => absurd (h1.symm.trans h) h2
  | _, a :: l, b :: m, ⟨h1, _, _, q, h3, h4⟩, ⟨k1, _, _, q', k3, k4⟩ => by
    obtain rfl : a = b := h1.symm.trans k1
    rw [h3] at k3
    obtain rfl : q = q' := by omega
    rw [Seq.unique h4 k4]
open Classical in
noncomputable def seqLeft (nx : List Int) (e : Nat) (v : Value) : Nat := if h : ∃ l, Seq nx e (intOf v).toNat l then (Classical.choose h).length else 0
theorem seqLeft_eq {nx : List Int} {e q : Nat} {l : List Nat} (h : Seq nx e q l) : seqLeft nx e (.int .i64 (q : Int)) = l.length := by
  have hex : ∃ l, Seq nx e (intOf (.int .i64 (q : Int))).toNat l := ⟨l, by simpa [intOf] using h⟩
  unfold seqLeft
  rw [dif_pos hex]
  have := Classical.choose_spec hex
  exact congrArg List.length (Seq.unique (by simpa [intOf] using this) h)

theorem end_cell (w : World) (p t i q : Nat) (hc : w.cell? ⟨p, 0, none⟩ = some (.int .i64 (t : Int))) (hq : t + i = q) (h1 : i ≤ 4096) (h2 : t ≤ 4096) : Calls Try.prog 77 #[.pointer (some ⟨p, 0, none⟩), .int .i64 i] w fun e w' => e = .returned (.int .i64 q) ∧ w = w' := by
  have HQ := hid hq
  clear hq
  go_enter Try.func77, Try.ntmps77
  go_wp2
  go_ret
  exact ⟨by rw [← HQ.out]; rfl, rfl⟩

def aK (B : LB) (b1 b2 : Nat) (k : Nat) : Prop := k = B.p ∨ k = B.n ∨ k = b1 ∨ k = b2

set_option maxRecDepth 100000 in
set_option maxHeartbeats 2000000 in
theorem all1_in (l b1 b2 i : Nat) (B : LB) (r : Raw) (xs : List Nat) (J Jx : List Nat → World → Prop)
    (hY : ∀ pre x W, x ∈ xs → J pre W → pre.length < xs.length → YieldAt Fence.wide 2 Try.prog l #[.int .i64 ((x : Nat) : Int)] W fun e W' =>
      (e = .returned (.bool true) ∧ J (pre ++ [x]) W' ∧ Kb (aK B b1 b2) W W') ∨ (e = .returned (.bool false) ∧ Jx (pre ++ [x]) W'))
    (W : World) (h1 : Box W b1 (.pointer (some ⟨B.p, 0, none⟩)) 23) (h2 : Box W b2 (.int .i64 i) 3) (hR : RawAt W B r) (hi : i < r.count.length) (q0 : Nat) (hq0 : r.next.getD (r.things + i) 0 = (q0 : Int)) (hL : Seq r.next (r.things + i) q0 xs)
    (hJ : ∀ pre A n, J pre A → J pre (A.drewN n)) (h0 : J [] W) :
    CallsIn Fence.wide 3 Try.prog 133 #[.func (.yield l) #[] #[], .pointer (some ⟨b1, 0, none⟩), .pointer (some ⟨b2, 0, none⟩)] W fun e W' => (∃ v, e = .returned v) ∧
      ((∃ ys, ys = xs ∧ J ys W') ∨ (∃ pre, pre <+: xs ∧ Jx pre W')) := by
  have c1 := h1.c
  have c2 := h2.c
  have t1 := hR.t1
  have m1 := hR.m1
  have ln := hR.lnext
  obtain ⟨E, hE⟩ : ∃ E, r.things + i = E := ⟨_, rfl⟩
  have hE1 : E < r.next.length := by omega
  have hE2 : (E : Int) < (r.next.length : Int) := by omega
  rw [hE] at hq0 hL
  have F0 := hR.f0
  have F1 := hR.f1
  have C0 : W.cell? ⟨B.n, E, none⟩ = some (.int .i64 q0) := by rw [hR.hn.cell hE1, hq0]
  have HE := hid hE
  have HQ := hid hq0
  have HJ := hid hJ
  have HL := hid hL
  clear hE hq0 ln hJ
  refine callsIn_of_wp Try.func133 rfl trivial ?_ rfl
  simp only [Try.ntmps133, List.size_toArray, List.length_cons, List.length_nil, Nat.reduceAdd, Nat.reduceSub, Array.replicate_succ, Array.replicate_zero, List.push_toArray, List.append_toArray, List.nil_append, List.cons_append]
  gi_wp2_with (first | (refine ⟨trivial, ?_⟩; gi_at_call 83; refine (callsIn_wide.2 (made_yes _ B r hR)).mono ?_; rintro e w' ⟨rfl, rfl⟩) | (refine ⟨trivial, ?_⟩; gi_at_call 81; refine (callsIn_wide.2 (isList_yes _ B r hR _ (by omega) (by omega))).mono ?_; rintro e w' ⟨rfl, rfl⟩))
  refine wpIn_wide.2 ?_
  go_quiet ((go_at_call 77; exact Calls.quiet_of_same (calls_flip (end_cell _ B.p r.things i E (by first | exact F0 | exact F0) HE.out (by omega) t1))))
  gi_wp2_with fail
  have K0 : Kb (aK B b1 b2) W (W.drewN nq) := fun _ _ => rfl
  have J0 := HJ.out _ _ nq h0
  gi_loopw [4] (fun v wr => ∃ (pre rest : List Nat) (q : Nat), v = .int .i64 (q : Int) ∧ xs = pre ++ rest ∧ Seq r.next E q rest ∧ Kb (aK B b1 b2) W wr ∧ J pre wr) (fun v _ => seqLeft r.next E v)
  case atStart => exact ⟨[], xs, q0, rfl, rfl, HL.out, K0, J0⟩
  case round =>
    obtain ⟨pre, rest, q, rfl, hx, hl, hk, hj⟩ := hrel
    have g1 := (Blk.kb h1 hk (by simp [aK])).cell 0
    have g2 := (Blk.kb h2 hk (by simp [aK])).cell 0
    have HP := Blk.kb hR.hp hk (by simp [aK])
    have G0 : wr.cell? ⟨B.p, 0, none⟩ = some (.int .i64 r.things) := by rw [HP.cell]; rfl
    have G1 : wr.cell? ⟨B.p, 1, none⟩ = some (.slice (some ⟨B.n, 0, none⟩) r.next.length B.kn) := by rw [HP.cell]; rfl
    simp only [List.getElem?_cons_zero] at g1 g2
    clear HP
    cases rest with
    | nil =>
      have hqE : ((q : Int) != (E : Int)) = false := by have := hl; simp only [Seq] at this; simp [this]
      gi_wp2_with (refine ⟨trivial, ?_⟩; gi_at_call 77; refine (callsIn_wide.2 (end_cell _ B.p r.things i E G0 HE.out (by omega) t1)).mono ?_; rintro e w' ⟨rfl, rfl⟩)
      go_end0
      exact ⟨⟨_, rfl⟩, .inl ⟨pre, by simp [hx], hj⟩⟩
    | cons a rest =>
      have hl' := hl
      obtain ⟨rfl, hne, hlt, q', hq', hr⟩ := hl
      have hqE : ((q : Int) != (E : Int)) = true := by simp; omega
      have hlt' : (q : Int) < (r.next.length : Int) := by omega
      obtain ⟨fn, tmps, assign, body, hy, hY'⟩ := hY pre q wr (by rw [hx]; simp) hj (by rw [hx]; simp)
      gi_wp2_with (refine ⟨trivial, ?_⟩; gi_at_call 77; refine (callsIn_wide.2 (end_cell _ B.p r.things i E G0 HE.out (by omega) t1)).mono ?_; rintro e w' ⟨rfl, rfl⟩)
      refine hY'.mono ?_
      rintro e W3 (⟨rfl, hJ3, hk3⟩ | ⟨rfl, hJx3⟩)
      · have hk' := hk.trans hk3
        have HP3 := Blk.kb hR.hp hk' (by simp [aK])
        have g1' := (Blk.kb h1 hk' (by simp [aK])).cell 0
        have G1' : W3.cell? ⟨B.p, 1, none⟩ = some (.slice (some ⟨B.n, 0, none⟩) r.next.length B.kn) := by rw [HP3.cell]; rfl
        have G2' : W3.cell? ⟨B.n, q, none⟩ = some (.int .i64 (q' : Int)) := by rw [(IBlk.kb hR.hn hk' (by simp [aK])).cell hlt, hq']
        simp only [List.getElem?_cons_zero] at g1'
        clear HP3 hq'
        gi_wp2_with fail
        go_roundw
        case rel => exact ⟨pre ++ [q], rest, q', rfl, by simp [hx], hr, hk', hJ3⟩
        case measure => rw [seqLeft_eq hr, seqLeft_eq hl']; simp
      · gi_wp2_with fail
        refine bodyPost_ret (results_none rfl _ _ _) rfl ?_
        exact ⟨⟨_, rfl⟩, .inr ⟨pre ++ [q], ⟨rest, by simp [hx]⟩, hJx3⟩⟩
end Go.Proofs.Ytffjaaolcphonaa
