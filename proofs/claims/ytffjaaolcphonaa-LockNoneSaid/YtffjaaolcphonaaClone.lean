/- slices.Clone of whole numbers; the links' Copy. -/
import Derived.Test.YtffjaaolcphonaaNew
import Derived.WalkSpells
import Derived.Deep.RegionHeld3
import Derived.Deep.DeepCutAuto
namespace Go.Proofs.Ytffjaaolcphonaa
open Go.RowKit

theorem Addr.add_zero_lit (g j : Nat) : (⟨g, 0, none⟩ : Addr).add j = ⟨g, j, none⟩ := by rw [Addr.add_lit, Nat.zero_add]
theorem ints_cells {w : World} {g : Nat} {xs : List Int} (h : IBlk w g xs) : ∀ j u, (ints xs)[j]? = some u → w.cell? ((⟨g, 0, none⟩ : Addr).add j) = some u := by
  intro j u hu
  obtain ⟨sp, h⟩ := h
  have hj := (List.getElem?_eq_some_iff.1 hu).1
  have : (⟨g, 0, none⟩ : Addr).add j = ⟨g, j, none⟩ := Addr.add_zero_lit g j
  rw [this, Blk.cell h, List.getElem?_append_left (by simpa [ints] using hj)]
  exact hu

set_option maxRecDepth 100000 in
theorem clone_any (w : World) (g n cap : Nat) (xs : List Int) (h : IBlk w g xs) (hn : xs.length = n) (h0 : 0 < n) (h1 : n ≤ 100000) : Calls Try.prog 93 #[.slice (some ⟨g, 0, none⟩) n cap] w fun e w' =>
    ∃ g' cap', e = .returned (.slice (some ⟨g', 0, none⟩) n cap') ∧ w.heap.size ≤ g' ∧ IBlk w' g' xs ∧ Still w w' := by
  have hg := h.lt
  obtain ⟨i0, hi, hz0, hz1, hz2⟩ := info_parts info3
  have HI := hid hi
  have HZ0 := hid hz0
  have HZ1 := hid hz1
  have HZ2 := hid hz2
  have HN := hid hn
  clear hi hz0 hz1 hz2 hn
  have HEQ := fun w => Lib.run_eql_slice_nil (P := Try.prog) w 28 3 (some ⟨g, 0, none⟩) n cap 0 0 Try.underlying28
  go_enter Try.func93, Try.ntmps93
  have hown : (w.alloc (.cells #[] 3)).ownsRow w.heap.size 3 1 (.slice (some ⟨w.heap.size, 0, none⟩) 0 0) 0 [] :=
    ⟨rfl, .inr ⟨_, 0, #[], rfl, Nat.le_refl _, heap_at _ _ _ rfl, Nat.le_refl _, by unfold maxLen; omega, rfl, rfl⟩⟩
  have hx := ints_cells (h.alloc (.cells #[] 3))
  have HOWN := hid hown
  have HX := hid hx
  clear hown hx
  go_wp2_with (at_builtin; refine wpList_append_own _ rfl _ _ 28 rfl w.heap.size 3 i0 (.int .i64 0) 1 8 Try.underlying28 HI.out HZ0.out HZ1.out HZ2.out rfl (by decide) _ 0 [] rfl HOWN.out ⟨g, 0, none⟩ n cap (ints xs) rfl (by simpa [ints] using HN.out) HX.out (ints_oneCell _ _) (by unfold maxLen; omega) (by omega) (by simp) ?_)
  intro v' w1 hown' hgrow hnil
  obtain ⟨g', cap', rfl, hg', _, hI⟩ := IBlk.of_owns hown' h0
  clear hown' hnil
  go_wp2
  go_ret
  refine ⟨g', cap', rfl, hg', hI, ?_⟩
  exact Fr.then ((Still.refl w).alloc _) (Fr.of_grownBy hgrow (F := fun k => w.heap.size ≤ k) (fun k hk _ => by simp only [Value.ownBlock, Option.some.injEq] at hk; omega)) (fun i hi h => by omega)

/-- The five cells of the head. -/
def Head (w : World) (B : LB) (r : Raw) : Prop := w.cell? ⟨B.p, 0, none⟩ = some (.int .i64 r.things) ∧ w.cell? ⟨B.p, 1, none⟩ = some (.slice (some ⟨B.n, 0, none⟩) r.next.length B.kn) ∧ w.cell? ⟨B.p, 2, none⟩ = some (.slice (some ⟨B.b, 0, none⟩) r.next.length B.kb) ∧
  w.cell? ⟨B.p, 3, none⟩ = some (.slice (some ⟨B.l, 0, none⟩) r.things B.kl) ∧ w.cell? ⟨B.p, 4, none⟩ = some (.slice (some ⟨B.c, 0, none⟩) r.count.length B.kc)
theorem RawAt.head {w : World} {B : LB} {r : Raw} (h : RawAt w B r) : Head w B r := ⟨h.f0, h.f1, h.f2, h.f3, h.f4⟩

/-- What a clone leaves. -/
def Cloned (B : LB) (r : Raw) (w : World) (n : Nat) (xs : List Int) (e : Ending) (w' : World) : Prop :=
  ∃ g' cap', e = .returned (.slice (some ⟨g', 0, none⟩) n cap') ∧ w.heap.size ≤ g' ∧ IBlk w' g' xs ∧ Still w w' ∧ RawAt w' B r ∧ Head w' B r
theorem clone_n (w : World) (B : LB) (r : Raw) (h : RawAt w B r) : Calls Try.prog 93 #[.slice (some ⟨B.n, 0, none⟩) r.next.length B.kn] w (Cloned B r w r.next.length r.next) :=
  (clone_any w B.n _ B.kn r.next h.hn rfl (by have := h.lnext; have := h.t0; omega) (by have := h.lnext; have := h.t1; have := h.m1; omega)).mono fun _ _ ⟨g, c, h1, h2, h3, h4⟩ => ⟨g, c, h1, h2, h3, h4, h.still h4, (h.still h4).head⟩
theorem clone_b (w : World) (B : LB) (r : Raw) (h : RawAt w B r) : Calls Try.prog 93 #[.slice (some ⟨B.b, 0, none⟩) r.next.length B.kb] w (Cloned B r w r.next.length r.back) :=
  (clone_any w B.b _ B.kb r.back h.hb (by rw [h.lnext, h.lback]) (by have := h.lnext; have := h.t0; omega) (by have := h.lnext; have := h.t1; have := h.m1; omega)).mono fun _ _ ⟨g, c, h1, h2, h3, h4⟩ => ⟨g, c, h1, h2, h3, h4, h.still h4, (h.still h4).head⟩
theorem clone_l (w : World) (B : LB) (r : Raw) (h : RawAt w B r) : Calls Try.prog 93 #[.slice (some ⟨B.l, 0, none⟩) r.things B.kl] w (Cloned B r w r.things r.list) :=
  (clone_any w B.l _ B.kl r.list h.hl h.llist h.t0 (by have := h.t1; omega)).mono fun _ _ ⟨g, c, h1, h2, h3, h4⟩ => ⟨g, c, h1, h2, h3, h4, h.still h4, (h.still h4).head⟩
theorem clone_c (w : World) (B : LB) (r : Raw) (h : RawAt w B r) : Calls Try.prog 93 #[.slice (some ⟨B.c, 0, none⟩) r.count.length B.kc] w (Cloned B r w r.count.length r.count) :=
  (clone_any w B.c _ B.kc r.count h.hc rfl h.m0 (by have := h.m1; omega)).mono fun _ _ ⟨g, c, h1, h2, h3, h4⟩ => ⟨g, c, h1, h2, h3, h4, h.still h4, (h.still h4).head⟩

theorem Still.drew {a w : World} (h : Still a w) : Still a w.drew := Fr.drew h
theorem copy_leaf {w w1 w2 w3 w4 : World} {B : LB} {r : Raw} {g1 g2 g3 g4 c1 c2 c3 c4 : Nat} (h : RawAt w B r) (hg1 : w.drew.heap.size ≤ g1) (hI1 : IBlk w1 g1 r.next) (hS1 : Still w.drew w1)
    (hg2 : w1.heap.size ≤ g2) (hI2 : IBlk w2 g2 r.back) (hS2 : Still w1 w2) (hg3 : w2.heap.size ≤ g3) (hI3 : IBlk w3 g3 r.list) (hS3 : Still w2 w3) (hg4 : w3.heap.size ≤ g4) (hI4 : IBlk w4 g4 r.count) (hS4 : Still w3 w4) :
    ∃ C : LB, Value.pointer (some ⟨w4.heap.size, 0, none⟩) = .pointer (some ⟨C.p, 0, none⟩) ∧
      RawAt (w4.alloc (.cells #[.int .i64 r.things, .slice (some ⟨g1, 0, none⟩) r.next.length c1, .slice (some ⟨g2, 0, none⟩) r.next.length c2, .slice (some ⟨g3, 0, none⟩) r.things c3, .slice (some ⟨g4, 0, none⟩) r.count.length c4] 63)) C r ∧
      Still w (w4.alloc (.cells #[.int .i64 r.things, .slice (some ⟨g1, 0, none⟩) r.next.length c1, .slice (some ⟨g2, 0, none⟩) r.next.length c2, .slice (some ⟨g3, 0, none⟩) r.things c3, .slice (some ⟨g4, 0, none⟩) r.count.length c4] 63)) ∧ ∀ k, C.foot k → w.heap.size ≤ k := by
  have l1 := hI1.lt
  have l2 := hI2.lt
  have l3 := hI3.lt
  have l4 := hI4.lt
  have s1 := hS1.size
  have s2 := hS2.size
  have s3 := hS3.size
  have s4 := hS4.size
  have hg1' : w.heap.size ≤ g1 := hg1
  have s1' : w.heap.size ≤ w1.heap.size := s1
  refine ⟨⟨w4.heap.size, g1, g2, g3, g4, c1, c2, c3, c4⟩, rfl, ⟨by simp only []; omega, by simp only []; omega, by simp only []; omega, by simp only []; omega, by simp only []; omega, by simp only []; omega, by simp only []; omega, by simp only []; omega, by simp only []; omega, by simp only []; omega, Blk.new _ [_, _, _, _, _] _,
    (((hI1.still hS2).still hS3).still hS4).alloc _, ((hI2.still hS3).still hS4).alloc _, (hI3.still hS4).alloc _, hI4.alloc _, h.lnext, h.lback, h.llist, h.t0, h.t1, h.m0, h.m1⟩, ?_, ?_⟩
  · exact ((((((Still.refl w).drew : Still w w.drew).trans hS1).trans hS2).trans hS3).trans hS4).alloc _
  · intro k hk
    simp only [LB.foot] at hk
    omega

set_option maxRecDepth 100000 in
set_option maxHeartbeats 4000000 in
theorem copy_any (w : World) (B : LB) (r : Raw) (h : RawAt w B r) : Calls Try.prog 38 #[.pointer (some ⟨B.p, 0, none⟩)] w fun e w' =>
    ∃ C : LB, e = .returned (.pointer (some ⟨C.p, 0, none⟩)) ∧ RawAt w' C r ∧ Still w w' ∧ ∀ k, C.foot k → w.heap.size ≤ k := by
  obtain ⟨F0, F1, F2, F3, F4⟩ := h.head
  go_enter Try.func38, Try.ntmps38
  go_wp2_with (go_at_call 83; refine (made_yes _ B r h).mono ?_; rintro e w' ⟨rfl, rfl⟩)
  go_cut [2] (fun s2 wx => ∃ C : LB, s2 = .pointer (some ⟨C.p, 0, none⟩) ∧ RawAt wx C r ∧ Still w wx ∧ ∀ k, C.foot k → w.heap.size ≤ k)
  case first =>
    go_region_held3 (fun w' => w'.cell? ⟨B.p, 0, none⟩ = some (.int .i64 r.things) ∧ w'.cell? ⟨B.p, 1, none⟩ = some (.slice (some ⟨B.n, 0, none⟩) r.next.length B.kn) ∧ w'.cell? ⟨B.p, 2, none⟩ = some (.slice (some ⟨B.b, 0, none⟩) r.next.length B.kb) ∧
  w'.cell? ⟨B.p, 3, none⟩ = some (.slice (some ⟨B.l, 0, none⟩) r.things B.kl) ∧ w'.cell? ⟨B.p, 4, none⟩ = some (.slice (some ⟨B.c, 0, none⟩) r.count.length B.kc)) (first | exact ⟨F0, F1, F2, F3, F4⟩ | assumption | (refine (RawAt.alloc (r := r) ?_ _).head; assumption))
      (first
        | (go_at_call_of 93 (Value.slice (some ⟨B.n, 0, none⟩) r.next.length B.kn); refine (clone_n _ B r (by first | assumption | exact h.drew)).mono ?_; rintro e w1 ⟨g1, c1, rfl, hg1, hI1, hS1, hR1, hH1⟩)
        | (go_at_call_of 93 (Value.slice (some ⟨B.b, 0, none⟩) r.next.length B.kb); refine (clone_b _ B r (by first | assumption | exact h.drew)).mono ?_; rintro e w1 ⟨g2, c2, rfl, hg2, hI2, hS2, hR2, hH2⟩)
        | (go_at_call_of 93 (Value.slice (some ⟨B.l, 0, none⟩) r.things B.kl); refine (clone_l _ B r (by first | assumption | exact h.drew)).mono ?_; rintro e w1 ⟨g3, c3, rfl, hg3, hI3, hS3, hR3, hH3⟩)
        | (go_at_call_of 93 (Value.slice (some ⟨B.c, 0, none⟩) r.count.length B.kc); refine (clone_c _ B r (by first | assumption | exact h.drew)).mono ?_; rintro e w1 ⟨g4, c4, rfl, hg4, hI4, hS4, hR4, hH4⟩))
    all_goals
      go_wp2_with fail
      go_meet
      exact copy_leaf h hg1 hI1 hS1 hg2 hI2 hS2 hg3 hI3 hS3 hg4 hI4 hS4
  case rest =>
    obtain ⟨C, rfl, hC⟩ := hcut
    go_wp2
    go_ret
    exact ⟨C, rfl, hC⟩
end Go.Proofs.Ytffjaaolcphonaa
