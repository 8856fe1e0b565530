/- The links' 'may'; Push, Front. -/
import Derived.Test.YtffjaaolcphonaaClos
import Derived.StillTailTactics
import Derived.Shelf.Abstract
import Derived.Deep.RegionWith
namespace Go.Proofs.Ytffjaaolcphonaa
open Go.RowKit

theorem calls_flip {P : Program} {f : FuncId} {args : Array Value} {w : World} {v : Value} (h : Calls P f args w fun e w' => e = .returned v ∧ w = w') : Calls P f args w fun e w' => e = .returned v ∧ w' = w :=
  h.mono fun _ _ ⟨a, b⟩ => ⟨a, b.symm⟩

/-- What keeps a thing from a list. -/
def mayE (r : Raw) (i t : Int) : Int := if inR i r.count.length ∧ inR t r.things then (if r.list.getD t.toNat 0 = -1 then 0 else 5) else 8

/-- A world with blocks laid behind. -/
theorem box_new (w : World) (v : Value) (T : TypeId) : Box (w.alloc (.cells #[v] T)) w.heap.size v T := Blk.new w [v] T
theorem Box.alloc {w : World} {b : Nat} {v : Value} {T : TypeId} (h : Box w b v T) (o : Obj) : Box (w.alloc o) b v T := Blk.alloc h o
theorem RawAt.alloc {w : World} {B : LB} {r : Raw} (h : RawAt w B r) (o : Obj) : RawAt (w.alloc o) B r := h.still ((Still.refl w).alloc o)
theorem Still.alloc {a w : World} (h : Still a w) (o : Obj) : Still a (w.alloc o) := Fr.alloc h o

/-- 'first' of two closures. -/
theorem first_two (w : World) (B : LB) (r : Raw) (h : RawAt w B r) (bs : Nat) (T : TypeId) (f1 f2 : Nat) (c1 c2 : Array Value) (b1 b2 : Bool) (e1 e2 : Int) (v : Int) (hv : (if b1 then e1 else if b2 then e2 else 0) = v)
    (hb : Blk w bs [.func (.func f1) #[] c1, .func (.func f2) #[] c2] T)
    (he1 : ∀ args w, (callFunc f1 args).run Try.prog w = .ok (.enter f1 args) w) (he2 : ∀ args w, (callFunc f2 args).run Try.prog w = .ok (.enter f2 args) w)
    (hf1 : ∀ w1, Still w w1 → Calls Try.prog f1 c1 w1 (Two b1 e1 w1)) (hf2 : b1 = false → ∀ w1, Still w w1 → Calls Try.prog f2 c2 w1 (Two b2 e2 w1)) :
    Calls Try.prog 79 #[.pointer (some ⟨B.p, 0, none⟩), .slice (some ⟨bs, 0, none⟩) 2 2] w fun e w' => e = .returned (.int .i64 v) ∧ Still w w' := by
  subst hv
  have := first_any w B r h bs T [(f1, c1), (f2, c2)] [(b1, e1), (b2, e2)] hb rfl (by simp)
    (fun j hj => by match j, hj with | 0, _ => exact he1 | 1, _ => exact he2)
    (fun j hj hp w1 hs => by
      match j, hj, hp with
      | 0, _, _ => exact hf1 w1 hs
      | 1, _, hp => exact hf2 (hp 0 (by omega)) w1 hs)
  refine this.mono ?_
  rintro e w' ⟨rfl, h2⟩
  refine ⟨?_, h2⟩
  cases b1 <;> cases b2 <;> simp [firstE]

theorem calls_abs {P : Program} {f : FuncId} {args : Array Value} {Q : Ending → World → Prop} {w : World} (R : World → Prop) (h : R w) (hk : ∀ w', R w' → Calls P f args w' Q) : Calls P f args w Q := hk w h

/-- Four new blocks, the last one of two cells. -/
theorem lay4 (w : World) (v1 v2 v3 a b : Value) (T1 T2 T3 T4 : TypeId) :
    let W := (((w.alloc (.cells #[v1] T1)).alloc (.cells #[v2] T2)).alloc (.cells #[v3] T3)).alloc (.cells #[a, b] T4)
    Still w W ∧ Box W w.heap.size v1 T1 ∧ Box W (w.heap.size + 1) v2 T2 ∧ Box W (w.heap.size + 1 + 1) v3 T3 ∧ Blk W (w.heap.size + 1 + 1 + 1) [a, b] T4 := by
  have g1 := (((box_new w v1 T1).alloc (.cells #[v2] T2)).alloc (.cells #[v3] T3)).alloc (.cells #[a, b] T4)
  have g2 := ((box_new (w.alloc (.cells #[v1] T1)) v2 T2).alloc (.cells #[v3] T3)).alloc (.cells #[a, b] T4)
  have g3 := (box_new ((w.alloc (.cells #[v1] T1)).alloc (.cells #[v2] T2)) v3 T3).alloc (.cells #[a, b] T4)
  have g4 := Blk.new (((w.alloc (.cells #[v1] T1)).alloc (.cells #[v2] T2)).alloc (.cells #[v3] T3)) [a, b] T4
  simp only [World.size_alloc] at g2 g3 g4
  exact ⟨((((Still.refl w).alloc _).alloc _).alloc _).alloc _, g1, g2, g3, g4⟩
/-- Three new blocks, the last one of two cells. -/
theorem lay3 (w : World) (v1 v2 a b : Value) (T1 T2 T4 : TypeId) :
    let W := ((w.alloc (.cells #[v1] T1)).alloc (.cells #[v2] T2)).alloc (.cells #[a, b] T4)
    Still w W ∧ Box W w.heap.size v1 T1 ∧ Box W (w.heap.size + 1) v2 T2 ∧ Blk W (w.heap.size + 1 + 1) [a, b] T4 := by
  have g1 := ((box_new w v1 T1).alloc (.cells #[v2] T2)).alloc (.cells #[a, b] T4)
  have g2 := (box_new (w.alloc (.cells #[v1] T1)) v2 T2).alloc (.cells #[a, b] T4)
  have g4 := Blk.new ((w.alloc (.cells #[v1] T1)).alloc (.cells #[v2] T2)) [a, b] T4
  simp only [World.size_alloc] at g2 g4
  exact ⟨(((Still.refl w).alloc _).alloc _).alloc _, g1, g2, g4⟩

theorem may_any (w : World) (B : LB) (r : Raw) (h : RawAt w B r) (i t : Int) : Calls Try.prog 75 #[.pointer (some ⟨B.p, 0, none⟩), .int .i64 i, .int .i64 t] w fun e w' => e = .returned (.int .i64 (mayE r i t)) ∧ Still w w' := by
  go_enter Try.func75, Try.ntmps75
  go_wp2_with fail
  refine calls_abs (fun W => Still w W ∧ Box W w.heap.size (.pointer (some ⟨B.p, 0, none⟩)) 23 ∧ Box W (w.heap.size + 1) (.int .i64 i) 3 ∧ Box W (w.heap.size + 1 + 1) (.int .i64 t) 3 ∧ Blk W (w.heap.size + 1 + 1 + 1) [_, _] 123) (lay4 w _ _ _ _ _ _ _ _ _) ?_
  rintro W ⟨hS, g1, g2, g3, g4⟩
  have hR := h.still hS
  refine (first_two W B r hR _ _ 131 132 _ _ (decide (¬ inR i r.count.length ∨ ¬ inR t r.things)) (r.list.getD t.toNat 0 != -1) 8 5 (mayE r i t) ?_ g4 (enters_of Try.func131 (by kernel_rfl) rfl) (enters_of Try.func132 (by kernel_rfl) rfl) ?_ ?_).mono ?_
  · unfold mayE
    by_cases h1 : inR i r.count.length <;> by_cases h2 : inR t r.things <;> by_cases h3 : r.list.getD t.toNat 0 = -1 <;> simp_all
  · intro w1 hs
    exact may1 w1 B r (hR.still hs) _ _ _ i t (g1.still hs) (g2.still hs) (g3.still hs)
  · intro hb w1 hs
    have hb' := of_decide_eq_false hb
    have ht : inR t r.things := by
      rcases Classical.em (inR t r.things) with h | h
      · exact h
      · exact absurd (Or.inr h) hb'
    obtain ⟨t, rfl⟩ := Int.eq_ofNat_of_zero_le ht.1
    rw [Int.toNat_natCast]
    exact may2 w1 B r (hR.still hs) _ _ t _ rfl (by have := ht.2; omega) (g1.still hs) (g3.still hs)
  · rintro e w' ⟨rfl, hs⟩
    go_wp2_with fail
    go_ret
    exact ⟨rfl, hS.trans hs⟩
end Go.Proofs.Ytffjaaolcphonaa
