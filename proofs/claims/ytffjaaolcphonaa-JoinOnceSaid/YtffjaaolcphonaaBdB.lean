/- The links' 'may'; Push, Front. -/
import Derived.Test.YtffjaaolcphonaaBdA
import Derived.StillTailTactics
import Derived.Shelf.Abstract
import Derived.Deep.RegionWith
import Derived.Deep.DeepCutAuto
import Derived.Maps.AppendAt
import Derived.Deep.RegionHeld3
import Derived.Deep.AppendLies
namespace Go.Proofs.Ytffjaaolcphonaa
open Go.RowKit

theorem calls_flip {P : Program} {f : FuncId} {args : Array Value} {w : World} {v : Value} (h : Calls P f args w fun e w' => e = .returned v ∧ w = w') : Calls P f args w fun e w' => e = .returned v ∧ w' = w :=
  h.mono fun _ _ ⟨a, b⟩ => ⟨a, b.symm⟩

/-- What keeps a thing from a list. -/
def mayE (r : Raw) (i t : Int) : Int := if inR i r.count.length ∧ inR t r.things then (if r.list.getD t.toNat 0 = -1 then 0 else 5) else 8

/-- A world with blocks laid behind. -/
theorem box_new (w : World) (v : Value) (T : TypeId) : Box (w.alloc (.cells #[v] T)) w.heap.size v T := Blk.new w [v] T
theorem Box.alloc {w : World} {b : Nat} {v : Value} {T : TypeId} (h : Box w b v T) (o : Obj) : Box (w.alloc o) b v T := Blk.alloc h o
theorem RawAt.alloc {w : World} {B : LB} {r : Raw} (h : RawAt w B r) (o : Obj) : RawAt (w.alloc o) B r := h.still ((Still.refl w).alloc o)
theorem Still.alloc {a w : World} (h : Still a w) (o : Obj) : Still a (w.alloc o) := Fr.alloc h o

/-- 'first' of two closures. -/
theorem first_two (w : World) (B : LB) (r : Raw) (h : RawAt w B r) (bs : Nat) (T : TypeId) (f1 f2 : Nat) (c1 c2 : Array Value) (b1 b2 : Bool) (e1 e2 : Int) (v : Int) (hv : (if b1 then e1 else if b2 then e2 else 0) = v)
    (hb : Blk w bs [.func (.func f1) #[] c1, .func (.func f2) #[] c2] T)
    (he1 : ∀ args w, (callFunc f1 args).run Try.prog w = .ok (.enter f1 args) w) (he2 : ∀ args w, (callFunc f2 args).run Try.prog w = .ok (.enter f2 args) w)
    (hf1 : ∀ w1, Still w w1 → Calls Try.prog f1 c1 w1 (Two b1 e1 w1)) (hf2 : b1 = false → ∀ w1, Still w w1 → Calls Try.prog f2 c2 w1 (Two b2 e2 w1)) :
    Calls Try.prog 79 #[.pointer (some ⟨B.p, 0, none⟩), .slice (some ⟨bs, 0, none⟩) 2 2] w fun e w' => e = .returned (.int .i64 v) ∧ Still w w' := by
  subst hv
  have := first_any w B r h bs T [(f1, c1), (f2, c2)] [(b1, e1), (b2, e2)] hb rfl (by simp)
    (fun j hj => by match j, hj with | 0, _ => exact he1 | 1, _ => exact he2)
    (fun j hj hp w1 hs => by
      match j, hj, hp with
      | 0, _, _ => exact hf1 w1 hs
      | 1, _, hp => exact hf2 (hp 0 (by omega)) w1 hs)
  refine this.mono ?_
  rintro e w' ⟨rfl, h2⟩
  refine ⟨?_, h2⟩
  cases b1 <;> cases b2 <;> simp [firstE]

theorem calls_abs {P : Program} {f : FuncId} {args : Array Value} {Q : Ending → World → Prop} {w : World} (R : World → Prop) (h : R w) (hk : ∀ w', R w' → Calls P f args w' Q) : Calls P f args w Q := hk w h

/-- Four new blocks, the last one of two cells. -/
theorem lay4 (w : World) (v1 v2 v3 a b : Value) (T1 T2 T3 T4 : TypeId) :
    let W := (((w.alloc (.cells #[v1] T1)).alloc (.cells #[v2] T2)).alloc (.cells #[v3] T3)).alloc (.cells #[a, b] T4)
    Still w W ∧ Box W w.heap.size v1 T1 ∧ Box W (w.heap.size + 1) v2 T2 ∧ Box W (w.heap.size + 1 + 1) v3 T3 ∧ Blk W (w.heap.size + 1 + 1 + 1) [a, b] T4 := by
  have g1 := (((box_new w v1 T1).alloc (.cells #[v2] T2)).alloc (.cells #[v3] T3)).alloc (.cells #[a, b] T4)
  have g2 := ((box_new (w.alloc (.cells #[v1] T1)) v2 T2).alloc (.cells #[v3] T3)).alloc (.cells #[a, b] T4)
  have g3 := (box_new ((w.alloc (.cells #[v1] T1)).alloc (.cells #[v2] T2)) v3 T3).alloc (.cells #[a, b] T4)
  have g4 := Blk.new (((w.alloc (.cells #[v1] T1)).alloc (.cells #[v2] T2)).alloc (.cells #[v3] T3)) [a, b] T4
  simp only [World.size_alloc] at g2 g3 g4
  exact ⟨((((Still.refl w).alloc _).alloc _).alloc _).alloc _, g1, g2, g3, g4⟩
/-- Three new blocks, the last one of two cells. -/
theorem lay3 (w : World) (v1 v2 a b : Value) (T1 T2 T4 : TypeId) :
    let W := ((w.alloc (.cells #[v1] T1)).alloc (.cells #[v2] T2)).alloc (.cells #[a, b] T4)
    Still w W ∧ Box W w.heap.size v1 T1 ∧ Box W (w.heap.size + 1) v2 T2 ∧ Blk W (w.heap.size + 1 + 1) [a, b] T4 := by
  have g1 := ((box_new w v1 T1).alloc (.cells #[v2] T2)).alloc (.cells #[a, b] T4)
  have g2 := (box_new (w.alloc (.cells #[v1] T1)) v2 T2).alloc (.cells #[a, b] T4)
  have g4 := Blk.new ((w.alloc (.cells #[v1] T1)).alloc (.cells #[v2] T2)) [a, b] T4
  simp only [World.size_alloc] at g2 g4
  exact ⟨(((Still.refl w).alloc _).alloc _).alloc _, g1, g2, g4⟩

theorem may_any (w : World) (B : LB) (r : Raw) (h : RawAt w B r) (i t : Int) : Calls Try.prog 75 #[.pointer (some ⟨B.p, 0, none⟩), .int .i64 i, .int .i64 t] w fun e w' => e = .returned (.int .i64 (mayE r i t)) ∧ Still w w' := by
  go_enter Try.func75, Try.ntmps75
  go_wp2_with fail
  refine calls_abs (fun W => Still w W ∧ Box W w.heap.size (.pointer (some ⟨B.p, 0, none⟩)) 23 ∧ Box W (w.heap.size + 1) (.int .i64 i) 3 ∧ Box W (w.heap.size + 1 + 1) (.int .i64 t) 3 ∧ Blk W (w.heap.size + 1 + 1 + 1) [_, _] 123) (lay4 w _ _ _ _ _ _ _ _ _) ?_
  rintro W ⟨hS, g1, g2, g3, g4⟩
  have hR := h.still hS
  refine (first_two W B r hR _ _ 131 132 _ _ (decide (¬ inR i r.count.length ∨ ¬ inR t r.things)) (r.list.getD t.toNat 0 != -1) 8 5 (mayE r i t) ?_ g4 (enters_of Try.func131 (by kernel_rfl) rfl) (enters_of Try.func132 (by kernel_rfl) rfl) ?_ ?_).mono ?_
  · unfold mayE
    by_cases h1 : inR i r.count.length <;> by_cases h2 : inR t r.things <;> by_cases h3 : r.list.getD t.toNat 0 = -1 <;> simp_all
  · intro w1 hs
    exact may1 w1 B r (hR.still hs) _ _ _ i t (g1.still hs) (g2.still hs) (g3.still hs)
  · intro hb w1 hs
    have hb' := of_decide_eq_false hb
    have ht : inR t r.things := by
      rcases Classical.em (inR t r.things) with h | h
      · exact h
      · exact absurd (Or.inr h) hb'
    obtain ⟨t, rfl⟩ := Int.eq_ofNat_of_zero_le ht.1
    rw [Int.toNat_natCast]
    exact may2 w1 B r (hR.still hs) _ _ t _ rfl (by have := ht.2; omega) (g1.still hs) (g3.still hs)
  · rintro e w' ⟨rfl, hs⟩
    go_wp2_with fail
    go_ret
    exact ⟨rfl, hS.trans hs⟩
end Go.Proofs.Ytffjaaolcphonaa
/- The links' Push and Front over their five blocks. -/
namespace Go.Proofs.Ytffjaaolcphonaa
open Go.RowKit

/-- What 'in' makes of the five blocks. -/
def Raw.ins (r : Raw) (list thing place after : Nat) (c : Nat) : Raw :=
  { r with next := (r.next.set place thing).set thing after, back := (r.back.set thing place).set after thing, list := r.list.set thing list, count := r.count.set list ((c : Int) + 1) }

theorem end_nat (w : World) (B : LB) (r : Raw) (h : RawAt w B r) (i q : Nat) (hq : r.things + i = q) (h1 : i ≤ 4096) : Calls Try.prog 77 #[.pointer (some ⟨B.p, 0, none⟩), .int .i64 i] w fun e w' => e = .returned (.int .i64 q) ∧ w' = w :=
  (end_any w B r h i (by omega) (by omega)).mono fun e w' ⟨he, hw⟩ => ⟨by rw [he, ← hq]; rfl, hw.symm⟩

theorem push_err (w : World) (B : LB) (r : Raw) (h : RawAt w B r) (i t : Int) (v : Int) (hv : mayE r i t = v) (h0 : (v == 0) = false) :
    Calls Try.prog 21 #[.pointer (some ⟨B.p, 0, none⟩), .int .i64 i, .int .i64 t] w fun e w' => e = .returned (.int .i64 v) ∧ Still w w' := by
  go_enter Try.func21, Try.ntmps21
  go_wp2_with (go_at_call 75; refine (may_any _ B r h _ _).mono ?_; rw [hv]; rintro e w' ⟨rfl, hs⟩)
  go_ret
  exact ⟨rfl, hs⟩
theorem front_err (w : World) (B : LB) (r : Raw) (h : RawAt w B r) (i t : Int) (v : Int) (hv : mayE r i t = v) (h0 : (v == 0) = false) :
    Calls Try.prog 22 #[.pointer (some ⟨B.p, 0, none⟩), .int .i64 i, .int .i64 t] w fun e w' => e = .returned (.int .i64 v) ∧ Still w w' := by
  go_enter Try.func22, Try.ntmps22
  go_wp2_with (go_at_call 75; refine (may_any _ B r h _ _).mono ?_; rw [hv]; rintro e w' ⟨rfl, hs⟩)
  go_ret
  exact ⟨rfl, hs⟩
set_option maxRecDepth 100000 in
theorem push_ok (w : World) (B : LB) (r : Raw) (h : RawAt w B r) (i t place after c : Nat) (hv : mayE r i t = 0) (hi : i < r.count.length) (ht : t < r.things)
    (hp : r.back.getD (r.things + i) 0 = (place : Int)) (hp' : place < r.next.length) (ha : r.next.getD place 0 = (after : Int)) (ha' : after < r.next.length) (hc : r.count.getD i 0 = (c : Int)) (hc' : c ≤ 4096) :
    Calls Try.prog 21 #[.pointer (some ⟨B.p, 0, none⟩), .int .i64 i, .int .i64 t] w fun e w' => e = .returned (.int .i64 0) ∧ RawAt w' B (r.ins i t place after c) ∧ Fr B.foot w w' := by
  have HP := hid hp
  have HA := hid ha
  have HC := hid hc
  have HV := hid hv
  clear hp ha hc hv
  have lb := h.lback
  have hm := h.m1
  have ht1 := h.t1
  have ln := h.lnext
  obtain ⟨q, hq⟩ : ∃ q, r.things + i = q := ⟨_, rfl⟩
  have hb1 : (q : Int) < (r.next.length : Int) := by omega
  have hb2 : q < r.back.length := by omega
  rw [hq] at HP
  have HQ := hid hq
  clear lb ln hq
  go_enter Try.func21, Try.ntmps21
  go_wp2_with fail
  refine (may_any _ B r h _ _).mono ?_
  rw [HV.out]
  rintro e w1 ⟨rfl, hs⟩
  have h1 := h.still hs
  have F2 := h1.f2
  have C : w1.cell? ⟨B.b, q, none⟩ = some (.int .i64 place) := by rw [h1.hb.cell hb2, HP.out]
  go_wp2_with fail
  refine wp_region_still_tail 12 (by kernel_rfl) (by kernel_rfl) ?_
  simp only [List.take_succ_cons, List.take_zero, List.drop_succ_cons, List.drop_zero]
  iterate 9 still_step
  still_call (end_nat _ B r h1.drew i q HQ.out (by omega))
  repeat still_step
  refine wpStill_nil ?_
  change wpList _ _ _ _ _ w1.drew
  go_wp2_with fail
  refine (in_any _ B r h1.drew i t place after c hi ht hp' HA.out ha' HC.out hc').mono ?_
  rintro e w2 ⟨rfl, h2, f2⟩
  go_wp2_with fail
  go_ret
  exact ⟨rfl, h2, (hs.fr _).trans ((Fr.refl _ w1).drew.trans f2)⟩
set_option maxRecDepth 100000 in
theorem front_ok (w : World) (B : LB) (r : Raw) (h : RawAt w B r) (i t after c : Nat) (hv : mayE r i t = 0) (hi : i < r.count.length) (ht : t < r.things)
    (ha : r.next.getD (r.things + i) 0 = (after : Int)) (ha' : after < r.next.length) (hc : r.count.getD i 0 = (c : Int)) (hc' : c ≤ 4096) :
    Calls Try.prog 22 #[.pointer (some ⟨B.p, 0, none⟩), .int .i64 i, .int .i64 t] w fun e w' => e = .returned (.int .i64 0) ∧ RawAt w' B (r.ins i t (r.things + i) after c) ∧ Fr B.foot w w' := by
  have HA := hid ha
  have HC := hid hc
  have HV := hid hv
  clear ha hc hv
  have hm := h.m1
  have ht1 := h.t1
  have ln := h.lnext
  obtain ⟨q, hq⟩ : ∃ q, r.things + i = q := ⟨_, rfl⟩
  have hb1 : q < r.next.length := by omega
  rw [hq] at HA
  rw [hq]
  have HQ := hid hq
  clear ln hq
  go_enter Try.func22, Try.ntmps22
  go_wp2_with fail
  refine (may_any _ B r h _ _).mono ?_
  rw [HV.out]
  rintro e w1 ⟨rfl, hs⟩
  have h1 := h.still hs
  go_wp2_with fail
  refine (end_nat _ B r h1 i q HQ.out (by omega)).mono ?_
  rintro e w2 ⟨rfl, rfl⟩
  go_wp2_with fail
  refine (in_any _ B r h1 i t q after c hi ht hb1 HA.out ha' HC.out hc').mono ?_
  rintro e w3 ⟨rfl, h2, f2⟩
  go_wp2_with fail
  go_ret
  exact ⟨rfl, h2, (hs.fr _).trans f2⟩
end Go.Proofs.Ytffjaaolcphonaa
/- The links' 'out'; Remove and Pop. -/
namespace Go.Proofs.Ytffjaaolcphonaa
open Go.RowKit

/-- What 'out' makes of the five blocks. -/
def Raw.del (r : Raw) (thing a b i : Nat) (c : Nat) : Raw :=
  { r with next := r.next.set a b, back := r.back.set b a, list := r.list.set thing (-1), count := r.count.set i ((c : Int) - 1) }

set_option maxHeartbeats 400000 in
theorem out_any (w : World) (B : LB) (r : Raw) (h : RawAt w B r) (thing a b i c : Nat) (ht : thing < r.things) (hi : i < r.count.length) (ha' : a < r.next.length) (hb' : b < r.next.length)
    (ha : r.back.getD thing 0 = (a : Int)) (hb : r.next.getD thing 0 = (b : Int)) (hl : r.list.getD thing 0 = (i : Int)) (hc : r.count.getD i 0 = (c : Int)) (hc' : c ≤ 4096) :
    Calls Try.prog 96 #[.pointer (some ⟨B.p, 0, none⟩), .int .i64 thing] w fun e w' => e = .returned (.tuple #[]) ∧ RawAt w' B (r.del thing a b i c) ∧ Fr B.foot w w' := by
  obtain ⟨ln, lb, ll, t1, m1⟩ : r.next.length = r.things + r.count.length ∧ r.back.length = r.things + r.count.length ∧ r.list.length = r.things ∧ r.things ≤ 4096 ∧ r.count.length ≤ 4096 := ⟨h.lnext, h.lback, h.llist, h.t1, h.m1⟩
  have hn1 : (a : Int) < (r.next.length : Int) := by omega
  have hn2 : (thing : Int) < (r.next.length : Int) := by omega
  have hn3 : (b : Int) < (r.next.length : Int) := by omega
  have hn4 : (thing : Int) < (r.things : Int) := by omega
  have hn5 : (i : Int) < (r.count.length : Int) := by omega
  have hn6 : r.next.length ≤ 8192 := by omega
  have hn7 : b < r.back.length := by omega
  have hn8 : thing < r.list.length := by omega
  have F1 := h.f1
  have F2 := h.f2
  have C1 : w.cell? ⟨B.b, thing, none⟩ = some (.int .i64 a) := by rw [h.hb.cell (by omega), ha]
  have C2 : w.cell? ⟨B.n, thing, none⟩ = some (.int .i64 b) := by rw [h.hn.cell (by omega), hb]
  have HL := hid hl
  have HC := hid hc
  clear ln lb ll ha hb hl hc
  go_enter Try.func96, Try.ntmps96
  go_wp2
  go_quiet (fail)
  go_wp2
  refine wp_abs (fun w1 => RawAt w1 B r ∧ Fr B.foot w w1) ⟨h.still ((Fr.refl _ w).drewN _), (Fr.refl _ w).drewN _⟩ ?_
  clear F1 F2 C1 C2
  rintro w1 ⟨h1, f1⟩
  have F1 := h1.f1
  have F2 := h1.f2
  have C1 : w1.cell? ⟨B.n, a, none⟩ = some (.int .i64 (r.next.getD a 0)) := h1.hn.cell ha'
  have C2 : w1.cell? ⟨B.b, b, none⟩ = some (.int .i64 (r.back.getD b 0)) := h1.hb.cell hn7
  have Z1 := h1.zn a
  have Z2 := h1.zb b
  have d1 := h.nb
  go_region
  go_wp2
  refine wp_abs (fun w2 => RawAt w2 B { r with next := r.next.set a b, back := r.back.set b a } ∧ Fr B.foot w w2) ⟨((h1.setN a b).setB b a).drew, ((f1.setCell (.inl (by simp [LB.foot])) _).setCell (.inl (by simp [LB.foot])) _).drew⟩ ?_
  clear F1 F2 C1 C2 Z1 Z2 h1 f1
  rintro w2 ⟨h1, f1⟩
  have F3 := h1.f3
  have F4 := h1.f4
  have C3 : w2.cell? ⟨B.l, thing, none⟩ = some (.int .i64 i) := by rw [h1.hl.cell hn8, HL.out]
  have C4 : w2.cell? ⟨B.c, i, none⟩ = some (.int .i64 c) := by rw [h1.hc.cell hi, HC.out]
  have Z3 := h1.zl thing
  have Z4 := h1.zc i
  have d4 := h1.pl
  have d5 := h1.pc
  have d10 := h1.lc
  go_region
  go_wp2
  go_end0
  refine ⟨rfl, ?_, ?_⟩
  · exact ((h1.setC i (c - 1)).setL thing (-1)).drew
  · exact ((f1.setCell (.inl (by simp [LB.foot])) _).setCell (.inl (by simp [LB.foot])) _).drew

/-- What keeps a thing from being removed. -/
def remE (r : Raw) (t : Int) : Int := if inR t r.things then (if r.list.getD t.toNat 0 = -1 then 4 else 0) else 8
def popE (r : Raw) (i : Int) : Int := if inR i r.count.length then (if r.count.getD i.toNat 0 = 0 then 4 else 0) else 8

theorem rem_first (w : World) (B : LB) (r : Raw) (h : RawAt w B r) (t : Int) (b1 b2 bs : Nat) (T : TypeId) (g1 : Box w b1 (.pointer (some ⟨B.p, 0, none⟩)) 23) (g2 : Box w b2 (.int .i64 t) 3)
    (g4 : Blk w bs [.func (.func 97) #[] #[.pointer (some ⟨b1, 0, none⟩), .pointer (some ⟨b2, 0, none⟩)], .func (.func 98) #[] #[.pointer (some ⟨b1, 0, none⟩), .pointer (some ⟨b2, 0, none⟩)]] T) :
    Calls Try.prog 79 #[.pointer (some ⟨B.p, 0, none⟩), .slice (some ⟨bs, 0, none⟩) 2 2] w fun e w' => e = .returned (.int .i64 (remE r t)) ∧ Still w w' := by
  refine first_two w B r h bs T 97 98 _ _ (decide (¬ inR t r.things)) (r.list.getD t.toNat 0 == -1) 8 4 (remE r t) ?_ g4 (enters_of Try.func97 (by kernel_rfl) rfl) (enters_of Try.func98 (by kernel_rfl) rfl) ?_ ?_
  · unfold remE
    by_cases h2 : inR t r.things <;> by_cases h3 : r.list.getD t.toNat 0 = -1 <;> simp_all
  · intro w1 hs
    exact remove1 w1 B r (h.still hs) _ _ t (g1.still hs) (g2.still hs)
  · intro hb w1 hs
    have ht : inR t r.things := by simpa using hb
    obtain ⟨t, rfl⟩ := Int.eq_ofNat_of_zero_le ht.1
    rw [Int.toNat_natCast]
    exact remove2 w1 B r (h.still hs) _ _ t _ rfl (by have := ht.2; omega) (g1.still hs) (g2.still hs)
theorem pop_first (w : World) (B : LB) (r : Raw) (h : RawAt w B r) (t : Int) (b1 b2 bs : Nat) (T : TypeId) (g1 : Box w b1 (.pointer (some ⟨B.p, 0, none⟩)) 23) (g2 : Box w b2 (.int .i64 t) 3)
    (g4 : Blk w bs [.func (.func 94) #[] #[.pointer (some ⟨b1, 0, none⟩), .pointer (some ⟨b2, 0, none⟩)], .func (.func 95) #[] #[.pointer (some ⟨b1, 0, none⟩), .pointer (some ⟨b2, 0, none⟩)]] T) :
    Calls Try.prog 79 #[.pointer (some ⟨B.p, 0, none⟩), .slice (some ⟨bs, 0, none⟩) 2 2] w fun e w' => e = .returned (.int .i64 (popE r t)) ∧ Still w w' := by
  refine first_two w B r h bs T 94 95 _ _ (decide (¬ inR t r.count.length)) (r.count.getD t.toNat 0 == 0) 8 4 (popE r t) ?_ g4 (enters_of Try.func94 (by kernel_rfl) rfl) (enters_of Try.func95 (by kernel_rfl) rfl) ?_ ?_
  · unfold popE
    by_cases h2 : inR t r.count.length <;> by_cases h3 : r.count.getD t.toNat 0 = 0 <;> simp_all
  · intro w1 hs
    exact pop1 w1 B r (h.still hs) _ _ t (g1.still hs) (g2.still hs)
  · intro hb w1 hs
    have ht : inR t r.count.length := by simpa using hb
    obtain ⟨t, rfl⟩ := Int.eq_ofNat_of_zero_le ht.1
    rw [Int.toNat_natCast]
    exact pop2 w1 B r (h.still hs) _ _ t _ rfl (by have := ht.2; omega) (g1.still hs) (g2.still hs)

theorem remove_err (w : World) (B : LB) (r : Raw) (h : RawAt w B r) (t : Int) (v : Int) (hv : remE r t = v) (h0 : (v == 0) = false) :
    Calls Try.prog 42 #[.pointer (some ⟨B.p, 0, none⟩), .int .i64 t] w fun e w' => e = .returned (.int .i64 v) ∧ Still w w' := by
  have HV := hid hv
  clear hv
  go_enter Try.func42, Try.ntmps42
  go_wp2_with fail
  refine calls_abs (fun W => Still w W ∧ Box W w.heap.size (.pointer (some ⟨B.p, 0, none⟩)) 23 ∧ Box W (w.heap.size + 1) (.int .i64 t) 3 ∧ Blk W (w.heap.size + 1 + 1) [_, _] 123) (lay3 w _ _ _ _ _ _ _) ?_
  rintro W ⟨hS, g1, g2, g4⟩
  refine (rem_first W B r (h.still hS) t _ _ _ _ g1 g2 g4).mono ?_
  rw [HV.out]
  rintro e w' ⟨rfl, hs⟩
  go_wp2_with fail
  go_ret
  exact ⟨rfl, hS.trans hs⟩
theorem remove_ok (w : World) (B : LB) (r : Raw) (h : RawAt w B r) (thing a b i c : Nat) (ht : thing < r.things) (hi : i < r.count.length) (ha' : a < r.next.length) (hb' : b < r.next.length)
    (ha : r.back.getD thing 0 = (a : Int)) (hb : r.next.getD thing 0 = (b : Int)) (hl : r.list.getD thing 0 = (i : Int)) (hc : r.count.getD i 0 = (c : Int)) (hc' : c ≤ 4096) :
    Calls Try.prog 42 #[.pointer (some ⟨B.p, 0, none⟩), .int .i64 thing] w fun e w' => e = .returned (.int .i64 0) ∧ RawAt w' B (r.del thing a b i c) ∧ Fr B.foot w w' := by
  have HV : Hid (remE r thing = 0) := hid (by unfold remE; rw [if_pos ⟨by omega, by omega⟩, Int.toNat_natCast, hl, if_neg (by omega)])
  have HA := hid ha
  have HB := hid hb
  have HL := hid hl
  have HC := hid hc
  clear ha hb hl hc
  go_enter Try.func42, Try.ntmps42
  go_wp2_with fail
  refine calls_abs (fun W => Still w W ∧ Box W w.heap.size (.pointer (some ⟨B.p, 0, none⟩)) 23 ∧ Box W (w.heap.size + 1) (.int .i64 thing) 3 ∧ Blk W (w.heap.size + 1 + 1) [_, _] 123) (lay3 w _ _ _ _ _ _ _) ?_
  rintro W ⟨hS, g1, g2, g4⟩
  refine (rem_first W B r (h.still hS) thing _ _ _ _ g1 g2 g4).mono ?_
  rw [HV.out]
  rintro e w' ⟨rfl, hs⟩
  have c1 := (g1.still hs).c
  have c2 := (g2.still hs).c
  go_wp2_with fail
  refine (out_any _ B r ((h.still hS).still hs) thing a b i c ht hi ha' hb' HA.out HB.out HL.out HC.out hc').mono ?_
  rintro e w2 ⟨rfl, h2, f2⟩
  go_wp2_with fail
  go_ret
  exact ⟨rfl, h2, ((hS.trans hs).fr _).trans f2⟩
theorem pop_err (w : World) (B : LB) (r : Raw) (h : RawAt w B r) (t : Int) (v : Int) (hv : popE r t = v) (h0 : (v != 0) = true) :
    Calls Try.prog 41 #[.pointer (some ⟨B.p, 0, none⟩), .int .i64 t] w fun e w' => e = .returned (.tuple #[.int .i64 0, .int .i64 v]) ∧ Still w w' := by
  have HV := hid hv
  clear hv
  go_enter Try.func41, Try.ntmps41
  go_wp2_with fail
  refine calls_abs (fun W => Still w W ∧ Box W w.heap.size (.pointer (some ⟨B.p, 0, none⟩)) 23 ∧ Box W (w.heap.size + 1) (.int .i64 t) 3 ∧ Blk W (w.heap.size + 1 + 1) [_, _] 123) (lay3 w _ _ _ _ _ _ _) ?_
  rintro W ⟨hS, g1, g2, g4⟩
  refine (pop_first W B r (h.still hS) t _ _ _ _ g1 g2 g4).mono ?_
  rw [HV.out]
  rintro e w' ⟨rfl, hs⟩
  go_wp2_with fail
  go_ret2
  exact ⟨rfl, hS.trans hs⟩
theorem pop_ok (w : World) (B : LB) (r : Raw) (h : RawAt w B r) (i thing b c : Nat) (ht : thing < r.things) (hi : i < r.count.length) (hb' : b < r.next.length) (hn : r.next.getD (r.things + i) 0 = (thing : Int))
    (ha : r.back.getD thing 0 = ((r.things + i : Nat) : Int)) (hb : r.next.getD thing 0 = (b : Int)) (hl : r.list.getD thing 0 = (i : Int)) (hc : r.count.getD i 0 = (c : Int)) (hc' : c ≤ 4096) (hc0 : 0 < c) :
    Calls Try.prog 41 #[.pointer (some ⟨B.p, 0, none⟩), .int .i64 i] w fun e w' => e = .returned (.tuple #[.int .i64 thing, .int .i64 0]) ∧ RawAt w' B (r.del thing (r.things + i) b i c) ∧ Fr B.foot w w' := by
  have HV : Hid (popE r i = 0) := hid (by unfold popE; rw [if_pos ⟨by omega, by omega⟩, Int.toNat_natCast, hc, if_neg (by omega)])
  have ln := h.lnext
  have m1 := h.m1
  obtain ⟨q, hq⟩ : ∃ q, r.things + i = q := ⟨_, rfl⟩
  have hq1 : q < r.next.length := by omega
  have hq2 : (q : Int) < (r.next.length : Int) := by omega
  rw [hq] at hn ha ⊢
  have HQ := hid hq
  have HN := hid hn
  have HA := hid ha
  have HB := hid hb
  have HL := hid hl
  have HC := hid hc
  clear ha hb hl hc hn hq ln
  go_enter Try.func41, Try.ntmps41
  go_wp2_with fail
  refine calls_abs (fun W => Still w W ∧ Box W w.heap.size (.pointer (some ⟨B.p, 0, none⟩)) 23 ∧ Box W (w.heap.size + 1) (.int .i64 i) 3 ∧ Blk W (w.heap.size + 1 + 1) [_, _] 123) (lay3 w _ _ _ _ _ _ _) ?_
  rintro W ⟨hS, g1, g2, g4⟩
  refine (pop_first W B r (h.still hS) i _ _ _ _ g1 g2 g4).mono ?_
  rw [HV.out]
  rintro e w' ⟨rfl, hs⟩
  have c1 := (g1.still hs).c
  have c2 := (g2.still hs).c
  have h1 := (h.still hS).still hs
  have F1 := h1.f1
  have C : w'.cell? ⟨B.n, q, none⟩ = some (.int .i64 thing) := by rw [h1.hn.cell hq1, HN.out]
  go_wp2_with fail
  go_quiet ((go_at_call 77; exact Calls.quiet_of_same (end_nat _ B r (h1.still ((Fr.refl _ _).drewN _)) i q HQ.out (by omega))))
  go_wp2_with fail
  refine (out_any _ B r (h1.still ((Fr.refl _ _).drewN _)) thing q b i c ht hi hq1 hb' HA.out HB.out HL.out HC.out hc').mono ?_
  rintro e w2 ⟨rfl, h2, f2⟩
  go_wp2_with fail
  go_ret2
  exact ⟨rfl, h2, ((hS.trans hs).fr _).trans (((Fr.refl _ _).drewN _).trans f2)⟩
end Go.Proofs.Ytffjaaolcphonaa
/- The links' New. -/
namespace Go.Proofs.Ytffjaaolcphonaa
open Go.RowKit

def ints (xs : List Int) : List Value := xs.map (Value.int .i64)
def zr (n : Nat) : Array Value := (ints (List.replicate n 0)).toArray
theorem info3 : (Try.prog.info? 3).map (fun i => (i.zero, i.size, i.bytes)) = some (some (.int .i64 0), 1, 8) := by kernel_rfl
theorem mk_ints (n : Nat) (hn : n ≤ 1000000) : ∀ w, (Instr.makeSlice 28 (.int .i64 (n : Int)) (.int .i64 (n : Int))).run Try.prog w = .ok (.slice (some ⟨w.heap.size, 0, none⟩) n n) (w.alloc (.cells (zr n) 3)) := by
  intro w
  obtain ⟨i0, hi, hz0, hz1, hz2⟩ := info_parts info3
  have := run_make (P := Try.prog) w 28 3 i0 _ Try.underlying28 hi hz0 .i64 .i64 (n : Int) (n : Int) (by omega) (by omega) (by rw [hz2]; omega) (by omega)
  rw [this, hz1, Int.toNat_natCast, Nat.mul_one]
  have e : madeCells (Value.int .i64 0).cells n = zr n := by
    show madeCells #[.int .i64 0] n = _
    apply Array.ext'
    rw [toList_madeCells_one]; simp [zr, ints]
  rw [e]

def idU (k n : Nat) : List Int := (List.range n).map fun j => if j < k then (j : Int) else 0
theorem idU_zero (n : Nat) : idU 0 n = List.replicate n 0 := by
  apply List.ext_getElem <;> simp [idU]
theorem idU_len (k n : Nat) : (idU k n).length = n := by simp [idU]
theorem idU_succ (k n : Nat) : (idU k n).set k (k : Int) = idU (k + 1) n := by
  apply List.ext_getElem
  · simp [idU]
  · intro i h1 h2
    simp [idU, List.getElem_set]
    by_cases e : k = i
    · subst e; simp
    · simp [e]; by_cases h : i < k
      · rw [if_pos h, if_pos (by omega)]
      · rw [if_neg h, if_neg (by omega)]
def noU (k n : Nat) : List Int := (List.range n).map fun j => if j < k then -1 else 0
theorem noU_zero (n : Nat) : noU 0 n = List.replicate n 0 := by
  apply List.ext_getElem <;> simp [noU]
theorem noU_len (k n : Nat) : (noU k n).length = n := by simp [noU]
theorem noU_succ (k n : Nat) : (noU k n).set k (-1 : Int) = noU (k + 1) n := by
  apply List.ext_getElem
  · simp [noU]
  · intro i h1 h2
    simp [noU, List.getElem_set]
    by_cases e : k = i
    · subst e; simp
    · simp [e]; by_cases h : i < k
      · rw [if_pos h, if_pos (by omega)]
      · rw [if_neg h, if_neg (by omega)]
def Raw.z (t m : Nat) : Raw := ⟨t, List.replicate (t + m) 0, List.replicate (t + m) 0, List.replicate t 0, List.replicate m 0⟩
def Raw.new (t m : Nat) : Raw := ⟨t, idU (t + m) (t + m), idU (t + m) (t + m), noU t t, List.replicate m 0⟩

theorem heap_at (w : World) (o : Obj) (n : Nat) (h : n = w.heap.size) : (w.alloc o).heap[n]? = some o := by subst h; show (w.heap.push o)[w.heap.size]? = _; simp
/-- Five new blocks in whatever order. -/
theorem raw_of (w W : World) (t m N p n b l c : Nat) (hN : N = t + m) (t0 : 1 ≤ t) (t1 : t ≤ 4096) (m0 : 1 ≤ m) (m1 : m ≤ 4096)
    (hp : Blk W p [.int .i64 t, .slice (some ⟨n, 0, none⟩) N N, .slice (some ⟨b, 0, none⟩) N N, .slice (some ⟨l, 0, none⟩) t t, .slice (some ⟨c, 0, none⟩) m m] 63)
    (hn : Blk W n (ints (List.replicate N 0)) 3) (hb : Blk W b (ints (List.replicate N 0)) 3) (hl : Blk W l (ints (List.replicate t 0)) 3) (hc : Blk W c (ints (List.replicate m 0)) 3)
    (hW : Still w W) (hd : [p, n, b, l, c].Nodup) (hf : ∀ k ∈ [p, n, b, l, c], w.heap.size ≤ k) :
    ∃ B : LB, Value.pointer (some ⟨p, 0, none⟩) = .pointer (some ⟨B.p, 0, none⟩) ∧ RawAt W.drew B (Raw.z t m) ∧ Still w W.drew ∧ ∀ k, B.foot k → w.heap.size ≤ k := by
  subst hN
  simp only [List.nodup_cons, List.mem_cons, List.not_mem_nil, or_false, not_or] at hd
  obtain ⟨⟨h1, h2, h3, h4⟩, ⟨h5, h6, h7⟩, ⟨h8, h9⟩, h10, _⟩ := hd
  refine ⟨⟨p, n, b, l, c, t + m, t + m, t, m⟩, rfl, RawAt.drew ⟨h1, h2, h3, h4, h5, h6, h7, h8, h9, h10, ?_, ⟨[], by rw [List.append_nil]; exact hn⟩, ⟨[], by rw [List.append_nil]; exact hb⟩, ⟨[], by rw [List.append_nil]; exact hl⟩, ⟨[], by rw [List.append_nil]; exact hc⟩, by simp [Raw.z], by simp [Raw.z], by simp [Raw.z], t0, t1, by simpa [Raw.z] using m0, by simpa [Raw.z] using m1⟩, hW.drew, ?_⟩
  · simpa [Raw.z, sl] using hp
  · intro k hk
    apply hf
    simpa [LB.foot] using hk
theorem new_nil (w : World) (t m : Int) (h : (t < 1 ∨ 4096 < t) ∨ (m < 1 ∨ 4096 < m)) : Calls Try.prog 19 #[.int .i64 t, .int .i64 m] w fun e w' => e = .returned (.pointer none) ∧ w = w' := by
  by_cases h1 : t < 1
  · go_enter Try.func19, Try.ntmps19
    go_wp2
    go_ret
    exact ⟨rfl, rfl⟩
  · by_cases h2 : 4096 < t
    · go_enter Try.func19, Try.ntmps19
      go_wp2
      go_ret
      exact ⟨rfl, rfl⟩
    · by_cases h3 : m < 1
      · go_enter Try.func19, Try.ntmps19
        go_wp2
        go_ret
        exact ⟨rfl, rfl⟩
      · have h4 : 4096 < m := by omega
        go_enter Try.func19, Try.ntmps19
        go_wp2
        go_ret
        exact ⟨rfl, rfl⟩

set_option maxRecDepth 100000 in
set_option maxHeartbeats 4000000 in
theorem new_ok (w : World) (t m : Nat) (t0 : 1 ≤ t) (t1 : t ≤ 4096) (m0 : 1 ≤ m) (m1 : m ≤ 4096) : Calls Try.prog 19 #[.int .i64 t, .int .i64 m] w fun e w' =>
    ∃ B : LB, e = .returned (.pointer (some ⟨B.p, 0, none⟩)) ∧ RawAt w' B (Raw.new t m) ∧ Still w w' ∧ ∀ k, B.foot k → w.heap.size ≤ k := by
  obtain ⟨N, hN⟩ : ∃ N, N = t + m := ⟨_, rfl⟩
  have hmkN := mk_ints N (by omega)
  have hmkt := mk_ints t (by omega)
  have hmkm := mk_ints m (by omega)
  have eN : ((t : Int) + (m : Int)) = (N : Int) := by omega
  have hN2 : N ≤ 8192 := by omega
  have HN := hid hN
  clear hN
  go_enter Try.func19, Try.ntmps19
  go_upto_region 4 with fail
  go_cut [6] (fun s6 wx => ∃ B : LB, s6 = .pointer (some ⟨B.p, 0, none⟩) ∧ RawAt wx B (Raw.z t m) ∧ Still w wx ∧ ∀ k, B.foot k → w.heap.size ≤ k)
  case first =>
    go_region
    all_goals
      go_wp2_with fail
      go_meet
      refine raw_of w _ t m N _ _ _ _ _ HN.out t0 t1 m0 m1 (heap_at _ _ _ (by simp)) ?_ ?_ ?_ ?_ (((((((Still.refl w).alloc _).alloc _).alloc _).alloc _).alloc _)) (by simp; omega) (by simp; omega)
      all_goals first
        | (refine heap_at _ _ _ ?_; simp; done)
        | (refine (Below.heap_alloc _ _ _ ?_).trans ?_; (simp <;> omega); first
          | (refine heap_at _ _ _ ?_; simp; done)
          | (refine (Below.heap_alloc _ _ _ ?_).trans ?_; (simp <;> omega); first
            | (refine heap_at _ _ _ ?_; simp; done)
            | (refine (Below.heap_alloc _ _ _ ?_).trans ?_; (simp <;> omega); first
              | (refine heap_at _ _ _ ?_; simp; done)
              | (refine (Below.heap_alloc _ _ _ ?_).trans ?_; (simp <;> omega); refine heap_at _ _ _ ?_; simp; done))))
  case rest =>
    obtain ⟨B, rfl, hB, hS, hF⟩ := hcut
    have hSS : Fr B.foot w wc := hS.fr _
    clear hmkN hmkt hmkm eN
    go_wp2
    go_loopw [38] (fun i wr => ∃ k : Nat, k ≤ N ∧ i = .int .i64 k ∧ RawAt wr B { Raw.z t m with next := idU k N, back := idU k N } ∧ Fr B.foot w wr) (fun i _ => N - (intOf i).toNat)
    case atStart => exact ⟨0, Nat.zero_le _, rfl, by rw [idU_zero, HN.out]; exact hB, hSS⟩
    case round =>
      obtain ⟨k, hk, rfl, hR, hfr⟩ := hrel
      by_cases hlt : k < N
      · have hlt' : (k : Int) < (N : Int) := by omega
        have F1 := hR.f1
        have F2 := hR.f2
        simp only [idU_len] at F1 F2
        have C1 : wr.cell? ⟨B.n, k, none⟩ = some (.int .i64 ((idU k N).getD k 0)) := hR.hn.cell (by simp [idU_len]; omega)
        have C2 : wr.cell? ⟨B.b, k, none⟩ = some (.int .i64 ((idU k N).getD k 0)) := hR.hb.cell (by simp [idU_len]; omega)
        have Z1 := hR.zn k
        have Z2 := hR.zb k
        have d1 := hR.nb
        have hR' := ((hR.setN k k).setB k k).drew
        simp only [idU_succ] at hR'
        have hfr' := ((hfr.setCell (p := ⟨B.n, k, none⟩) (.inl (by simp [LB.foot])) (.int .i64 k)).setCell (p := ⟨B.b, k, none⟩) (.inl (by simp [LB.foot])) (.int .i64 k)).drew
        go_wp2
        go_region
        go_wp2
        go_roundw
        case rel => exact ⟨k + 1, by omega, by go_num, hR', hfr'⟩
        case measure => simp [intOf]; omega
      · obtain rfl : k = N := by omega
        clear hlt hk hS hSS hB
        go_wp2
        have eL : List.replicate t (0 : Int) = noU 0 t := (noU_zero t).symm
        go_loopw [57] (fun i w2 => ∃ j : Nat, j ≤ t ∧ i = .int .i64 j ∧ RawAt w2 B { Raw.z t m with next := idU k k, back := idU k k, list := noU j t } ∧ Fr B.foot w w2) (fun i _ => t - (intOf i).toNat)
        case atStart => exact ⟨0, Nat.zero_le _, rfl, by rw [noU_zero]; exact hR, hfr⟩
        case round =>
          obtain ⟨j, hj, rfl, hR2, hfr2⟩ := hrel
          by_cases hlt : j < t
          · have hlt' : (j : Int) < (t : Int) := by omega
            have F3 : _ = some (Value.slice (some ⟨B.l, 0, none⟩) t B.kl) := hR2.f3
            have C3 : _ = some (Value.int .i64 ((noU j t).getD j 0)) := hR2.hl.cell (i := j) (by simp [noU_len]; omega)
            have Z3 := hR2.zl j
            have hR' := (hR2.setL j (-1))
            simp only [noU_succ] at hR'
            have hfr' := (hfr2.setCell (p := ⟨B.l, j, none⟩) (.inl (by simp [LB.foot])) (.int .i64 (-1)))
            go_wp2
            go_roundw
            case rel => exact ⟨j + 1, by omega, by go_num, hR', hfr'⟩
            case measure => simp [intOf]; omega
          · obtain rfl : j = t := by omega
            go_wp2
            go_ret
            have e := HN.out
            refine ⟨B, rfl, ?_, ?_, hF⟩
            · unfold Raw.new; rw [← e]; exact hR2
            · exact hfr2.mono fun i hi hb => by have := hF i hb; omega
end Go.Proofs.Ytffjaaolcphonaa
/- ref03.Ints: two rows of integers are alike. -/
namespace Go.Proofs.Ytffjaaolcphonaa
open Go.RowKit

/-- A slice of integers in the world. -/
def IRow (w : World) (v : Value) (xs : List Int) : Prop :=
  (xs = [] ∧ ∃ a c, v = .slice a 0 c) ∨ (0 < xs.length ∧ ∃ b off c, v = .slice (some ⟨b, off, none⟩) xs.length c ∧ ∀ i, i < xs.length → w.cell? ⟨b, off + i, none⟩ = some (.int .i64 (xs.getD i 0)))
theorem IRow.len {w : World} {v : Value} {xs : List Int} (h : IRow w v xs) : ∃ a c, v = .slice a xs.length c := by
  rcases h with ⟨rfl, a, c, rfl⟩ | ⟨_, b, off, c, rfl, _⟩
  · exact ⟨_, _, rfl⟩
  · exact ⟨_, _, rfl⟩
theorem IRow.of_owns {w : World} {base n : Nat} {v : Value} {xs : List Int} (h : w.ownsRow base 3 1 v n (xs.map (Value.int .i64))) (hn : n = xs.length) : IRow w v xs := by
  by_cases h0 : 0 < xs.length
  · obtain ⟨g, cap, rfl, _, _, hb⟩ := IBlk.of_owns h (by omega)
    exact .inr ⟨h0, g, 0, cap, by rw [hn], fun i hi => by rw [Nat.zero_add]; exact hb.cell hi⟩
  · have : xs = [] := List.length_eq_zero_iff.1 (by omega)
    subst this
    subst hn
    obtain ⟨_, ⟨rfl, _⟩ | ⟨g, cap, _, rfl, _⟩⟩ := h
    · exact .inl ⟨rfl, _, _, rfl⟩
    · exact .inl ⟨rfl, _, _, rfl⟩
theorem IRow.of_blk {w : World} {b c : Nat} {xs : List Int} {T : TypeId} (h : Blk w b (xs.map (Value.int .i64)) T) (h0 : 0 < xs.length) : IRow w (.slice (some ⟨b, 0, none⟩) xs.length c) xs :=
  .inr ⟨h0, b, 0, c, rfl, fun i hi => by rw [Nat.zero_add, h.cell]; simp [hi]⟩
theorem getD_all {xs ys : List Int} (h : xs.length = ys.length) (k : ∀ i, i < xs.length → xs.getD i 0 = ys.getD i 0) : xs = ys := by
  apply List.ext_getElem h
  intro i h1 h2
  have := k i h1
  simpa [List.getD, h1, h2] using this

theorem ints_len (w : World) (a1 a2 : Option Addr) (n1 n2 c1 c2 : Nat) (h : n1 ≠ n2) : Calls Try.prog 26 #[.slice a1 n1 c1, .slice a2 n2 c2] w fun e w' => e = .returned (.bool false) ∧ w = w' := by
  have hd : ((n1 : Int) != (n2 : Int)) = true := by simp; omega
  go_enter Try.func26, Try.ntmps26
  go_wp2
  go_ret
  exact ⟨rfl, rfl⟩
theorem ints_zero (w : World) (a1 a2 : Option Addr) (c1 c2 : Nat) : Calls Try.prog 26 #[.slice a1 0 c1, .slice a2 0 c2] w fun e w' => e = .returned (.bool true) ∧ w = w' := by
  go_enter Try.func26, Try.ntmps26
  go_wp2
  go_loopw [13] (fun i wr => i = .int .i64 0 ∧ w = wr) (fun _ _ => 0)
  case atStart => exact ⟨rfl, rfl⟩
  case round =>
    obtain ⟨rfl, rfl⟩ := hrel
    go_wp2
    go_ret
    exact ⟨rfl, rfl⟩
theorem ints_more (w : World) (b1 o1 c1 b2 o2 c2 n : Nat) (X Y : Nat → Int) (hn : n ≤ 9223372036854775807) (hX : ∀ i, i < n → w.cell? ⟨b1, o1 + i, none⟩ = some (.int .i64 (X i))) (hY : ∀ i, i < n → w.cell? ⟨b2, o2 + i, none⟩ = some (.int .i64 (Y i))) :
    Calls Try.prog 26 #[.slice (some ⟨b1, o1, none⟩) n c1, .slice (some ⟨b2, o2, none⟩) n c2] w fun e w' => ∃ r, e = .returned (.bool r) ∧ (r = true ↔ ∀ i, i < n → X i = Y i) ∧ Still w w' := by
  have HX := hid hX
  have HY := hid hY
  clear hX hY
  go_enter Try.func26, Try.ntmps26
  go_wp2
  go_loopw [13] (fun i wr => ∃ j : Nat, i = .int .i64 j ∧ j ≤ n ∧ (∀ i, i < j → X i = Y i) ∧ Still w wr) (fun i _ => n - (intOf i).toNat)
  case atStart => exact ⟨0, rfl, Nat.zero_le _, fun _ h => absurd h (Nat.not_lt_zero _), Still.refl _⟩
  case round =>
    obtain ⟨j, rfl, hj, hall, hst⟩ := hrel
    have HA := hid hall
    clear hall
    by_cases hlt : j < n
    · have hlt' : (j : Int) < (n : Int) := by omega
      have hbw : Below w.heap.size w wr := hst.below (Nat.le_refl _) (fun _ h => h.elim)
      have cx : wr.cell? ⟨b1, o1 + j, none⟩ = some (.int .i64 (X j)) := (hbw.cell (World.block_lt_of_cell? _ _ (HX.out j hlt))).trans (HX.out j hlt)
      have cy : wr.cell? ⟨b2, o2 + j, none⟩ = some (.int .i64 (Y j)) := (hbw.cell (World.block_lt_of_cell? _ _ (HY.out j hlt))).trans (HY.out j hlt)
      obtain ⟨x, hx⟩ : ∃ x, X j = x := ⟨_, rfl⟩
      obtain ⟨y, hy⟩ : ∃ y, Y j = y := ⟨_, rfl⟩
      rw [hx] at cx
      rw [hy] at cy
      have Hx := hid hx
      have Hy := hid hy
      clear hx hy
      by_cases hxy : x = y
      · have hd : (x != y) = false := by simp [hxy]
        have HE := hid hxy
        clear hxy
        go_wp2_with fail
        go_quiet (fail)
        go_wp2_with fail
        go_roundw
        case rel =>
          refine ⟨j + 1, by go_num, by omega, fun i hi => ?_, hst.drewN _⟩
          by_cases e : i = j
          · subst e; rw [Hx.out, Hy.out]; exact HE.out
          · exact HA.out i (by omega)
        case measure => simp [intOf]; omega
      · have hd : (x != y) = true := by simp [hxy]
        have HE := hid hxy
        clear hxy
        go_wp2_with fail
        go_quiet (fail)
        go_wp2_with fail
        go_ret
        exact ⟨false, rfl, by simp; exact ⟨j, hlt, by rw [Hx.out, Hy.out]; exact HE.out⟩, hst.drewN _⟩
    · go_wp2
      go_ret
      exact ⟨true, rfl, by simp; intro i hi; exact HA.out i (by omega), hst⟩
theorem ints_ok (w : World) (v1 v2 : Value) (xs ys : List Int) (h1 : IRow w v1 xs) (h2 : IRow w v2 ys) (hl : xs.length ≤ 9223372036854775807) : Calls Try.prog 26 #[v1, v2] w fun e w' => e = .returned (.bool (decide (xs = ys))) ∧ Still w w' := by
  by_cases hn : xs.length = ys.length
  · rcases h1 with ⟨rfl, a, c, rfl⟩ | ⟨h0, b, off, c, rfl, hc⟩
    · obtain rfl : ys = [] := List.length_eq_zero_iff.1 (by simpa using hn.symm)
      obtain ⟨a2, c2, rfl⟩ := h2.len
      refine (ints_zero w a a2 c c2).mono ?_
      rintro e w' ⟨rfl, rfl⟩
      exact ⟨rfl, Still.refl _⟩
    · rcases h2 with ⟨rfl, _⟩ | ⟨_, b2, off2, c2, rfl, hc2⟩
      · rw [hn] at h0; exact absurd h0 (by simp)
      · rw [← hn] at hc2 ⊢
        refine (ints_more w b off c b2 off2 c2 xs.length (fun i => xs.getD i 0) (fun i => ys.getD i 0) hl hc hc2).mono ?_
        rintro e w' ⟨r, rfl, hr, hs⟩
        refine ⟨?_, hs⟩
        congr 2
        by_cases e : xs = ys
        · rw [decide_eq_true e]; exact hr.2 (by subst e; intros; rfl)
        · rw [decide_eq_false e]
          cases r with
          | false => rfl
          | true => exact absurd (getD_all hn (hr.1 rfl)) e
  · obtain ⟨a1, c1, rfl⟩ := h1.len
    obtain ⟨a2, c2, rfl⟩ := h2.len
    refine (ints_len w a1 a2 _ _ c1 c2 hn).mono ?_
    rintro e w' ⟨rfl, rfl⟩
    exact ⟨by rw [decide_eq_false (fun e => hn (by rw [e]))], Still.refl _⟩
end Go.Proofs.Ytffjaaolcphonaa
/- append(v, s...) of whole numbers, v a row that the call owns, s any slice that reads as a list. -/
namespace Go.Proofs.Ytffjaaolcphonaa
open Go.RowKit

theorem IRow.src {w : World} {v : Value} {xs : List Int} (h : IRow w v xs) : ∃ a c, v = .slice a xs.length c ∧ ((a = none ∧ xs = []) ∨ ∃ ad, a = some ad ∧ ∀ j u, (ints xs)[j]? = some u → w.cell? (ad.add j) = some u) := by
  rcases h with ⟨rfl, a, c, rfl⟩ | ⟨h0, b, off, c, rfl, hc⟩
  · refine ⟨a, c, rfl, ?_⟩
    cases a with
    | none => exact .inl ⟨rfl, rfl⟩
    | some ad => exact .inr ⟨ad, rfl, fun j u hu => by simp [ints] at hu⟩
  · refine ⟨_, c, rfl, .inr ⟨_, rfl, fun j u hu => ?_⟩⟩
    have hj : j < xs.length := by have := (List.getElem?_eq_some_iff.1 hu).1; simpa [ints] using this
    have : (⟨b, off, none⟩ : Addr).add j = ⟨b, off + j, none⟩ := by
      unfold Addr.add; split
      · next e => subst e; rfl
      · rfl
    rw [this, hc j hj]
    simpa [ints, hj] using hu
theorem ints_one (xs : List Int) : ∀ u ∈ ints xs, u.oneCell' = true := by
  intro u hu; simp [ints] at hu; obtain ⟨x, _, rfl⟩ := hu; rfl
theorem ints_append (xs ys : List Int) : ints (xs ++ ys) = ints xs ++ ints ys := by simp [ints]

theorem run_append_irow (w : World) (base : Nat) (ty : TypeId) (v s : Value) (n : Nat) (xs ys : List Int) (hown : w.ownsRow base 3 1 v n (ints xs)) (hs : IRow w s ys) (hn : n + ys.length ≤ 1000000000) (hb : base ≤ w.heap.size) :
    ∃ v' w', (Builtin.append_ #[28, 28] ty #[v, s]).run Try.prog w = .ok v' w' ∧ w'.ownsRow base 3 1 v' (n + ys.length) (ints (xs ++ ys)) ∧ w.grownBy w' v.ownBlock ∧ (v'.ownBlock = v.ownBlock ∨ v'.ownBlock = some w.heap.size) := by
  obtain ⟨i0, hi, hz0, hz1, hz2⟩ := info_parts info3
  obtain ⟨a, c, rfl, ⟨rfl, rfl⟩ | ⟨ad, rfl, hc⟩⟩ := hs.src
  · refine ⟨v, w, ?_, by simpa using hown, World.grownBy.refl w _, .inl rfl⟩
    rcases hown.2 with ⟨rfl, rfl⟩ | ⟨g, cap, cur, rfl, _, _, hnc, _⟩
    · simp [Builtin.append_, run_underlying Try.underlying28, sizeOf, typeInfo, hi, Builtin.lenOf, Builtin.firstCells]
    · simp [Builtin.append_, run_underlying Try.underlying28, sizeOf, typeInfo, hi, Builtin.lenOf, Builtin.firstCells, hnc, storeCells]
  · obtain ⟨v', w', h1, h2, h3, _, h5⟩ := run_append_own_at (P := Try.prog) w base 28 ty 3 i0 _ 1 8 Try.underlying28 hi hz0 hz1 hz2 rfl (by omega) v n (ints xs) hown ad ys.length c (ints ys) (by simp [ints]) hc (ints_one ys) (by unfold maxLen; omega) (by omega) hb
    exact ⟨v', w', h1, by rw [ints_append]; exact h2, h3, h5⟩

theorem wpList_append_irow {ops : Array Oper} {rest : List Oper} {o : Oper} {a : Act} {w : World} {Q : Exit → Act → World → Prop} (hgd : Region.wanted o (yielded ops a.tmps) = true) (s x : Operand)
    (ho : o.op = .call { callee := .builtin .append, args := #[s, x], argTypes := #[28, 28] })
    (base n : Nat) (xs ys : List Int) (v u : Value) (hs : a.eval s = v) (hx : a.eval x = u) (hown : w.ownsRow base 3 1 v n (ints xs)) (hr : IRow w u ys) (hn : n + ys.length ≤ 1000000000) (hb : base ≤ w.heap.size)
    (h : ∀ v' w', w'.ownsRow base 3 1 v' (n + ys.length) (ints (xs ++ ys)) → w.grownBy w' v.ownBlock → (v'.ownBlock = v.ownBlock ∨ v'.ownBlock = some w.heap.size) → wpList Try.prog ops Q rest (a.put o.dst v') w') :
    wpList Try.prog ops Q (o :: rest) a w := by
  refine BigFrame.wpList_want hgd fun K hK => ?_
  obtain ⟨v', w', h1, h2, h3, h4⟩ := run_append_irow w base o.type v u n xs ys hown hr hn hb
  unfold Oper.wp execOp
  simp only [ho, resolve, invoke, builtin, Sem.run_bind, Sem.run_pure, Result.andThen_ok, List.map_toArray, List.map_cons, List.map_nil, hs, hx, h1]
  exact hK _ _ (h v' w' h2 h3 h4)

/-- Behind an append onto what is new since w0, nothing of w0 has turned. -/
theorem Fr.of_own {w0 w w' : World} {base : Nat} {e : TypeId} {size n : Nat} {v : Value} {xs : List Value} (hs : Still w0 w) (hown : w.ownsRow base e size v n xs) (hg : w.grownBy w' v.ownBlock) (hb : w0.heap.size ≤ base) : Still w0 w' :=
  hs.then (Fr.of_grownBy hg (F := fun k => base ≤ k) (fun j ej _ => by
      rcases hown.2 with ⟨rfl, _⟩ | ⟨g, cap, cur, rfl, hb, _, _⟩
      · simp [Value.ownBlock] at ej
      · obtain rfl : g = j := by simpa [Value.ownBlock] using ej
        exact hb)) (fun i hi hf => by omega)
theorem owns_new (w : World) (T : TypeId) : (w.alloc (.cells #[] T)).ownsRow w.heap.size T 1 (.slice (some ⟨w.heap.size, 0, none⟩) 0 0) 0 [] :=
  ⟨rfl, .inr ⟨_, 0, #[], rfl, Nat.le_refl _, heap_at _ _ _ rfl, Nat.le_refl _, by unfold maxLen; omega, rfl, rfl⟩⟩
theorem IRow.own {w : World} {base n : Nat} {v : Value} {xs : List Int} (h : w.ownsRow base 3 1 v n (ints xs)) (hn : n = xs.length) : IRow w v xs := IRow.of_owns h hn
theorem IRow.fr {w w' : World} {v : Value} {xs : List Int} (h : IRow w v xs) {F : Nat → Prop} (hf : Fr F w w') (hd : ∀ b off c n, v = .slice (some ⟨b, off, none⟩) n c → ¬ F b) : IRow w' v xs := by
  rcases h with h | ⟨h0, b, off, c, hv, hc⟩
  · exact .inl h
  · refine .inr ⟨h0, b, off, c, hv, fun i hi => ?_⟩
    have hl := World.block_lt_of_cell? _ _ (hc i hi)
    exact (World.cell?_of_block (hf.block b hl (hd b off c _ hv))).trans (hc i hi)
theorem IRow.below {w : World} {v : Value} {xs : List Int} (h : IRow w v xs) (h0 : 0 < xs.length) {b off c n : Nat} (hv : v = .slice (some ⟨b, off, none⟩) n c) : b < w.heap.size := by
  rcases h with ⟨h, _⟩ | ⟨_, b', off', c', hv', hc⟩
  · subst h; simp at h0
  · rw [hv] at hv'
    injection hv' with e1 e2 e3
    injection e1 with e1
    injection e1 with e1 e4
    have := World.block_lt_of_cell? _ _ (hc 0 h0)
    rw [e1]; exact this
theorem Still.cell {w w' : World} (hs : Still w w') {a : Addr} {v : Value} (h : w.cell? a = some v) : w'.cell? a = some v := ((hs.below (Nat.le_refl _) (fun _ h => h.elim)).cell (World.block_lt_of_cell? _ _ h)).trans h
end Go.Proofs.Ytffjaaolcphonaa
/- append(v, s...) in a region that draws its order. -/
namespace Go.Proofs.Ytffjaaolcphonaa
open Go.RowKit
theorem step_append_irow {ops : Array Oper} {o : Oper} {a : Act} {w : World} {K : Act → World → Prop} {Q : Exit → Act → World → Prop} {E : Prop} (hgd : Region.wanted o (yielded ops a.tmps) = true) (s x : Operand)
    (ho : o.op = .call { callee := .builtin .append, args := #[s, x], argTypes := #[28, 28] })
    (base n : Nat) (xs ys : List Int) (v u : Value) (hs : a.eval s = v) (hx : a.eval x = u) (hown : w.ownsRow base 3 1 v n (ints xs)) (hr : IRow w u ys) (hn : n + ys.length ≤ 1000000000) (hb : base ≤ w.heap.size)
    (h : ∀ v' w', w'.ownsRow base 3 1 v' (n + ys.length) (ints (xs ++ ys)) → w.grownBy w' v.ownBlock → (v'.ownBlock = v.ownBlock ∨ v'.ownBlock = some w.heap.size) → K (a.put o.dst v') w') :
    if Region.wanted o (yielded ops a.tmps) = true then Oper.wp Try.prog o a w K Q else E := by
  rw [if_pos hgd]
  obtain ⟨v', w', h1, h2, h3, h4⟩ := run_append_irow w base o.type v u n xs ys hown hr hn hb
  unfold Oper.wp execOp
  simp only [ho, resolve, invoke, builtin, Sem.run_bind, Sem.run_pure, Result.andThen_ok, List.map_toArray, List.map_cons, List.map_nil, hs, hx, h1]
  exact h v' w' h2 h3 h4
end Go.Proofs.Ytffjaaolcphonaa
