/- The world's blocks, plainly: what a block holds, and what of the world stays as it was. -/
import Derived.WalkKit
import Derived.BigRegion
import Derived.BigQuiet
import Derived.ChangeAlike
import Derived.Test.YtffjaaolcphonaaProg
namespace Go.Proofs.Ytffjaaolcphonaa
open Go.RowKit

theorem hid {p : Prop} (h : p) : Hid p := h

/-- What lies outside F of the old blocks lies as it lay; the streams are as they were. -/
structure Fr (F : Nat → Prop) (w w' : World) : Prop where
  os : w'.os = w.os
  tape : w'.tape = w.tape
  output : w'.output = w.output
  size : w.heap.size ≤ w'.heap.size
  block : ∀ k, k < w.heap.size → ¬ F k → w'.heap[k]? = w.heap[k]?

theorem Fr.refl (F : Nat → Prop) (w : World) : Fr F w w := ⟨rfl, rfl, rfl, Nat.le_refl _, fun _ _ _ => rfl⟩
theorem Fr.trans {F : Nat → Prop} {a b c : World} (h : Fr F a b) (k : Fr F b c) : Fr F a c :=
  ⟨k.os.trans h.os, k.tape.trans h.tape, k.output.trans h.output, Nat.le_trans h.size k.size, fun i hi hf => (k.block i (Nat.lt_of_lt_of_le hi h.size) hf).trans (h.block i hi hf)⟩
theorem Fr.mono {F G : Nat → Prop} {w w' : World} (h : Fr F w w') (hg : ∀ k, k < w.heap.size → F k → G k) : Fr G w w' :=
  ⟨h.os, h.tape, h.output, h.size, fun k hk hn => h.block k hk fun hf => hn (hg k hk hf)⟩
/-- A second step that may turn besides what is new since the first world. -/
theorem Fr.then {F G : Nat → Prop} {a b c : World} (h : Fr F a b) (k : Fr G b c) (hg : ∀ i, i < a.heap.size → G i → F i) : Fr F a c :=
  ⟨k.os.trans h.os, k.tape.trans h.tape, k.output.trans h.output, Nat.le_trans h.size k.size, fun i hi hf => (k.block i (Nat.lt_of_lt_of_le hi h.size) fun hgi => hf (hg i hi hgi)).trans (h.block i hi hf)⟩
theorem Fr.drew {F : Nat → Prop} {a w : World} (h : Fr F a w) : Fr F a w.drew := ⟨h.os, h.tape, h.output, h.size, h.block⟩
theorem Fr.drewN {F : Nat → Prop} {a w : World} (h : Fr F a w) (n : Nat) : Fr F a (w.drewN n) := ⟨h.os, h.tape, h.output, h.size, h.block⟩
theorem Fr.alloc {F : Nat → Prop} {a w : World} (h : Fr F a w) (o : Obj) : Fr F a (w.alloc o) :=
  h.trans ⟨rfl, rfl, rfl, by simp, fun k hk _ => Below.heap_alloc _ _ _ hk⟩
theorem Fr.setCell {F : Nat → Prop} {a w : World} (h : Fr F a w) {p : Addr} (hp : F p.block ∨ a.heap.size ≤ p.block) (u : Value) : Fr F a (w.setCell p u) :=
  ⟨h.os, h.tape, h.output, by simpa using h.size, fun k hk hn => by
    refine (Below.heap_setCell w p u k fun e => ?_).trans (h.block k hk hn)
    subst e; rcases hp with hp | hp
    · exact hn hp
    · omega⟩
theorem Fr.of_below {w w' : World} {B : Nat} (h : Below B w w') : Fr (fun k => B ≤ k) w w' :=
  ⟨h.os, h.tape, h.output, h.size, fun k _ hn => h.block k (by omega)⟩
theorem Fr.of_below0 {w w' : World} (h : Below w.heap.size w w') (F : Nat → Prop) : Fr F w w' :=
  ⟨h.os, h.tape, h.output, h.size, fun k hk _ => h.block k hk⟩
theorem Fr.below {F : Nat → Prop} {w w' : World} (h : Fr F w w') {B : Nat} (hB : B ≤ w.heap.size) (hF : ∀ k, F k → B ≤ k) : Below B w w' :=
  ⟨h.os, h.tape, h.output, h.size, fun k hk => h.block k (by omega) fun hf => by have := hF k hf; omega⟩
theorem Fr.of_grownBy {w w' : World} {row : Option Nat} (hg : w.grownBy w' row) {F : Nat → Prop} (hr : ∀ k, row = some k → k < w.heap.size → F k) : Fr F w w' :=
  ⟨hg.os, hg.tape, hg.output, hg.size, fun k hk hn => hg.block k hk fun e => hn (hr k e.symm hk)⟩

/-- Nothing old has turned. -/
def Still (w w' : World) : Prop := Fr (fun _ => False) w w'
theorem Still.refl (w : World) : Still w w := Fr.refl _ _
theorem Still.trans {a b c : World} (h : Still a b) (k : Still b c) : Still a c := Fr.trans h k
theorem Still.fr {w w' : World} (h : Still w w') (F : Nat → Prop) : Fr F w w' := Fr.mono h fun _ _ h => h.elim

/-- Block b holds the cells A, of element type T, none of them frozen. -/
def Blk (w : World) (b : Nat) (A : List Value) (T : TypeId) : Prop := w.heap[b]? = some (.cells A.toArray T (0, 0))

theorem Blk.lt {w : World} {b : Nat} {A : List Value} {T : TypeId} (h : Blk w b A T) : b < w.heap.size := (Array.getElem?_eq_some_iff.1 h).1
theorem Blk.cell {w : World} {b : Nat} {A : List Value} {T : TypeId} (h : Blk w b A T) (i : Nat) : w.cell? ⟨b, i, none⟩ = A[i]? := by
  unfold Blk at h; simp [World.cell?, h]
theorem Blk.frozen {w : World} {b : Nat} {A : List Value} {T : TypeId} (h : Blk w b A T) (i : Nat) : w.frozen? ⟨b, i, none⟩ = false := by
  unfold Blk at h; simp [World.frozen?, h]
theorem Blk.drew {w : World} {b : Nat} {A : List Value} {T : TypeId} (h : Blk w b A T) : Blk w.drew b A T := h
theorem Blk.drewN {w : World} {b : Nat} {A : List Value} {T : TypeId} (h : Blk w b A T) (n : Nat) : Blk (w.drewN n) b A T := h
theorem Blk.alloc {w : World} {b : Nat} {A : List Value} {T : TypeId} (h : Blk w b A T) (o : Obj) : Blk (w.alloc o) b A T := (Below.heap_alloc w o b h.lt).trans h
theorem Blk.new (w : World) (A : List Value) (T : TypeId) : Blk (w.alloc (.cells A.toArray T)) w.heap.size A T := by
  unfold Blk; show (w.heap.push _)[w.heap.size]? = _; simp
theorem Blk.put {w : World} {b : Nat} {A : List Value} {T : TypeId} (h : Blk w b A T) (i : Nat) (v : Value) : Blk (w.setCell ⟨b, i, none⟩ v) b (A.set i v) T := by
  unfold Blk at *
  obtain ⟨hlt, _⟩ := Array.getElem?_eq_some_iff.1 h
  show (w.heap.modify b _)[b]? = _
  rw [Array.getElem?_modify, if_pos rfl, h]; simp
theorem Blk.other {w : World} {b : Nat} {A : List Value} {T : TypeId} (h : Blk w b A T) {p : Addr} (hne : b ≠ p.block) (v : Value) : Blk (w.setCell p v) b A T :=
  (Below.heap_setCell w p v b hne).trans h
theorem Blk.fr {w w' : World} {b : Nat} {A : List Value} {T : TypeId} (h : Blk w b A T) {F : Nat → Prop} (hf : Fr F w w') (hn : ¬ F b) : Blk w' b A T := (hf.block b h.lt hn).trans h
theorem Blk.still {w w' : World} {b : Nat} {A : List Value} {T : TypeId} (h : Blk w b A T) (hf : Still w w') : Blk w' b A T := h.fr hf (fun h => h)
theorem Blk.below {w w' : World} {b B : Nat} {A : List Value} {T : TypeId} (h : Blk w b A T) (hf : Below B w w') (hn : b < B) : Blk w' b A T := (hf.block b hn).trans h
theorem Blk.grown {w w' : World} {b : Nat} {A : List Value} {T : TypeId} (h : Blk w b A T) {row : Option Nat} (hg : w.grownBy w' row) (hn : row ≠ some b) : Blk w' b A T := (hg.block b h.lt fun e => hn e.symm).trans h
theorem Blk.unique {w : World} {b : Nat} {A A' : List Value} {T T' : TypeId} (h : Blk w b A T) (h' : Blk w b A' T') : A = A' ∧ T = T' := by
  unfold Blk at *; rw [h] at h'; simp at h'; exact h'

/-- Block b begins with whole numbers (int). -/
def IBlk (w : World) (b : Nat) (xs : List Int) : Prop := ∃ sp, Blk w b (xs.map (Value.int .i64) ++ sp) 3
theorem IBlk.lt {w : World} {b : Nat} {xs : List Int} (h : IBlk w b xs) : b < w.heap.size := by obtain ⟨_, h⟩ := h; exact h.lt
theorem IBlk.cell {w : World} {b : Nat} {xs : List Int} (h : IBlk w b xs) {i : Nat} (hi : i < xs.length) : w.cell? ⟨b, i, none⟩ = some (.int .i64 (xs.getD i 0)) := by
  obtain ⟨_, h⟩ := h
  rw [Blk.cell h, List.getElem?_append_left (by simpa using hi)]; simp [hi]
theorem IBlk.frozen {w : World} {b : Nat} {xs : List Int} (h : IBlk w b xs) (i : Nat) : w.frozen? ⟨b, i, none⟩ = false := by
  obtain ⟨_, h⟩ := h
  exact h.frozen i
theorem IBlk.put {w : World} {b : Nat} {xs : List Int} (h : IBlk w b xs) (i : Nat) (v : Int) : IBlk (w.setCell ⟨b, i, none⟩ (.int .i64 v)) b (xs.set i v) := by
  obtain ⟨sp, h⟩ := h
  have := Blk.put h i (.int .i64 v)
  rw [List.set_append] at this
  by_cases hi : i < (xs.map (Value.int .i64)).length
  · rw [if_pos hi] at this
    exact ⟨sp, by rw [List.map_set]; exact this⟩
  · rw [if_neg hi] at this
    refine ⟨sp.set (i - (xs.map (Value.int .i64)).length) (.int .i64 v), ?_⟩
    rw [List.set_eq_of_length_le (by simpa using hi)]
    exact this
theorem IBlk.alloc {w : World} {b : Nat} {xs : List Int} (h : IBlk w b xs) (o : Obj) : IBlk (w.alloc o) b xs := by obtain ⟨sp, h⟩ := h; exact ⟨sp, h.alloc o⟩
theorem IBlk.other {w : World} {b : Nat} {xs : List Int} (h : IBlk w b xs) {p : Addr} (hne : b ≠ p.block) (v : Value) : IBlk (w.setCell p v) b xs := by obtain ⟨sp, h⟩ := h; exact ⟨sp, h.other hne v⟩
theorem IBlk.fr {w w' : World} {b : Nat} {xs : List Int} (h : IBlk w b xs) {F : Nat → Prop} (hf : Fr F w w') (hn : ¬ F b) : IBlk w' b xs := by obtain ⟨sp, h⟩ := h; exact ⟨sp, h.fr hf hn⟩
theorem IBlk.still {w w' : World} {b : Nat} {xs : List Int} (h : IBlk w b xs) (hf : Still w w') : IBlk w' b xs := h.fr hf (fun h => h)
theorem IBlk.grown {w w' : World} {b : Nat} {xs : List Int} (h : IBlk w b xs) {row : Option Nat} (hg : w.grownBy w' row) (hn : row ≠ some b) : IBlk w' b xs := by obtain ⟨sp, h⟩ := h; exact ⟨sp, h.grown hg hn⟩
/-- A row that the call owns begins with its numbers. -/
theorem IBlk.of_owns {w : World} {base : Nat} {v : Value} {xs : List Int} {n : Nat} (h : w.ownsRow base 3 1 v n (xs.map (Value.int .i64))) (hne : 0 < n) :
    ∃ g cap, v = .slice (some ⟨g, 0, none⟩) n cap ∧ base ≤ g ∧ n ≤ cap ∧ IBlk w g xs := by
  obtain ⟨h1, ⟨_, h2⟩ | ⟨g, cap, cur, hv, hg, hh, hc, _, hs, ht⟩⟩ := h
  · omega
  · refine ⟨g, cap, hv, hg, hc, cur.toList.drop (n * 1), ?_⟩
    unfold Blk
    rw [← ht, List.take_append_drop]
    simpa using hh
end Go.Proofs.Ytffjaaolcphonaa
/- The links' five blocks in the world, and what the two writing steps make of them. -/
namespace Go.Proofs.Ytffjaaolcphonaa
open Go.RowKit

structure LB where
  p : Nat
  n : Nat
  b : Nat
  l : Nat
  c : Nat
  kn : Nat
  kb : Nat
  kl : Nat
  kc : Nat
def LB.foot (B : LB) (k : Nat) : Prop := k = B.p ∨ k = B.n ∨ k = B.b ∨ k = B.l ∨ k = B.c
structure Raw where
  things : Nat
  next : List Int
  back : List Int
  list : List Int
  count : List Int
def sl (b n k : Nat) : Value := .slice (some ⟨b, 0, none⟩) n k
/-- The five blocks lie there. -/
structure RawAt (w : World) (B : LB) (r : Raw) : Prop where
  pn : B.p ≠ B.n
  pb : B.p ≠ B.b
  pl : B.p ≠ B.l
  pc : B.p ≠ B.c
  nb : B.n ≠ B.b
  nl : B.n ≠ B.l
  nc : B.n ≠ B.c
  bl : B.b ≠ B.l
  bc : B.b ≠ B.c
  lc : B.l ≠ B.c
  hp : Blk w B.p [.int .i64 r.things, sl B.n r.next.length B.kn, sl B.b r.next.length B.kb, sl B.l r.things B.kl, sl B.c r.count.length B.kc] 63
  hn : IBlk w B.n r.next
  hb : IBlk w B.b r.back
  hl : IBlk w B.l r.list
  hc : IBlk w B.c r.count
  lnext : r.next.length = r.things + r.count.length
  lback : r.back.length = r.things + r.count.length
  llist : r.list.length = r.things
  t0 : 1 ≤ r.things
  t1 : r.things ≤ 4096
  m0 : 1 ≤ r.count.length
  m1 : r.count.length ≤ 4096

theorem wp_abs {P : Program} {c : Code} {Q : Exit → Act → World → Prop} {a : Act} {w : World} (R : World → Prop) (h : R w) (hk : ∀ w', R w' → c.wp P Q a w') : c.wp P Q a w := hk w h
theorem RawAt.drew {w : World} {B : LB} {r : Raw} (h : RawAt w B r) : RawAt w.drew B r := { h with }
theorem RawAt.fr {w w' : World} {B : LB} {r : Raw} (h : RawAt w B r) {F : Nat → Prop} (hf : Fr F w w') (hd : ∀ k, B.foot k → ¬ F k) : RawAt w' B r :=
  { h with hp := h.hp.fr hf (hd _ (by simp [LB.foot])), hn := IBlk.fr h.hn hf (hd _ (by simp [LB.foot])), hb := IBlk.fr h.hb hf (hd _ (by simp [LB.foot])),
           hl := IBlk.fr h.hl hf (hd _ (by simp [LB.foot])), hc := IBlk.fr h.hc hf (hd _ (by simp [LB.foot])) }
theorem RawAt.still {w w' : World} {B : LB} {r : Raw} (h : RawAt w B r) (hf : Still w w') : RawAt w' B r := h.fr hf fun _ _ h => h
theorem RawAt.setN {w : World} {B : LB} {r : Raw} (h : RawAt w B r) (i : Nat) (v : Int) : RawAt (w.setCell ⟨B.n, i, none⟩ (.int .i64 v)) B { r with next := r.next.set i v } :=
  { h with hp := by simpa using h.hp.other (p := ⟨B.n, i, none⟩) h.pn _, hn := h.hn.put i v, hb := IBlk.other h.hb (p := ⟨B.n, i, none⟩) h.nb.symm _, hl := IBlk.other h.hl (p := ⟨B.n, i, none⟩) h.nl.symm _,
           hc := IBlk.other h.hc (p := ⟨B.n, i, none⟩) h.nc.symm _, lnext := by simpa using h.lnext }
theorem RawAt.setB {w : World} {B : LB} {r : Raw} (h : RawAt w B r) (i : Nat) (v : Int) : RawAt (w.setCell ⟨B.b, i, none⟩ (.int .i64 v)) B { r with back := r.back.set i v } :=
  { h with hp := by simpa using h.hp.other (p := ⟨B.b, i, none⟩) h.pb _, hb := h.hb.put i v, hn := IBlk.other h.hn (p := ⟨B.b, i, none⟩) h.nb _, hl := IBlk.other h.hl (p := ⟨B.b, i, none⟩) h.bl.symm _,
           hc := IBlk.other h.hc (p := ⟨B.b, i, none⟩) h.bc.symm _, lback := by simpa using h.lback }
theorem RawAt.setL {w : World} {B : LB} {r : Raw} (h : RawAt w B r) (i : Nat) (v : Int) : RawAt (w.setCell ⟨B.l, i, none⟩ (.int .i64 v)) B { r with list := r.list.set i v } :=
  { h with hp := by simpa using h.hp.other (p := ⟨B.l, i, none⟩) h.pl _, hl := h.hl.put i v, hn := IBlk.other h.hn (p := ⟨B.l, i, none⟩) h.nl _, hb := IBlk.other h.hb (p := ⟨B.l, i, none⟩) h.bl _,
           hc := IBlk.other h.hc (p := ⟨B.l, i, none⟩) h.lc.symm _, llist := by simpa using h.llist }
theorem RawAt.setC {w : World} {B : LB} {r : Raw} (h : RawAt w B r) (i : Nat) (v : Int) : RawAt (w.setCell ⟨B.c, i, none⟩ (.int .i64 v)) B { r with count := r.count.set i v } :=
  { h with hp := by simpa using h.hp.other (p := ⟨B.c, i, none⟩) h.pc _, hc := h.hc.put i v, hn := IBlk.other h.hn (p := ⟨B.c, i, none⟩) h.nc _, hb := IBlk.other h.hb (p := ⟨B.c, i, none⟩) h.bc _,
           hl := IBlk.other h.hl (p := ⟨B.c, i, none⟩) h.lc _, lnext := by simpa using h.lnext, lback := by simpa using h.lback, m0 := by simpa using h.m0, m1 := by simpa using h.m1 }
theorem RawAt.f0 {w : World} {B : LB} {r : Raw} (h : RawAt w B r) : w.cell? ⟨B.p, 0, none⟩ = some (.int .i64 r.things) := by rw [h.hp.cell]; rfl
theorem RawAt.f1 {w : World} {B : LB} {r : Raw} (h : RawAt w B r) : w.cell? ⟨B.p, 1, none⟩ = some (.slice (some ⟨B.n, 0, none⟩) r.next.length B.kn) := by rw [h.hp.cell]; rfl
theorem RawAt.f2 {w : World} {B : LB} {r : Raw} (h : RawAt w B r) : w.cell? ⟨B.p, 2, none⟩ = some (.slice (some ⟨B.b, 0, none⟩) r.next.length B.kb) := by rw [h.hp.cell]; rfl
theorem RawAt.f3 {w : World} {B : LB} {r : Raw} (h : RawAt w B r) : w.cell? ⟨B.p, 3, none⟩ = some (.slice (some ⟨B.l, 0, none⟩) r.things B.kl) := by rw [h.hp.cell]; rfl
theorem RawAt.f4 {w : World} {B : LB} {r : Raw} (h : RawAt w B r) : w.cell? ⟨B.p, 4, none⟩ = some (.slice (some ⟨B.c, 0, none⟩) r.count.length B.kc) := by rw [h.hp.cell]; rfl
theorem RawAt.zn {w : World} {B : LB} {r : Raw} (h : RawAt w B r) (i : Nat) : w.frozen? ⟨B.n, i, none⟩ = false := IBlk.frozen h.hn i
theorem RawAt.zb {w : World} {B : LB} {r : Raw} (h : RawAt w B r) (i : Nat) : w.frozen? ⟨B.b, i, none⟩ = false := IBlk.frozen h.hb i
theorem RawAt.zl {w : World} {B : LB} {r : Raw} (h : RawAt w B r) (i : Nat) : w.frozen? ⟨B.l, i, none⟩ = false := IBlk.frozen h.hl i
theorem RawAt.zc {w : World} {B : LB} {r : Raw} (h : RawAt w B r) (i : Nat) : w.frozen? ⟨B.c, i, none⟩ = false := IBlk.frozen h.hc i

set_option maxHeartbeats 400000 in
theorem in_any (w : World) (B : LB) (r : Raw) (h : RawAt w B r) (list thing place after c : Nat) (hl : list < r.count.length) (ht : thing < r.things) (hp : place < r.next.length)
    (ha : r.next.getD place 0 = (after : Int)) (ha' : after < r.next.length) (hc : r.count.getD list 0 = (c : Int)) (hc' : c ≤ 4096) :
    Calls Try.prog 76 #[.pointer (some ⟨B.p, 0, none⟩), .int .i64 list, .int .i64 thing, .int .i64 place] w fun e w' => e = .returned (.tuple #[]) ∧
      RawAt w' B { r with next := (r.next.set place thing).set thing after, back := (r.back.set thing place).set after thing, list := r.list.set thing list, count := r.count.set list ((c : Int) + 1) } ∧ Fr B.foot w w' := by
  obtain ⟨ln, lb, ll, t1, m1⟩ : r.next.length = r.things + r.count.length ∧ r.back.length = r.things + r.count.length ∧ r.list.length = r.things ∧ r.things ≤ 4096 ∧ r.count.length ≤ 4096 := ⟨h.lnext, h.lback, h.llist, h.t1, h.m1⟩
  have hn1 : (place : Int) < (r.next.length : Int) := by omega
  have hn2 : (thing : Int) < (r.next.length : Int) := by omega
  have hn3 : (after : Int) < (r.next.length : Int) := by omega
  have hn4 : (thing : Int) < (r.things : Int) := by omega
  have hn5 : (list : Int) < (r.count.length : Int) := by omega
  have hn6 : r.next.length ≤ 8192 := by omega
  have hn7 : after < r.back.length := by omega
  have F1 := h.f1
  have F2 := h.f2
  have C1 : w.cell? ⟨B.n, place, none⟩ = some (.int .i64 after) := by rw [h.hn.cell hp, ha]
  have C2 : w.cell? ⟨B.b, thing, none⟩ = some (.int .i64 (r.back.getD thing 0)) := h.hb.cell (by omega)
  have Z1 := h.zn place
  have Z2 := h.zb thing
  have d1 := h.nb
  have hn8 : thing < r.list.length := by omega
  have HA := hid ha
  have HC := hid hc
  clear ln lb ll ha hc
  go_enter Try.func76, Try.ntmps76
  go_wp2
  go_region
  go_wp2
  refine wp_abs (fun w1 => RawAt w1 B { r with next := r.next.set place thing, back := r.back.set thing place } ∧ Fr B.foot w w1) ⟨((h.setN place thing).setB thing place).drew, (((Fr.refl _ _).setCell (.inl (by simp [LB.foot])) _).setCell (.inl (by simp [LB.foot])) _).drew⟩ ?_
  clear F1 F2 C1 C2 Z1 Z2
  rintro w1 ⟨h1, f1⟩
  have F1 := h1.f1
  have F2 := h1.f2
  have F3 := h1.f3
  have F4 := h1.f4
  simp only [List.length_set] at F1 F2 F3 F4
  have C1 : w1.cell? ⟨B.n, thing, none⟩ = some (.int .i64 ((r.next.set place thing).getD thing 0)) := h1.hn.cell (by simp; omega)
  have C2 : w1.cell? ⟨B.b, after, none⟩ = some (.int .i64 ((r.back.set thing place).getD after 0)) := h1.hb.cell (by simp; omega)
  have C3 : w1.cell? ⟨B.l, thing, none⟩ = some (.int .i64 (r.list.getD thing 0)) := h1.hl.cell hn8
  have C4 : w1.cell? ⟨B.c, list, none⟩ = some (.int .i64 c) := by rw [h1.hc.cell hl, HC.out]
  have Z1 := h1.zn thing
  have Z2 := h1.zb after
  have Z3 := h1.zl thing
  have Z4 := h1.zc list
  have d2 := h1.pn
  have d3 := h1.pb
  have d4 := h1.pl
  have d5 := h1.pc
  have d6 := h1.nl
  have d7 := h1.nc
  have d8 := h1.bl
  have d9 := h1.bc
  have d10 := h1.lc
  go_region
  go_wp2
  go_end0
  refine ⟨rfl, ?_, ?_⟩
  · exact ((((h1.setN thing after).setB after thing).setL thing list).setC list (c + 1)).drew
  · exact (((((f1.setCell (.inl (by simp [LB.foot])) _).setCell (.inl (by simp [LB.foot])) _).setCell (.inl (by simp [LB.foot])) _).setCell (.inl (by simp [LB.foot])) _)).drew
end Go.Proofs.Ytffjaaolcphonaa
/- The links' small reading functions. -/
namespace Go.Proofs.Ytffjaaolcphonaa
open Go.RowKit

theorem made_yes (w : World) (B : LB) (r : Raw) (h : RawAt w B r) : Calls Try.prog 83 #[.pointer (some ⟨B.p, 0, none⟩)] w fun e w' => e = .returned (.bool true) ∧ w = w' := by
  have F0 := h.f0
  have t0 : (0 : Int) < (r.things : Int) := by have := h.t0; omega
  go_enter Try.func83, Try.ntmps83
  go_wp2
  all_goals go_ret
  all_goals exact ⟨by simp; omega, rfl⟩
theorem end_any (w : World) (B : LB) (r : Raw) (h : RawAt w B r) (i : Int) (h0 : 0 ≤ i) (h1 : i ≤ 4096) : Calls Try.prog 77 #[.pointer (some ⟨B.p, 0, none⟩), .int .i64 i] w fun e w' => e = .returned (.int .i64 ((r.things : Int) + i)) ∧ w = w' := by
  have F0 := h.f0
  have t1 : (r.things : Int) ≤ 4096 := by have := h.t1; omega
  go_enter Try.func77, Try.ntmps77
  go_wp2
  go_ret
  exact ⟨rfl, rfl⟩
theorem isList_yes (w : World) (B : LB) (r : Raw) (h : RawAt w B r) (i : Int) (h0 : 0 ≤ i) (h1 : i < (r.count.length : Int)) : Calls Try.prog 81 #[.pointer (some ⟨B.p, 0, none⟩), .int .i64 i] w fun e w' => e = .returned (.bool true) ∧ w = w' := by
  have F4 := h.f4
  go_enter Try.func81, Try.ntmps81
  go_wp2
  go_ret
  exact ⟨by simp, rfl⟩
theorem isList_no (w : World) (B : LB) (r : Raw) (h : RawAt w B r) (i : Int) (h0 : i < 0 ∨ (r.count.length : Int) ≤ i) : Calls Try.prog 81 #[.pointer (some ⟨B.p, 0, none⟩), .int .i64 i] w fun e w' => e = .returned (.bool false) ∧ w = w' := by
  have F4 := h.f4
  rcases h0 with h0 | h0
  all_goals
    go_enter Try.func81, Try.ntmps81
    go_wp2
    all_goals go_ret
    all_goals exact ⟨by simp; try omega, rfl⟩
theorem isThing_yes (w : World) (B : LB) (r : Raw) (h : RawAt w B r) (i : Int) (h0 : 0 ≤ i) (h1 : i < (r.things : Int)) : Calls Try.prog 89 #[.pointer (some ⟨B.p, 0, none⟩), .int .i64 i] w fun e w' => e = .returned (.bool true) ∧ w = w' := by
  have F0 := h.f0
  go_enter Try.func89, Try.ntmps89
  go_wp2
  go_ret
  exact ⟨by simp, rfl⟩
theorem isThing_no (w : World) (B : LB) (r : Raw) (h : RawAt w B r) (i : Int) (h0 : i < 0 ∨ (r.things : Int) ≤ i) : Calls Try.prog 89 #[.pointer (some ⟨B.p, 0, none⟩), .int .i64 i] w fun e w' => e = .returned (.bool false) ∧ w = w' := by
  have F0 := h.f0
  rcases h0 with h0 | h0
  all_goals
    go_enter Try.func89, Try.ntmps89
    go_wp2
    all_goals go_ret
    all_goals exact ⟨by simp; try omega, rfl⟩
theorem where_yes (w : World) (B : LB) (r : Raw) (h : RawAt w B r) (t : Nat) (h1 : t < r.things) : Calls Try.prog 29 #[.pointer (some ⟨B.p, 0, none⟩), .int .i64 t] w fun e w' => e = .returned (.int .i64 (r.list.getD t 0)) ∧ w = w' := by
  have F3 := h.f3
  have t1 := h.t1
  have hi : (t : Int) < (r.things : Int) := by omega
  obtain ⟨c, hc⟩ : ∃ c, c = r.list.getD t 0 := ⟨_, rfl⟩
  have C : w.cell? ⟨B.l, t, none⟩ = some (.int .i64 c) := hc ▸ h.hl.cell (by rw [h.llist]; omega)
  rw [← hc]; clear hc
  go_enter Try.func29, Try.ntmps29
  go_wp2_with (first | (go_at_call 83; refine (made_yes _ B r h).mono ?_; rintro e w' ⟨rfl, rfl⟩) | (go_at_call 89; refine (isThing_yes _ B r h _ (by omega) (by omega)).mono ?_; rintro e w' ⟨rfl, rfl⟩))
  go_ret
  exact ⟨rfl, rfl⟩
theorem where_no (w : World) (B : LB) (r : Raw) (h : RawAt w B r) (t : Int) (h1 : t < 0 ∨ (r.things : Int) ≤ t) : Calls Try.prog 29 #[.pointer (some ⟨B.p, 0, none⟩), .int .i64 t] w fun e w' => e = .returned (.int .i64 (-1)) ∧ w = w' := by
  go_enter Try.func29, Try.ntmps29
  go_wp2_with (first | (go_at_call 83; refine (made_yes _ B r h).mono ?_; rintro e w' ⟨rfl, rfl⟩) | (go_at_call 89; refine (isThing_no _ B r h _ h1).mono ?_; rintro e w' ⟨rfl, rfl⟩))
  go_ret
  exact ⟨rfl, rfl⟩
theorem len_yes (w : World) (B : LB) (r : Raw) (h : RawAt w B r) (t : Nat) (h1 : t < r.count.length) : Calls Try.prog 25 #[.pointer (some ⟨B.p, 0, none⟩), .int .i64 t] w fun e w' => e = .returned (.int .i64 (r.count.getD t 0)) ∧ w = w' := by
  have F3 := h.f4
  have t1 := h.m1
  have hi : (t : Int) < (r.count.length : Int) := by omega
  obtain ⟨c, hc⟩ : ∃ c, c = r.count.getD t 0 := ⟨_, rfl⟩
  have C : w.cell? ⟨B.c, t, none⟩ = some (.int .i64 c) := hc ▸ h.hc.cell (by omega)
  rw [← hc]; clear hc
  go_enter Try.func25, Try.ntmps25
  go_wp2_with (first | (go_at_call 83; refine (made_yes _ B r h).mono ?_; rintro e w' ⟨rfl, rfl⟩) | (go_at_call 81; refine (isList_yes _ B r h _ (by omega) (by omega)).mono ?_; rintro e w' ⟨rfl, rfl⟩))
  go_ret
  exact ⟨rfl, rfl⟩
theorem len_no (w : World) (B : LB) (r : Raw) (h : RawAt w B r) (t : Int) (h1 : t < 0 ∨ (r.count.length : Int) ≤ t) : Calls Try.prog 25 #[.pointer (some ⟨B.p, 0, none⟩), .int .i64 t] w fun e w' => e = .returned (.int .i64 0) ∧ w = w' := by
  go_enter Try.func25, Try.ntmps25
  go_wp2_with (first | (go_at_call 83; refine (made_yes _ B r h).mono ?_; rintro e w' ⟨rfl, rfl⟩) | (go_at_call 81; refine (isList_no _ B r h _ h1).mono ?_; rintro e w' ⟨rfl, rfl⟩))
  go_ret
  exact ⟨rfl, rfl⟩
end Go.Proofs.Ytffjaaolcphonaa
/- The links' 'first': the first of some closures that holds tells its error. -/
namespace Go.Proofs.Ytffjaaolcphonaa
open Go.RowKit

def firstE : List (Bool × Int) → Int
  | [] => 0
  | (true, e) :: _ => e
  | (false, _) :: rest => firstE rest
theorem firstE_skip (res : List (Bool × Int)) (k : Nat) (h : ∀ i, i < k → (res.getD i (false, 0)).1 = false) : firstE res = firstE (res.drop k) := by
  induction k generalizing res with
  | zero => rfl
  | succ k ih =>
    match res with
    | [] => simp
    | (b, e) :: rest =>
      have h0 := h 0 (by omega)
      simp at h0; subst h0
      simp only [firstE, List.drop_succ_cons]
      exact ih rest fun i hi => by simpa using h (i + 1) (by omega)

set_option maxRecDepth 100000 in
set_option maxHeartbeats 400000 in
theorem first_any (w : World) (B : LB) (r : Raw) (h : RawAt w B r) (bs : Nat) (T : TypeId) (fs : List (Nat × Array Value)) (res : List (Bool × Int))
    (hb : Blk w bs (fs.map fun f => .func (.func f.1) #[] f.2) T) (hr : res.length = fs.length) (hn : fs.length ≤ 8)
    (he : ∀ j, j < fs.length → ∀ args w, (callFunc (fs.getD j (0, #[])).1 args).run Try.prog w = .ok (.enter (fs.getD j (0, #[])).1 args) w)
    (hf : ∀ j, j < fs.length → (∀ i, i < j → (res.getD i (false, 0)).1 = false) → ∀ w1, Still w w1 → Calls Try.prog (fs.getD j (0, #[])).1 (fs.getD j (0, #[])).2 w1 fun e w2 =>
      e = .returned (.tuple #[.bool (res.getD j (false, 0)).1, .int .i64 (res.getD j (false, 0)).2]) ∧ Still w1 w2) :
    Calls Try.prog 79 #[.pointer (some ⟨B.p, 0, none⟩), .slice (some ⟨bs, 0, none⟩) fs.length fs.length] w fun e w' => e = .returned (.int .i64 (firstE res)) ∧ Still w w' := by
  have HF := hid hf
  have HE := hid he
  have HR := hid hr
  clear hf hr he
  obtain ⟨n, hn'⟩ : ∃ n, n = fs.length := ⟨_, rfl⟩
  rw [← hn']
  rw [← hn'] at hn
  have HN := hid hn'
  clear hn'
  go_enter Try.func79, Try.ntmps79
  go_wp2_with (go_at_call 83; refine (made_yes _ B r h).mono ?_; rintro e w' ⟨rfl, rfl⟩)
  go_loopw [14] (fun i wr => ∃ k : Nat, i = .int .i64 k ∧ k ≤ n ∧ (∀ i, i < k → (res.getD i (false, 0)).1 = false) ∧ Still w wr) (fun i _ => n - (intOf i).toNat)
  case atStart => exact ⟨0, rfl, Nat.zero_le _, fun _ h => absurd h (Nat.not_lt_zero _), Still.refl _⟩
  case round =>
    obtain ⟨k, rfl, hk, hres, hst⟩ := hrel
    have HRES := hid hres
    clear hres
    by_cases hlt : k < n
    · have hlt' : (k : Int) < (n : Int) := by omega
      have C : wr.cell? ⟨bs, k, none⟩ = some (.func (.func (fs.getD k (0, #[])).1) #[] (fs.getD k (0, #[])).2) := by
        rw [Blk.cell (hb.still hst)]; have := HN.out; simp [show k < fs.length by omega]
      obtain ⟨fn, hfn⟩ : ∃ fn, fn = fs.getD k (0, #[]) := ⟨_, rfl⟩
      have HC := HF.out k (by have := HN.out; omega) HRES.out wr hst
      have EN := HE.out k (by have := HN.out; omega)
      rw [← hfn] at C HC EN
      clear hfn
      obtain ⟨f1, f2⟩ := fn
      obtain ⟨re, hre⟩ : ∃ re, re = res.getD k (false, 0) := ⟨_, rfl⟩
      rw [← hre] at HC
      have HRE := hid hre
      clear hre
      have HC' := hid HC
      clear HC
      obtain ⟨b, ev⟩ := re
      go_wp2_with fail
      refine (HC'.out).mono ?_
      rintro e w2 ⟨rfl, hst2⟩
      cases b with
      | true =>
        go_wp2_with fail
        go_ret
        refine ⟨?_, hst.trans hst2⟩
        have e1 : firstE res = ev := by
          rw [firstE_skip res k HRES.out, List.drop_eq_getElem_cons (by have := HN.out; have := HR.out; omega)]
          have e2 : res[k]'(by have := HN.out; have := HR.out; omega) = (true, ev) := by rw [HRE.out]; simp [List.getD, show k < res.length by have := HN.out; have := HR.out; omega]
          rw [e2]; rfl
        rw [e1]; rfl
      | false =>
        go_wp2_with fail
        go_roundw
        case rel => exact ⟨k + 1, by go_num, by omega, fun i hi => by rcases Nat.lt_succ_iff_lt_or_eq.1 hi with hi | rfl; exact HRES.out i hi; rw [← HRE.out], hst.trans hst2⟩
        case measure => simp [intOf]; omega
    · go_wp2_with fail
      go_ret
      refine ⟨?_, hst⟩
      rw [firstE_skip res k HRES.out, List.drop_eq_nil_of_le (by have := HN.out; have := HR.out; omega)]
      rfl
end Go.Proofs.Ytffjaaolcphonaa
/- The links' closures: what each tells. -/
namespace Go.Proofs.Ytffjaaolcphonaa
open Go.RowKit

/-- A boxed variable. -/
def Box (w : World) (b : Nat) (v : Value) (T : TypeId) : Prop := Blk w b [v] T
theorem Box.c {w : World} {b : Nat} {v : Value} {T : TypeId} (h : Box w b v T) : w.cell? ⟨b, 0, none⟩ = some v := by rw [Blk.cell h]; rfl
theorem Box.still {w w' : World} {b : Nat} {v : Value} {T : TypeId} (h : Box w b v T) (hs : Still w w') : Box w' b v T := Blk.still h hs

def inR (i : Int) (n : Nat) : Prop := 0 ≤ i ∧ i < (n : Int)
instance (i : Int) (n : Nat) : Decidable (inR i n) := inferInstanceAs (Decidable (_ ∧ _))
theorem inR_no {i : Int} {n : Nat} (h : ¬ inR i n) : i < 0 ∨ (n : Int) ≤ i := by unfold inR at h; omega

theorem isList_dec (w : World) (B : LB) (r : Raw) (h : RawAt w B r) (i : Int) : Calls Try.prog 81 #[.pointer (some ⟨B.p, 0, none⟩), .int .i64 i] w fun e w' => e = .returned (.bool (decide (inR i r.count.length))) ∧ w = w' := by
  by_cases hi : inR i r.count.length
  · rw [decide_eq_true hi]; exact isList_yes w B r h i hi.1 hi.2
  · rw [decide_eq_false hi]; exact isList_no w B r h i (inR_no hi)
theorem isThing_dec (w : World) (B : LB) (r : Raw) (h : RawAt w B r) (i : Int) : Calls Try.prog 89 #[.pointer (some ⟨B.p, 0, none⟩), .int .i64 i] w fun e w' => e = .returned (.bool (decide (inR i r.things))) ∧ w = w' := by
  by_cases hi : inR i r.things
  · rw [decide_eq_true hi]; exact isThing_yes w B r h i hi.1 hi.2
  · rw [decide_eq_false hi]; exact isThing_no w B r h i (inR_no hi)

/-- Two results. -/
def Two (b : Bool) (n : Int) (w : World) (e : Ending) (w' : World) : Prop := e = .returned (.tuple #[.bool b, .int .i64 n]) ∧ Still w w'

theorem may1 (w : World) (B : LB) (r : Raw) (h : RawAt w B r) (b1 b2 b3 : Nat) (i t : Int) (h1 : Box w b1 (.pointer (some ⟨B.p, 0, none⟩)) 23) (h2 : Box w b2 (.int .i64 i) 3) (h3 : Box w b3 (.int .i64 t) 3) :
    Calls Try.prog 131 #[.pointer (some ⟨b1, 0, none⟩), .pointer (some ⟨b2, 0, none⟩), .pointer (some ⟨b3, 0, none⟩)] w (Two (decide (¬ inR i r.count.length ∨ ¬ inR t r.things)) 8 w) := by
  have c1 := h1.c
  have c2 := h2.c
  have c3 := h3.c
  by_cases hi : inR i r.count.length
  · by_cases ht : inR t r.things
    · have hd := hid (decide_eq_false (p := (¬ inR i r.count.length ∨ ¬ inR t r.things)) (by simp [hi, ht]))
      go_enter Try.func131, Try.ntmps131
      go_wp2_with (first | (go_at_call 81; refine (isList_yes _ B r h _ hi.1 hi.2).mono ?_; rintro e w' ⟨rfl, rfl⟩) | (go_at_call 89; refine (isThing_yes _ B r h _ ht.1 ht.2).mono ?_; rintro e w' ⟨rfl, rfl⟩))
      go_ret2
      exact ⟨by rw [hd.out]; rfl, Still.refl _⟩
    · have hd := hid (decide_eq_true (p := (¬ inR i r.count.length ∨ ¬ inR t r.things)) (by simp [hi, ht]))
      go_enter Try.func131, Try.ntmps131
      go_wp2_with (first | (go_at_call 81; refine (isList_yes _ B r h _ hi.1 hi.2).mono ?_; rintro e w' ⟨rfl, rfl⟩) | (go_at_call 89; refine (isThing_no _ B r h _ (inR_no ht)).mono ?_; rintro e w' ⟨rfl, rfl⟩))
      go_ret2
      exact ⟨by rw [hd.out]; rfl, Still.refl _⟩
  · have hd := hid (decide_eq_true (p := (¬ inR i r.count.length ∨ ¬ inR t r.things)) (by simp [hi]))
    go_enter Try.func131, Try.ntmps131
    go_wp2_with (first | (go_at_call 81; refine (isList_no _ B r h _ (inR_no hi)).mono ?_; rintro e w' ⟨rfl, rfl⟩))
    go_ret2
    exact ⟨by rw [hd.out]; rfl, Still.refl _⟩
theorem move1 (w : World) (B : LB) (r : Raw) (h : RawAt w B r) (b1 b2 b3 : Nat) (i t : Int) (h1 : Box w b1 (.pointer (some ⟨B.p, 0, none⟩)) 23) (h2 : Box w b2 (.int .i64 i) 3) (h3 : Box w b3 (.int .i64 t) 3) :
    Calls Try.prog 80 #[.pointer (some ⟨b1, 0, none⟩), .pointer (some ⟨b2, 0, none⟩), .pointer (some ⟨b3, 0, none⟩)] w (Two (decide (¬ inR i r.count.length ∨ ¬ inR t r.count.length)) 8 w) := by
  have c1 := h1.c
  have c2 := h2.c
  have c3 := h3.c
  by_cases hi : inR i r.count.length
  · have hd := hid (show decide (¬ inR i r.count.length ∨ ¬ inR t r.count.length) = !(decide (inR t r.count.length)) by simp [hi])
    go_enter Try.func80, Try.ntmps80
    go_wp2_with fail
    refine (isList_yes _ B r h _ hi.1 hi.2).mono ?_
    rintro e w' ⟨rfl, rfl⟩
    go_wp2_with fail
    refine (isList_dec _ B r h _).mono ?_
    rintro e w' ⟨rfl, rfl⟩
    go_wp2_with fail
    go_ret2
    exact ⟨by rw [hd.out]; rfl, Still.refl _⟩
  · have hd := hid (decide_eq_true (p := (¬ inR i r.count.length ∨ ¬ inR t r.count.length)) (by simp [hi]))
    go_enter Try.func80, Try.ntmps80
    go_wp2_with (first | (go_at_call 81; refine (isList_no _ B r h _ (inR_no hi)).mono ?_; rintro e w' ⟨rfl, rfl⟩))
    go_ret2
    exact ⟨by rw [hd.out]; rfl, Still.refl _⟩
theorem move2 (w : World) (b2 b3 : Nat) (i t : Int) (h2 : Box w b2 (.int .i64 i) 3) (h3 : Box w b3 (.int .i64 t) 3) :
    Calls Try.prog 82 #[.pointer (some ⟨b2, 0, none⟩), .pointer (some ⟨b3, 0, none⟩)] w (Two (i == t) 2 w) := by
  have c2 := h2.c
  have c3 := h3.c
  go_enter Try.func82, Try.ntmps82
  go_wp2
  go_ret2
  exact ⟨rfl, Still.refl _⟩
theorem pop1 (w : World) (B : LB) (r : Raw) (h : RawAt w B r) (b1 b2 : Nat) (i : Int) (h1 : Box w b1 (.pointer (some ⟨B.p, 0, none⟩)) 23) (h2 : Box w b2 (.int .i64 i) 3) :
    Calls Try.prog 94 #[.pointer (some ⟨b1, 0, none⟩), .pointer (some ⟨b2, 0, none⟩)] w (Two (decide (¬ inR i r.count.length)) 8 w) := by
  have c1 := h1.c
  have c2 := h2.c
  have hd := hid (show decide (¬ inR i r.count.length) = !(decide (inR i r.count.length)) by simp)
  go_enter Try.func94, Try.ntmps94
  go_wp2_with (first | (go_at_call 81; refine (isList_dec _ B r h _).mono ?_; rintro e w' ⟨rfl, rfl⟩))
  go_ret2
  exact ⟨by rw [hd.out]; rfl, Still.refl _⟩
theorem remove1 (w : World) (B : LB) (r : Raw) (h : RawAt w B r) (b1 b2 : Nat) (i : Int) (h1 : Box w b1 (.pointer (some ⟨B.p, 0, none⟩)) 23) (h2 : Box w b2 (.int .i64 i) 3) :
    Calls Try.prog 97 #[.pointer (some ⟨b1, 0, none⟩), .pointer (some ⟨b2, 0, none⟩)] w (Two (decide (¬ inR i r.things)) 8 w) := by
  have c1 := h1.c
  have c2 := h2.c
  have hd := hid (show decide (¬ inR i r.things) = !(decide (inR i r.things)) by simp)
  go_enter Try.func97, Try.ntmps97
  go_wp2_with (first | (go_at_call 89; refine (isThing_dec _ B r h _).mono ?_; rintro e w' ⟨rfl, rfl⟩))
  go_ret2
  exact ⟨by rw [hd.out]; rfl, Still.refl _⟩
theorem may2 (w : World) (B : LB) (r : Raw) (h : RawAt w B r) (b1 b2 : Nat) (t : Nat) (v : Int) (hv : v = r.list.getD t 0) (ht : t < r.things) (h1 : Box w b1 (.pointer (some ⟨B.p, 0, none⟩)) 23) (h2 : Box w b2 (.int .i64 t) 3) :
    Calls Try.prog 132 #[.pointer (some ⟨b1, 0, none⟩), .pointer (some ⟨b2, 0, none⟩)] w (Two (v != -1) 5 w) := by
  have c1 := h1.c
  have c2 := h2.c
  have F3 := h.f3
  have hi : (t : Int) < (r.things : Int) := by omega
  have C : w.cell? ⟨B.l, t, none⟩ = some (.int .i64 v) := hv ▸ h.hl.cell (by rw [h.llist]; omega)
  clear hv
  go_enter Try.func132, Try.ntmps132
  go_wp2
  go_quiet (fail)
  go_wp2
  go_ret2
  exact ⟨rfl, (Fr.refl _ _).drewN _⟩
theorem remove2 (w : World) (B : LB) (r : Raw) (h : RawAt w B r) (b1 b2 : Nat) (t : Nat) (v : Int) (hv : v = r.list.getD t 0) (ht : t < r.things) (h1 : Box w b1 (.pointer (some ⟨B.p, 0, none⟩)) 23) (h2 : Box w b2 (.int .i64 t) 3) :
    Calls Try.prog 98 #[.pointer (some ⟨b1, 0, none⟩), .pointer (some ⟨b2, 0, none⟩)] w (Two (v == -1) 4 w) := by
  have c1 := h1.c
  have c2 := h2.c
  have F3 := h.f3
  have hi : (t : Int) < (r.things : Int) := by omega
  have C : w.cell? ⟨B.l, t, none⟩ = some (.int .i64 v) := hv ▸ h.hl.cell (by rw [h.llist]; omega)
  clear hv
  go_enter Try.func98, Try.ntmps98
  go_wp2
  go_quiet (fail)
  go_wp2
  go_ret2
  exact ⟨rfl, (Fr.refl _ _).drewN _⟩
theorem pop2 (w : World) (B : LB) (r : Raw) (h : RawAt w B r) (b1 b2 : Nat) (t : Nat) (v : Int) (hv : v = r.count.getD t 0) (ht : t < r.count.length) (h1 : Box w b1 (.pointer (some ⟨B.p, 0, none⟩)) 23) (h2 : Box w b2 (.int .i64 t) 3) :
    Calls Try.prog 95 #[.pointer (some ⟨b1, 0, none⟩), .pointer (some ⟨b2, 0, none⟩)] w (Two (v == 0) 4 w) := by
  have c1 := h1.c
  have c2 := h2.c
  have F4 := h.f4
  have hi : (t : Int) < (r.count.length : Int) := by omega
  have C : w.cell? ⟨B.c, t, none⟩ = some (.int .i64 v) := hv ▸ h.hc.cell ht
  clear hv
  go_enter Try.func95, Try.ntmps95
  go_wp2
  go_quiet (fail)
  go_wp2
  go_ret2
  exact ⟨rfl, (Fr.refl _ _).drewN _⟩
end Go.Proofs.Ytffjaaolcphonaa
