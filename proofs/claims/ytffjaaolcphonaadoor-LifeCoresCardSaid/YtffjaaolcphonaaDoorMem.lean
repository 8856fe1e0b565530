/- The world's blocks, plainly: what a block holds, and what of the world stays as it was. -/
import Derived.WalkKit
import Derived.BigRegion
import Derived.BigQuiet
import Derived.ChangeAlike
namespace Go.Proofs.YtffjaaolcphonaaDoor
open Go.RowKit

theorem hid {p : Prop} (h : p) : Hid p := h

/-- What lies outside F of the old blocks lies as it lay; the streams are as they were. -/
structure Fr (F : Nat → Prop) (w w' : World) : Prop where
  os : w'.os = w.os
  tape : w'.tape = w.tape
  output : w'.output = w.output
  size : w.heap.size ≤ w'.heap.size
  block : ∀ k, k < w.heap.size → ¬ F k → w'.heap[k]? = w.heap[k]?

theorem Fr.refl (F : Nat → Prop) (w : World) : Fr F w w := ⟨rfl, rfl, rfl, Nat.le_refl _, fun _ _ _ => rfl⟩
theorem Fr.trans {F : Nat → Prop} {a b c : World} (h : Fr F a b) (k : Fr F b c) : Fr F a c :=
  ⟨k.os.trans h.os, k.tape.trans h.tape, k.output.trans h.output, Nat.le_trans h.size k.size, fun i hi hf => (k.block i (Nat.lt_of_lt_of_le hi h.size) hf).trans (h.block i hi hf)⟩
theorem Fr.mono {F G : Nat → Prop} {w w' : World} (h : Fr F w w') (hg : ∀ k, k < w.heap.size → F k → G k) : Fr G w w' :=
  ⟨h.os, h.tape, h.output, h.size, fun k hk hn => h.block k hk fun hf => hn (hg k hk hf)⟩
/-- A second step that may turn besides what is new since the first world. -/
theorem Fr.then {F G : Nat → Prop} {a b c : World} (h : Fr F a b) (k : Fr G b c) (hg : ∀ i, i < a.heap.size → G i → F i) : Fr F a c :=
  ⟨k.os.trans h.os, k.tape.trans h.tape, k.output.trans h.output, Nat.le_trans h.size k.size, fun i hi hf => (k.block i (Nat.lt_of_lt_of_le hi h.size) fun hgi => hf (hg i hi hgi)).trans (h.block i hi hf)⟩
theorem Fr.drew {F : Nat → Prop} {a w : World} (h : Fr F a w) : Fr F a w.drew := ⟨h.os, h.tape, h.output, h.size, h.block⟩
theorem Fr.drewN {F : Nat → Prop} {a w : World} (h : Fr F a w) (n : Nat) : Fr F a (w.drewN n) := ⟨h.os, h.tape, h.output, h.size, h.block⟩
theorem Fr.alloc {F : Nat → Prop} {a w : World} (h : Fr F a w) (o : Obj) : Fr F a (w.alloc o) :=
  h.trans ⟨rfl, rfl, rfl, by simp, fun k hk _ => Below.heap_alloc _ _ _ hk⟩
theorem Fr.setCell {F : Nat → Prop} {a w : World} (h : Fr F a w) {p : Addr} (hp : F p.block ∨ a.heap.size ≤ p.block) (u : Value) : Fr F a (w.setCell p u) :=
  ⟨h.os, h.tape, h.output, by simpa using h.size, fun k hk hn => by
    refine (Below.heap_setCell w p u k fun e => ?_).trans (h.block k hk hn)
    subst e; rcases hp with hp | hp
    · exact hn hp
    · omega⟩
theorem Fr.of_below {w w' : World} {B : Nat} (h : Below B w w') : Fr (fun k => B ≤ k) w w' :=
  ⟨h.os, h.tape, h.output, h.size, fun k _ hn => h.block k (by omega)⟩
theorem Fr.of_below0 {w w' : World} (h : Below w.heap.size w w') (F : Nat → Prop) : Fr F w w' :=
  ⟨h.os, h.tape, h.output, h.size, fun k hk _ => h.block k hk⟩
theorem Fr.below {F : Nat → Prop} {w w' : World} (h : Fr F w w') {B : Nat} (hB : B ≤ w.heap.size) (hF : ∀ k, F k → B ≤ k) : Below B w w' :=
  ⟨h.os, h.tape, h.output, h.size, fun k hk => h.block k (by omega) fun hf => by have := hF k hf; omega⟩
theorem Fr.of_grownBy {w w' : World} {row : Option Nat} (hg : w.grownBy w' row) {F : Nat → Prop} (hr : ∀ k, row = some k → k < w.heap.size → F k) : Fr F w w' :=
  ⟨hg.os, hg.tape, hg.output, hg.size, fun k hk hn => hg.block k hk fun e => hn (hr k e.symm hk)⟩

/-- Nothing old has turned. -/
def Still (w w' : World) : Prop := Fr (fun _ => False) w w'
theorem Still.refl (w : World) : Still w w := Fr.refl _ _
theorem Still.trans {a b c : World} (h : Still a b) (k : Still b c) : Still a c := Fr.trans h k
theorem Still.fr {w w' : World} (h : Still w w') (F : Nat → Prop) : Fr F w w' := Fr.mono h fun _ _ h => h.elim

/-- Block b holds the cells A, of element type T, none of them frozen. -/
def Blk (w : World) (b : Nat) (A : List Value) (T : TypeId) : Prop := w.heap[b]? = some (.cells A.toArray T (0, 0))

theorem Blk.lt {w : World} {b : Nat} {A : List Value} {T : TypeId} (h : Blk w b A T) : b < w.heap.size := (Array.getElem?_eq_some_iff.1 h).1
theorem Blk.cell {w : World} {b : Nat} {A : List Value} {T : TypeId} (h : Blk w b A T) (i : Nat) : w.cell? ⟨b, i, none⟩ = A[i]? := by
  unfold Blk at h; simp [World.cell?, h]
theorem Blk.frozen {w : World} {b : Nat} {A : List Value} {T : TypeId} (h : Blk w b A T) (i : Nat) : w.frozen? ⟨b, i, none⟩ = false := by
  unfold Blk at h; simp [World.frozen?, h]
theorem Blk.drew {w : World} {b : Nat} {A : List Value} {T : TypeId} (h : Blk w b A T) : Blk w.drew b A T := h
theorem Blk.drewN {w : World} {b : Nat} {A : List Value} {T : TypeId} (h : Blk w b A T) (n : Nat) : Blk (w.drewN n) b A T := h
theorem Blk.alloc {w : World} {b : Nat} {A : List Value} {T : TypeId} (h : Blk w b A T) (o : Obj) : Blk (w.alloc o) b A T := (Below.heap_alloc w o b h.lt).trans h
theorem Blk.new (w : World) (A : List Value) (T : TypeId) : Blk (w.alloc (.cells A.toArray T)) w.heap.size A T := by
  unfold Blk; show (w.heap.push _)[w.heap.size]? = _; simp
theorem Blk.put {w : World} {b : Nat} {A : List Value} {T : TypeId} (h : Blk w b A T) (i : Nat) (v : Value) : Blk (w.setCell ⟨b, i, none⟩ v) b (A.set i v) T := by
  unfold Blk at *
  obtain ⟨hlt, _⟩ := Array.getElem?_eq_some_iff.1 h
  show (w.heap.modify b _)[b]? = _
  rw [Array.getElem?_modify, if_pos rfl, h]; simp
theorem Blk.other {w : World} {b : Nat} {A : List Value} {T : TypeId} (h : Blk w b A T) {p : Addr} (hne : b ≠ p.block) (v : Value) : Blk (w.setCell p v) b A T :=
  (Below.heap_setCell w p v b hne).trans h
theorem Blk.fr {w w' : World} {b : Nat} {A : List Value} {T : TypeId} (h : Blk w b A T) {F : Nat → Prop} (hf : Fr F w w') (hn : ¬ F b) : Blk w' b A T := (hf.block b h.lt hn).trans h
theorem Blk.still {w w' : World} {b : Nat} {A : List Value} {T : TypeId} (h : Blk w b A T) (hf : Still w w') : Blk w' b A T := h.fr hf (fun h => h)
theorem Blk.below {w w' : World} {b B : Nat} {A : List Value} {T : TypeId} (h : Blk w b A T) (hf : Below B w w') (hn : b < B) : Blk w' b A T := (hf.block b hn).trans h
theorem Blk.grown {w w' : World} {b : Nat} {A : List Value} {T : TypeId} (h : Blk w b A T) {row : Option Nat} (hg : w.grownBy w' row) (hn : row ≠ some b) : Blk w' b A T := (hg.block b h.lt fun e => hn e.symm).trans h
theorem Blk.unique {w : World} {b : Nat} {A A' : List Value} {T T' : TypeId} (h : Blk w b A T) (h' : Blk w b A' T') : A = A' ∧ T = T' := by
  unfold Blk at *; rw [h] at h'; simp at h'; exact h'

/-- Block b begins with whole numbers (int). -/
def IBlk (w : World) (b : Nat) (xs : List Int) : Prop := ∃ sp, Blk w b (xs.map (Value.int .i64) ++ sp) 3
theorem IBlk.lt {w : World} {b : Nat} {xs : List Int} (h : IBlk w b xs) : b < w.heap.size := by obtain ⟨_, h⟩ := h; exact h.lt
theorem IBlk.cell {w : World} {b : Nat} {xs : List Int} (h : IBlk w b xs) {i : Nat} (hi : i < xs.length) : w.cell? ⟨b, i, none⟩ = some (.int .i64 (xs.getD i 0)) := by
  obtain ⟨_, h⟩ := h
  rw [Blk.cell h, List.getElem?_append_left (by simpa using hi)]; simp [hi]
theorem IBlk.frozen {w : World} {b : Nat} {xs : List Int} (h : IBlk w b xs) (i : Nat) : w.frozen? ⟨b, i, none⟩ = false := by
  obtain ⟨_, h⟩ := h
  exact h.frozen i
theorem IBlk.put {w : World} {b : Nat} {xs : List Int} (h : IBlk w b xs) (i : Nat) (v : Int) : IBlk (w.setCell ⟨b, i, none⟩ (.int .i64 v)) b (xs.set i v) := by
  obtain ⟨sp, h⟩ := h
  have := Blk.put h i (.int .i64 v)
  rw [List.set_append] at this
  by_cases hi : i < (xs.map (Value.int .i64)).length
  · rw [if_pos hi] at this
    exact ⟨sp, by rw [List.map_set]; exact this⟩
  · rw [if_neg hi] at this
    refine ⟨sp.set (i - (xs.map (Value.int .i64)).length) (.int .i64 v), ?_⟩
    rw [List.set_eq_of_length_le (by simpa using hi)]
    exact this
theorem IBlk.alloc {w : World} {b : Nat} {xs : List Int} (h : IBlk w b xs) (o : Obj) : IBlk (w.alloc o) b xs := by obtain ⟨sp, h⟩ := h; exact ⟨sp, h.alloc o⟩
theorem IBlk.other {w : World} {b : Nat} {xs : List Int} (h : IBlk w b xs) {p : Addr} (hne : b ≠ p.block) (v : Value) : IBlk (w.setCell p v) b xs := by obtain ⟨sp, h⟩ := h; exact ⟨sp, h.other hne v⟩
theorem IBlk.fr {w w' : World} {b : Nat} {xs : List Int} (h : IBlk w b xs) {F : Nat → Prop} (hf : Fr F w w') (hn : ¬ F b) : IBlk w' b xs := by obtain ⟨sp, h⟩ := h; exact ⟨sp, h.fr hf hn⟩
theorem IBlk.still {w w' : World} {b : Nat} {xs : List Int} (h : IBlk w b xs) (hf : Still w w') : IBlk w' b xs := h.fr hf (fun h => h)
theorem IBlk.grown {w w' : World} {b : Nat} {xs : List Int} (h : IBlk w b xs) {row : Option Nat} (hg : w.grownBy w' row) (hn : row ≠ some b) : IBlk w' b xs := by obtain ⟨sp, h⟩ := h; exact ⟨sp, h.grown hg hn⟩
/-- A row that the call owns begins with its numbers. -/
theorem IBlk.of_owns {w : World} {base : Nat} {v : Value} {xs : List Int} {n : Nat} (h : w.ownsRow base 3 1 v n (xs.map (Value.int .i64))) (hne : 0 < n) :
    ∃ g cap, v = .slice (some ⟨g, 0, none⟩) n cap ∧ base ≤ g ∧ n ≤ cap ∧ IBlk w g xs := by
  obtain ⟨h1, ⟨_, h2⟩ | ⟨g, cap, cur, hv, hg, hh, hc, _, hs, ht⟩⟩ := h
  · omega
  · refine ⟨g, cap, hv, hg, hc, cur.toList.drop (n * 1), ?_⟩
    unfold Blk
    rw [← ht, List.take_append_drop]
    simpa using hh
end Go.Proofs.YtffjaaolcphonaaDoor
