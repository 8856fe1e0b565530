/- The links' five blocks in the world, and what the two writing steps make of them. -/
import Derived.Test.YtffjaaolcphonaaMem
import Derived.Test.YtffjaaolcphonaaProg
namespace Go.Proofs.Ytffjaaolcphonaa
open Go.RowKit

structure LB where
  p : Nat
  n : Nat
  b : Nat
  l : Nat
  c : Nat
  kn : Nat
  kb : Nat
  kl : Nat
  kc : Nat
def LB.foot (B : LB) (k : Nat) : Prop := k = B.p ∨ k = B.n ∨ k = B.b ∨ k = B.l ∨ k = B.c
structure Raw where
  things : Nat
  next : List Int
  back : List Int
  list : List Int
  count : List Int
def sl (b n k : Nat) : Value := .slice (some ⟨b, 0, none⟩) n k
/-- The five blocks lie there. -/
structure RawAt (w : World) (B : LB) (r : Raw) : Prop where
  pn : B.p ≠ B.n
  pb : B.p ≠ B.b
  pl : B.p ≠ B.l
  pc : B.p ≠ B.c
  nb : B.n ≠ B.b
  nl : B.n ≠ B.l
  nc : B.n ≠ B.c
  bl : B.b ≠ B.l
  bc : B.b ≠ B.c
  lc : B.l ≠ B.c
  hp : Blk w B.p [.int .i64 r.things, sl B.n r.next.length B.kn, sl B.b r.next.length B.kb, sl B.l r.things B.kl, sl B.c r.count.length B.kc] 63
  hn : IBlk w B.n r.next
  hb : IBlk w B.b r.back
  hl : IBlk w B.l r.list
  hc : IBlk w B.c r.count
  lnext : r.next.length = r.things + r.count.length
  lback : r.back.length = r.things + r.count.length
  llist : r.list.length = r.things
  t0 : 1 ≤ r.things
  t1 : r.things ≤ 4096
  m0 : 1 ≤ r.count.length
  m1 : r.count.length ≤ 4096

theorem wp_abs {P : Program} {c : Code} {Q : Exit → Act → World → Prop} {a : Act} {w : World} (R : World → Prop) (h : R w) (hk : ∀ w', R w' → c.wp P Q a w') : c.wp P Q a w := hk w h
theorem RawAt.drew {w : World} {B : LB} {r : Raw} (h : RawAt w B r) : RawAt w.drew B r := { h with }
theorem RawAt.fr {w w' : World} {B : LB} {r : Raw} (h : RawAt w B r) {F : Nat → Prop} (hf : Fr F w w') (hd : ∀ k, B.foot k → ¬ F k) : RawAt w' B r :=
  { h with hp := h.hp.fr hf (hd _ (by simp [LB.foot])), hn := IBlk.fr h.hn hf (hd _ (by simp [LB.foot])), hb := IBlk.fr h.hb hf (hd _ (by simp [LB.foot])),
           hl := IBlk.fr h.hl hf (hd _ (by simp [LB.foot])), hc := IBlk.fr h.hc hf (hd _ (by simp [LB.foot])) }
theorem RawAt.still {w w' : World} {B : LB} {r : Raw} (h : RawAt w B r) (hf : Still w w') : RawAt w' B r := h.fr hf fun _ _ h => h
theorem RawAt.setN {w : World} {B : LB} {r : Raw} (h : RawAt w B r) (i : Nat) (v : Int) : RawAt (w.setCell ⟨B.n, i, none⟩ (.int .i64 v)) B { r with next := r.next.set i v } :=
  { h with hp := by simpa using h.hp.other (p := ⟨B.n, i, none⟩) h.pn _, hn := h.hn.put i v, hb := IBlk.other h.hb (p := ⟨B.n, i, none⟩) h.nb.symm _, hl := IBlk.other h.hl (p := ⟨B.n, i, none⟩) h.nl.symm _,
           hc := IBlk.other h.hc (p := ⟨B.n, i, none⟩) h.nc.symm _, lnext := by simpa using h.lnext }
theorem RawAt.setB {w : World} {B : LB} {r : Raw} (h : RawAt w B r) (i : Nat) (v : Int) : RawAt (w.setCell ⟨B.b, i, none⟩ (.int .i64 v)) B { r with back := r.back.set i v } :=
  { h with hp := by simpa using h.hp.other (p := ⟨B.b, i, none⟩) h.pb _, hb := h.hb.put i v, hn := IBlk.other h.hn (p := ⟨B.b, i, none⟩) h.nb _, hl := IBlk.other h.hl (p := ⟨B.b, i, none⟩) h.bl.symm _,
           hc := IBlk.other h.hc (p := ⟨B.b, i, none⟩) h.bc.symm _, lback := by simpa using h.lback }
theorem RawAt.setL {w : World} {B : LB} {r : Raw} (h : RawAt w B r) (i : Nat) (v : Int) : RawAt (w.setCell ⟨B.l, i, none⟩ (.int .i64 v)) B { r with list := r.list.set i v } :=
  { h with hp := by simpa using h.hp.other (p := ⟨B.l, i, none⟩) h.pl _, hl := h.hl.put i v, hn := IBlk.other h.hn (p := ⟨B.l, i, none⟩) h.nl _, hb := IBlk.other h.hb (p := ⟨B.l, i, none⟩) h.bl _,
           hc := IBlk.other h.hc (p := ⟨B.l, i, none⟩) h.lc.symm _, llist := by simpa using h.llist }
theorem RawAt.setC {w : World} {B : LB} {r : Raw} (h : RawAt w B r) (i : Nat) (v : Int) : RawAt (w.setCell ⟨B.c, i, none⟩ (.int .i64 v)) B { r with count := r.count.set i v } :=
  { h with hp := by simpa using h.hp.other (p := ⟨B.c, i, none⟩) h.pc _, hc := h.hc.put i v, hn := IBlk.other h.hn (p := ⟨B.c, i, none⟩) h.nc _, hb := IBlk.other h.hb (p := ⟨B.c, i, none⟩) h.bc _,
           hl := IBlk.other h.hl (p := ⟨B.c, i, none⟩) h.lc _, lnext := by simpa using h.lnext, lback := by simpa using h.lback, m0 := by simpa using h.m0, m1 := by simpa using h.m1 }
theorem RawAt.f0 {w : World} {B : LB} {r : Raw} (h : RawAt w B r) : w.cell? ⟨B.p, 0, none⟩ = some (.int .i64 r.things) := by rw [h.hp.cell]; rfl
theorem RawAt.f1 {w : World} {B : LB} {r : Raw} (h : RawAt w B r) : w.cell? ⟨B.p, 1, none⟩ = some (.slice (some ⟨B.n, 0, none⟩) r.next.length B.kn) := by rw [h.hp.cell]; rfl
theorem RawAt.f2 {w : World} {B : LB} {r : Raw} (h : RawAt w B r) : w.cell? ⟨B.p, 2, none⟩ = some (.slice (some ⟨B.b, 0, none⟩) r.next.length B.kb) := by rw [h.hp.cell]; rfl
theorem RawAt.f3 {w : World} {B : LB} {r : Raw} (h : RawAt w B r) : w.cell? ⟨B.p, 3, none⟩ = some (.slice (some ⟨B.l, 0, none⟩) r.things B.kl) := by rw [h.hp.cell]; rfl
theorem RawAt.f4 {w : World} {B : LB} {r : Raw} (h : RawAt w B r) : w.cell? ⟨B.p, 4, none⟩ = some (.slice (some ⟨B.c, 0, none⟩) r.count.length B.kc) := by rw [h.hp.cell]; rfl
theorem RawAt.zn {w : World} {B : LB} {r : Raw} (h : RawAt w B r) (i : Nat) : w.frozen? ⟨B.n, i, none⟩ = false := IBlk.frozen h.hn i
theorem RawAt.zb {w : World} {B : LB} {r : Raw} (h : RawAt w B r) (i : Nat) : w.frozen? ⟨B.b, i, none⟩ = false := IBlk.frozen h.hb i
theorem RawAt.zl {w : World} {B : LB} {r : Raw} (h : RawAt w B r) (i : Nat) : w.frozen? ⟨B.l, i, none⟩ = false := IBlk.frozen h.hl i
theorem RawAt.zc {w : World} {B : LB} {r : Raw} (h : RawAt w B r) (i : Nat) : w.frozen? ⟨B.c, i, none⟩ = false := IBlk.frozen h.hc i

set_option maxHeartbeats 400000 in
theorem in_any (w : World) (B : LB) (r : Raw) (h : RawAt w B r) (list thing place after c : Nat) (hl : list < r.count.length) (ht : thing < r.things) (hp : place < r.next.length)
    (ha : r.next.getD place 0 = (after : Int)) (ha' : after < r.next.length) (hc : r.count.getD list 0 = (c : Int)) (hc' : c ≤ 4096) :
    Calls Try.prog 76 #[.pointer (some ⟨B.p, 0, none⟩), .int .i64 list, .int .i64 thing, .int .i64 place] w fun e w' => e = .returned (.tuple #[]) ∧
      RawAt w' B { r with next := (r.next.set place thing).set thing after, back := (r.back.set thing place).set after thing, list := r.list.set thing list, count := r.count.set list ((c : Int) + 1) } ∧ Fr B.foot w w' := by
  obtain ⟨ln, lb, ll, t1, m1⟩ : r.next.length = r.things + r.count.length ∧ r.back.length = r.things + r.count.length ∧ r.list.length = r.things ∧ r.things ≤ 4096 ∧ r.count.length ≤ 4096 := ⟨h.lnext, h.lback, h.llist, h.t1, h.m1⟩
  have hn1 : (place : Int) < (r.next.length : Int) := by omega
  have hn2 : (thing : Int) < (r.next.length : Int) := by omega
  have hn3 : (after : Int) < (r.next.length : Int) := by omega
  have hn4 : (thing : Int) < (r.things : Int) := by omega
  have hn5 : (list : Int) < (r.count.length : Int) := by omega
  have hn6 : r.next.length ≤ 8192 := by omega
  have hn7 : after < r.back.length := by omega
  have F1 := h.f1
  have F2 := h.f2
  have C1 : w.cell? ⟨B.n, place, none⟩ = some (.int .i64 after) := by rw [h.hn.cell hp, ha]
  have C2 : w.cell? ⟨B.b, thing, none⟩ = some (.int .i64 (r.back.getD thing 0)) := h.hb.cell (by omega)
  have Z1 := h.zn place
  have Z2 := h.zb thing
  have d1 := h.nb
  have hn8 : thing < r.list.length := by omega
  have HA := hid ha
  have HC := hid hc
  clear ln lb ll ha hc
  go_enter Try.func76, Try.ntmps76
  go_wp2
  go_region
  go_wp2
  refine wp_abs (fun w1 => RawAt w1 B { r with next := r.next.set place thing, back := r.back.set thing place } ∧ Fr B.foot w w1) ⟨((h.setN place thing).setB thing place).drew, (((Fr.refl _ _).setCell (.inl (by simp [LB.foot])) _).setCell (.inl (by simp [LB.foot])) _).drew⟩ ?_
  clear F1 F2 C1 C2 Z1 Z2
  rintro w1 ⟨h1, f1⟩
  have F1 := h1.f1
  have F2 := h1.f2
  have F3 := h1.f3
  have F4 := h1.f4
  simp only [List.length_set] at F1 F2 F3 F4
  have C1 : w1.cell? ⟨B.n, thing, none⟩ = some (.int .i64 ((r.next.set place thing).getD thing 0)) := h1.hn.cell (by simp; omega)
  have C2 : w1.cell? ⟨B.b, after, none⟩ = some (.int .i64 ((r.back.set thing place).getD after 0)) := h1.hb.cell (by simp; omega)
  have C3 : w1.cell? ⟨B.l, thing, none⟩ = some (.int .i64 (r.list.getD thing 0)) := h1.hl.cell hn8
  have C4 : w1.cell? ⟨B.c, list, none⟩ = some (.int .i64 c) := by rw [h1.hc.cell hl, HC.out]
  have Z1 := h1.zn thing
  have Z2 := h1.zb after
  have Z3 := h1.zl thing
  have Z4 := h1.zc list
  have d2 := h1.pn
  have d3 := h1.pb
  have d4 := h1.pl
  have d5 := h1.pc
  have d6 := h1.nl
  have d7 := h1.nc
  have d8 := h1.bl
  have d9 := h1.bc
  have d10 := h1.lc
  go_region
  go_wp2
  go_end0
  refine ⟨rfl, ?_, ?_⟩
  · exact ((((h1.setN thing after).setB after thing).setL thing list).setC list (c + 1)).drew
  · exact (((((f1.setCell (.inl (by simp [LB.foot])) _).setCell (.inl (by simp [LB.foot])) _).setCell (.inl (by simp [LB.foot])) _).setCell (.inl (by simp [LB.foot])) _)).drew
end Go.Proofs.Ytffjaaolcphonaa
