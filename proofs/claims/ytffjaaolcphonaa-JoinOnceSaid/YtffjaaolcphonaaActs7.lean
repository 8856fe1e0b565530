/- Acts with a bool among their fields, opened. -/
import Derived.Test.YtffjaaolcphonaaBdF
import Derived.Test.YtffjaaolcphonaaJoinZ
import Derived.Lib.SmallJoins
namespace Go.Proofs.Ytffjaaolcphonaa
open Go.ChangeShapes Go.WideShapes Go.Deep Go.RowKit Go.Joins
section
variable {H : Type} {enc : TypeId × Value → H} {w : World} {base : Nat} {spare : Nat → Bool} {held : Bool}

set_option maxRecDepth 100000 in
theorem open_aggM {r : Reach} {b0 n : Nat} {t : TypeId} {fs : Array Field} {v : Value} {d : DataW H} {p : List MemPlace} (hs : Try.prog.underlying t = some (.struct fs)) (hone : oneCellFields Try.prog fs = true) (hC : Try.prog.cellsOf t = n) (hsz : fs.size = n)
    (hv : Value.okWide Try.prog w r b0 t v) (h : DataW.Trod enc Try.prog w base spare held t v d p) :
    ∃ cs : List Value, v = .agg cs.toArray ∧ cs.length = n ∧ ∃ m : Nat, ∀ (j : Nat) (f : Field) (c : Value), fs[j]? = some f → cs[j]? = some c → ∃ y, DataW.trod enc Try.prog w base spare held m f.type [c] = some y := by
  obtain ⟨cs, rfl, hl⟩ := okWide_struct hs hv
  obtain ⟨l⟩ := cs
  have hl' : l.length = n := by simpa using hl.trans hC
  obtain ⟨fuel, hf⟩ := h
  obtain ⟨xs, m, _, _, _, hlen, hg⟩ := DataW.trod_struct hs hf
  refine ⟨l, rfl, hl', m, fun j f c hj hc => ?_⟩
  obtain ⟨o0, k0⟩ := hone_of hone j f hj
  have h1 := hg j f hj
  rw [o0, k0] at h1
  have hjl : j < l.length := (List.getElem?_eq_some_iff.1 hc).1
  have hone' : (((Value.agg l.toArray).cells.toList).drop j).take 1 = [c] := by
    show (l.drop j).take 1 = [c]
    rw [List.drop_eq_getElem_cons hjl]
    have := (List.getElem?_eq_some_iff.1 hc).2
    rw [this]; rfl
  have hxl : j < xs.length := by omega
  refine ⟨xs[j], ?_⟩
  rw [List.getElem?_eq_getElem hxl] at h1
  rw [← hone']; exact h1
theorem wf_in {z : Int} (h : (Lit.int .i64 z).wf = true) : inI z := by
  have hu : IntKind.i64.min ≤ z ∧ z ≤ IntKind.i64.max := by simpa [Lit.wf] using h
  exact hu.2
set_option maxRecDepth 100000 in
/-- An act of the law's by value. -/
theorem open_act7 {r : Reach} {b0 : Nat} {v : Value} {d : DataW H} {p : List MemPlace} (hv : Value.okWide Try.prog w r b0 87 v) (h : DataW.Trod enc Try.prog w base spare held 87 v d p) :
    ∃ (k i a y b : Int) (q : Bool) (x : Int), v = .agg #[.int .i64 k, .int .i64 i, .int .i64 a, .int .i64 y, .int .i64 b, .bool q, .int .i64 x] ∧ inI i ∧ inI y := by
  obtain ⟨cs, rfl, hl, m, hf⟩ := open_aggM (n := 7) Try.underlying87 (by kernel_rfl) (by kernel_rfl) rfl hv h
  match cs, hl with
  | [c0, c1, c2, c3, c4, c5, c6], _ =>
    obtain ⟨_, e0⟩ := hf 0 _ c0 rfl rfl
    obtain ⟨_, e1⟩ := hf 1 _ c1 rfl rfl
    obtain ⟨_, e2⟩ := hf 2 _ c2 rfl rfl
    obtain ⟨_, e3⟩ := hf 3 _ c3 rfl rfl
    obtain ⟨_, e4⟩ := hf 4 _ c4 rfl rfl
    obtain ⟨_, e5⟩ := hf 5 _ c5 rfl rfl
    obtain ⟨_, e6⟩ := hf 6 _ c6 rfl rfl
    obtain ⟨z0, h0, _, _⟩ := DataW.trod_int Try.underlying3 e0
    obtain ⟨z1, h1, _, g1⟩ := DataW.trod_int Try.underlying3 e1
    obtain ⟨z2, h2, _, _⟩ := DataW.trod_int Try.underlying3 e2
    obtain ⟨z3, h3, _, g3⟩ := DataW.trod_int Try.underlying3 e3
    obtain ⟨z4, h4, _, _⟩ := DataW.trod_int Try.underlying3 e4
    obtain ⟨q, h5, _⟩ := DataW.trod_bool Try.underlying4 e5
    obtain ⟨z6, h6, _, _⟩ := DataW.trod_int Try.underlying3 e6
    obtain rfl : c0 = .int .i64 z0 := by simpa using h0
    obtain rfl : c1 = .int .i64 z1 := by simpa using h1
    obtain rfl : c2 = .int .i64 z2 := by simpa using h2
    obtain rfl : c3 = .int .i64 z3 := by simpa using h3
    obtain rfl : c4 = .int .i64 z4 := by simpa using h4
    obtain rfl : c5 = .bool q := by simpa using h5
    obtain rfl : c6 = .int .i64 z6 := by simpa using h6
    exact ⟨z0, z1, z2, z3, z4, q, z6, rfl, wf_in g1, wf_in g3⟩
end
/-- A slice of acts that came in. -/
def IsActs7 (w : World) (a : Option Addr) (len cap : Nat) : Prop :=
  len = 0 ∨
  ∃ b off, a = some ⟨b, off, none⟩ ∧ 0 < len ∧ len ≤ cap ∧ cap ≤ maxLen ∧ b < w.heap.size ∧ ∀ i, i < len → ∃ (k p a y c : Int) (q : Bool) (x : Int), inI p ∧ inI y ∧
    w.cell? ⟨b, off + i * 7, none⟩ = some (.int .i64 k) ∧ w.cell? ⟨b, off + i * 7 + 1, none⟩ = some (.int .i64 p) ∧ w.cell? ⟨b, off + i * 7 + 2, none⟩ = some (.int .i64 a) ∧ w.cell? ⟨b, off + i * 7 + 3, none⟩ = some (.int .i64 y) ∧
    w.cell? ⟨b, off + i * 7 + 4, none⟩ = some (.int .i64 c) ∧ w.cell? ⟨b, off + i * 7 + 5, none⟩ = some (.bool q) ∧ w.cell? ⟨b, off + i * 7 + 6, none⟩ = some (.int .i64 x)
section
variable {H : Type} {enc : TypeId × Value → H} {w : World} {base : Nat}
theorem fields87 (fs : Array Field) (h : Try.prog.underlying 87 = some (.struct fs)) : oneCellFields Try.prog fs = true ∧ fs.size = 7 := by
  rw [Try.underlying87] at h
  injection h with h
  injection h with h
  subst h
  exact ⟨by kernel_rfl, rfl⟩
set_option maxRecDepth 100000 in
theorem open_acts7 {fuel : Nat} {a : Option Addr} {len cap : Nat} {x : DataW H × List MemPlace} (h : DataW.trod enc Try.prog w base (fun _ => true) true fuel 83 [.slice a len cap] = some x) : IsActs7 w a len cap := by
  rcases open_slice Try.underlying83 h with ⟨h0, _⟩ | ⟨a', len', cap', m, n', D, Pl, hcs, hb, hl, hm, hmm, hx, hi⟩
  · simp at h0; exact .inl h0.2.1
  · simp at hcs
    obtain ⟨rfl, rfl, rfl⟩ := hcs
    have hcell : ∀ i, i < len → ∀ (j : Nat) (f : Field), j < 7 → (∃ fs, Try.prog.underlying 87 = some (.struct fs) ∧ fs[j]? = some f) → ∃ (c : Value) (y : DataW H × List MemPlace) (n : Nat), w.cell? (a'.add (i * 7 + j)) = some c ∧ DataW.trod enc Try.prog w base (fun _ => true) true n f.type [c] = some y := by
      rintro i hil j f hj ⟨fs, hfs, hf⟩
      obtain ⟨hone, hfsz⟩ := fields87 fs hfs
      obtain ⟨cs', hc, ht'⟩ := hi i (by rw [hmm]; simp; omega)
      rw [show Try.prog.cellsOf 87 = 7 by kernel_rfl] at hc
      obtain ⟨ys, n'', hn', hy, hlen, hyl, hff⟩ := DataW.trod_struct hfs ht'
      obtain ⟨_, hcl, hat⟩ := World.cells?_some hc
      obtain ⟨ho, hk⟩ := hone_of hone j f hf
      have hv : cs'[j]? = some (cs'[j]'(by omega)) := List.getElem?_eq_getElem (by omega)
      have h1 := hff j f hf
      rw [ho, hk] at h1
      have hone' : (cs'.drop j).take 1 = [cs'[j]'(by omega)] := by
        rw [List.drop_eq_getElem_cons (by omega)]
        rfl
      rw [hone'] at h1
      have hyl' : ys.length = 7 := by omega
      have hys : ys[j]? = some (ys[j]'(by omega)) := List.getElem?_eq_getElem (by omega)
      exact ⟨_, _, _, by rw [← Go.Deep.add_add, hat j (by omega), hv], h1.trans hys⟩
    have all : ∀ i, i < len → ∃ (k p a y c : Int) (q : Bool) (x : Int), inI p ∧ inI y ∧ w.cell? (a'.add (i * 7 + 0)) = some (.int .i64 k) ∧ w.cell? (a'.add (i * 7 + 1)) = some (.int .i64 p) ∧ w.cell? (a'.add (i * 7 + 2)) = some (.int .i64 a) ∧ w.cell? (a'.add (i * 7 + 3)) = some (.int .i64 y) ∧
        w.cell? (a'.add (i * 7 + 4)) = some (.int .i64 c) ∧ w.cell? (a'.add (i * 7 + 5)) = some (.bool q) ∧ w.cell? (a'.add (i * 7 + 6)) = some (.int .i64 x) := by
      intro i hil
      obtain ⟨c0, _, _, k0, e0⟩ := hcell i hil 0 _ (by omega) ⟨_, Try.underlying87, rfl⟩
      obtain ⟨c1, _, _, k1, e1⟩ := hcell i hil 1 _ (by omega) ⟨_, Try.underlying87, rfl⟩
      obtain ⟨c2, _, _, k2, e2⟩ := hcell i hil 2 _ (by omega) ⟨_, Try.underlying87, rfl⟩
      obtain ⟨c3, _, _, k3, e3⟩ := hcell i hil 3 _ (by omega) ⟨_, Try.underlying87, rfl⟩
      obtain ⟨c4, _, _, k4, e4⟩ := hcell i hil 4 _ (by omega) ⟨_, Try.underlying87, rfl⟩
      obtain ⟨c5, _, _, k5, e5⟩ := hcell i hil 5 _ (by omega) ⟨_, Try.underlying87, rfl⟩
      obtain ⟨c6, _, _, k6, e6⟩ := hcell i hil 6 _ (by omega) ⟨_, Try.underlying87, rfl⟩
      obtain ⟨z0, h0, _, _⟩ := DataW.trod_int Try.underlying3 e0
      obtain ⟨z1, h1, _, g1⟩ := DataW.trod_int Try.underlying3 e1
      obtain ⟨z2, h2, _, _⟩ := DataW.trod_int Try.underlying3 e2
      obtain ⟨z3, h3, _, g3⟩ := DataW.trod_int Try.underlying3 e3
      obtain ⟨z4, h4, _, _⟩ := DataW.trod_int Try.underlying3 e4
      obtain ⟨q, h5, _⟩ := DataW.trod_bool Try.underlying4 e5
      obtain ⟨z6, h6, _, _⟩ := DataW.trod_int Try.underlying3 e6
      obtain rfl : c0 = .int .i64 z0 := by simpa using h0
      obtain rfl : c1 = .int .i64 z1 := by simpa using h1
      obtain rfl : c2 = .int .i64 z2 := by simpa using h2
      obtain rfl : c3 = .int .i64 z3 := by simpa using h3
      obtain rfl : c4 = .int .i64 z4 := by simpa using h4
      obtain rfl : c5 = .bool q := by simpa using h5
      obtain rfl : c6 = .int .i64 z6 := by simpa using h6
      exact ⟨z0, z1, z2, z3, z4, q, z6, wf_in g1, wf_in g3, k0, k1, k2, k3, k4, k5, k6⟩
    clear hcell
    obtain ⟨b, off, sp⟩ := a'
    by_cases hl0 : 0 < len
    · obtain ⟨z, _, _, _, _, _, _, _, _, hz, _⟩ := all 0 hl0
      have hsp : sp = none := by simpa [Addr.add] using World.cell?_spot hz
      subst hsp
      have hsz : b < w.heap.size := by have := World.block_lt_of_cell? _ _ hz; simpa [Addr.add] using this
      have had : ∀ n, (⟨b, off, none⟩ : Addr).add n = ⟨b, off + n, none⟩ := fun n => by
        rw [Addr.add]; split
        · next h0 => rw [h0]; rfl
        · rfl
      refine .inr ⟨b, off, rfl, hl0, hl, hm, hsz, fun i hi' => ?_⟩
      obtain ⟨k, p, a, y, c, q, x, i1, i2, e0, e1, e2, e3, e4, e5, e6⟩ := all i hi'
      rw [had] at e0 e1 e2 e3 e4 e5 e6
      exact ⟨k, p, a, y, c, q, x, i1, i2, e0, by rw [Nat.add_assoc]; exact e1, by rw [Nat.add_assoc]; exact e2, by rw [Nat.add_assoc]; exact e3, by rw [Nat.add_assoc]; exact e4, by rw [Nat.add_assoc]; exact e5, by rw [Nat.add_assoc]; exact e6⟩
    · exact .inl (by omega)
end
end Go.Proofs.Ytffjaaolcphonaa
