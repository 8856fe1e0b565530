/- An act of the laws of threads and of activations, opened. -/
import Derived.Test.YtffjaaolcphonaaDoorThr1
import Derived.Test.YtffjaaolcphonaaDoorRows1
import Derived.OpenShut
import Derived.Test.YtffjaaolcphonaaDoorActs
import Derived.OrdersHeld
namespace Go.Proofs.YtffjaaolcphonaaDoor
open Go.ChangeShapes Go.WideShapes Go.Deep Go.RowKit
/-- What is done, as the laws of threads and of activations have it. -/
structure LAct where
  k : Int
  i : Int
  t : Int
  re : Bool
  c : Ctx
section
variable {H : Type} {enc : TypeId × Value → H} {w : World} {base : Nat} {sp : Nat → Bool} {held : Bool}
theorem cells3 : Tryd.prog.cellsOf 3 = 1 := by kernel_rfl
theorem cells4 : Tryd.prog.cellsOf 4 = 1 := by kernel_rfl
theorem cells56 : Tryd.prog.cellsOf 56 = 8 := by kernel_rfl
theorem cells58 : Tryd.prog.cellsOf 58 = 11 := by kernel_rfl
theorem cells60 : Tryd.prog.cellsOf 60 = 15 := by kernel_rfl
theorem cells105 : Tryd.prog.cellsOf 105 = 15 := by kernel_rfl
theorem int_trod {fuel : Nat} {c : Value} {x : Option (DataW H × List MemPlace)} (h : DataW.trod enc Tryd.prog w base sp held fuel 3 [c] = x) (hx : x.isSome = true) : ∃ z, c = .int .i64 z ∧ (Lit.int .i64 z).wf = true := by
  obtain ⟨y, hy⟩ := Option.isSome_iff_exists.1 hx
  rw [hy] at h
  obtain ⟨z, hz, _, g⟩ := DataW.trod_int Tryd.underlying3 h
  exact ⟨z, by simpa using hz, g⟩
set_option maxRecDepth 100000 in
theorem regs_trod {fuel : Nat} {c0 c1 c2 c3 c4 c5 c6 c7 : Value} {x : Option (DataW H × List MemPlace)} (h : DataW.trod enc Tryd.prog w base sp held fuel 56 [c0, c1, c2, c3, c4, c5, c6, c7] = x) (hx : x.isSome = true) :
    ∃ z0 z1 z2 z3 z4 z5 z6 z7 : Int, c0 = .int .i64 z0 ∧ c1 = .int .i64 z1 ∧ c2 = .int .i64 z2 ∧ c3 = .int .i64 z3 ∧ c4 = .int .i64 z4 ∧ c5 = .int .i64 z5 ∧ c6 = .int .i64 z6 ∧ c7 = .int .i64 z7 := by
  obtain ⟨y, hy⟩ := Option.isSome_iff_exists.1 hx
  rw [hy] at h
  obtain ⟨xs, m, _, _, _, hlen, hi⟩ := DataW.trod_array Tryd.underlying56 h
  rw [cells3] at hi
  have hs : ∀ i, i < 8 → (xs[i]?).isSome = true := fun i h => by rw [List.getElem?_eq_getElem (by omega)]; rfl
  obtain ⟨z0, e0, _⟩ := int_trod (hi 0 (by omega)) (hs 0 (by omega))
  obtain ⟨z1, e1, _⟩ := int_trod (hi 1 (by omega)) (hs 1 (by omega))
  obtain ⟨z2, e2, _⟩ := int_trod (hi 2 (by omega)) (hs 2 (by omega))
  obtain ⟨z3, e3, _⟩ := int_trod (hi 3 (by omega)) (hs 3 (by omega))
  obtain ⟨z4, e4, _⟩ := int_trod (hi 4 (by omega)) (hs 4 (by omega))
  obtain ⟨z5, e5, _⟩ := int_trod (hi 5 (by omega)) (hs 5 (by omega))
  obtain ⟨z6, e6, _⟩ := int_trod (hi 6 (by omega)) (hs 6 (by omega))
  obtain ⟨z7, e7, _⟩ := int_trod (hi 7 (by omega)) (hs 7 (by omega))
  exact ⟨z0, z1, z2, z3, z4, z5, z6, z7, e0, e1, e2, e3, e4, e5, e6, e7⟩
set_option maxRecDepth 100000 in
theorem ctx_trod {fuel : Nat} {cs : List Value} {x : Option (DataW H × List MemPlace)} (h : DataW.trod enc Tryd.prog w base sp held fuel 58 cs = x) (hx : x.isSome = true) : ∃ c : Ctx, cs = [.int .i64 c.p, .int .i64 c.q, .int .i64 c.r0, .int .i64 c.r1, .int .i64 c.r2, .int .i64 c.r3, .int .i64 c.r4, .int .i64 c.r5, .int .i64 c.r6, .int .i64 c.r7, .int .i64 c.d] := by
  obtain ⟨y, hy⟩ := Option.isSome_iff_exists.1 hx
  rw [hy] at h
  obtain ⟨xs, m, _, _, hl, hlen, hi⟩ := DataW.trod_struct Tryd.underlying58 h
  rw [cells58] at hl
  have hlen' : xs.length = 4 := by simpa using hlen
  have hs : ∀ i, i < 4 → (xs[i]?).isSome = true := fun i h => by rw [List.getElem?_eq_getElem (by omega)]; rfl
  match cs, hl with
  | [a0, a1, a2, a3, a4, a5, a6, a7, a8, a9, a10], _ =>
    have h0 := hi 0 ⟨"Program", 3, 0, false, "", "", 0⟩ rfl
    have h1 := hi 1 ⟨"PC", 3, 1, false, "", "", 8⟩ rfl
    have h2 := hi 2 ⟨"Regs", 56, 2, false, "", "", 16⟩ rfl
    have h3 := hi 3 ⟨"Depth", 3, 10, false, "", "", 80⟩ rfl
    dsimp only at h0 h1 h2 h3
    rw [cells3] at h0 h1 h3
    rw [cells56] at h2
    obtain ⟨p, e0, _⟩ := int_trod h0 (hs 0 (by omega))
    obtain ⟨q, e1, _⟩ := int_trod h1 (hs 1 (by omega))
    obtain ⟨r0, r1, r2, r3, r4, r5, r6, r7, f0, f1, f2, f3, f4, f5, f6, f7⟩ := regs_trod h2 (hs 2 (by omega))
    obtain ⟨d, e3, _⟩ := int_trod h3 (hs 3 (by omega))
    subst e0 e1 e3 f0 f1 f2 f3 f4 f5 f6 f7
    exact ⟨⟨p, q, r0, r1, r2, r3, r4, r5, r6, r7, d⟩, rfl⟩
set_option maxRecDepth 100000 in
theorem lact_trod {fuel : Nat} {T : TypeId} (hT : T = 60 ∨ T = 105) {cs : List Value} {x : DataW H × List MemPlace} (h : DataW.trod enc Tryd.prog w base sp held fuel T cs = some x) : ∃ a : LAct, cs = [.int .i64 a.k, .int .i64 a.i, .int .i64 a.t, .bool a.re, .int .i64 a.c.p, .int .i64 a.c.q, .int .i64 a.c.r0, .int .i64 a.c.r1, .int .i64 a.c.r2, .int .i64 a.c.r3, .int .i64 a.c.r4, .int .i64 a.c.r5, .int .i64 a.c.r6, .int .i64 a.c.r7, .int .i64 a.c.d] ∧ (Lit.int .i64 a.k).wf = true ∧ (Lit.int .i64 a.i).wf = true ∧ (Lit.int .i64 a.t).wf = true := by
  have key : ∀ (fs : Array Field) (n0 n1 n2 n3 n4 : String) (b0 b1 b2 b3 b4 : Nat), Tryd.prog.underlying T = some (.struct #[⟨n0, 3, 0, false, "", "", b0⟩, ⟨n1, 3, 1, false, "", "", b1⟩, ⟨n2, 3, 2, false, "", "", b2⟩, ⟨n3, 4, 3, false, "", "", b3⟩, ⟨n4, 58, 4, false, "", "", b4⟩]) → Tryd.prog.cellsOf T = 15 →
      ∃ a : LAct, cs = [.int .i64 a.k, .int .i64 a.i, .int .i64 a.t, .bool a.re, .int .i64 a.c.p, .int .i64 a.c.q, .int .i64 a.c.r0, .int .i64 a.c.r1, .int .i64 a.c.r2, .int .i64 a.c.r3, .int .i64 a.c.r4, .int .i64 a.c.r5, .int .i64 a.c.r6, .int .i64 a.c.r7, .int .i64 a.c.d] ∧ (Lit.int .i64 a.k).wf = true ∧ (Lit.int .i64 a.i).wf = true ∧ (Lit.int .i64 a.t).wf = true := by
    intro fs n0 n1 n2 n3 n4 b0 b1 b2 b3 b4 hu hc
    obtain ⟨xs, m, _, _, hl, hlen, hi⟩ := DataW.trod_struct hu h
    rw [hc] at hl
    have hlen' : xs.length = 5 := by simpa using hlen
    have hs : ∀ i, i < 5 → (xs[i]?).isSome = true := fun i h => by rw [List.getElem?_eq_getElem (by omega)]; rfl
    match cs, hl with
    | [a0, a1, a2, a3, a4, a5, a6, a7, a8, a9, a10, a11, a12, a13, a14], _ =>
      have h0 := hi 0 ⟨n0, 3, 0, false, "", "", b0⟩ rfl
      have h1 := hi 1 ⟨n1, 3, 1, false, "", "", b1⟩ rfl
      have h2 := hi 2 ⟨n2, 3, 2, false, "", "", b2⟩ rfl
      have h3 := hi 3 ⟨n3, 4, 3, false, "", "", b3⟩ rfl
      have h4 := hi 4 ⟨n4, 58, 4, false, "", "", b4⟩ rfl
      dsimp only at h0 h1 h2 h3 h4
      rw [cells3] at h0 h1 h2
      rw [cells4] at h3
      rw [cells58] at h4
      obtain ⟨k, e0, w0⟩ := int_trod h0 (hs 0 (by omega))
      obtain ⟨i, e1, w1⟩ := int_trod h1 (hs 1 (by omega))
      obtain ⟨t, e2, w2⟩ := int_trod h2 (hs 2 (by omega))
      obtain ⟨y, hy⟩ := Option.isSome_iff_exists.1 (hs 3 (by omega))
      rw [hy] at h3
      obtain ⟨q, e3, _⟩ := DataW.trod_bool Tryd.underlying4 h3
      obtain rfl : a3 = .bool q := by simpa using e3
      obtain ⟨c, e4⟩ := ctx_trod h4 (hs 4 (by omega))
      have e5 : [a4, a5, a6, a7, a8, a9, a10, a11, a12, a13, a14] = [.int .i64 c.p, .int .i64 c.q, .int .i64 c.r0, .int .i64 c.r1, .int .i64 c.r2, .int .i64 c.r3, .int .i64 c.r4, .int .i64 c.r5, .int .i64 c.r6, .int .i64 c.r7, .int .i64 c.d] := e4
      subst e0 e1 e2
      refine ⟨⟨k, i, t, q, c⟩, ?_, w0, w1, w2⟩
      simp only [List.cons.injEq, and_true] at e5
      obtain ⟨rfl, rfl, rfl, rfl, rfl, rfl, rfl, rfl, rfl, rfl, rfl⟩ := e5
      rfl
  rcases hT with rfl | rfl
  · exact key #[] _ _ _ _ _ _ _ _ _ _ Tryd.underlying60 cells60
  · exact key #[] _ _ _ _ _ _ _ _ _ _ Tryd.underlying105 cells105
set_option maxRecDepth 100000 in
/-- By value. -/
theorem open_lact {r : Reach} {b0 : Nat} {T : TypeId} (hT : T = 60 ∨ T = 105) {v : Value} {d : DataW H} {p : List MemPlace} (hv : Value.okWide Tryd.prog w r b0 T v) (h : DataW.Trod enc Tryd.prog w base sp held T v d p) :
    ∃ a : LAct, v = (Value.agg #[.int .i64 a.k, .int .i64 a.i, .int .i64 a.t, .bool a.re, .int .i64 a.c.p, .int .i64 a.c.q, .int .i64 a.c.r0, .int .i64 a.c.r1, .int .i64 a.c.r2, .int .i64 a.c.r3, .int .i64 a.c.r4, .int .i64 a.c.r5, .int .i64 a.c.r6, .int .i64 a.c.r7, .int .i64 a.c.d]) ∧ (Lit.int .i64 a.k).wf = true ∧ (Lit.int .i64 a.i).wf = true ∧ (Lit.int .i64 a.t).wf = true := by
  obtain ⟨fuel, hf⟩ := h
  obtain ⟨cs, rfl, hl⟩ : ∃ cs : Array Value, v = .agg cs ∧ cs.size = Tryd.prog.cellsOf T := by
    rcases hT with rfl | rfl
    · exact okWide_struct Tryd.underlying60 hv
    · exact okWide_struct Tryd.underlying105 hv
  obtain ⟨l⟩ := cs
  obtain ⟨a, ha, w0, w1, w2⟩ := lact_trod hT hf
  have e : l = [.int .i64 a.k, .int .i64 a.i, .int .i64 a.t, .bool a.re, .int .i64 a.c.p, .int .i64 a.c.q, .int .i64 a.c.r0, .int .i64 a.c.r1, .int .i64 a.c.r2, .int .i64 a.c.r3, .int .i64 a.c.r4, .int .i64 a.c.r5, .int .i64 a.c.r6, .int .i64 a.c.r7, .int .i64 a.c.d] := ha
  subst e
  exact ⟨a, rfl, w0, w1, w2⟩
end
end Go.Proofs.YtffjaaolcphonaaDoor
/- A slice of acts that came in; a held walk's set, strengthened. -/
namespace Go.Proofs.YtffjaaolcphonaaDoor
open Go.ChangeShapes Go.WideShapes Go.Deep Go.RowKit
def l0 : LAct := ⟨0, 0, 0, false, c0⟩
def IsLActs (w : World) (a : Option Addr) (len cap : Nat) (F : Nat → LAct) : Prop :=
  len = 0 ∨ ∃ b off, a = some ⟨b, off, none⟩ ∧ 0 < len ∧ len ≤ cap ∧ cap ≤ maxLen ∧ b < w.heap.size ∧ ∀ i, i < len → w.rangeAt b (off + i * 15) [.int .i64 (F i).k, .int .i64 (F i).i, .int .i64 (F i).t, .bool (F i).re, .int .i64 (F i).c.p, .int .i64 (F i).c.q, .int .i64 (F i).c.r0, .int .i64 (F i).c.r1, .int .i64 (F i).c.r2, .int .i64 (F i).c.r3, .int .i64 (F i).c.r4, .int .i64 (F i).c.r5, .int .i64 (F i).c.r6, .int .i64 (F i).c.r7, .int .i64 (F i).c.d] ∧ (Lit.int .i64 (F i).i).wf = true
section
variable {H : Type} {enc : TypeId × Value → H} {w : World} {base : Nat}
set_option maxRecDepth 100000 in
theorem open_lacts {t T : TypeId} (hT : T = 60 ∨ T = 105) {fuel : Nat} {a : Option Addr} {len cap : Nat} {x : DataW H × List MemPlace} (ht : Tryd.prog.underlying t = some (.slice T)) (h : DataW.trod enc Tryd.prog w base (fun _ => true) true fuel t [.slice a len cap] = some x) : ∃ F, IsLActs w a len cap F := by
  have hC : Tryd.prog.cellsOf T = 15 := by rcases hT with rfl | rfl; exact cells60; exact cells105
  rcases open_slice ht h with ⟨h0, _⟩ | ⟨a', len', cap', m, n', D, Pl, hcs, hb, hl, hm, hmm, hx, hi⟩
  · simp at h0; exact ⟨fun _ => l0, .inl h0.2.1⟩
  · simp at hcs
    obtain ⟨rfl, rfl, rfl⟩ := hcs
    have hc : ∀ i, i < len → ∃ y : LAct, (∀ j v, ([.int .i64 y.k, .int .i64 y.i, .int .i64 y.t, .bool y.re, .int .i64 y.c.p, .int .i64 y.c.q, .int .i64 y.c.r0, .int .i64 y.c.r1, .int .i64 y.c.r2, .int .i64 y.c.r3, .int .i64 y.c.r4, .int .i64 y.c.r5, .int .i64 y.c.r6, .int .i64 y.c.r7, .int .i64 y.c.d] : List Value)[j]? = some v → w.cell? (a'.add (i * 15 + j)) = some v) ∧ (Lit.int .i64 y.i).wf = true := by
      intro i hil
      obtain ⟨cs', hc, ht'⟩ := hi i (by rw [hmm]; simp; omega)
      rw [hC] at hc
      obtain ⟨_, hcl, hat⟩ := World.cells?_some hc
      obtain ⟨y, hy, _, hwf, _⟩ := lact_trod hT ht'
      refine ⟨y, fun j v hv => ?_, hwf⟩
      have hj : j < 15 := (List.getElem?_eq_some_iff.1 hv).1
      rw [← Go.Deep.add_add, hat j (by omega), hy]; exact hv
    obtain ⟨b, off, sp⟩ := a'
    by_cases hl0 : 0 < len
    · obtain ⟨y0, hy0, _⟩ := hc 0 hl0
      have hz := hy0 0 _ rfl
      have hsp : sp = none := by simpa [Addr.add] using World.cell?_spot hz
      subst hsp
      have hsz : b < w.heap.size := by have := World.block_lt_of_cell? _ _ hz; simpa [Addr.add] using this
      refine ⟨fun i => if h : i < len then Classical.choose (hc i h) else l0, .inr ⟨b, off, rfl, hl0, hl, hm, hsz, fun i hi' => ?_⟩⟩
      have hsp := Classical.choose_spec (hc i hi')
      have e : (if h : i < len then Classical.choose (hc i h) else l0) = Classical.choose (hc i hi') := dif_pos hi'
      show w.rangeAt b (off + i * 15) [.int .i64 (if h : i < len then Classical.choose (hc i h) else l0).k, .int .i64 (if h : i < len then Classical.choose (hc i h) else l0).i, .int .i64 (if h : i < len then Classical.choose (hc i h) else l0).t, .bool (if h : i < len then Classical.choose (hc i h) else l0).re, .int .i64 (if h : i < len then Classical.choose (hc i h) else l0).c.p, .int .i64 (if h : i < len then Classical.choose (hc i h) else l0).c.q, .int .i64 (if h : i < len then Classical.choose (hc i h) else l0).c.r0, .int .i64 (if h : i < len then Classical.choose (hc i h) else l0).c.r1, .int .i64 (if h : i < len then Classical.choose (hc i h) else l0).c.r2, .int .i64 (if h : i < len then Classical.choose (hc i h) else l0).c.r3, .int .i64 (if h : i < len then Classical.choose (hc i h) else l0).c.r4, .int .i64 (if h : i < len then Classical.choose (hc i h) else l0).c.r5, .int .i64 (if h : i < len then Classical.choose (hc i h) else l0).c.r6, .int .i64 (if h : i < len then Classical.choose (hc i h) else l0).c.r7, .int .i64 (if h : i < len then Classical.choose (hc i h) else l0).c.d] ∧ (Lit.int .i64 (if h : i < len then Classical.choose (hc i h) else l0).i).wf = true
      rw [e]
      refine ⟨fun j v hv => ?_, hsp.2⟩
      have h1 := hsp.1 j v hv
      rw [← h1, Nat.add_assoc]
      unfold Addr.add
      split
      · next h0 => rw [h0]; rfl
      · rfl
    · exact ⟨fun _ => l0, .inl (by omega)⟩
end
/-- A held walk's set, made stronger on the way. -/
theorem wpAnyH_strong {P : Program} {md : Region.Mode} {ops : Array Oper} {Q : Exit → Act → World → Prop} {S S' : World → Prop} (hs : ∀ w, S' w → S w) : ∀ (f : Nat) (listed : Array Bool) (a : Act) (w : World), wpAnyH P md ops Q S' f listed a w → wpAnyH P md ops Q S f listed a w
  | 0, _, _, _, h => h
  | f + 1, _, _, _, h => ⟨h.1, fun i hi => wpOp_mono (fun a' w' h' => ⟨hs w' h'.1, wpAnyH_strong hs f _ a' w' h'.2⟩) (h.2 i hi)⟩
end Go.Proofs.YtffjaaolcphonaaDoor
