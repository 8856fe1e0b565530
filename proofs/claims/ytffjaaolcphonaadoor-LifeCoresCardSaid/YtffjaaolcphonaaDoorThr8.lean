/- Threads: rows of them; All. -/
import Derived.Test.YtffjaaolcphonaaDoorBdThr
import Derived.Test.YtffjaaolcphonaaDoorSRow
import Derived.Test.YtffjaaolcphonaaDoorIter
namespace Go.Proofs.YtffjaaolcphonaaDoor
open Go.RowKit Go.Maps
set_option linter.unusedSimpArgs false
theorem cells_one (x : Thr) : ∀ v ∈ ([.int .i64 x.i, .int .i64 x.s, .int .i64 x.t, .int .i64 x.c.p, .int .i64 x.c.q, .int .i64 x.c.r0, .int .i64 x.c.r1, .int .i64 x.c.r2, .int .i64 x.c.r3, .int .i64 x.c.r4, .int .i64 x.c.r5, .int .i64 x.c.r6, .int .i64 x.c.r7, .int .i64 x.c.d, .int .i64 x.d] : List Value), v.oneCell' = true := ones x
/-- []thread.Thread -/
def S68 : SK Thr := ⟨68, 77, 15, 120, (Value.agg #[.int .i64 t0.i, .int .i64 t0.s, .int .i64 t0.t, .int .i64 t0.c.p, .int .i64 t0.c.q, .int .i64 t0.c.r0, .int .i64 t0.c.r1, .int .i64 t0.c.r2, .int .i64 t0.c.r3, .int .i64 t0.c.r4, .int .i64 t0.c.r5, .int .i64 t0.c.r6, .int .i64 t0.c.r7, .int .i64 t0.c.d, .int .i64 t0.d]), fun x => [.int .i64 x.i, .int .i64 x.s, .int .i64 x.t, .int .i64 x.c.p, .int .i64 x.c.q, .int .i64 x.c.r0, .int .i64 x.c.r1, .int .i64 x.c.r2, .int .i64 x.c.r3, .int .i64 x.c.r4, .int .i64 x.c.r5, .int .i64 x.c.r6, .int .i64 x.c.r7, .int .i64 x.c.d, .int .i64 x.d], Tryd.underlying68, by kernel_rfl, rfl, by decide, by decide, fun _ => rfl, cells_one⟩
/-- The document's. -/
def S66 : SK Thr := ⟨66, 80, 15, 120, (Value.agg #[.int .i64 t0.i, .int .i64 t0.s, .int .i64 t0.t, .int .i64 t0.c.p, .int .i64 t0.c.q, .int .i64 t0.c.r0, .int .i64 t0.c.r1, .int .i64 t0.c.r2, .int .i64 t0.c.r3, .int .i64 t0.c.r4, .int .i64 t0.c.r5, .int .i64 t0.c.r6, .int .i64 t0.c.r7, .int .i64 t0.c.d, .int .i64 t0.d]), fun x => [.int .i64 x.i, .int .i64 x.s, .int .i64 x.t, .int .i64 x.c.p, .int .i64 x.c.q, .int .i64 x.c.r0, .int .i64 x.c.r1, .int .i64 x.c.r2, .int .i64 x.c.r3, .int .i64 x.c.r4, .int .i64 x.c.r5, .int .i64 x.c.r6, .int .i64 x.c.r7, .int .i64 x.c.d, .int .i64 x.d], Tryd.underlying66, by kernel_rfl, rfl, by decide, by decide, fun _ => rfl, cells_one⟩
section
variable {w w' : World} {P : Nat} {B : SB} {M : Nat} {s : SS} {L : List Thr}
variable {ops : Array Oper} {rest : List Oper} {o : Oper} {a : Act} {Q : Exit → Act → World → Prop} {b : Nat}
theorem wpList_lookT2 (hgd : Region.wanted o (yielded ops a.tmps) = true) (m x : Operand) (hop : o.op = Op.lookup 88 m x false) (h : MapL thrE Tryd.prog w b L) (hm : a.eval m = .map (some b)) (y : Thr) (hy : y ∈ L) (wf : (Lit.int .i64 y.i).wf = true) (hx : a.eval x = .int .i64 y.i)
    (hK : wpList Tryd.prog ops Q rest (a.put o.dst (Value.agg #[.int .i64 y.i, .int .i64 y.s, .int .i64 y.t, .int .i64 y.c.p, .int .i64 y.c.q, .int .i64 y.c.r0, .int .i64 y.c.r1, .int .i64 y.c.r2, .int .i64 y.c.r3, .int .i64 y.c.r4, .int .i64 y.c.r5, .int .i64 y.c.r6, .int .i64 y.c.r7, .int .i64 y.c.d, .int .i64 y.d])) w) : wpList Tryd.prog ops Q (o :: rest) a w :=
  wpList_look hgd m x 88 77 hop Tryd.underlying88 Tryd.underlying3 t0 (zero77 _) h hm y.i wf hx (by
    rw [show thrE.fnd L y.i = some y from thrE.fnd_mem h.2 hy]; exact hK)
set_option maxRecDepth 100000 in
set_option maxHeartbeats 4000000 in
theorem tall (h : TAt w P B M s L) (hl : L.length ≤ 100000) (hw : ∀ x ∈ L, (Lit.int .i64 x.i).wf = true) : Calls Tryd.prog 43 #[.pointer (some ⟨P, 0, none⟩)] w fun e w' => ∃ v, e = .returned v ∧ w'.ownsRow w.heap.size 77 15 v L.length (S68.row L) ∧ Still w w' := by
  have H := hid h
  have F1 := h.f1
  have HL := hid hl
  have HW := hid hw
  clear h hl hw
  go_enter Tryd.func43, Tryd.ntmps43
  go_wp2_with (first
    | (go_at_call 94; refine (tmade H.out).mono ?_; rintro e w1 ⟨rfl, rfl⟩)
    | (go_at_call 96; refine (keysT M w).mono ?_; rintro e w1 ⟨rfl, rfl⟩)
    | (go_at_call 95; refine (sortedT H.out.m (by have := HL.out; omega)).mono ?_; rintro e w2 ⟨v, rfl, ho, hs⟩; obtain ⟨a13, c13, rfl⟩ := own_shape ho _ rfl; have O2 := hid ho; have S2 := hid hs; clear ho hs))
  have z2 := S2.out.size
  go_loopw [3, 5, 15] (fun s3 s5 s15 wr => ∃ j : Nat, s15 = .int .i64 j ∧ j ≤ L.length ∧ wr.ownsRow w2.heap.size 77 15 s3 j (S68.row (L.take j)) ∧ Still w2 wr) (fun _ _ s15 _ => L.length - (intOf s15).toNat)
  case atStart => exact ⟨0, rfl, Nat.zero_le _, owns_nilS (S := S68) _ _, Fr.refl _ _⟩
  case round =>
    obtain ⟨j, rfl, hj, ho, hst⟩ := hrel
    have OX := hid ho
    have SX := hid hst
    obtain ⟨a3, c3, rfl⟩ := own_shape ho _ rfl
    clear ho hst
    by_cases hlt : j < L.length
    · have hlt' : (j : Int) < (L.length : Int) := by omega
      rcases own_cells O2.out (by simp) with ⟨_, _, _, m0⟩ | ⟨b2, q2, ev, m0, _, _, hc2⟩
      · omega
      obtain ⟨rfl, rfl⟩ : a13 = some ⟨b2, 0, none⟩ ∧ c13 = q2 := by injection ev with e1 _ e3; exact ⟨e1, e3⟩
      have c2 := Still.cell SX.out (hc2 j hlt)
      have hx : L[j] ∈ L := List.getElem_mem hlt
      obtain ⟨x, hxx⟩ : ∃ x, L[j] = x := ⟨_, rfl⟩
      rw [show (L.map thrE.key).getD j 0 = x.i by simp [List.getD_eq_getElem?_getD, hlt, hxx, thrE]] at c2
      rw [hxx] at hx
      have HX := hid hx
      have HXX := hid hxx
      have G1 := Still.cell (S2.out.trans SX.out) F1
      clear hc2 ev hx hxx
      have zx := SX.out.size
      have hbb := HL.out
      go_wp2_with (first
        | (at_lookup; refine wpList_lookT2 rfl (.tmp 23) (.tmp 24) rfl (H.out.m.still (S2.out.trans SX.out)) rfl x HX.out (HW.out x HX.out) rfl ?_)
        | (at_builtin; refine wpList_append_srow (S := S68) rfl (.tmp 19) (.tmp 26) rfl w2.heap.size j (L.take j) [x] _ _ rfl rfl (OX.out.alloc _) (one_newS (S := S68) _ x _) (by have := HL.out; simp; omega) (by simp; omega) ?_; intro v5 w5 ho5 hg5 hl5; have O5 := hid ho5; have S5 : Hid (Still w2 w5) := hid (Fr.of_own (SX.out.alloc _) (OX.out.alloc _) hg5 (Nat.le_refl _)); clear ho5 hg5 hl5))
      go_roundw
      case rel => exact ⟨j + 1, by go_num, by omega, by have h := O5.out; rw [← HXX.out, List.take_append_getElem hlt] at h; exact h, S5.out⟩
      case measure => simp [intOf]; omega
    · have hlt' : ¬ (j : Int) < (L.length : Int) := by omega
      go_wp2_with fail
      go_ret
      have e : j = L.length := by omega
      refine ⟨_, rfl, ?_, S2.out.trans SX.out⟩
      have h := ownsRow_base OX.out (show w.heap.size ≤ w2.heap.size from S2.out.size)
      rw [e, List.take_length] at h
      rw [e]; exact h
end
end Go.Proofs.YtffjaaolcphonaaDoor
