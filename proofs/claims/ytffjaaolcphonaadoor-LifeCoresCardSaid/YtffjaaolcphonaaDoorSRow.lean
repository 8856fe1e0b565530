/- Slices of structs: rows of as many cells an element; append. -/
import Derived.Test.YtffjaaolcphonaaDoorBase
import Derived.Test.YtffjaaolcphonaaDoorStoreB
namespace Go.Proofs.YtffjaaolcphonaaDoor
open Go.RowKit
/-- A kind of rows: the slice's type, the element's, its cells. -/
structure SK (α : Type) where
  T : TypeId
  Et : TypeId
  sz : Nat
  bts : Nat
  z : Value
  cells : α → List Value
  ht : Tryd.prog.underlying T = some (.slice Et)
  info : (Tryd.prog.info? Et).map (fun i => (i.zero, i.size, i.bytes)) = some (some z, sz, bts)
  hz : z.cells.size = sz
  sz0 : 0 < sz
  bts1 : bts ≤ 1000
  len : ∀ x, (cells x).length = sz
  one : ∀ x, ∀ v ∈ cells x, v.oneCell' = true
section
variable {α : Type} (S : SK α)
def SK.row (L : List α) : List Value := L.flatMap S.cells
theorem SK.row_len (L : List α) : (S.row L).length = L.length * S.sz := by
  unfold SK.row
  induction L with
  | nil => simp
  | cons x r ih => rw [List.flatMap_cons, List.length_append, S.len, ih, List.length_cons, Nat.add_mul]; omega
theorem SK.row_at {L : List α} {i : Nat} (hi : i < L.length) {j : Nat} (hj : j < S.sz) : (S.row L)[i * S.sz + j]? = (S.cells L[i])[j]? := by
  induction L generalizing i with
  | nil => cases hi
  | cons x r ih =>
    unfold SK.row at ih ⊢
    rw [List.flatMap_cons]
    cases i with
    | zero =>
      rw [Nat.zero_mul, Nat.zero_add, List.getElem?_append_left (by rw [S.len]; exact hj)]; rfl
    | succ i =>
      rw [List.getElem?_append_right (by rw [S.len, Nat.add_mul]; omega), S.len]
      rw [show (i + 1) * S.sz + j - S.sz = i * S.sz + j by rw [Nat.add_mul]; omega]
      exact ih (by simpa using hi)
theorem SK.row_one (L : List α) : ∀ v ∈ S.row L, v.oneCell' = true := by
  intro v hv
  obtain ⟨x, _, hx⟩ := List.mem_flatMap.1 hv
  exact S.one x v hx
theorem SK.row_app (L M : List α) : S.row (L ++ M) = S.row L ++ S.row M := by simp [SK.row]
/-- This slice holds these. -/
def SRow (w : World) (v : Value) (L : List α) : Prop := (L = [] ∧ ∃ a c, v = .slice a 0 c) ∨ (0 < L.length ∧ ∃ b off c, v = .slice (some ⟨b, off, none⟩) L.length c ∧ w.rangeAt b off (S.row L))
variable {S} {w w' : World} {v : Value} {L : List α}
theorem SRow.shape (h : SRow S w v L) : ∃ a c, v = .slice a L.length c := by
  rcases h with ⟨rfl, a, c, rfl⟩ | ⟨_, b, off, c, rfl, _⟩
  · exact ⟨a, c, rfl⟩
  · exact ⟨_, c, rfl⟩
theorem SRow.still (h : SRow S w v L) (hs : Still w w') : SRow S w' v L := by
  rcases h with h | ⟨h0, b, off, c, hv, hc⟩
  · exact .inl h
  · exact .inr ⟨h0, b, off, c, hv, fun j u hu => Still.cell hs (hc j u hu)⟩
theorem SRow.fr (h : SRow S w v L) {F : Nat → Prop} (hf : Fr F w w') (hd : ∀ b off c n, v = .slice (some ⟨b, off, none⟩) n c → ¬ F b) : SRow S w' v L := by
  rcases h with h | ⟨h0, b, off, c, hv, hc⟩
  · exact .inl h
  · exact .inr ⟨h0, b, off, c, hv, fun j u hu => hf.cellK (hc j u hu) (hd b off c _ hv)⟩
theorem SRow.drew (h : SRow S w v L) : SRow S w.drew v L := h
theorem SRow.alloc (h : SRow S w v L) (o : Obj) : SRow S (w.alloc o) v L := h.still ((Fr.refl _ _).alloc _)
theorem SRow.at (h : SRow S w v L) {i : Nat} (hi : i < L.length) : ∃ b off c, v = .slice (some ⟨b, off, none⟩) L.length c ∧ w.rangeAt b (off + i * S.sz) (S.cells L[i]) := by
  rcases h with ⟨rfl, _⟩ | ⟨_, b, off, c, hv, hc⟩
  · cases hi
  · refine ⟨b, off, c, hv, fun j u hu => ?_⟩
    have hj : j < S.sz := by have := (List.getElem?_eq_some_iff.1 hu).1; rwa [S.len] at this
    rw [Nat.add_assoc]
    exact hc _ u (by rw [S.row_at hi hj]; exact hu)
theorem SRow.own {base n : Nat} (h : w.ownsRow base S.Et S.sz v n (S.row L)) (hn : n = L.length) : SRow S w v L := by
  subst hn
  obtain ⟨_, ⟨rfl, h0⟩ | ⟨g, cap, cur, rfl, hg, hcur, h1, h2, h3, h4⟩⟩ := h
  · exact .inl ⟨List.eq_nil_of_length_eq_zero h0, none, 0, rfl⟩
  · by_cases h0 : 0 < L.length
    · refine .inr ⟨h0, g, 0, cap, rfl, fun j u hu => ?_⟩
      rw [← h4, List.getElem?_take] at hu
      split at hu
      · rw [Nat.zero_add]
        simp only [World.cell?, hcur]
        simpa using hu
      · cases hu
    · have e : L = [] := List.eq_nil_of_length_eq_zero (by omega)
      subst e
      exact .inl ⟨rfl, _, _, rfl⟩
theorem owns_nilS (w : World) (base : Nat) : w.ownsRow base S.Et S.sz (.slice none 0 0) 0 (S.row []) := ⟨by simp [SK.row], .inl ⟨rfl, rfl⟩⟩
theorem owns_newS (w : World) : (w.alloc (.cells #[] S.Et)).ownsRow w.heap.size S.Et S.sz (.slice (some ⟨w.heap.size, 0, none⟩) 0 0) 0 (S.row []) :=
  ⟨by simp [SK.row], .inr ⟨_, 0, #[], rfl, Nat.le_refl _, heap_at _ _ _ rfl, Nat.le_refl _, by unfold maxLen; omega, by simp, by simp [SK.row]⟩⟩
/-- The one that was laid for an append. -/
theorem one_newS (w : World) (x : α) (c : Nat) : SRow S (w.alloc (.cells (S.cells x).toArray S.Et)) (.slice (some ⟨w.heap.size, 0, none⟩) 1 c) [x] := by
  refine .inr ⟨by simp, w.heap.size, 0, c, rfl, fun j u hu => ?_⟩
  have e : S.row [x] = S.cells x := by simp [SK.row]
  rw [e] at hu
  rw [Nat.zero_add, (Blk.new w (S.cells x) S.Et).cell j]; exact hu
theorem run_append_srow (w : World) (base : Nat) (ty : TypeId) (v s : Value) (n : Nat) (xs ys : List α) (hown : w.ownsRow base S.Et S.sz v n (S.row xs)) (hs : SRow S w s ys) (hn : n + ys.length ≤ 1000000000) (hb : base ≤ w.heap.size) :
    ∃ v' w', (Builtin.append_ #[S.T, S.T] ty #[v, s]).run Tryd.prog w = .ok v' w' ∧ w'.ownsRow base S.Et S.sz v' (n + ys.length) (S.row (xs ++ ys)) ∧ w.grownBy w' v.ownBlock ∧ (v'.ownBlock = v.ownBlock ∨ v'.ownBlock = some w.heap.size) := by
  obtain ⟨i0, hi, hz0, hz1, hz2⟩ := info_parts S.info
  have b1 := S.bts1
  rcases hs with ⟨rfl, a, c, rfl⟩ | ⟨h0, b, off, c, rfl, hc⟩
  · cases a with
    | none =>
      refine ⟨v, w, ?_, by simpa using hown, World.grownBy.refl w _, .inl rfl⟩
      rcases hown.2 with ⟨rfl, rfl⟩ | ⟨g, cap, cur, rfl, _, _, hnc, _⟩
      · simp [Builtin.append_, run_underlying S.ht, sizeOf, typeInfo, hi, Builtin.lenOf, Builtin.firstCells]
      · simp [Builtin.append_, run_underlying S.ht, sizeOf, typeInfo, hi, Builtin.lenOf, Builtin.firstCells, hnc, storeCells]
    | some ad =>
      obtain ⟨v', w', h1, h2, h3, _, h5⟩ := run_append_own_at (P := Tryd.prog) w base S.T ty S.Et i0 _ S.sz S.bts S.ht hi hz0 hz1 hz2 S.hz S.sz0 v n (S.row xs) hown ad 0 c [] (by simp) (fun j u hu => by simp at hu) (by simp) (by unfold maxLen; simp at hn; omega) (by
        have : (n + 0) * S.bts ≤ 1000000000 * 1000 := Nat.mul_le_mul (by simp at hn; omega) b1
        omega) hb
      exact ⟨v', w', h1, by simpa using h2, h3, h5⟩
  · obtain ⟨v', w', h1, h2, h3, _, h5⟩ := run_append_own_at (P := Tryd.prog) w base S.T ty S.Et i0 _ S.sz S.bts S.ht hi hz0 hz1 hz2 S.hz S.sz0 v n (S.row xs) hown ⟨b, off, none⟩ ys.length c (S.row ys) (S.row_len ys) (fun j u hu => by
        have : (⟨b, off, none⟩ : Addr).add j = ⟨b, off + j, none⟩ := Addr.add_mid b off j
        rw [this]; exact hc j u hu) (S.row_one ys) (by unfold maxLen; omega) (by
        have : (n + ys.length) * S.bts ≤ 1000000000 * 1000 := Nat.mul_le_mul hn b1
        omega) hb
    exact ⟨v', w', h1, by rw [S.row_app]; exact h2, h3, h5⟩
theorem wpList_append_srow {ops : Array Oper} {rest : List Oper} {o : Oper} {a : Act} {w : World} {Q : Exit → Act → World → Prop} (hgd : Region.wanted o (yielded ops a.tmps) = true) (s x : Operand)
    (ho : o.op = .call { callee := .builtin .append, args := #[s, x], argTypes := #[S.T, S.T] })
    (base n : Nat) (xs ys : List α) (v u : Value) (hs : a.eval s = v) (hx : a.eval x = u) (hown : w.ownsRow base S.Et S.sz v n (S.row xs)) (hr : SRow S w u ys) (hn : n + ys.length ≤ 1000000000) (hb : base ≤ w.heap.size)
    (h : ∀ v' w', w'.ownsRow base S.Et S.sz v' (n + ys.length) (S.row (xs ++ ys)) → w.grownBy w' v.ownBlock → (v'.ownBlock = v.ownBlock ∨ v'.ownBlock = some w.heap.size) → wpList Tryd.prog ops Q rest (a.put o.dst v') w') :
    wpList Tryd.prog ops Q (o :: rest) a w := by
  refine BigFrame.wpList_want hgd fun K hK => ?_
  obtain ⟨v', w', h1, h2, h3, h4⟩ := run_append_srow w base o.type v u n xs ys hown hr hn hb
  unfold Oper.wp execOp
  simp only [ho, resolve, invoke, builtin, Sem.run_bind, Sem.run_pure, Result.andThen_ok, List.map_toArray, List.map_cons, List.map_nil, hs, hx, h1]
  exact hK _ _ (h v' w' h2 h3 h4)
theorem step_append_srow {ops : Array Oper} {o : Oper} {a : Act} {w : World} {K : Act → World → Prop} {Q : Exit → Act → World → Prop} {E : Prop} (hgd : Region.wanted o (yielded ops a.tmps) = true) (s x : Operand)
    (ho : o.op = .call { callee := .builtin .append, args := #[s, x], argTypes := #[S.T, S.T] })
    (base n : Nat) (xs ys : List α) (v u : Value) (hs : a.eval s = v) (hx : a.eval x = u) (hown : w.ownsRow base S.Et S.sz v n (S.row xs)) (hr : SRow S w u ys) (hn : n + ys.length ≤ 1000000000) (hb : base ≤ w.heap.size)
    (h : ∀ v' w', w'.ownsRow base S.Et S.sz v' (n + ys.length) (S.row (xs ++ ys)) → w.grownBy w' v.ownBlock → (v'.ownBlock = v.ownBlock ∨ v'.ownBlock = some w.heap.size) → K (a.put o.dst v') w') :
    if Region.wanted o (yielded ops a.tmps) = true then Oper.wp Tryd.prog o a w K Q else E := by
  rw [if_pos hgd]
  obtain ⟨v', w', h1, h2, h3, h4⟩ := run_append_srow w base o.type v u n xs ys hown hr hn hb
  unfold Oper.wp execOp
  simp only [ho, resolve, invoke, builtin, Sem.run_bind, Sem.run_pure, Result.andThen_ok, List.map_toArray, List.map_cons, List.map_nil, hs, hx, h1]
  exact h v' w' h2 h3 h4
end
end Go.Proofs.YtffjaaolcphonaaDoor
