/- A map whose elements are structs, keyed by int, told by a list of its elements, keys rising. -/
import Derived.Test.YtffjaaolcphonaaDoorMem
import Derived.Maps.OwnSet
import Derived.Maps.Ext
import Derived.Maps.RangeWalk
namespace Go.Proofs.YtffjaaolcphonaaDoor
open Go.RowKit Go.Maps Go.WideElems
/-- A kind of elements: each one's key; the value that it is. -/
structure El (α : Type) where
  key : α → Int
  val : α → Value
  inj : ∀ x y, val x = val y → x = y
section
variable {α : Type} (E : El α)
open Classical in
/-- How an element reads. -/
noncomputable def El.R (v : Value) : Option (DataW α × List MemPlace) := if h : ∃ x, E.val x = v then some (.held (Classical.choose h), []) else none
theorem El.R_mk (x : α) : E.R (E.val x) = some (.held x, []) := by
  have h : ∃ y, E.val y = E.val x := ⟨x, rfl⟩
  unfold El.R
  rw [dif_pos h, E.inj _ _ (Classical.choose_spec h)]
theorem El.R_inv {v : Value} {y : DataW α × List MemPlace} (h : E.R v = some y) : ∃ x, v = E.val x ∧ y = (.held x, []) := by
  unfold El.R at h
  split at h
  · rename_i hx
    injection h with h
    exact ⟨_, (Classical.choose_spec hx).symm, h.symm⟩
  · cases h
def El.ent (x : α) : Lit × DataW α := (.int .i64 (E.key x), .held x)
def El.D (L : List α) : DataW α := .map (L.map E.ent)
def El.Up (L : List α) : Prop := L.Pairwise (fun x y => E.key x < E.key y)
/-- The one at a key. -/
def El.fnd (L : List α) (k : Int) : Option α := L.find? (fun x => E.key x == k)
/-- At its place, or in place of the one at its key. -/
def El.ins (x : α) : List α → List α
  | [] => [x]
  | y :: r => if E.key x < E.key y then x :: y :: r else if E.key x = E.key y then x :: r else y :: El.ins x r
def El.del (k : Int) (L : List α) : List α := L.filter (fun x => E.key x != k)
theorem same_int (a b : Int) : (Lit.int .i64 a).sameKey (Lit.int .i64 b) = (a == b) := by
  show decide (IntKind.i64 = IntKind.i64 ∧ a = b) = _
  by_cases h : a = b <;> simp [h]
theorem El.find_eq (L : List α) (k : Int) : (L.map E.ent).find? (fun p => p.1.sameKey (.int .i64 k)) = (E.fnd L k).map E.ent := by
  unfold El.fnd
  rw [List.find?_map]
  congr 2
  funext x
  exact same_int _ _
theorem El.D_at (L : List α) (k : Int) (z : DataW α) : (E.D L).atKey (.int .i64 k) z = match E.fnd L k with | some x => .held x | none => z := by
  unfold El.D DataW.atKey
  simp only [E.find_eq]
  cases E.fnd L k <;> rfl
theorem any_find {β : Type} (f : β → Bool) : ∀ l : List β, l.any f = (l.find? f).isSome
  | [] => rfl
  | a :: l => by rw [List.any_cons, List.find?_cons, any_find f l]; cases f a <;> rfl
theorem El.D_has (L : List α) (k : Int) : Maps.has (E.D L) (.int .i64 k) = (E.fnd L k).isSome := by
  show (L.map E.ent).any _ = _
  rw [any_find, E.find_eq]
  cases E.fnd L k <;> rfl
theorem El.D_size (L : List α) : Maps.size (E.D L) = L.length := by simp [El.D, Maps.size]
theorem El.D_del (L : List α) (k : Int) : (E.D L).del (.int .i64 k) = E.D (E.del k L) := by
  unfold El.D El.del DataW.del
  simp only
  rw [List.filter_map]
  congr 2
  apply List.filter_congr
  intro x _
  show (!(Lit.int .i64 (E.key x)).sameKey (.int .i64 k)) = _
  rw [same_int]
  rfl
theorem El.insert_eq (x : α) : ∀ L : List α, E.Up L → DataW.insert (E.ent x) ((L.map E.ent).filter fun p => !p.1.sameKey (.int .i64 (E.key x))) = (E.ins x L).map E.ent
  | [], _ => rfl
  | y :: r, h => by
    obtain ⟨h1, h2⟩ := List.pairwise_cons.1 h
    have ih := El.insert_eq x r h2
    have sk : (E.ent y).1.sameKey (.int .i64 (E.key x)) = (E.key y == E.key x) := same_int _ _
    rw [List.map_cons, List.filter_cons, sk, El.ins]
    have bf : (E.ent x).1.before (E.ent y).1 = decide (E.key x < E.key y) := rfl
    by_cases h3 : E.key x < E.key y
    · rw [if_pos h3]
      have e1 : (E.key y == E.key x) = false := by simp; omega
      rw [e1]
      have e2 : (r.map E.ent).filter (fun p => !p.1.sameKey (.int .i64 (E.key x))) = r.map E.ent := by
        rw [List.filter_eq_self]
        intro p hp
        obtain ⟨z, hz, rfl⟩ := List.mem_map.1 hp
        have := h1 z hz
        show (!(Lit.int .i64 (E.key z)).sameKey (.int .i64 (E.key x))) = true
        rw [same_int]; simp; omega
      simp only [Bool.not_false, if_true]
      rw [e2, DataW.insert, bf, decide_eq_true h3]
      rfl
    · rw [if_neg h3]
      by_cases h4 : E.key x = E.key y
      · rw [if_pos h4]
        have e1 : (E.key y == E.key x) = true := by simp [h4]
        rw [e1]
        have e2 : (r.map E.ent).filter (fun p => !p.1.sameKey (.int .i64 (E.key x))) = r.map E.ent := by
          rw [List.filter_eq_self]
          intro p hp
          obtain ⟨z, hz, rfl⟩ := List.mem_map.1 hp
          have := h1 z hz
          show (!(Lit.int .i64 (E.key z)).sameKey (.int .i64 (E.key x))) = true
          rw [same_int]; simp; omega
        simp only [Bool.not_true]
        rw [e2]
        cases r with
        | nil => rfl
        | cons z r' =>
          have hz := h1 z (by simp)
          have b2 : (E.ent x).1.before (E.ent z).1 = true := by
            show decide (E.key x < E.key z) = true
            exact decide_eq_true (by omega)
          show DataW.insert (E.ent x) (E.ent z :: r'.map E.ent) = _
          rw [DataW.insert, b2]; rfl
      · rw [if_neg h4]
        have e1 : (E.key y == E.key x) = false := by simp; omega
        rw [e1]
        simp only [Bool.not_false, if_true]
        rw [DataW.insert, bf, decide_eq_false h3]
        simp only [Bool.false_eq_true, if_false, List.map_cons]
        rw [ih]
theorem El.D_put (x : α) (L : List α) (h : E.Up L) : (E.D L).put (.int .i64 (E.key x)) (.held x) = E.D (E.ins x L) := by
  unfold El.D DataW.put
  exact congrArg DataW.map (E.insert_eq x L h)
theorem El.mem_ins {x y : α} : ∀ {L : List α}, y ∈ E.ins x L → y = x ∨ y ∈ L
  | [], h => by simp [El.ins] at h; exact .inl h
  | z :: r, h => by
    rw [El.ins] at h
    split at h
    · rcases List.mem_cons.1 h with h | h
      · exact .inl h
      · exact .inr h
    · split at h
      · rcases List.mem_cons.1 h with h | h
        · exact .inl h
        · exact .inr (List.mem_cons_of_mem _ h)
      · rcases List.mem_cons.1 h with h | h
        · exact .inr (by rw [h]; exact List.mem_cons_self)
        · rcases El.mem_ins h with h | h
          · exact .inl h
          · exact .inr (List.mem_cons_of_mem _ h)
theorem El.up_ins (x : α) : ∀ L : List α, E.Up L → E.Up (E.ins x L)
  | [], _ => by simp [El.ins, El.Up]
  | y :: r, h => by
    obtain ⟨h1, h2⟩ := List.pairwise_cons.1 h
    rw [El.ins]
    by_cases h3 : E.key x < E.key y
    · rw [if_pos h3]
      refine List.pairwise_cons.2 ⟨fun z hz => ?_, h⟩
      rcases List.mem_cons.1 hz with rfl | hz
      · exact h3
      · have := h1 z hz; omega
    · rw [if_neg h3]
      by_cases h4 : E.key x = E.key y
      · rw [if_pos h4]
        exact List.pairwise_cons.2 ⟨fun z hz => by have := h1 z hz; omega, h2⟩
      · rw [if_neg h4]
        refine List.pairwise_cons.2 ⟨fun z hz => ?_, El.up_ins x r h2⟩
        rcases E.mem_ins hz with rfl | hz
        · omega
        · exact h1 z hz
theorem El.up_del (k : Int) {L : List α} (h : E.Up L) : E.Up (E.del k L) := h.sublist List.filter_sublist
theorem El.fnd_ins (x : α) (k : Int) : ∀ L : List α, E.Up L → E.fnd (E.ins x L) k = if E.key x = k then some x else E.fnd L k
  | [], _ => by
    unfold El.fnd El.ins
    by_cases h : E.key x = k <;> simp [h]
  | y :: r, h => by
    obtain ⟨h1, h2⟩ := List.pairwise_cons.1 h
    have ih := El.fnd_ins x k r h2
    rw [El.ins]
    unfold El.fnd at ih ⊢
    by_cases h3 : E.key x < E.key y
    · rw [if_pos h3, List.find?_cons]
      by_cases h : E.key x = k
      · simp [h]
      · have e : (E.key x == k) = false := by simp [h]
        simp only [e, if_neg h]
    · rw [if_neg h3]
      by_cases h4 : E.key x = E.key y
      · rw [if_pos h4, List.find?_cons, List.find?_cons]
        rw [← h4]
        by_cases h : E.key x = k
        · simp [h]
        · have e : (E.key x == k) = false := by simp [h]
          simp only [e, if_neg h]
      · rw [if_neg h4, List.find?_cons, List.find?_cons, ih]
        by_cases h : E.key y = k
        · have : ¬ E.key x = k := by omega
          simp [h, this]
        · have e : (E.key y == k) = false := by simp [h]
          simp only [e]
end
theorem own_size {H : Type} {P : Program} {k : TypeId} {R : Value → Option (DataW H × List MemPlace)} {w : World} {b n : Nat} {D : DataW H} (h : w.ownsMap P k R b n D) : w.ownsMap P k R b (Maps.size D) D := by
  obtain ⟨es, clock, hb, F, hs, rfl⟩ := h
  exact ⟨es, clock, hb, F, by simp [Maps.size, length_sorted], rfl⟩
section
variable {α : Type} {E : El α} {P : Program} {w w' : World} {b : Nat} {L : List α}
/-- Block b is a map that has just these elements. -/
def MapL (E : El α) (P : Program) (w : World) (b : Nat) (L : List α) : Prop := w.ownsMap P 3 E.R b L.length (E.D L) ∧ E.Up L
theorem MapL.of {n : Nat} (h : w.ownsMap P 3 E.R b n (E.D L)) (hu : E.Up L) : MapL E P w b L := ⟨by have := own_size h; rwa [E.D_size] at this, hu⟩
theorem MapL.lt (h : MapL E P w b L) : b < w.heap.size := h.1.lt
theorem MapL.fr (h : MapL E P w b L) {F : Nat → Prop} (hf : Fr F w w') (hn : ¬ F b) : MapL E P w' b L := by
  have hl := h.lt
  obtain ⟨⟨es, clock, hb, r⟩, hu⟩ := h
  exact ⟨⟨es, clock, (hf.block b hl hn).trans hb, r⟩, hu⟩
theorem MapL.still (h : MapL E P w b L) (hs : Still w w') : MapL E P w' b L := h.fr hs (fun h => h)
theorem MapL.alloc (h : MapL E P w b L) (o : Obj) : MapL E P (w.alloc o) b L := ⟨h.1.alloc o, h.2⟩
theorem MapL.drew (h : MapL E P w b L) : MapL E P w.drew b L := ⟨h.1.drew, h.2⟩
theorem MapL.made (w : World) : MapL E P (w.alloc (.map #[] 0)) w.heap.size [] := ⟨World.ownsMap_made w P 3 E.R, List.Pairwise.nil⟩
theorem Fr.turned {b : Nat} (h : w.mapTurned w' b) : Fr (fun k => k = b) w w' := Fr.of_grownBy h.grown fun j ej _ => by injection ej with ej; exact ej.symm
variable {ops : Array Oper} {rest : List Oper} {o : Oper} {a : Act} {Q : Exit → Act → World → Prop}
theorem keyL {P : Program} (h3 : P.underlying 3 = some (.int .i64)) {k : Int} (wf : (Lit.int .i64 k).wf = true) : keyOf P 3 (.int .i64 k) = some (.int .i64 k) := keyOf_int_mk h3 wf
theorem R_at {z0 : α} {v : Value} {k : Int} {ps : List MemPlace} (h : E.R v = some ((E.D L).atKey (.int .i64 k) (.held z0), ps)) : v = E.val ((E.fnd L k).getD z0) := by
  obtain ⟨x, rfl, hx⟩ := E.R_inv h
  rw [E.D_at] at hx
  cases hf : E.fnd L k with
  | none => rw [hf] at hx; injection hx with hx; injection hx with hx; rw [hx]; rfl
  | some y => rw [hf] at hx; injection hx with hx; injection hx with hx; rw [hx]; rfl
theorem wpList_look_ok (hg : o.guard = none) (m x : Operand) (T Et : TypeId) (hop : o.op = Op.lookup T m x true) (ht : P.underlying T = some (.map 3 Et)) (h3 : P.underlying 3 = some (.int .i64)) (z0 : α) (hz : (zeroValue Et).run P w = .ok (E.val z0) w)
    (h : MapL E P w b L) (hm : a.eval m = .map (some b)) (k : Int) (wf : (Lit.int .i64 k).wf = true) (hx : a.eval x = .int .i64 k)
    (hK : wpList P ops Q rest (a.put o.dst (.tuple #[E.val ((E.fnd L k).getD z0), .bool (E.fnd L k).isSome])) w) : wpList P ops Q (o :: rest) a w := by
  refine wpList_lookup_own_ok w hg m x T hop 3 Et (int_keyed h3) ht E.R hz (.held z0) [] (E.R_mk z0) b L.length (E.D L) hm h.1 _ _ hx (keyL h3 wf) fun v ps hv => ?_
  rw [E.D_has, R_at hv]; exact hK
theorem run_look (T Et : TypeId) (ht : P.underlying T = some (.map 3 Et)) (h3 : P.underlying 3 = some (.int .i64)) (z0 : α) (hz : (zeroValue Et).run P w = .ok (E.val z0) w) (h : MapL E P w b L) (k : Int) (wf : (Lit.int .i64 k).wf = true) :
    (Instr.lookup T (.map (some b)) (.int .i64 k) false).run P w = .ok (E.val ((E.fnd L k).getD z0)) w := by
  obtain ⟨v, ps, hrun, hv⟩ := h.1.lookup (int_keyed h3) ht hz (E.R_mk z0) (keyL h3 wf)
  rw [R_at hv] at hrun; exact hrun
theorem wpList_look (hgd : Region.wanted o (yielded ops a.tmps) = true) (m x : Operand) (T Et : TypeId) (hop : o.op = Op.lookup T m x false) (ht : P.underlying T = some (.map 3 Et)) (h3 : P.underlying 3 = some (.int .i64)) (z0 : α) (hz : (zeroValue Et).run P w = .ok (E.val z0) w)
    (h : MapL E P w b L) (hm : a.eval m = .map (some b)) (k : Int) (wf : (Lit.int .i64 k).wf = true) (hx : a.eval x = .int .i64 k)
    (hK : wpList P ops Q rest (a.put o.dst (E.val ((E.fnd L k).getD z0))) w) : wpList P ops Q (o :: rest) a w := by
  refine BigFrame.wpList_want hgd fun K' hK' => ?_
  have hrun := run_look (w := w) T Et ht h3 z0 hz h k wf
  unfold Oper.wp
  simp [execOp, hop, hm, hx, hrun, Result.andThen]
  exact hK' _ _ hK
theorem MapL.put_run (T Et : TypeId) (ht : P.underlying T = some (.map 3 Et)) (h3 : P.underlying 3 = some (.int .i64)) (h : MapL E P w b L) (hl : L.length < maxLen) (x : α) (wf : (Lit.int .i64 (E.key x)).wf = true) :
    ∃ w', (Instr.mapUpdate T (.map (some b)) (.int .i64 (E.key x)) (E.val x)).run P w = .ok () w' ∧ MapL E P w' b (E.ins x L) ∧ Fr (fun k => k = b) w w' := by
  obtain ⟨w', hrun, h1, h2⟩ := h.1.store (int_keyed h3) ht hl (keyL h3 wf) (E.R_mk x)
  rw [E.D_put x L h.2] at h1
  exact ⟨w', hrun, MapL.of h1 (E.up_ins x L h.2), Fr.turned h2⟩
theorem wpList_mapPut (hgd : Region.wanted o (yielded ops a.tmps) = true) (m k v : Operand) (T Et : TypeId) (hop : o.op = Op.mapUpdate T m k v) (ht : P.underlying T = some (.map 3 Et)) (h3 : P.underlying 3 = some (.int .i64)) (h : MapL E P w b L) (hl : L.length < maxLen)
    (x : α) (wf : (Lit.int .i64 (E.key x)).wf = true) (hm : a.eval m = .map (some b)) (hk : a.eval k = .int .i64 (E.key x)) (hv : a.eval v = E.val x)
    (hK : ∀ w', MapL E P w' b (E.ins x L) → Fr (fun k => k = b) w w' → wpList P ops Q rest (a.put o.dst undef) w') : wpList P ops Q (o :: rest) a w := by
  refine BigFrame.wpList_want hgd fun K' hK' => ?_
  obtain ⟨w', hrun, h1, h2⟩ := h.put_run T Et ht h3 hl x wf
  unfold Oper.wp
  simp [execOp, hop, hm, hk, hv, hrun, Result.andThen]
  exact hK' _ _ (hK w' h1 h2)
theorem wpList_mapDel (hg : o.guard = none) (m x : Operand) (T Et : TypeId) (hop : o.op = Op.call { callee := Callee.builtin Builtin.delete, args := #[m, x], argTypes := #[T, 3] }) (ht : P.underlying T = some (.map 3 Et)) (h3 : P.underlying 3 = some (.int .i64)) (h : MapL E P w b L)
    (k : Int) (wf : (Lit.int .i64 k).wf = true) (hm : a.eval m = .map (some b)) (hk : a.eval x = .int .i64 k)
    (hK : ∀ w', MapL E P w' b (E.del k L) → Fr (fun j => j = b) w w' → wpList P ops Q rest (a.put o.dst (.tuple #[])) w') : wpList P ops Q (o :: rest) a w := by
  refine wpList_delete_own w hg m x T 3 hop Et (int_keyed h3) ht E.R b L.length (E.D L) hm h.1 _ _ hk (keyL h3 wf) fun w' h1 h2 => ?_
  rw [E.D_del] at h1
  exact hK w' (MapL.of h1 (E.up_del k h.2)) (Fr.turned h2)
end
end Go.Proofs.YtffjaaolcphonaaDoor
