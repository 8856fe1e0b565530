/- Ranging over a map whose elements are structs. -/
import Derived.Test.YtffjaaolcphonaaDoorMapK
namespace Go.Proofs.YtffjaaolcphonaaDoor
open Go.RowKit Go.Maps Go.WideElems
section
variable {α : Type} (E : El α)
theorem El.fnd_mem {L : List α} (h : E.Up L) {x : α} (hx : x ∈ L) : E.fnd L (E.key x) = some x := by
  induction L with
  | nil => cases hx
  | cons y r ih =>
    obtain ⟨h1, h2⟩ := List.pairwise_cons.1 h
    unfold El.fnd at ih ⊢
    rw [List.find?_cons]
    rcases List.mem_cons.1 hx with rfl | hx
    · simp
    · have := h1 x hx
      have e : (E.key y == E.key x) = false := by simp; omega
      rw [e]; exact ih h2 hx
theorem El.mem_fnd {L : List α} {k : Int} {x : α} (h : E.fnd L k = some x) : x ∈ L ∧ E.key x = k := ⟨List.mem_of_find?_eq_some h, by simpa using List.find?_some h⟩
/-- How many that meet p have come. -/
def El.cnt (L : List α) (p : α → Bool) (left : Lit → Bool) : Nat := L.countP (fun x => p x && !left (.int .i64 (E.key x)))
theorem El.cnt_start {L : List α} (h : E.Up L) (p : α → Bool) : E.cnt L p (Maps.has (E.D L)) = 0 := by
  unfold El.cnt
  rw [List.countP_eq_zero]
  intro x hx
  rw [E.D_has, E.fnd_mem h hx]; simp
theorem El.cnt_end {L : List α} (p : α → Bool) {left : Lit → Bool} (h : ∀ kl, left kl = false) : E.cnt L p left = L.countP p := by
  unfold El.cnt
  congr 1; funext x; rw [h]; simp
theorem El.cnt_le (L : List α) (p : α → Bool) (left : Lit → Bool) : E.cnt L p left ≤ L.length := List.countP_le_length
theorem El.cnt_step {L : List α} (hu : E.Up L) (p : α → Bool) {left : Lit → Bool} {x : α} (hx : x ∈ L) (hl : left (.int .i64 (E.key x)) = true) : E.cnt L p (fun z => left z && !z.sameKey (.int .i64 (E.key x))) = E.cnt L p left + if p x then 1 else 0 := by
  unfold El.cnt
  induction L with
  | nil => cases hx
  | cons y r ih =>
    obtain ⟨h1, h2⟩ := List.pairwise_cons.1 hu
    rw [List.countP_cons, List.countP_cons]
    rcases List.mem_cons.1 hx with rfl | hx
    · simp only [same_int]
      have e : r.countP (fun z => p z && !(left (.int .i64 (E.key z)) && !(E.key z == E.key x))) = r.countP (fun z => p z && !left (.int .i64 (E.key z))) := by
        refine List.countP_congr fun z hz => ?_
        have := h1 z hz
        have e2 : (E.key z == E.key x) = false := by simp; omega
        rw [e2]; simp
      rw [e, hl]
      cases p x <;> simp
    · have := h1 x hx
      rw [ih h2 hx]
      simp only [same_int]
      have e2 : (E.key y == E.key x) = false := by simp; omega
      rw [e2]
      simp only [Bool.not_false, Bool.and_true]
      omega
end
section
variable {α : Type} {E : El α} {P : Program} {w w' : World} {b : Nat} {L : List α}
variable {ops : Array Oper} {rest : List Oper} {o : Oper} {a : Act} {Q : Exit → Act → World → Prop}
/-- Under way over these elements. -/
def RangeL (E : El α) (P : Program) (w : World) (b r : Nat) (L : List α) (left : Lit → Bool) (cnt : Nat) : Prop := w.ranges P 3 E.R b r L.length (E.D L) left cnt ∧ E.Up L
theorem RangeL.fr {r : Nat} {left : Lit → Bool} {cnt : Nat} (h : RangeL E P w b r L left cnt) {F : Nat → Prop} (hf : Fr F w w') (h1 : ¬ F b) (h2 : ¬ F r) : RangeL E P w' b r L left cnt := by
  have hr := h.1.lt
  have hb := h.1.owns.lt
  obtain ⟨⟨es, clock, since, seen, c0, hb', F', hs, hD, hr', rest⟩, hu⟩ := h
  exact ⟨⟨es, clock, since, seen, c0, (hf.block b hb h1).trans hb', F', hs, hD, (hf.block r hr h2).trans hr', rest⟩, hu⟩
theorem RangeL.still {r : Nat} {left : Lit → Bool} {cnt : Nat} (h : RangeL E P w b r L left cnt) (hs : Still w w') : RangeL E P w' b r L left cnt := h.fr hs (fun h => h) (fun h => h)
theorem RangeL.map {r : Nat} {left : Lit → Bool} {cnt : Nat} (h : RangeL E P w b r L left cnt) : MapL E P w b L := ⟨h.1.owns, h.2⟩
theorem wpList_rangeL (hg : o.guard = none) (m : Operand) (T Et : TypeId) (hop : o.op = Op.range T m) (ht : P.underlying T = some (.map 3 Et)) (h3 : P.underlying 3 = some (.int .i64)) (h : MapL E P w b L) (hm : a.eval m = .map (some b))
    (hK : ∀ w', RangeL E P w' b w.heap.size L (Maps.has (E.D L)) (Maps.size (E.D L)) → Still w w' → w'.heap.size = w.heap.size + 1 → wpList P ops Q rest (a.put o.dst (.pointer (some ⟨w.heap.size, 0, none⟩))) w') : wpList P ops Q (o :: rest) a w :=
  wpList_range_own w hg m T hop 3 Et (int_keyed h3) ht E.R b L.length (E.D L) hm h.1 fun w' h1 h2 h4 => hK w' ⟨h1, h.2⟩ (Fr.of_grownBy h2 fun j ej _ => by cases ej) h4
theorem wpList_nextL {r : Nat} {left : Lit → Bool} {cnt : Nat} (hg : o.guard = none) (it : Operand) (hop : o.op = Op.next it false) (h3 : P.underlying 3 = some (.int .i64)) (h : RangeL E P w b r L left cnt) (hit : a.eval it = .pointer (some ⟨r, 0, none⟩))
    (hDone : (∀ kl, left kl = false) → wpList P ops Q rest (a.put o.dst (.tuple #[.bool false])) w)
    (hMore : ∀ x w' cnt', x ∈ L → left (.int .i64 (E.key x)) = true → RangeL E P w' b r L (fun z => left z && !z.sameKey (.int .i64 (E.key x))) cnt' → cnt' < cnt → Fr (fun k => k = r) w w' → w'.heap.size = w.heap.size →
      (Instr.entry (.pointer (some ⟨r, 0, none⟩))).run P w' = .ok (.tuple #[.int .i64 (E.key x), E.val x]) w' → wpList P ops Q rest (a.put o.dst (.tuple #[.bool true, .int .i64 (E.key x), E.val x])) w') : wpList P ops Q (o :: rest) a w := by
  refine wpList_next_ranges w hg it hop 3 (int_keyed h3) E.R (Value.int .i64) E.val (fun key kl hkey => by obtain ⟨x, rfl, _⟩ := Maps.keyOf_int_inv h3 hkey; exact ⟨x, rfl⟩) (fun v y hv => by obtain ⟨x, rfl, _⟩ := E.R_inv hv; exact ⟨x, rfl⟩)
    b r L.length (E.D L) left cnt hit h.1 (fun _ hl => hDone hl) (fun x c kl y w' cnt' hkey hlk hv hat hrg hlt hgr hsz hen => ?_)
  obtain ⟨x', ex, rfl, hwx⟩ := Maps.keyOf_int_inv h3 hkey
  cases ex
  rw [E.R_mk] at hv
  injection hv with hv
  subst hv
  have h1 := hat .nil
  rw [E.D_at] at h1
  cases hf : E.fnd L x with
  | none => rw [hf] at h1; cases h1
  | some z =>
    rw [hf] at h1
    injection h1 with h1
    subst h1
    obtain ⟨m1, m2⟩ := E.mem_fnd hf
    subst m2
    exact hMore z w' cnt' m1 hlk ⟨hrg, h.2⟩ hlt (Fr.of_grownBy hgr fun j ej _ => by injection ej with ej; exact ej.symm) hsz hen
end
end Go.Proofs.YtffjaaolcphonaaDoor
