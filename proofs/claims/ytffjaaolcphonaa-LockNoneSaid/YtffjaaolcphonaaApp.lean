/- append(v, s...) of whole numbers, v a row that the call owns, s any slice that reads as a list. -/
import Derived.Test.YtffjaaolcphonaaNew
import Derived.Test.YtffjaaolcphonaaInts
import Derived.Maps.AppendAt
namespace Go.Proofs.Ytffjaaolcphonaa
open Go.RowKit

theorem IRow.src {w : World} {v : Value} {xs : List Int} (h : IRow w v xs) : ∃ a c, v = .slice a xs.length c ∧ ((a = none ∧ xs = []) ∨ ∃ ad, a = some ad ∧ ∀ j u, (ints xs)[j]? = some u → w.cell? (ad.add j) = some u) := by
  rcases h with ⟨rfl, a, c, rfl⟩ | ⟨h0, b, off, c, rfl, hc⟩
  · refine ⟨a, c, rfl, ?_⟩
    cases a with
    | none => exact .inl ⟨rfl, rfl⟩
    | some ad => exact .inr ⟨ad, rfl, fun j u hu => by simp [ints] at hu⟩
  · refine ⟨_, c, rfl, .inr ⟨_, rfl, fun j u hu => ?_⟩⟩
    have hj : j < xs.length := by have := (List.getElem?_eq_some_iff.1 hu).1; simpa [ints] using this
    have : (⟨b, off, none⟩ : Addr).add j = ⟨b, off + j, none⟩ := by
      unfold Addr.add; split
      · next e => subst e; rfl
      · rfl
    rw [this, hc j hj]
    simpa [ints, hj] using hu
theorem ints_one (xs : List Int) : ∀ u ∈ ints xs, u.oneCell' = true := by
  intro u hu; simp [ints] at hu; obtain ⟨x, _, rfl⟩ := hu; rfl
theorem ints_append (xs ys : List Int) : ints (xs ++ ys) = ints xs ++ ints ys := by simp [ints]

theorem run_append_irow (w : World) (base : Nat) (ty : TypeId) (v s : Value) (n : Nat) (xs ys : List Int) (hown : w.ownsRow base 3 1 v n (ints xs)) (hs : IRow w s ys) (hn : n + ys.length ≤ 1000000000) (hb : base ≤ w.heap.size) :
    ∃ v' w', (Builtin.append_ #[28, 28] ty #[v, s]).run Try.prog w = .ok v' w' ∧ w'.ownsRow base 3 1 v' (n + ys.length) (ints (xs ++ ys)) ∧ w.grownBy w' v.ownBlock ∧ (v'.ownBlock = v.ownBlock ∨ v'.ownBlock = some w.heap.size) := by
  obtain ⟨i0, hi, hz0, hz1, hz2⟩ := info_parts info3
  obtain ⟨a, c, rfl, ⟨rfl, rfl⟩ | ⟨ad, rfl, hc⟩⟩ := hs.src
  · refine ⟨v, w, ?_, by simpa using hown, World.grownBy.refl w _, .inl rfl⟩
    rcases hown.2 with ⟨rfl, rfl⟩ | ⟨g, cap, cur, rfl, _, _, hnc, _⟩
    · simp [Builtin.append_, run_underlying Try.underlying28, sizeOf, typeInfo, hi, Builtin.lenOf, Builtin.firstCells]
    · simp [Builtin.append_, run_underlying Try.underlying28, sizeOf, typeInfo, hi, Builtin.lenOf, Builtin.firstCells, hnc, storeCells]
  · obtain ⟨v', w', h1, h2, h3, _, h5⟩ := run_append_own_at (P := Try.prog) w base 28 ty 3 i0 _ 1 8 Try.underlying28 hi hz0 hz1 hz2 rfl (by omega) v n (ints xs) hown ad ys.length c (ints ys) (by simp [ints]) hc (ints_one ys) (by unfold maxLen; omega) (by omega) hb
    exact ⟨v', w', h1, by rw [ints_append]; exact h2, h3, h5⟩

theorem wpList_append_irow {ops : Array Oper} {rest : List Oper} {o : Oper} {a : Act} {w : World} {Q : Exit → Act → World → Prop} (hgd : Region.wanted o (yielded ops a.tmps) = true) (s x : Operand)
    (ho : o.op = .call { callee := .builtin .append, args := #[s, x], argTypes := #[28, 28] })
    (base n : Nat) (xs ys : List Int) (v u : Value) (hs : a.eval s = v) (hx : a.eval x = u) (hown : w.ownsRow base 3 1 v n (ints xs)) (hr : IRow w u ys) (hn : n + ys.length ≤ 1000000000) (hb : base ≤ w.heap.size)
    (h : ∀ v' w', w'.ownsRow base 3 1 v' (n + ys.length) (ints (xs ++ ys)) → w.grownBy w' v.ownBlock → (v'.ownBlock = v.ownBlock ∨ v'.ownBlock = some w.heap.size) → wpList Try.prog ops Q rest (a.put o.dst v') w') :
    wpList Try.prog ops Q (o :: rest) a w := by
  refine BigFrame.wpList_want hgd fun K hK => ?_
  obtain ⟨v', w', h1, h2, h3, h4⟩ := run_append_irow w base o.type v u n xs ys hown hr hn hb
  unfold Oper.wp execOp
  simp only [ho, resolve, invoke, builtin, Sem.run_bind, Sem.run_pure, Result.andThen_ok, List.map_toArray, List.map_cons, List.map_nil, hs, hx, h1]
  exact hK _ _ (h v' w' h2 h3 h4)

/-- Behind an append onto what is new since w0, nothing of w0 has turned. -/
theorem Fr.of_own {w0 w w' : World} {base : Nat} {e : TypeId} {size n : Nat} {v : Value} {xs : List Value} (hs : Still w0 w) (hown : w.ownsRow base e size v n xs) (hg : w.grownBy w' v.ownBlock) (hb : w0.heap.size ≤ base) : Still w0 w' :=
  hs.then (Fr.of_grownBy hg (F := fun k => base ≤ k) (fun j ej _ => by
      rcases hown.2 with ⟨rfl, _⟩ | ⟨g, cap, cur, rfl, hb, _, _⟩
      · simp [Value.ownBlock] at ej
      · obtain rfl : g = j := by simpa [Value.ownBlock] using ej
        exact hb)) (fun i hi hf => by omega)
theorem owns_new (w : World) (T : TypeId) : (w.alloc (.cells #[] T)).ownsRow w.heap.size T 1 (.slice (some ⟨w.heap.size, 0, none⟩) 0 0) 0 [] :=
  ⟨rfl, .inr ⟨_, 0, #[], rfl, Nat.le_refl _, heap_at _ _ _ rfl, Nat.le_refl _, by unfold maxLen; omega, rfl, rfl⟩⟩
theorem IRow.own {w : World} {base n : Nat} {v : Value} {xs : List Int} (h : w.ownsRow base 3 1 v n (ints xs)) (hn : n = xs.length) : IRow w v xs := IRow.of_owns h hn
theorem IRow.fr {w w' : World} {v : Value} {xs : List Int} (h : IRow w v xs) {F : Nat → Prop} (hf : Fr F w w') (hd : ∀ b off c n, v = .slice (some ⟨b, off, none⟩) n c → ¬ F b) : IRow w' v xs := by
  rcases h with h | ⟨h0, b, off, c, hv, hc⟩
  · exact .inl h
  · refine .inr ⟨h0, b, off, c, hv, fun i hi => ?_⟩
    have hl := World.block_lt_of_cell? _ _ (hc i hi)
    exact (World.cell?_of_block (hf.block b hl (hd b off c _ hv))).trans (hc i hi)
theorem IRow.below {w : World} {v : Value} {xs : List Int} (h : IRow w v xs) (h0 : 0 < xs.length) {b off c n : Nat} (hv : v = .slice (some ⟨b, off, none⟩) n c) : b < w.heap.size := by
  rcases h with ⟨h, _⟩ | ⟨_, b', off', c', hv', hc⟩
  · subst h; simp at h0
  · rw [hv] at hv'
    injection hv' with e1 e2 e3
    injection e1 with e1
    injection e1 with e1 e4
    have := World.block_lt_of_cell? _ _ (hc 0 h0)
    rw [e1]; exact this
theorem Still.cell {w w' : World} (hs : Still w w') {a : Addr} {v : Value} (h : w.cell? a = some v) : w'.cell? a = some v := ((hs.below (Nat.le_refl _) (fun _ h => h.elim)).cell (World.block_lt_of_cell? _ _ h)).trans h
end Go.Proofs.Ytffjaaolcphonaa
