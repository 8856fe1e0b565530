/- Seat D's ground: what of seat 1's texts speaks of memory alone, turned to this program. -/
import Derived.Test.YtffjaaolcphonaaDoorMem
import Derived.Test.YtffjaaolcphonaaDoorProg
import Derived.Maps.AppendAt
import Derived.Deep.RegionHeld3
import Derived.Deep.AppendLies
import Derived.Deep.DeepCutAuto
import Derived.StillTailTactics
namespace Go.Proofs.YtffjaaolcphonaaDoor
open Go.RowKit
def ints (xs : List Int) : List Value := xs.map (Value.int .i64)
theorem info3 : (Tryd.prog.info? 3).map (fun i => (i.zero, i.size, i.bytes)) = some (some (.int .i64 0), 1, 8) := by kernel_rfl
theorem calls_flip {P : Program} {f : FuncId} {args : Array Value} {w : World} {v : Value} (h : Calls P f args w fun e w' => e = .returned v ∧ w = w') : Calls P f args w fun e w' => e = .returned v ∧ w' = w :=
  h.mono fun _ _ ⟨a, b⟩ => ⟨a, b.symm⟩
def zi (xs : List Nat) : List Int := xs.map fun x : Nat => (x : Int)
theorem zi_len (xs : List Nat) : (zi xs).length = xs.length := by simp [zi]
theorem ownsRow_base {w : World} {b b' : Nat} {e : TypeId} {size : Nat} {v : Value} {n : Nat} {xs : List Value} (h : w.ownsRow b e size v n xs) (hb : b' ≤ b) : w.ownsRow b' e size v n xs :=
  ⟨h.1, h.2.imp id fun ⟨g, cap, cur, h1, h2, h3⟩ => ⟨g, cap, cur, h1, Nat.le_trans hb h2, h3⟩⟩
def sl (b n k : Nat) : Value := .slice (some ⟨b, 0, none⟩) n k
theorem wp_abs {P : Program} {c : Code} {Q : Exit → Act → World → Prop} {a : Act} {w : World} (R : World → Prop) (h : R w) (hk : ∀ w', R w' → c.wp P Q a w') : c.wp P Q a w := hk w h
/-- A boxed variable. -/
def Box (w : World) (b : Nat) (v : Value) (T : TypeId) : Prop := Blk w b [v] T
theorem Box.c {w : World} {b : Nat} {v : Value} {T : TypeId} (h : Box w b v T) : w.cell? ⟨b, 0, none⟩ = some v := by rw [Blk.cell h]; rfl
theorem Box.still {w w' : World} {b : Nat} {v : Value} {T : TypeId} (h : Box w b v T) (hs : Still w w') : Box w' b v T := Blk.still h hs
def inR (i : Int) (n : Nat) : Prop := 0 ≤ i ∧ i < (n : Int)
instance (i : Int) (n : Nat) : Decidable (inR i n) := by unfold inR; infer_instance
theorem inR_no {i : Int} {n : Nat} (h : ¬ inR i n) : i < 0 ∨ (n : Int) ≤ i := by unfold inR at h; omega
def zr (n : Nat) : Array Value := (ints (List.replicate n 0)).toArray
theorem mk_ints (n : Nat) (hn : n ≤ 1000000) : ∀ w, (Instr.makeSlice 31 (.int .i64 (n : Int)) (.int .i64 (n : Int))).run Tryd.prog w = .ok (.slice (some ⟨w.heap.size, 0, none⟩) n n) (w.alloc (.cells (zr n) 3)) := by
  intro w
  obtain ⟨i0, hi, hz0, hz1, hz2⟩ := info_parts info3
  have := run_make (P := Tryd.prog) w 31 3 i0 _ Tryd.underlying31 hi hz0 .i64 .i64 (n : Int) (n : Int) (by omega) (by omega) (by rw [hz2]; omega) (by omega)
  rw [this, hz1, Int.toNat_natCast, Nat.mul_one]
  have e : madeCells (Value.int .i64 0).cells n = zr n := by
    show madeCells #[.int .i64 0] n = _
    apply Array.ext'
    rw [toList_madeCells_one]; simp [zr, ints]
  rw [e]
theorem heap_at (w : World) (o : Obj) (n : Nat) (h : n = w.heap.size) : (w.alloc o).heap[n]? = some o := by subst h; show (w.heap.push o)[w.heap.size]? = _; simp
/-- A slice of integers in the world. -/
def IRow (w : World) (v : Value) (xs : List Int) : Prop :=
  (xs = [] ∧ ∃ a c, v = .slice a 0 c) ∨ (0 < xs.length ∧ ∃ b off c, v = .slice (some ⟨b, off, none⟩) xs.length c ∧ ∀ i, i < xs.length → w.cell? ⟨b, off + i, none⟩ = some (.int .i64 (xs.getD i 0)))
theorem IRow.len {w : World} {v : Value} {xs : List Int} (h : IRow w v xs) : ∃ a c, v = .slice a xs.length c := by
  rcases h with ⟨rfl, a, c, rfl⟩ | ⟨_, b, off, c, rfl, _⟩
  · exact ⟨_, _, rfl⟩
  · exact ⟨_, _, rfl⟩
theorem IRow.of_owns {w : World} {base n : Nat} {v : Value} {xs : List Int} (h : w.ownsRow base 3 1 v n (xs.map (Value.int .i64))) (hn : n = xs.length) : IRow w v xs := by
  by_cases h0 : 0 < xs.length
  · obtain ⟨g, cap, rfl, _, _, hb⟩ := IBlk.of_owns h (by omega)
    exact .inr ⟨h0, g, 0, cap, by rw [hn], fun i hi => by rw [Nat.zero_add]; exact hb.cell hi⟩
  · have : xs = [] := List.length_eq_zero_iff.1 (by omega)
    subst this
    subst hn
    obtain ⟨_, ⟨rfl, _⟩ | ⟨g, cap, _, rfl, _⟩⟩ := h
    · exact .inl ⟨rfl, _, _, rfl⟩
    · exact .inl ⟨rfl, _, _, rfl⟩
theorem IRow.of_blk {w : World} {b c : Nat} {xs : List Int} {T : TypeId} (h : Blk w b (xs.map (Value.int .i64)) T) (h0 : 0 < xs.length) : IRow w (.slice (some ⟨b, 0, none⟩) xs.length c) xs :=
  .inr ⟨h0, b, 0, c, rfl, fun i hi => by rw [Nat.zero_add, h.cell]; simp [hi]⟩
theorem getD_all {xs ys : List Int} (h : xs.length = ys.length) (k : ∀ i, i < xs.length → xs.getD i 0 = ys.getD i 0) : xs = ys := by
  apply List.ext_getElem h
  intro i h1 h2
  have := k i h1
  simpa [List.getD, h1, h2] using this
theorem ints_len (w : World) (a1 a2 : Option Addr) (n1 n2 c1 c2 : Nat) (h : n1 ≠ n2) : Calls Tryd.prog 35 #[.slice a1 n1 c1, .slice a2 n2 c2] w fun e w' => e = .returned (.bool false) ∧ w = w' := by
  have hd : ((n1 : Int) != (n2 : Int)) = true := by simp; omega
  go_enter Tryd.func35, Tryd.ntmps35
  go_wp2
  go_ret
  exact ⟨rfl, rfl⟩
theorem ints_zero (w : World) (a1 a2 : Option Addr) (c1 c2 : Nat) : Calls Tryd.prog 35 #[.slice a1 0 c1, .slice a2 0 c2] w fun e w' => e = .returned (.bool true) ∧ w = w' := by
  go_enter Tryd.func35, Tryd.ntmps35
  go_wp2
  go_loopw [13] (fun i wr => i = .int .i64 0 ∧ w = wr) (fun _ _ => 0)
  case atStart => exact ⟨rfl, rfl⟩
  case round =>
    obtain ⟨rfl, rfl⟩ := hrel
    go_wp2
    go_ret
    exact ⟨rfl, rfl⟩
theorem ints_more (w : World) (b1 o1 c1 b2 o2 c2 n : Nat) (X Y : Nat → Int) (hn : n ≤ 9223372036854775807) (hX : ∀ i, i < n → w.cell? ⟨b1, o1 + i, none⟩ = some (.int .i64 (X i))) (hY : ∀ i, i < n → w.cell? ⟨b2, o2 + i, none⟩ = some (.int .i64 (Y i))) :
    Calls Tryd.prog 35 #[.slice (some ⟨b1, o1, none⟩) n c1, .slice (some ⟨b2, o2, none⟩) n c2] w fun e w' => ∃ r, e = .returned (.bool r) ∧ (r = true ↔ ∀ i, i < n → X i = Y i) ∧ Still w w' := by
  have HX := hid hX
  have HY := hid hY
  clear hX hY
  go_enter Tryd.func35, Tryd.ntmps35
  go_wp2
  go_loopw [13] (fun i wr => ∃ j : Nat, i = .int .i64 j ∧ j ≤ n ∧ (∀ i, i < j → X i = Y i) ∧ Still w wr) (fun i _ => n - (intOf i).toNat)
  case atStart => exact ⟨0, rfl, Nat.zero_le _, fun _ h => absurd h (Nat.not_lt_zero _), Still.refl _⟩
  case round =>
    obtain ⟨j, rfl, hj, hall, hst⟩ := hrel
    have HA := hid hall
    clear hall
    by_cases hlt : j < n
    · have hlt' : (j : Int) < (n : Int) := by omega
      have hbw : Below w.heap.size w wr := hst.below (Nat.le_refl _) (fun _ h => h.elim)
      have cx : wr.cell? ⟨b1, o1 + j, none⟩ = some (.int .i64 (X j)) := (hbw.cell (World.block_lt_of_cell? _ _ (HX.out j hlt))).trans (HX.out j hlt)
      have cy : wr.cell? ⟨b2, o2 + j, none⟩ = some (.int .i64 (Y j)) := (hbw.cell (World.block_lt_of_cell? _ _ (HY.out j hlt))).trans (HY.out j hlt)
      obtain ⟨x, hx⟩ : ∃ x, X j = x := ⟨_, rfl⟩
      obtain ⟨y, hy⟩ : ∃ y, Y j = y := ⟨_, rfl⟩
      rw [hx] at cx
      rw [hy] at cy
      have Hx := hid hx
      have Hy := hid hy
      clear hx hy
      by_cases hxy : x = y
      · have hd : (x != y) = false := by simp [hxy]
        have HE := hid hxy
        clear hxy
        go_wp2_with fail
        go_quiet (fail)
        go_wp2_with fail
        go_roundw
        case rel =>
          refine ⟨j + 1, by go_num, by omega, fun i hi => ?_, hst.drewN _⟩
          by_cases e : i = j
          · subst e; rw [Hx.out, Hy.out]; exact HE.out
          · exact HA.out i (by omega)
        case measure => simp [intOf]; omega
      · have hd : (x != y) = true := by simp [hxy]
        have HE := hid hxy
        clear hxy
        go_wp2_with fail
        go_quiet (fail)
        go_wp2_with fail
        go_ret
        exact ⟨false, rfl, by simp; exact ⟨j, hlt, by rw [Hx.out, Hy.out]; exact HE.out⟩, hst.drewN _⟩
    · go_wp2
      go_ret
      exact ⟨true, rfl, by simp; intro i hi; exact HA.out i (by omega), hst⟩
theorem ints_ok (w : World) (v1 v2 : Value) (xs ys : List Int) (h1 : IRow w v1 xs) (h2 : IRow w v2 ys) (hl : xs.length ≤ 9223372036854775807) : Calls Tryd.prog 35 #[v1, v2] w fun e w' => e = .returned (.bool (decide (xs = ys))) ∧ Still w w' := by
  by_cases hn : xs.length = ys.length
  · rcases h1 with ⟨rfl, a, c, rfl⟩ | ⟨h0, b, off, c, rfl, hc⟩
    · obtain rfl : ys = [] := List.length_eq_zero_iff.1 (by simpa using hn.symm)
      obtain ⟨a2, c2, rfl⟩ := h2.len
      refine (ints_zero w a a2 c c2).mono ?_
      rintro e w' ⟨rfl, rfl⟩
      exact ⟨rfl, Still.refl _⟩
    · rcases h2 with ⟨rfl, _⟩ | ⟨_, b2, off2, c2, rfl, hc2⟩
      · rw [hn] at h0; exact absurd h0 (by simp)
      · rw [← hn] at hc2 ⊢
        refine (ints_more w b off c b2 off2 c2 xs.length (fun i => xs.getD i 0) (fun i => ys.getD i 0) hl hc hc2).mono ?_
        rintro e w' ⟨r, rfl, hr, hs⟩
        refine ⟨?_, hs⟩
        congr 2
        by_cases e : xs = ys
        · rw [decide_eq_true e]; exact hr.2 (by subst e; intros; rfl)
        · rw [decide_eq_false e]
          cases r with
          | false => rfl
          | true => exact absurd (getD_all hn (hr.1 rfl)) e
  · obtain ⟨a1, c1, rfl⟩ := h1.len
    obtain ⟨a2, c2, rfl⟩ := h2.len
    refine (ints_len w a1 a2 _ _ c1 c2 hn).mono ?_
    rintro e w' ⟨rfl, rfl⟩
    exact ⟨by rw [decide_eq_false (fun e => hn (by rw [e]))], Still.refl _⟩
theorem IRow.alloc {w : World} {v : Value} {xs : List Int} (h : IRow w v xs) (o : Obj) : IRow (w.alloc o) v xs := by
  rcases h with h | ⟨h0, b, off, c, hv, hc⟩
  · exact .inl h
  · exact .inr ⟨h0, b, off, c, hv, fun i hi => by rw [World.cell?_alloc_lt _ _ _ (World.block_lt_of_cell? _ _ (hc i hi))]; exact hc i hi⟩
theorem IRow.still {w w' : World} {v : Value} {xs : List Int} (h : IRow w v xs) (hs : Still w w') : IRow w' v xs := by
  rcases h with h | ⟨h0, b, off, c, hv, hc⟩
  · exact .inl h
  · exact .inr ⟨h0, b, off, c, hv, fun i hi => ((hs.below (Nat.le_refl _) (fun _ h => h.elim)).cell (World.block_lt_of_cell? _ _ (hc i hi))).trans (hc i hi)⟩
theorem IRow.src {w : World} {v : Value} {xs : List Int} (h : IRow w v xs) : ∃ a c, v = .slice a xs.length c ∧ ((a = none ∧ xs = []) ∨ ∃ ad, a = some ad ∧ ∀ j u, (ints xs)[j]? = some u → w.cell? (ad.add j) = some u) := by
  rcases h with ⟨rfl, a, c, rfl⟩ | ⟨h0, b, off, c, rfl, hc⟩
  · refine ⟨a, c, rfl, ?_⟩
    cases a with
    | none => exact .inl ⟨rfl, rfl⟩
    | some ad => exact .inr ⟨ad, rfl, fun j u hu => by simp [ints] at hu⟩
  · refine ⟨_, c, rfl, .inr ⟨_, rfl, fun j u hu => ?_⟩⟩
    have hj : j < xs.length := by have := (List.getElem?_eq_some_iff.1 hu).1; simpa [ints] using this
    have : (⟨b, off, none⟩ : Addr).add j = ⟨b, off + j, none⟩ := by
      unfold Addr.add; split
      · next e => subst e; rfl
      · rfl
    rw [this, hc j hj]
    simpa [ints, hj] using hu
theorem ints_one (xs : List Int) : ∀ u ∈ ints xs, u.oneCell' = true := by
  intro u hu; simp [ints] at hu; obtain ⟨x, _, rfl⟩ := hu; rfl
theorem ints_append (xs ys : List Int) : ints (xs ++ ys) = ints xs ++ ints ys := by simp [ints]
theorem run_append_irow (w : World) (base : Nat) (ty : TypeId) (v s : Value) (n : Nat) (xs ys : List Int) (hown : w.ownsRow base 3 1 v n (ints xs)) (hs : IRow w s ys) (hn : n + ys.length ≤ 1000000000) (hb : base ≤ w.heap.size) :
    ∃ v' w', (Builtin.append_ #[31, 31] ty #[v, s]).run Tryd.prog w = .ok v' w' ∧ w'.ownsRow base 3 1 v' (n + ys.length) (ints (xs ++ ys)) ∧ w.grownBy w' v.ownBlock ∧ (v'.ownBlock = v.ownBlock ∨ v'.ownBlock = some w.heap.size) := by
  obtain ⟨i0, hi, hz0, hz1, hz2⟩ := info_parts info3
  obtain ⟨a, c, rfl, ⟨rfl, rfl⟩ | ⟨ad, rfl, hc⟩⟩ := hs.src
  · refine ⟨v, w, ?_, by simpa using hown, World.grownBy.refl w _, .inl rfl⟩
    rcases hown.2 with ⟨rfl, rfl⟩ | ⟨g, cap, cur, rfl, _, _, hnc, _⟩
    · simp [Builtin.append_, run_underlying Tryd.underlying31, sizeOf, typeInfo, hi, Builtin.lenOf, Builtin.firstCells]
    · simp [Builtin.append_, run_underlying Tryd.underlying31, sizeOf, typeInfo, hi, Builtin.lenOf, Builtin.firstCells, hnc, storeCells]
  · obtain ⟨v', w', h1, h2, h3, _, h5⟩ := run_append_own_at (P := Tryd.prog) w base 31 ty 3 i0 _ 1 8 Tryd.underlying31 hi hz0 hz1 hz2 rfl (by omega) v n (ints xs) hown ad ys.length c (ints ys) (by simp [ints]) hc (ints_one ys) (by unfold maxLen; omega) (by omega) hb
    exact ⟨v', w', h1, by rw [ints_append]; exact h2, h3, h5⟩
theorem wpList_append_irow {ops : Array Oper} {rest : List Oper} {o : Oper} {a : Act} {w : World} {Q : Exit → Act → World → Prop} (hgd : Region.wanted o (yielded ops a.tmps) = true) (s x : Operand)
    (ho : o.op = .call { callee := .builtin .append, args := #[s, x], argTypes := #[31, 31] })
    (base n : Nat) (xs ys : List Int) (v u : Value) (hs : a.eval s = v) (hx : a.eval x = u) (hown : w.ownsRow base 3 1 v n (ints xs)) (hr : IRow w u ys) (hn : n + ys.length ≤ 1000000000) (hb : base ≤ w.heap.size)
    (h : ∀ v' w', w'.ownsRow base 3 1 v' (n + ys.length) (ints (xs ++ ys)) → w.grownBy w' v.ownBlock → (v'.ownBlock = v.ownBlock ∨ v'.ownBlock = some w.heap.size) → wpList Tryd.prog ops Q rest (a.put o.dst v') w') :
    wpList Tryd.prog ops Q (o :: rest) a w := by
  refine BigFrame.wpList_want hgd fun K hK => ?_
  obtain ⟨v', w', h1, h2, h3, h4⟩ := run_append_irow w base o.type v u n xs ys hown hr hn hb
  unfold Oper.wp execOp
  simp only [ho, resolve, invoke, builtin, Sem.run_bind, Sem.run_pure, Result.andThen_ok, List.map_toArray, List.map_cons, List.map_nil, hs, hx, h1]
  exact hK _ _ (h v' w' h2 h3 h4)
/-- Behind an append onto what is new since w0, nothing of w0 has turned. -/
theorem Fr.of_own {w0 w w' : World} {base : Nat} {e : TypeId} {size n : Nat} {v : Value} {xs : List Value} (hs : Still w0 w) (hown : w.ownsRow base e size v n xs) (hg : w.grownBy w' v.ownBlock) (hb : w0.heap.size ≤ base) : Still w0 w' :=
  hs.then (Fr.of_grownBy hg (F := fun k => base ≤ k) (fun j ej _ => by
      rcases hown.2 with ⟨rfl, _⟩ | ⟨g, cap, cur, rfl, hb, _, _⟩
      · simp [Value.ownBlock] at ej
      · obtain rfl : g = j := by simpa [Value.ownBlock] using ej
        exact hb)) (fun i hi hf => by omega)
theorem owns_new (w : World) (T : TypeId) : (w.alloc (.cells #[] T)).ownsRow w.heap.size T 1 (.slice (some ⟨w.heap.size, 0, none⟩) 0 0) 0 [] :=
  ⟨rfl, .inr ⟨_, 0, #[], rfl, Nat.le_refl _, heap_at _ _ _ rfl, Nat.le_refl _, by unfold maxLen; omega, rfl, rfl⟩⟩
theorem IRow.own {w : World} {base n : Nat} {v : Value} {xs : List Int} (h : w.ownsRow base 3 1 v n (ints xs)) (hn : n = xs.length) : IRow w v xs := IRow.of_owns h hn
theorem IRow.fr {w w' : World} {v : Value} {xs : List Int} (h : IRow w v xs) {F : Nat → Prop} (hf : Fr F w w') (hd : ∀ b off c n, v = .slice (some ⟨b, off, none⟩) n c → ¬ F b) : IRow w' v xs := by
  rcases h with h | ⟨h0, b, off, c, hv, hc⟩
  · exact .inl h
  · refine .inr ⟨h0, b, off, c, hv, fun i hi => ?_⟩
    have hl := World.block_lt_of_cell? _ _ (hc i hi)
    exact (World.cell?_of_block (hf.block b hl (hd b off c _ hv))).trans (hc i hi)
theorem IRow.below {w : World} {v : Value} {xs : List Int} (h : IRow w v xs) (h0 : 0 < xs.length) {b off c n : Nat} (hv : v = .slice (some ⟨b, off, none⟩) n c) : b < w.heap.size := by
  rcases h with ⟨h, _⟩ | ⟨_, b', off', c', hv', hc⟩
  · subst h; simp at h0
  · rw [hv] at hv'
    injection hv' with e1 e2 e3
    injection e1 with e1
    injection e1 with e1 e4
    have := World.block_lt_of_cell? _ _ (hc 0 h0)
    rw [e1]; exact this
theorem Still.cell {w w' : World} (hs : Still w w') {a : Addr} {v : Value} (h : w.cell? a = some v) : w'.cell? a = some v := ((hs.below (Nat.le_refl _) (fun _ h => h.elim)).cell (World.block_lt_of_cell? _ _ h)).trans h
theorem step_append_irow {ops : Array Oper} {o : Oper} {a : Act} {w : World} {K : Act → World → Prop} {Q : Exit → Act → World → Prop} {E : Prop} (hgd : Region.wanted o (yielded ops a.tmps) = true) (s x : Operand)
    (ho : o.op = .call { callee := .builtin .append, args := #[s, x], argTypes := #[31, 31] })
    (base n : Nat) (xs ys : List Int) (v u : Value) (hs : a.eval s = v) (hx : a.eval x = u) (hown : w.ownsRow base 3 1 v n (ints xs)) (hr : IRow w u ys) (hn : n + ys.length ≤ 1000000000) (hb : base ≤ w.heap.size)
    (h : ∀ v' w', w'.ownsRow base 3 1 v' (n + ys.length) (ints (xs ++ ys)) → w.grownBy w' v.ownBlock → (v'.ownBlock = v.ownBlock ∨ v'.ownBlock = some w.heap.size) → K (a.put o.dst v') w') :
    if Region.wanted o (yielded ops a.tmps) = true then Oper.wp Tryd.prog o a w K Q else E := by
  rw [if_pos hgd]
  obtain ⟨v', w', h1, h2, h3, h4⟩ := run_append_irow w base o.type v u n xs ys hown hr hn hb
  unfold Oper.wp execOp
  simp only [ho, resolve, invoke, builtin, Sem.run_bind, Sem.run_pure, Result.andThen_ok, List.map_toArray, List.map_cons, List.map_nil, hs, hx, h1]
  exact h v' w' h2 h3 h4
theorem grown_cell {w w' : World} {row : Option Nat} (hg : w.grownBy w' row) {b i : Nat} {v : Value} (hc : w.cell? ⟨b, i, none⟩ = some v) (hn : row ≠ some b) : w'.cell? ⟨b, i, none⟩ = some v := by
  rw [← hc]; exact World.cell?_of_block (hg.block b (World.block_lt_of_cell? _ _ hc) (fun e => hn e.symm))
theorem IRow.drew {w : World} {v : Value} {xs : List Int} (h : IRow w v xs) : IRow w.drew v xs := h
theorem owns_alloc0 (w : World) (b : Nat) (o : Obj) (hb : b ≤ w.heap.size) : ((w.alloc (.cells #[] 3)).alloc o).ownsRow b 3 1 (.slice (some ⟨w.heap.size, 0, none⟩) 0 0) 0 [] :=
  (ownsRow_base (owns_new w 3) hb).alloc o
theorem owns_b (w : World) (b : Nat) (hb : b ≤ w.heap.size) : (w.alloc (.cells #[] 3)).ownsRow b 3 1 (.slice (some ⟨w.heap.size, 0, none⟩) 0 0) 0 [] := ownsRow_base (owns_new w 3) hb
theorem blk_new1 (w : World) (o : Obj) (A : List Value) (T : TypeId) : Blk ((w.alloc o).alloc (.cells A.toArray T)) (w.heap.size + 1) A T := by have := Blk.new (w.alloc o) A T; simpa using this
theorem one_new (w : World) (t : Int) (c : Nat) : IRow (w.alloc (.cells #[.int .i64 t] 3)) (.slice (some ⟨w.heap.size, 0, none⟩) 1 c) [t] := IRow.of_blk (xs := [t]) (Blk.new w [.int .i64 t] 3) (Nat.succ_pos 0)
theorem one_grown {W w1 : World} {b g c : Nat} {t : Int} (h : Blk W b [.int .i64 t] 3) (hg : W.grownBy w1 (some g)) (hn : g ≠ b) : IRow w1 (.slice (some ⟨b, 0, none⟩) 1 c) [t] := IRow.of_blk (xs := [t]) (h.grown hg (by simpa using hn)) (Nat.succ_pos 0)
theorem own_shape {w : World} {base : Nat} {e : TypeId} {size n : Nat} {v : Value} {xs : List Value} (h : w.ownsRow base e size v n xs) (m : Nat) (hm : n = m) : ∃ a c, v = .slice a m c := by
  subst hm
  obtain ⟨_, ⟨rfl, rfl⟩ | ⟨g, cap, _, rfl, _⟩⟩ := h
  · exact ⟨_, _, rfl⟩
  · exact ⟨_, _, rfl⟩
theorem put_far {w : World} {p R i j : Nat} {v u : Value} (h : w.cell? ⟨p, j, none⟩ = some v) (hn : p ≠ R) : (w.setCell ⟨R, i, none⟩ u).cell? ⟨p, j, none⟩ = some v :=
  (World.cell?_of_block (Below.heap_setCell w ⟨R, i, none⟩ u p hn)).trans h
theorem owns_b1 (w : World) (o : Obj) : ((w.alloc o).alloc (.cells #[] 3)).ownsRow w.heap.size 3 1 (.slice (some ⟨w.heap.size + 1, 0, none⟩) 0 0) 0 [] := by
  have := owns_b (w.alloc o) w.heap.size (by simp); simpa using this
theorem own_ne {w : World} {base : Nat} {e : TypeId} {size n b : Nat} {v : Value} {xs : List Value} (h : w.ownsRow base e size v n xs) (hb : b < base) : v.ownBlock ≠ some b := by
  obtain ⟨_, ⟨rfl, _⟩ | ⟨g, cap, _, rfl, hg, _⟩⟩ := h
  · simp [Value.ownBlock]
  · intro e; have : g = b := by simpa [Value.ownBlock] using e
    omega
theorem Still.frz {w w' : World} (hs : Still w w') {b i : Nat} {f : Bool} (hb : b < w.heap.size) (h : w.frozen? ⟨b, i, none⟩ = f) : w'.frozen? ⟨b, i, none⟩ = f := by
  rw [← h]; unfold World.frozen?; rw [hs.block b hb (fun h => h)]
theorem owns_fr {w w' : World} {base : Nat} {e : TypeId} {size n : Nat} {v : Value} {xs : List Value} (h : w.ownsRow base e size v n xs) {F : Nat → Prop} (hf : Fr F w w') (hd : ∀ k, base ≤ k → k < w.heap.size → ¬ F k) : w'.ownsRow base e size v n xs := by
  refine ⟨h.1, h.2.imp id ?_⟩
  rintro ⟨g, cap, cur, h1, h2, h3, h4⟩
  have hg := (Array.getElem?_eq_some_iff.1 h3).1
  exact ⟨g, cap, cur, h1, h2, (hf.block g hg (hd g h2 hg)).trans h3, h4⟩
theorem Fr.own_fr {w w' : World} {base : Nat} {e : TypeId} {size n : Nat} {v : Value} {xs : List Value} (hown : w.ownsRow base e size v n xs) (hg : w.grownBy w' v.ownBlock) : Fr (fun k => base ≤ k) w w' :=
  Fr.of_grownBy hg (F := fun k => base ≤ k) (fun j ej _ => by
      rcases hown.2 with ⟨rfl, _⟩ | ⟨g, cap, cur, rfl, hb, _, _⟩
      · simp [Value.ownBlock] at ej
      · obtain rfl : g = j := by simpa [Value.ownBlock] using ej
        exact hb)
theorem Fr.cellK {F : Nat → Prop} {w w' : World} (hf : Fr F w w') {b i : Nat} {v : Value} (h : w.cell? ⟨b, i, none⟩ = some v) (hn : ¬ F b) : w'.cell? ⟨b, i, none⟩ = some v := by
  rw [← h]; exact World.cell?_of_block (hf.block b (World.block_lt_of_cell? _ _ h) hn)
theorem own_addr {w : World} {base : Nat} {e : TypeId} {size n c m : Nat} {a : Option Addr} {xs : List Value} (h : w.ownsRow base e size (.slice a m c) n xs) : ∀ b o, a = some ⟨b, o, none⟩ → base ≤ b := by
  rintro b o rfl
  obtain ⟨_, ⟨h1, _⟩ | ⟨g, cap, _, h1, h2, _⟩⟩ := h
  · cases h1
  · injection h1 with h1; injection h1 with h1; injection h1 with h1; omega
theorem own_lt {w : World} {base : Nat} {e : TypeId} {size n c m : Nat} {b o : Nat} {xs : List Value} (h : w.ownsRow base e size (.slice (some ⟨b, o, none⟩) m c) n xs) : b < w.heap.size := by
  obtain ⟨_, ⟨h1, _⟩ | ⟨g, cap, _, h1, _, h3, _⟩⟩ := h
  · cases h1
  · injection h1 with h1; injection h1 with h1; injection h1 with h1; subst h1; exact (Array.getElem?_eq_some_iff.1 h3).1
theorem row_keep {w1 w2 : World} {n : Nat} {a : Option Addr} {cp : Nat} {xs : List Int} (h : IRow w1 (.slice a xs.length cp) xs) (hnew : 0 < xs.length → ∀ b o, a = some ⟨b, o, none⟩ → n ≤ b) {X : Nat → Prop} (hX : ∀ k, X k → k < n) (hf : Fr X w1 w2) : IRow w2 (.slice a xs.length cp) xs := by
  by_cases h0 : 0 < xs.length
  · refine h.fr hf fun b off c n e hx => ?_
    injection e with e1 _ _
    have := hnew h0 b off e1
    have := hX b hx
    omega
  · have : xs = [] := List.eq_nil_of_length_eq_zero (by omega)
    subst this
    exact .inl ⟨rfl, _, _, rfl⟩
theorem row_keep' {w1 w2 : World} {n m : Nat} {a : Option Addr} {cp : Nat} {xs : List Int} (hm : xs.length = m) (h : IRow w1 (.slice a m cp) xs) (hnew : 0 < m → ∀ b o, a = some ⟨b, o, none⟩ → n ≤ b) {X : Nat → Prop} (hX : ∀ k, X k → k < n) (hf : Fr X w1 w2) : IRow w2 (.slice a m cp) xs := by
  subst hm; exact row_keep h hnew hX hf
/-- Might a number be an id? -/
def idOk (id : Int) : Prop := 65536 ≤ id ∧ id / 65536 ≤ 2147483647
instance (id : Int) : Decidable (idOk id) := by unfold idOk; infer_instance
def ageI (id : Int) : Int := if idOk id then id / 65536 else 0
def idxI (id : Int) : Int := if idOk id then id % 65536 else -1
theorem idxI_cases (id : Int) : (¬ idOk id ∧ idxI id = -1) ∨ (idOk id ∧ idxI id = id % 65536 ∧ 0 ≤ id % 65536 ∧ id % 65536 < 65536) := by
  by_cases h : idOk id
  · exact .inr ⟨h, if_pos h, by omega, by omega⟩
  · exact .inl ⟨h, if_neg h⟩
def inI (id : Int) : Prop := id ≤ 9223372036854775807
def idMk (i a : Int) : Int := if i < 0 ∨ 65535 < i ∨ a < 1 ∨ 2147483647 < a then 0 else a * 65536 + i
theorem idMk_in (i a : Int) : inI (idMk i a) := by unfold inI idMk; split <;> omega
theorem wf_in {z : Int} (h : (Lit.int .i64 z).wf = true) : inI z := by
  have hu : IntKind.i64.min ≤ z ∧ z ≤ IntKind.i64.max := by simpa [Lit.wf] using h
  exact hu.2
end Go.Proofs.YtffjaaolcphonaaDoor
