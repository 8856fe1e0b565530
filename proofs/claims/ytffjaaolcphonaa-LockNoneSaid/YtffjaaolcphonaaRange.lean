/- A loop over the links' All, in the form in which all its callers meet it. -/
import Derived.Test.YtffjaaolcphonaaStops
import Derived.RangeFuncBox
import Derived.Maps.AppendAt
namespace Go.Proofs.Ytffjaaolcphonaa
open Go.RowKit Go.Shelf
attribute [local go_sem] Oper.semAt_some

/-- 'out = append(out, ..)', out in a box that lies below the rows that it may own. -/
theorem appended_fr {W w1 : World} {n₀ B : Nat} {t e : TypeId} {size : Nat} {v v' : Value} {k m : Nat} {xs ys : List Value} {tmp : Obj}
    (hv : Boxed W B t v) (hte : t ≠ e) (hrow : W.ownsRow n₀ e size v k xs) (hn₀ : n₀ ≤ W.heap.size)
    (hown' : w1.ownsRow n₀ e size v' m ys) (hgrow : (W.alloc tmp).grownBy w1 v.ownBlock) :
    Boxed w1 B t v ∧ Boxed (w1.setCell ⟨B, 0, none⟩ v') B t v' ∧ (w1.setCell ⟨B, 0, none⟩ v').ownsRow n₀ e size v' m ys ∧ KeepsOthers W (w1.setCell ⟨B, 0, none⟩ v') ∧ Fr (fun k => k = B ∨ n₀ ≤ k) W (w1.setCell ⟨B, 0, none⟩ v') := by
  by_cases hb : n₀ ≤ B
  · obtain ⟨h1, h2, h3, h4, h5⟩ := hv.appended hte hrow hn₀ hb hown' hgrow
    exact ⟨h1, h2, h3, h4, (Fr.of_below h5).mono fun k _ h => .inr h⟩
  · obtain ⟨h1, h2, h3, h4, _⟩ := hv.appended (n₀ := 0) hte (ownsRow_base hrow (Nat.zero_le _)) (Nat.zero_le _) (Nat.zero_le _) (ownsRow_base hown' (Nat.zero_le _)) hgrow
    have hv1 := h1
    refine ⟨h1, h2, hown'.kept (grownBy_setCell' w1 B v') (.inr (hv1.not_row hte hown').symm), h4, ?_⟩
    have hg : Fr (fun k => n₀ ≤ k) W w1 := Fr.then ((Fr.refl _ W).alloc tmp) (Fr.of_grownBy hgrow (F := fun k => n₀ ≤ k) (fun j ej _ => by
      rcases hrow.2 with ⟨rfl, _⟩ | ⟨g, cap, cur, rfl, hb, _, _⟩
      · simp [Value.ownBlock] at ej
      · obtain rfl : g = j := by simpa [Value.ownBlock] using ej
        exact hb)) (fun i _ h => h)
    exact (hg.mono fun k _ h => (.inr h : k = B ∨ n₀ ≤ k)).setCell (.inl (.inl rfl)) _
/-- How a round of such a loop is left: it goes on. -/
def RoundPost (B : Nat) (Kp : World → World → Prop) (I : List Nat → World → Prop) (xs : List Nat) (W : World) (e : Exit) (_ : Act) (W' : World) : Prop := e = .normal ∧ KeepsFrom B W W' ∧ Kp W W' ∧ I xs W'
theorem range_one {n id p d : Nat} {T : TypeId} {pos : String} {ed : Array Edge} {g : Operand} {body : Code} {Q : Exit → Act → World → Prop} {a : Act} {w : World} {b1 b2 : Nat} {Kp : World → World → Prop} {xs : List Nat}
    (hg : a.eval g = .func (.func 133) #[] #[.pointer (some ⟨b1, 0, none⟩), .pointer (some ⟨b2, 0, none⟩)])
    (hp : p < a.tmps.size)
    (hseq : SeqStopsK Fence.wide 3 Try.prog 133 #[.pointer (some ⟨b1, 0, none⟩), .pointer (some ⟨b2, 0, none⟩)] (fun x : Th n => #[Value.int .i64 (x.1 : Int)]) Kp (fun ys => vals ys = xs) (fun pre => vals pre <+: xs) xs.length w)
    (hKt : ∀ {A B C : World}, Kp A B → Kp B C → Kp A C) (hKb : ∀ (W : World) (l : Nat) (o o' : Obj), w.heap.size ≤ l → W.heap[l]? = some o → o.isCells = false → o.isWalk = false → Kp W (W.putObj l o'))
    (I : List Nat → World → Prop) (hI : OwnFrom w.heap.size I) (h0 : I [] w)
    (hbody : ∀ (l : Nat) (pre : List Nat) (x : Nat) (W : World), I pre W → pre.length < xs.length → x < n → body.wpIn (Fence.wide.inRound l) 2 Try.prog (RoundPost w.heap.size Kp I (pre ++ [x]) W)
      { tmps := (a.tmps.setIfInBounds p (.int .i64 (x : Int))).setIfInBounds d (.int .i64 (x : Int)), defers := [] } W)
    (hdone : ∀ (D : Nat) (W : World), w.heap.size ≤ D → I xs W → W.heap[D]? = some (.deferred (some [])) → Q .normal { a with defers := { target := .collected D, args := #[] } :: a.defers } W) :
    (Code.rangeFunc g #[p] (.region id #[{ dst := some d, op := .assign (.tmp p), type := T, pos := pos, after := ed, guard := none }] false) body).wpIn Fence.wide 4 Try.prog Q a w := by
  refine wpIn_rangeFunc_ownG rfl (by decide) (gf := 133) (lb := #[.pointer (some ⟨b1, 0, none⟩), .pointer (some ⟨b2, 0, none⟩)]) hg trivial (enters_of Try.func133 (by kernel_rfl) rfl)
    hseq hKt hKb (Below.refl _ _) (fun _ => rfl) (fun pre W => I (vals pre) W) (fun _ _ _ => False) (fun s W W' row hs hg hr => hI (vals s) W W' row hs hg hr) (fun _ _ _ _ _ hs _ _ => hs) h0
    (fun x => { tmps := (a.tmps.setIfInBounds p (.int .i64 (x.1 : Int))).setIfInBounds d (.int .i64 (x.1 : Int)), defers := [] }) ?assign ?body ?done ?stop
  case assign =>
    intro l x W K hK
    have e : ((#[p].zip #[Value.int IntKind.i64 (x.1 : Int)]).foldl (fun t (p, v) => t.setIfInBounds p v) a.tmps) = a.tmps.setIfInBounds p (.int .i64 (x.1 : Int)) := by simp
    rw [e]
    apply wpIn_region_lit (l := [_])
    refine wpListIn_plain rfl (fun K' hK' => ?_)
    have hget : (Act.mk (a.tmps.setIfInBounds p (.int .i64 (x.1 : Int))) []).eval (.tmp p) = .int .i64 (x.1 : Int) := by simp [Act.eval, hp]
    refine ⟨fun f _ => trivial, ?_⟩
    have e2 : (Oper.semAt (Fence.wide.inRound l).round (Act.mk (a.tmps.setIfInBounds p (.int .i64 (x.1 : Int))) []).eval { dst := some d, op := Op.assign (Operand.tmp p), type := T, pos := pos, after := ed, guard := none }).run Try.prog W = .ok (.value (.int .i64 (x.1 : Int))) W := by
      show (Oper.semAt (some l) _ _).run _ _ = _
      rw [Oper.semAt_some _ _ _ (by intro c h; cases h), BigFrame.run_assign (.tmp p) rfl, hget]
    rw [e2, Oper.uponIn_value]
    refine hK' _ _ (wpListIn_nil ?_)
    exact hK
  case body =>
    intro l pre x W hI' hlen
    refine wpIn_mono (hbody l (vals pre) x.1 W hI' (by simpa [vals] using hlen) x.2) ?_
    rintro e a' W' ⟨rfl, h1, h2, h3⟩
    exact ⟨h1, h2, by show I (vals (pre ++ [x])) W'; rw [vals_snoc]; exact h3⟩
  case done =>
    rintro D ys W hD rfl hi hK
    exact hdone D W hD hi hK
  case stop =>
    rintro D c pre W _ _ h _
    exact h.elim
end Go.Proofs.Ytffjaaolcphonaa
