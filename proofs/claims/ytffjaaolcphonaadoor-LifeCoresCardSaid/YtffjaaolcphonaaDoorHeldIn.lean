/- A region that draws its order within a fence, whose operations call nothing: walked as one outside of it. -/
import Derived.Test.YtffjaaolcphonaaDoorHeld
import Derived.OrdersIn
import Derived.TacticsIn
namespace Go.Proofs.YtffjaaolcphonaaDoor.Held
open Go
section
variable {P : Program} {md : Region.Mode}
/-- A result that enters nothing. -/
def Calm : Result Next → Prop
  | .ok (.value _) _ => True
  | .ok .skip _ => True
  | .halt _ _ => True
  | _ => False
theorem calm_v (s : Sem Value) (w : World) : Calm ((do pure (Next.value (← s)) : Sem Next).run P w) := by
  simp only [Sem.run_bind, Sem.run_pure]
  cases s.run P w <;> trivial
theorem calm_u (s : Sem Unit) (w : World) : Calm ((do s; pure Next.skip : Sem Next).run P w) := by
  simp only [Sem.run_bind, Sem.run_pure]
  cases s.run P w <;> trivial
/-- An operation that calls nothing. -/
def plainB (o : Oper) : Bool := match o.op with
  | .move _ | .assign _ | .load _ _ | .store _ _ _ | .buildSlice _ _ _ | .fieldAddr _ _ _ | .indexAddr _ _ _ | .binOp _ _ _ _ _ | .box _ _ | .build _ _ => true
  | .call c => (match c.callee with | .builtin .append => true | .builtin .len => true | _ => false)
  | .nilCheck _ => true
  | _ => false
theorem calm_rt (w : World) : Calm ((runtimePanic .nilDeref : Sem Next).run P w) := by
  unfold runtimePanic
  simp only [Sem.run_bind, run_program, Result.andThen_ok, run_goPanic]; trivial
theorem calm_w (r : Result Value) : Calm (r.andThen fun a w' => Result.ok (Next.value a) w') := by
  cases r <;> trivial
theorem calm_op (o : Oper) (ρ : Operand → Value) (w : World) (h : plainB o = true) : Calm ((execOp ρ o).run P w) := by
  unfold plainB at h
  unfold execOp
  split at h
  all_goals (try simp only [*])
  all_goals first
    | exact calm_v _ w
    | exact calm_u _ w
    | trivial
    | skip
  · rename_i c _
    split at h
    · rename_i hc
      simp only [resolve, hc, Sem.run_bind, Sem.run_pure, Result.andThen_ok, invoke, builtin]
      exact calm_w _
    · rename_i hc
      simp only [resolve, hc, Sem.run_bind, Sem.run_pure, Result.andThen_ok, invoke, builtin]
      exact calm_w _
    · cases h
  · split
    · exact calm_rt w
    · exact calm_rt w
    · exact calm_rt w
    · split
      · exact calm_rt w
      · rename_i t v _
        simp only [Sem.run_bind, run_program, Result.andThen_ok]
        cases (nilAhead _ t v _).run P w with
        | ok b w' =>
          simp only [Result.andThen_ok]
          split
          · simp only [Sem.run_bind, run_unsupported]; trivial
          · trivial
        | halt h w' => trivial
      · trivial
    · trivial
theorem upon_calm {F : Fence} {n : Nat} {o : Oper} {a : Act} {K K' : Act → World → Prop} {Q : Exit → Act → World → Prop} {R : Act → World → Prop} {r : Result Next} (hr : Calm r) (hK : ∀ a w, K a w → K' a w)
    (h : o.upon P a K (fun e a w => e = .normal ∧ R a w) r) : o.uponIn F n P a K' Q r := by
  cases r with
  | ok x w' =>
    cases x <;> simp only [Calm] at hr <;> simp only [Oper.upon, Oper.uponIn] at h ⊢
    case value u => exact hK _ _ h
    case skip => exact hK _ _ h
  | halt x w' =>
    cases x <;> simp only [Oper.upon, Oper.uponIn] at h ⊢
    case panic u => exact absurd h.1 (by intro e; cases e)
theorem wpOp_in {F : Fence} {n : Nat} (hF : ∀ f, F.fn f) {ops : Array Oper} {K K' : Act → World → Prop} {Q : Exit → Act → World → Prop} {R : Act → World → Prop} {i : Nat} {a : Act} {w : World} (hp : ops.all plainB = true) (hK : ∀ a w, K a w → K' a w)
    (h : wpOp P ops (fun e a w => e = .normal ∧ R a w) i K a w) : wpOpIn F n P ops Q i K' a w := by
  unfold wpOp at h
  unfold wpOpIn
  cases ho : ops[i]? with
  | none => rw [ho] at h; exact hK _ _ h
  | some o =>
    rw [ho] at h
    have hpo : plainB o = true := by
      obtain ⟨hi, e⟩ := Array.getElem?_eq_some_iff.1 ho
      exact e ▸ Array.all_eq_true.1 hp i hi
    simp only at h ⊢
    split
    · rename_i hw
      rw [if_pos hw] at h
      rcases h with h | ⟨_, a', w', h, _⟩
      · refine ⟨fun f _ => hF f, ?_⟩
        rw [Oper.semAt_eq F.round a.eval o (fun c e => by unfold plainB at hpo; rw [e] at hpo; cases hpo)]
        exact upon_calm (calm_op o a.eval w hpo) hK h
      · cases h
    · rename_i hw
      rw [if_neg hw] at h
      exact ⟨fun f _ => hF f, hK _ _ h⟩
theorem wpAny_in {F : Fence} {n : Nat} (hF : ∀ f, F.fn f) {ops : Array Oper} {Q : Exit → Act → World → Prop} {R : Act → World → Prop} (hp : ops.all plainB = true) (hQ : ∀ a w, R a w → Q .normal a w) :
    ∀ (f : Nat) (l : Array Bool) (a : Act) (w : World), wpAny P md ops (fun e a w => e = .normal ∧ R a w) f l a w → wpAnyIn F n P md ops Q f l a w
  | 0, _, _, _, h => ⟨h.1, hQ _ _ h.2.2⟩
  | f + 1, _, _, _, h => ⟨fun hr => hQ _ _ (h.1 hr).2, fun i hi => wpOp_in hF hp (fun a' w' h' => wpAny_in hF hp hQ f _ a' w' h') (h.2 i hi)⟩
/-- A drawn region within a fence, whose operations call nothing. -/
theorem wpIn_region_plain {F : Fence} {n : Nat} (hF : ∀ f, F.fn f) {id : Nat} {Q : Exit → Act → World → Prop} {a : Act} {w : World} {l : List Oper} (hm : P.follows .mixedOrders = true) (hp : l.toArray.all plainB = true)
    (h : ∀ R : Act → World → Prop, (∀ a w, Q .normal a w → R a w) → wpAny P .any l.toArray (fun e a w => e = .normal ∧ R a w) l.toArray.size (Array.replicate l.toArray.size false) a w.drew) : (Code.region id l.toArray true).wpIn F n P Q a w :=
  wpIn_region_any hm (wpAny_in (R := Q .normal) hF hp (fun _ _ h => h) _ _ _ _ (h _ (fun _ _ h => h)))
/-- The same, with a forced tail cut off (Held.wp_region_held_tail). -/
theorem wpIn_region_held_tail {F : Fence} {m : Nat} (hF : ∀ f, F.fn f) {id : Nat} {Q : Exit → Act → World → Prop} {a : Act} {w : World} {S : World → Prop} {l : List Oper} (n : Nat) (hm : P.follows .mixedOrders = true) (hp : l.toArray.all plainB = true) (hB : tailB (l.take n) (l.drop n) = true) (hn : n ≤ l.length)
    (hS : S w.drew) (h : S w.drew → wpAnyH P .any (l.take n).toArray (tailQ P l.toArray (fun e a w => e = .normal ∧ Q .normal a w) (l.drop n)) S n (Array.replicate n false) a w.drew) : (Code.region id l.toArray true).wpIn F m P Q a w := by
  refine wpIn_region_any hm (wpAny_in (R := Q .normal) hF hp (fun _ _ h => h) _ _ _ _ ?_)
  have hl : l.take n ++ l.drop n = l := List.take_append_drop n l
  have hlen : (l.take n).length = n := by simp [hn]
  have h0 := wpAny_of_held _ _ _ _ (h hS)
  have inv0 : HeadInv .any (l.take n ++ l.drop n).toArray (l.take n).length (Array.replicate l.length false) :=
    ⟨by simp, fun j oj _ hl => (by rw [getD_replicate_false] at hl; cases hl), fun t _ ht => getD_in (by simpa using ht) (getD_replicate_false _ _)⟩
  have := wpAny_tail (P := P) (Q := fun e a w => e = .normal ∧ Q .normal a w) hB n (Array.replicate n false) (Array.replicate l.length false) a w.drew (by simp [hn]) inv0 (fun i _ => by rw [getD_replicate_false, getD_replicate_false]) (by rw [hl]; exact h0)
  rw [hl] at this
  have e : n + (l.drop n).length = l.toArray.size := by simp; omega
  rw [e] at this
  exact this
end
end Go.Proofs.YtffjaaolcphonaaDoor.Held
