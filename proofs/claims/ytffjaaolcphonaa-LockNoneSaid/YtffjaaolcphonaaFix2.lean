/- Steps of the one walk of a region that draws its order. -/
import Derived.Test.YtffjaaolcphonaaFix
import Derived.Tactics
import Derived.KernelRfl
namespace Go.Proofs.Ytffjaaolcphonaa.Fix
open Go

@[go_sem] def valUpon (P : Program) (K : Value → World → Prop) : Result Next → Prop
  | .ok (.value v) w' => K v w'
  | .ok .skip w' => K undef w'
  | .ok (.enter f args) w' => Calls P f args w' fun e w'' => ∃ v, e = .returned v ∧ K v w''
  | _ => False
@[go_sem] def valOp (P : Program) (o : Oper) (a : Act) (w : World) (K : Value → World → Prop) : Prop := valUpon P K ((execOp a.eval o).run P w)
theorem stp_val {P : Program} {o : Oper} {a : Act} {w : World} {v : Value} {R : World → Prop} (h : valOp P o a w (fun u w' => u = v ∧ R w')) : Stp P o a w v R := by
  unfold valOp at h
  unfold Stp
  generalize (execOp a.eval o).run P w = r at *
  cases r with
  | ok n w' =>
    cases n with
    | value u => exact h
    | skip => exact ⟨h.1.symm, h.2⟩
    | enter f args => exact Calls.mono h fun e w'' ⟨u, he, hu, hr⟩ => ⟨he.trans (by rw [hu]), hr⟩
    | _ => exact h.elim
  | _ => exact h.elim
section
variable {P : Program} {ops : Array Oper} {ss : List Nat} {C : Nat → World → Prop} {Q : Act → Prop} {o : Oper} {rest : List Oper} {i : Nat} {a : Act} {v : Value}
theorem fix_plain (hn : ss.findIdx? (· == i) = none)
    (h1 : ∀ k W, k ≤ lim ops ss i → C k W → ∀ K : Value → World → Prop, (∀ W', C k W' → K v W') → valOp P o a W K)
    (h2 : ∀ K : Act → Prop, (∀ a', wpFix P ops ss C Q rest (i + 1) a' → K a') → K (a.put o.dst v)) : wpFix P ops ss C Q (o :: rest) i a :=
  ⟨v, ob_plain hn fun k w hk hC => stp_val (h1 k w hk hC _ fun _ h => ⟨rfl, h⟩), h2 _ fun _ h => h⟩
theorem fix_store (k : Nat) (hn : ss.findIdx? (· == i) = some k)
    (h1 : ∀ W, C k W → ∀ K : Value → World → Prop, (∀ W', C (k + 1) W' → K v W') → valOp P o a W K)
    (h2 : ∀ K : Act → Prop, (∀ a', wpFix P ops ss C Q rest (i + 1) a' → K a') → K (a.put o.dst v)) : wpFix P ops ss C Q (o :: rest) i a :=
  ⟨v, ob_store k hn fun w hC => stp_val (h1 w hC _ fun _ h => ⟨rfl, h⟩), h2 _ fun _ h => h⟩
theorem fix_nil (h : Q a) : wpFix P ops ss C Q [] i a := h
end
end Go.Proofs.Ytffjaaolcphonaa.Fix
