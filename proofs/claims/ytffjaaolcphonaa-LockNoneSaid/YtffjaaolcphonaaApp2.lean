/- append(v, s...) in a region that draws its order. -/
import Derived.Test.YtffjaaolcphonaaApp
import Derived.Deep.RegionHeld3
import Derived.Deep.AppendLies
namespace Go.Proofs.Ytffjaaolcphonaa
open Go.RowKit
theorem step_append_irow {ops : Array Oper} {o : Oper} {a : Act} {w : World} {K : Act → World → Prop} {Q : Exit → Act → World → Prop} {E : Prop} (hgd : Region.wanted o (yielded ops a.tmps) = true) (s x : Operand)
    (ho : o.op = .call { callee := .builtin .append, args := #[s, x], argTypes := #[28, 28] })
    (base n : Nat) (xs ys : List Int) (v u : Value) (hs : a.eval s = v) (hx : a.eval x = u) (hown : w.ownsRow base 3 1 v n (ints xs)) (hr : IRow w u ys) (hn : n + ys.length ≤ 1000000000) (hb : base ≤ w.heap.size)
    (h : ∀ v' w', w'.ownsRow base 3 1 v' (n + ys.length) (ints (xs ++ ys)) → w.grownBy w' v.ownBlock → (v'.ownBlock = v.ownBlock ∨ v'.ownBlock = some w.heap.size) → K (a.put o.dst v') w') :
    if Region.wanted o (yielded ops a.tmps) = true then Oper.wp Try.prog o a w K Q else E := by
  rw [if_pos hgd]
  obtain ⟨v', w', h1, h2, h3, h4⟩ := run_append_irow w base o.type v u n xs ys hown hr hn hb
  unfold Oper.wp execOp
  simp only [ho, resolve, invoke, builtin, Sem.run_bind, Sem.run_pure, Result.andThen_ok, List.map_toArray, List.map_cons, List.map_nil, hs, hx, h1]
  exact h v' w' h2 h3 h4
end Go.Proofs.Ytffjaaolcphonaa
