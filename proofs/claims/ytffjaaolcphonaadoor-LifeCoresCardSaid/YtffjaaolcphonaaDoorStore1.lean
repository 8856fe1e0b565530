/- One cell stored, at the operation. -/
import Derived.Test.YtffjaaolcphonaaDoorStoreB
namespace Go.Proofs.YtffjaaolcphonaaDoor
open Go.RowKit
theorem run_store1 {P : Program} {w : World} {b off : Nat} {u x : Value} (T : TypeId) (hi : (P.info? T).map (·.size) = some 1) (hx : x.cells = #[x]) (h1 : x.oneCell' = true) (hc : w.cell? ⟨b, off, none⟩ = some u) (hz : w.frozen? ⟨b, off, none⟩ = false) :
    (Instr.storeAt T (.pointer (some ⟨b, off, none⟩)) x).run P w = .ok () (w.setCell ⟨b, off, none⟩ x) := by
  have hadd : (⟨b, off, none⟩ : Addr).add 0 = ⟨b, off, none⟩ := by unfold Addr.add; simp
  have hst : (store ((⟨b, off, none⟩ : Addr).add 0) x).run P w = .ok () (w.setCell ⟨b, off, none⟩ x) := by
    rw [hadd, run_store P w _ x _ h1]
    simp [hc, hz]
  cases hq : P.info? T with
  | none => simp [hq] at hi
  | some i =>
    have hs : i.size = 1 := by simpa [hq] using hi
    simp [Instr.storeAt, Instr.sureAddr, storeVar, sizeOf, typeInfo, hq, hx, hs, storeCells, hst]
section
variable {P : Program} {ops : Array Oper} {rest : List Oper} {o : Oper} {a : Act} {w : World} {Q : Exit → Act → World → Prop}
theorem wpList_store1 (hgd : Region.wanted o (yielded ops a.tmps) = true) (p v : Operand) (T : TypeId) (hop : o.op = Op.store T p v) (b off : Nat) (u x : Value) (hi : (P.info? T).map (·.size) = some 1) (hx : x.cells = #[x]) (h1 : x.oneCell' = true)
    (hp : a.eval p = .pointer (some ⟨b, off, none⟩)) (hv : a.eval v = x) (hc : w.cell? ⟨b, off, none⟩ = some u) (hz : w.frozen? ⟨b, off, none⟩ = false)
    (hK : ∀ w', w' = w.setCell ⟨b, off, none⟩ x → wpList P ops Q rest (a.put o.dst undef) w') : wpList P ops Q (o :: rest) a w := by
  refine BigFrame.wpList_want hgd fun K' hK' => ?_
  unfold Oper.wp
  simp only [execOp, hop, hp, hv, run_store1 T hi hx h1 hc hz, Sem.run_bind, Result.andThen, Sem.run_pure]
  exact hK' _ _ (hK _ rfl)
end
end Go.Proofs.YtffjaaolcphonaaDoor
