/- A slice of whole numbers of one kind that came in, opened. -/
import Derived.Test.YtffjaaolcphonaaDoorActs
namespace Go.Proofs.YtffjaaolcphonaaDoor
open Go.ChangeShapes Go.WideShapes Go.Deep Go.RowKit

/-- A slice that came in: empty, or a row of `len` numbers. -/
def IsRow1 (K : IntKind) (w : World) (a : Option Addr) (len cap : Nat) (F : Nat → Int) : Prop :=
  len = 0 ∨
  ∃ b off, a = some ⟨b, off, none⟩ ∧ 0 < len ∧ len ≤ cap ∧ cap ≤ maxLen ∧ b < w.heap.size ∧ ∀ i, i < len → w.cell? ⟨b, off + i, none⟩ = some (.int K (F i)) ∧ (Lit.int K (F i)).wf = true

section
variable {H : Type} {enc : TypeId × Value → H} {w : World} {base : Nat}
theorem open_row1 {t e : TypeId} {K : IntKind} {fuel : Nat} {a : Option Addr} {len cap : Nat} {x : DataW H × List MemPlace} (ht : Tryd.prog.underlying t = some (.slice e)) (he : Tryd.prog.underlying e = some (.int K))
    (hC : Tryd.prog.cellsOf e = 1)
    (h : DataW.trod enc Tryd.prog w base (fun _ => true) true fuel t [.slice a len cap] = some x) : ∃ F, IsRow1 K w a len cap F := by
  rcases open_slice ht h with ⟨h0, _⟩ | ⟨a', len', cap', m, n', D, Pl, hcs, hb, hl, hm, hmm, hx, hi⟩
  · simp at h0; exact ⟨fun _ => 0, .inl h0.2.1⟩
  · simp at hcs
    obtain ⟨rfl, rfl, rfl⟩ := hcs
    have hc : ∀ i, i < len → ∃ z, w.cell? (a'.add i) = some (.int K z) ∧ (Lit.int K z).wf = true := by
      intro i hil
      obtain ⟨cs', hc, ht'⟩ := hi i (by rw [hmm]; simp; omega)
      rw [hC] at hc
      obtain ⟨_, hcl, hat⟩ := World.cells?_some hc
      have hcell := hat 0 (by omega)
      have hv : cs' = [cs'[0]'(by omega)] := by
        match cs', hcl with
        | [c], _ => rfl
      rw [hv] at ht'
      obtain ⟨z, hz, _, hw⟩ := DataW.trod_int he ht'
      refine ⟨z, ?_, hw⟩
      have hadd : (a'.add (i * 1)).add 0 = a'.add i := by rw [Go.Deep.add_add, Nat.mul_one, Nat.add_zero]
      rw [hadd] at hcell
      rw [hcell, List.getElem?_eq_getElem (by omega)]
      simp at hz
      rw [hz]
    obtain ⟨b, off, sp⟩ := a'
    by_cases hl0 : 0 < len
    · obtain ⟨z, hz, _⟩ := hc 0 hl0
      have hsp : sp = none := by simpa [Addr.add] using World.cell?_spot hz
      subst hsp
      have hsz : b < w.heap.size := by have := World.block_lt_of_cell? _ _ hz; simpa [Addr.add] using this
      refine ⟨fun i => ((w.cell? ⟨b, off + i, none⟩).bind fun v => match v with | .int _ z => some z | _ => none).getD 0, .inr ⟨b, off, rfl, hl0, hl, hm, hsz, fun i hi' => ?_⟩⟩
      obtain ⟨z, hz, hw⟩ := hc i hi'
      have hz' : w.cell? ⟨b, off + i, none⟩ = some (.int K z) := by
        rw [← hz, Addr.add]
        split
        · next h0 => subst h0; rfl
        · rfl
      have e : ((w.cell? ⟨b, off + i, none⟩).bind fun v => match v with | .int _ z => some z | _ => none).getD 0 = z := by rw [hz']; rfl
      show _ = some (Value.int K (((w.cell? ⟨b, off + i, none⟩).bind _).getD 0)) ∧ (Lit.int K (((w.cell? ⟨b, off + i, none⟩).bind _).getD 0)).wf = true
      rw [e]; exact ⟨hz', hw⟩
    · exact ⟨fun _ => 0, .inl (by omega)⟩
end
end Go.Proofs.YtffjaaolcphonaaDoor
