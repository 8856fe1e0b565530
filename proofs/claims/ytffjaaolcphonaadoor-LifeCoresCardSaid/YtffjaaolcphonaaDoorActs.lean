/- A slice of structs of integer fields, opened. -/
import Derived.Test.YtffjaaolcphonaaDoorBase
import Derived.Deep.Slices
import Derived.Deep.Fields
import Derived.ChangeSame
import Derived.OpenShut
namespace Go.Proofs.YtffjaaolcphonaaDoor
open Go.ChangeShapes Go.WideShapes Go.Deep Go.RowKit

theorem laidOut : laidOutB Tryd.prog = true := by kernel_rfl

/-- A slice that came in: empty, or a row of `len` structs of `n` integers each. -/
def IsRow3 (n : Nat) (w : World) (a : Option Addr) (len cap : Nat) (F : Nat → Nat → Int) : Prop :=
  len = 0 ∨
  ∃ b off, a = some ⟨b, off, none⟩ ∧ 0 < len ∧ len ≤ cap ∧ cap ≤ maxLen ∧ b < w.heap.size ∧ ∀ i, i < len → ∀ j, j < n → w.cell? ⟨b, off + (i * n + j), none⟩ = some (.int .i64 (F i j)) ∧ inI (F i j)

section
variable {H : Type} {enc : TypeId × Value → H} {w : World} {base : Nat}
theorem open_acts {t e : TypeId} {n : Nat} {fs : Array Field} {fuel : Nat} {a : Option Addr} {len cap : Nat} {x : DataW H × List MemPlace} (hn : 0 < n) (ht : Tryd.prog.underlying t = some (.slice e)) (he : Tryd.prog.underlying e = some (.struct fs))
    (hone : oneCellFields Tryd.prog fs = true) (hC : Tryd.prog.cellsOf e = n) (hsz : fs.size = n) (hint : ∀ (j : Nat) (f : Field), fs[j]? = some f → Tryd.prog.underlying f.type = some (.int .i64))
    (h : DataW.trod enc Tryd.prog w base (fun _ => true) true fuel t [.slice a len cap] = some x) : ∃ F, IsRow3 n w a len cap F := by
  rcases open_slice ht h with ⟨h0, _⟩ | ⟨a', len', cap', m, n', D, Pl, hcs, hb, hl, hm, hmm, hx, hi⟩
  · simp at h0; exact ⟨fun _ _ => 0, .inl h0.2.1⟩
  · simp at hcs
    obtain ⟨rfl, rfl, rfl⟩ := hcs
    have hc : ∀ i, i < len → ∀ j, j < n → ∃ z, w.cell? (a'.add (i * n + j)) = some (.int .i64 z) ∧ inI z := by
      intro i hil j hj
      obtain ⟨cs', hc, ht'⟩ := hi i (by rw [hmm]; simp; omega)
      rw [hC] at hc
      obtain ⟨ys, n'', hn', hy, hlen, hyl, hf⟩ := DataW.trod_struct he ht'
      obtain ⟨_, hcl, hat⟩ := World.cells?_some hc
      have hjl : j < fs.size := by omega
      obtain ⟨ho, hk⟩ := hone_of hone j fs[j] (by simp [hjl])
      have hcell := hat j (by omega)
      have hv : cs'[j]? = some (cs'[j]'(by omega)) := List.getElem?_eq_getElem (by omega)
      have h1 := hf j fs[j] (by simp [hjl])
      rw [ho, hk] at h1
      have hone' : (cs'.drop j).take 1 = [cs'[j]'(by omega)] := by
        rw [List.drop_eq_getElem_cons (by omega)]
        rfl
      rw [hone'] at h1
      have hys : ys[j]? = some (ys[j]'(by omega)) := List.getElem?_eq_getElem (by omega)
      obtain ⟨z, hz, _, hwf⟩ := DataW.trod_int (hint j fs[j] (by simp [hjl])) (h1.trans hys)
      refine ⟨z, ?_, wf_in hwf⟩
      rw [← Go.Deep.add_add, hcell, hv]
      simp at hz
      rw [hz]
    obtain ⟨b, off, sp⟩ := a'
    by_cases hl0 : 0 < len
    · obtain ⟨z, hz, _⟩ := hc 0 hl0 0 hn
      have hsp : sp = none := by simpa [Addr.add] using World.cell?_spot hz
      subst hsp
      have hsz : b < w.heap.size := by have := World.block_lt_of_cell? _ _ hz; simpa [Addr.add] using this
      refine ⟨fun i j => ((w.cell? ⟨b, off + (i * n + j), none⟩).bind fun v => match v with | .int _ z => some z | _ => none).getD 0, .inr ⟨b, off, rfl, hl0, hl, hm, hsz, fun i hi' j hj => ?_⟩⟩
      obtain ⟨z, hz, hwz⟩ := hc i hi' j hj
      have hz' : w.cell? ⟨b, off + (i * n + j), none⟩ = some (.int .i64 z) := by
        rw [← hz, Addr.add]
        split
        · next h0 => rw [h0]; rfl
        · rfl
      have e : ((w.cell? ⟨b, off + (i * n + j), none⟩).bind fun v => match v with | .int _ z => some z | _ => none).getD 0 = z := by rw [hz']; rfl
      show _ = some (Value.int .i64 (((w.cell? ⟨b, off + (i * n + j), none⟩).bind _).getD 0)) ∧ inI (((w.cell? ⟨b, off + (i * n + j), none⟩).bind _).getD 0)
      rw [e]; exact ⟨hz', hwz⟩
    · exact ⟨fun _ _ => 0, .inl (by omega)⟩
end
end Go.Proofs.YtffjaaolcphonaaDoor
