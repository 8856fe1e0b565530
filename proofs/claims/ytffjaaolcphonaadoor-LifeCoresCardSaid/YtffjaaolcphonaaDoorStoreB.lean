/- A struct stored into a block, at the operation; a struct loaded out of a block. -/
import Derived.Test.YtffjaaolcphonaaDoorMem
import Derived.Deep.MidRow
import Derived.WalkKit
import Derived.Laws.ResultCell
import Derived.Laws.Rows
namespace Go.Proofs.YtffjaaolcphonaaDoor
open Go.RowKit
theorem Fr.setRow (w : World) (g : Nat) (cs : Array Value) : Fr (fun k => k = g) w (w.setRow g cs) :=
  ⟨rfl, rfl, rfl, by simp [World.setRow], fun k _ hk => setRow_other w g k cs hk⟩
theorem Blk.setRow {w : World} {g T : Nat} {A : List Value} (h : Blk w g A T) (B : List Value) : Blk (w.setRow g B.toArray) g B T := setRow_heap w g _ _ T (0, 0) h
theorem run_storeB {P : Program} {w : World} {g T' : Nat} {A B : List Value} (o : Nat) (T : TypeId) (hb : Blk w g A T') (hl : o + B.length ≤ A.length) (hi : (P.info? T).map (·.size) = some B.length) (h1 : ∀ v ∈ B, v.oneCell' = true) :
    (Instr.storeAt T (.pointer (some ⟨g, o, none⟩)) (.agg B.toArray)).run P w = .ok () (w.setRow g (A.take o ++ B ++ A.drop (o + B.length)).toArray) := by
  have := run_storeCells_at (P := P) g o T' B 0 A.toArray w hb (by simpa using hl) h1
  simp only [Nat.add_zero] at this
  cases hq : P.info? T with
  | none => simp [hq] at hi
  | some i =>
    have hs : B.length = i.size := by simp [hq] at hi; omega
    simp [Instr.storeAt, Instr.sureAddr, storeVar, sizeOf, typeInfo, hq, Value.cells, hs] at this ⊢
    exact this
section
variable {P : Program} {ops : Array Oper} {rest : List Oper} {o : Oper} {a : Act} {w : World} {Q : Exit → Act → World → Prop}
theorem wpList_storeB (hgd : Region.wanted o (yielded ops a.tmps) = true) (p v : Operand) (T : TypeId) (hop : o.op = Op.store T p v) (g off T' : Nat) (A B : List Value) (hi : (P.info? T).map (·.size) = some B.length) (h1 : ∀ v ∈ B, v.oneCell' = true)
    (hp : a.eval p = .pointer (some ⟨g, off, none⟩)) (hv : a.eval v = .agg B.toArray) (hb : Blk w g A T') (hl : off + B.length ≤ A.length)
    (hK : ∀ w', Blk w' g (A.take off ++ B ++ A.drop (off + B.length)) T' → Fr (fun k => k = g) w w' → wpList P ops Q rest (a.put o.dst undef) w') : wpList P ops Q (o :: rest) a w := by
  refine BigFrame.wpList_want hgd fun K' hK' => ?_
  unfold Oper.wp
  simp only [execOp, hop, hp, hv, run_storeB off T hb hl hi h1, Sem.run_bind, Result.andThen, Sem.run_pure]
  exact hK' _ _ (hK _ (hb.setRow _) (Fr.setRow _ _ _))
theorem wpList_loadW (hgd : Region.wanted o (yielded ops a.tmps) = true) (p : Operand) (T : TypeId) (hop : o.op = Op.load T p) (d : TypeDesc) (hu : P.underlying T = some d) (hd : d.isRow = true) (g T' : Nat) (B : List Value) (hi : (P.info? T).map (·.size) = some B.length)
    (hp : a.eval p = .pointer (some ⟨g, 0, none⟩)) (hb : Blk w g B T') (hK : wpList P ops Q rest (a.put o.dst (.agg B.toArray)) w) : wpList P ops Q (o :: rest) a w :=
  BigFrame.wpList_want hgd fun _ hK' => wp_load_mid T p hop g 0 hp B d (fun j v hv => by rw [Nat.zero_add, hb.cell j]; exact hv) hu hd hi (hK' _ _ hK)
/-- A struct out of the middle of a block. -/
theorem wpList_loadB (hgd : Region.wanted o (yielded ops a.tmps) = true) (p : Operand) (T : TypeId) (hop : o.op = Op.load T p) (d : TypeDesc) (hu : P.underlying T = some d) (hd : d.isRow = true) (g off T' : Nat) (A B : List Value) (hi : (P.info? T).map (·.size) = some B.length)
    (hp : a.eval p = .pointer (some ⟨g, off, none⟩)) (hb : Blk w g A T') (hB : (A.drop off).take B.length = B) (hK : wpList P ops Q rest (a.put o.dst (.agg B.toArray)) w) : wpList P ops Q (o :: rest) a w :=
  BigFrame.wpList_want hgd fun _ hK' => wp_load_mid T p hop g off hp B d (fun j v hv => by
    have hj := (List.getElem?_eq_some_iff.1 hv).1
    rw [← hB, List.getElem?_take, if_pos hj, List.getElem?_drop] at hv
    rw [hb.cell (off + j)]; exact hv) hu hd hi (hK' _ _ hK)
/-- The whole block. -/
theorem wpList_storeW (hgd : Region.wanted o (yielded ops a.tmps) = true) (p v : Operand) (T : TypeId) (hop : o.op = Op.store T p v) (g T' : Nat) (A B : List Value) (hi : (P.info? T).map (·.size) = some B.length) (h1 : ∀ v ∈ B, v.oneCell' = true)
    (hp : a.eval p = .pointer (some ⟨g, 0, none⟩)) (hv : a.eval v = .agg B.toArray) (hb : Blk w g A T') (hl : A.length = B.length)
    (hK : ∀ w', Blk w' g B T' → Fr (fun k => k = g) w w' → wpList P ops Q rest (a.put o.dst undef) w') : wpList P ops Q (o :: rest) a w := by
  refine wpList_storeB hgd p v T hop g 0 T' A B hi h1 hp hv hb (by omega) fun w' h1 h2 => hK w' ?_ h2
  rw [List.take_zero, List.nil_append, List.drop_eq_nil_of_le (by omega), List.append_nil] at h1
  exact h1
end
theorem results_cell2 {P : Program} {fn : Func} {p u : Tmp} {ty : TypeId} (h : fn.results = #[.cell p ty, .tmp u]) (tmps : Array Value) (w : World) (g T' : Nat) (B : List Value) (d : TypeDesc) (x : Value) (hp : tmps.getD p undef = .pointer (some ⟨g, 0, none⟩)) (hx : tmps.getD u undef = x)
    (hb : Blk w g B T') (hu : P.underlying ty = some d) (hd : (match d with | .struct _ | .array _ _ => true | _ => false) = true) (hi : (P.info? ty).map (·.size) = some B.toArray.size) :
    (results fn tmps).run P w = .ok (.tuple #[.agg B.toArray, x]) w := by
  rw [results_cell_tmp h tmps P w, hp, hx]
  simp only [asAddr, Sem.run_pure, Result.andThen_ok, run_loadVar_row w g T' ty B.toArray (0, 0) d hb hu hd hi]
end Go.Proofs.YtffjaaolcphonaaDoor
