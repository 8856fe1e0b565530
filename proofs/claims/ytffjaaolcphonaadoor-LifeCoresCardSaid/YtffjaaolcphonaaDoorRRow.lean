/- A row of structs written in place. -/
import Derived.Test.YtffjaaolcphonaaDoorSRow
import Derived.Test.YtffjaaolcphonaaDoorMapR
namespace Go.Proofs.YtffjaaolcphonaaDoor
open Go.RowKit Go.Maps
theorem run_storeV {P : Program} {w : World} {g T' : Nat} {A B : List Value} {v : Value} (hvc : v.cells = B.toArray) (o : Nat) (T : TypeId) (hb : Blk w g A T') (hl : o + B.length ≤ A.length) (hi : (P.info? T).map (·.size) = some B.length) (h1 : ∀ v ∈ B, v.oneCell' = true) :
    (Instr.storeAt T (.pointer (some ⟨g, o, none⟩)) v).run P w = .ok () (w.setRow g (A.take o ++ B ++ A.drop (o + B.length)).toArray) := by
  have := run_storeCells_at (P := P) g o T' B 0 A.toArray w hb (by simpa using hl) h1
  simp only [Nat.add_zero] at this
  cases hq : P.info? T with
  | none => simp [hq] at hi
  | some i =>
    have hs : B.length = i.size := by simp [hq] at hi; omega
    simp [Instr.storeAt, Instr.sureAddr, storeVar, sizeOf, typeInfo, hq, hvc, hs] at this ⊢
    exact this
section
variable {P : Program} {ops : Array Oper} {rest : List Oper} {o : Oper} {a : Act} {w : World} {Q : Exit → Act → World → Prop}
theorem wpList_storeV (hgd : Region.wanted o (yielded ops a.tmps) = true) (p v : Operand) (T : TypeId) (hop : o.op = Op.store T p v) (g off T' : Nat) (A B : List Value) (x : Value) (hx : x.cells = B.toArray) (hi : (P.info? T).map (·.size) = some B.length) (h1 : ∀ v ∈ B, v.oneCell' = true)
    (hp : a.eval p = .pointer (some ⟨g, off, none⟩)) (hv : a.eval v = x) (hb : Blk w g A T') (hl : off + B.length ≤ A.length)
    (hK : ∀ w', Blk w' g (A.take off ++ B ++ A.drop (off + B.length)) T' → Fr (fun k => k = g) w w' → wpList P ops Q rest (a.put o.dst undef) w') : wpList P ops Q (o :: rest) a w := by
  refine BigFrame.wpList_want hgd fun K' hK' => ?_
  unfold Oper.wp
  simp only [execOp, hop, hp, hv, run_storeV hx off T hb hl hi h1, Sem.run_bind, Result.andThen, Sem.run_pure]
  exact hK' _ _ (hK _ (hb.setRow _) (Fr.setRow _ _ _))
end
section
variable {α : Type} {S : SK α} {w w' : World} {L : List α}
theorem row_set {A B : List Value} {n off i : Nat} (hn : n = L.length) (hA : A.take (n * S.sz) = S.row L) (hi : i < L.length) (hl : off + B.length ≤ S.sz) {x : α} (hx : (S.cells L[i]).take off ++ B ++ (S.cells L[i]).drop (off + B.length) = S.cells x) :
    (A.take (i * S.sz + off) ++ B ++ A.drop (i * S.sz + off + B.length)).take (n * S.sz) = S.row (L.set i x) := by
  obtain ⟨C, hC⟩ : ∃ C, S.cells L[i] = C := ⟨_, rfl⟩
  obtain ⟨R1, hR1⟩ : ∃ R, S.row (L.take i) = R := ⟨_, rfl⟩
  obtain ⟨R2, hR2⟩ : ∃ R, S.row (L.drop (i + 1)) = R := ⟨_, rfl⟩
  have l1 : R1.length = i * S.sz := by rw [← hR1, S.row_len, List.length_take, Nat.min_eq_left (by omega)]
  have lC : C.length = S.sz := by rw [← hC, S.len]
  have hrow : S.row L = R1 ++ (C ++ R2) := by
    conv => lhs; rw [← List.take_append_drop i L, ← List.getElem_cons_drop hi]
    rw [S.row_app, hR1]
    show R1 ++ (L[i] :: L.drop (i + 1)).flatMap S.cells = _
    rw [List.flatMap_cons, hC]
    rw [← hR2]; rfl
  have hset : S.row (L.set i x) = R1 ++ (S.cells x ++ R2) := by
    rw [List.set_eq_take_append_cons_drop, if_pos hi, S.row_app, hR1]
    show R1 ++ (x :: L.drop (i + 1)).flatMap S.cells = _
    rw [List.flatMap_cons, ← hR2]; rfl
  have hAs : A = R1 ++ (C ++ (R2 ++ A.drop (n * S.sz))) := by
    conv => lhs; rw [← List.take_append_drop (n * S.sz) A, hA, hrow]
    simp
  generalize A.drop (n * S.sz) = Z at hAs
  have t1 : A.take (i * S.sz + off) = R1 ++ C.take off := by
    rw [hAs, ← l1, List.take_length_add_append, List.take_append_of_le_length (by omega)]
  have t2 : A.drop (i * S.sz + off + B.length) = C.drop (off + B.length) ++ (R2 ++ Z) := by
    rw [hAs, Nat.add_assoc, ← l1, List.drop_length_add_append, List.drop_append_of_le_length (by omega)]
  rw [hC] at hx
  rw [t1, t2, hset]
  have e : R1 ++ C.take off ++ B ++ (C.drop (off + B.length) ++ (R2 ++ Z)) = (R1 ++ (S.cells x ++ R2)) ++ Z := by
    rw [← hx]; simp [List.append_assoc]
  rw [e]
  have lx : (S.cells x).length = S.sz := S.len x
  have l2 : (R1 ++ (S.cells x ++ R2)).length = n * S.sz := by
    have h := congrArg List.length hset
    rw [S.row_len, List.length_set] at h
    rw [← h, hn]
  rw [← l2, List.take_left']
  rfl
theorem own_blk {base n : Nat} {v : Value} (h : w.ownsRow base S.Et S.sz v n (S.row L)) (hn : n = L.length) (h0 : 0 < L.length) : ∃ g cap A, v = .slice (some ⟨g, 0, none⟩) n cap ∧ base ≤ g ∧ Blk w g A S.Et ∧ n ≤ cap ∧ cap ≤ maxLen ∧ A.length = cap * S.sz ∧ A.take (n * S.sz) = S.row L := by
  obtain ⟨_, ⟨_, h2⟩ | ⟨g, cap, cur, rfl, hg, hcur, h1, h2, h3, h4⟩⟩ := h
  · omega
  · exact ⟨g, cap, cur.toList, rfl, hg, hcur, h1, h2, by simpa using h3, h4⟩
theorem own_of {base n g cap : Nat} {A : List Value} (hg : base ≤ g) (hb : Blk w g A S.Et) (h1 : n ≤ cap) (h2 : cap ≤ maxLen) (h3 : A.length = cap * S.sz) (h4 : A.take (n * S.sz) = S.row L) (hn : n = L.length) : w.ownsRow base S.Et S.sz (.slice (some ⟨g, 0, none⟩) n cap) n (S.row L) :=
  ⟨by rw [S.row_len, hn], .inr ⟨g, cap, A.toArray, rfl, hg, hb, h1, h2, by simpa using h3, by simpa using h4⟩⟩
theorem El.ins_set (E : El α) {L : List α} (h : E.Up L) {i : Nat} (hi : i < L.length) {x : α} (hx : E.key x = E.key L[i]) : E.ins x L = L.set i x := by
  induction L generalizing i with
  | nil => cases hi
  | cons y r ih =>
    obtain ⟨h1, h2⟩ := List.pairwise_cons.1 h
    rw [El.ins]
    cases i with
    | zero =>
      have e : E.key x = E.key y := hx
      rw [if_neg (by omega), if_pos e]; rfl
    | succ i =>
      have hi' : i < r.length := by simpa using hi
      have hm : r[i] ∈ r := List.getElem_mem hi'
      have := h1 _ hm
      have e : E.key x = E.key r[i] := hx
      rw [if_neg (by omega), if_neg (by omega), ih h2 hi' e]; rfl
end
end Go.Proofs.YtffjaaolcphonaaDoor
