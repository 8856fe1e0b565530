/- Threads: the changes of state, by their variables; End; Spawn; New. -/
import Derived.Test.YtffjaaolcphonaaDoorThr3
namespace Go.Proofs.YtffjaaolcphonaaDoor
open Go.RowKit Go.Maps
set_option linter.unusedSimpArgs false
/-- The changes, in their variables. -/
def tabT : List (Int × Int) := [(2, 2), (4, 1), (4, 3), (4, 4), (24, 1), (16, 2)]
def TabT (w : World) : Prop := ∀ i (h : i < tabT.length), w.cell? ⟨i, 0, none⟩ = some (.int .i64 tabT[i].1) ∧ w.cell? ⟨i, 1, none⟩ = some (.int .i64 tabT[i].2)
theorem TabT.still {w w' : World} (h : TabT w) (hs : Still w w') : TabT w' := fun i hi => ⟨Still.cell hs (h i hi).1, Still.cell hs (h i hi).2⟩
theorem TabT.fr {w w' : World} (h : TabT w) {F : Nat → Prop} (hf : Fr F w w') (hn : ∀ k, k < 6 → ¬ F k) : TabT w' := fun i hi => ⟨hf.cellK (h i hi).1 (hn i hi), hf.cellK (h i hi).2 (hn i hi)⟩
section
variable {w w' : World} {P : Nat} {B : SB} {M : Nat} {s : SS} {L : List Thr}
theorem trun (h : TAt w P B M s L) (hl : L.length < maxLen) (hT : TabT w) (id : Int) (wf : (Lit.int .i64 id).wf = true) (hs : ∀ x ∈ L, 1 ≤ x.s ∧ x.s ≤ 4) : Calls Tryd.prog 46 #[.pointer (some ⟨P, 0, none⟩), .int .i64 id] w fun e w' =>
    e = .returned (.int .i64 (turnE L id 2)) ∧ TAt w' P B M s (turnL L id 2 2) ∧ Fr (fun k => k = M) w w' := by
  have c0 : w.cell? ⟨0, 0, none⟩ = some (.int .i64 2) := (hT 0 (by decide)).1
  have c1 : w.cell? ⟨0, 1, none⟩ = some (.int .i64 2) := (hT 0 (by decide)).2
  have T := hid (tturn h hl id wf 2 2 hs)
  clear h hl hT wf hs
  go_enter Tryd.func46, Tryd.ntmps46
  go_wp2_with fail
  refine T.out.mono ?_
  rintro e w2 ⟨rfl, h2, f2⟩
  have H2 := hid h2
  have F2 := hid f2
  clear h2 f2
  go_wp2_with fail
  go_ret
  exact ⟨rfl, H2.out, F2.out⟩
theorem tyield (h : TAt w P B M s L) (hl : L.length < maxLen) (hT : TabT w) (id : Int) (wf : (Lit.int .i64 id).wf = true) (hs : ∀ x ∈ L, 1 ≤ x.s ∧ x.s ≤ 4) : Calls Tryd.prog 47 #[.pointer (some ⟨P, 0, none⟩), .int .i64 id] w fun e w' =>
    e = .returned (.int .i64 (turnE L id 4)) ∧ TAt w' P B M s (turnL L id 4 1) ∧ Fr (fun k => k = M) w w' := by
  have c0 : w.cell? ⟨1, 0, none⟩ = some (.int .i64 4) := (hT 1 (by decide)).1
  have c1 : w.cell? ⟨1, 1, none⟩ = some (.int .i64 1) := (hT 1 (by decide)).2
  have T := hid (tturn h hl id wf 4 1 hs)
  clear h hl hT wf hs
  go_enter Tryd.func47, Tryd.ntmps47
  go_wp2_with fail
  refine T.out.mono ?_
  rintro e w2 ⟨rfl, h2, f2⟩
  have H2 := hid h2
  have F2 := hid f2
  clear h2 f2
  go_wp2_with fail
  go_ret
  exact ⟨rfl, H2.out, F2.out⟩
theorem twait (h : TAt w P B M s L) (hl : L.length < maxLen) (hT : TabT w) (id : Int) (wf : (Lit.int .i64 id).wf = true) (hs : ∀ x ∈ L, 1 ≤ x.s ∧ x.s ≤ 4) : Calls Tryd.prog 48 #[.pointer (some ⟨P, 0, none⟩), .int .i64 id] w fun e w' =>
    e = .returned (.int .i64 (turnE L id 4)) ∧ TAt w' P B M s (turnL L id 4 3) ∧ Fr (fun k => k = M) w w' := by
  have c0 : w.cell? ⟨2, 0, none⟩ = some (.int .i64 4) := (hT 2 (by decide)).1
  have c1 : w.cell? ⟨2, 1, none⟩ = some (.int .i64 3) := (hT 2 (by decide)).2
  have T := hid (tturn h hl id wf 4 3 hs)
  clear h hl hT wf hs
  go_enter Tryd.func48, Tryd.ntmps48
  go_wp2_with fail
  refine T.out.mono ?_
  rintro e w2 ⟨rfl, h2, f2⟩
  have H2 := hid h2
  have F2 := hid f2
  clear h2 f2
  go_wp2_with fail
  go_ret
  exact ⟨rfl, H2.out, F2.out⟩
theorem ttrap (h : TAt w P B M s L) (hl : L.length < maxLen) (hT : TabT w) (id : Int) (wf : (Lit.int .i64 id).wf = true) (hs : ∀ x ∈ L, 1 ≤ x.s ∧ x.s ≤ 4) : Calls Tryd.prog 49 #[.pointer (some ⟨P, 0, none⟩), .int .i64 id] w fun e w' =>
    e = .returned (.int .i64 (turnE L id 4)) ∧ TAt w' P B M s (turnL L id 4 4) ∧ Fr (fun k => k = M) w w' := by
  have c0 : w.cell? ⟨3, 0, none⟩ = some (.int .i64 4) := (hT 3 (by decide)).1
  have c1 : w.cell? ⟨3, 1, none⟩ = some (.int .i64 4) := (hT 3 (by decide)).2
  have T := hid (tturn h hl id wf 4 4 hs)
  clear h hl hT wf hs
  go_enter Tryd.func49, Tryd.ntmps49
  go_wp2_with fail
  refine T.out.mono ?_
  rintro e w2 ⟨rfl, h2, f2⟩
  have H2 := hid h2
  have F2 := hid f2
  clear h2 f2
  go_wp2_with fail
  go_ret
  exact ⟨rfl, H2.out, F2.out⟩
theorem twake (h : TAt w P B M s L) (hl : L.length < maxLen) (hT : TabT w) (id : Int) (wf : (Lit.int .i64 id).wf = true) (hs : ∀ x ∈ L, 1 ≤ x.s ∧ x.s ≤ 4) : Calls Tryd.prog 50 #[.pointer (some ⟨P, 0, none⟩), .int .i64 id] w fun e w' =>
    e = .returned (.int .i64 (turnE L id 24)) ∧ TAt w' P B M s (turnL L id 24 1) ∧ Fr (fun k => k = M) w w' := by
  have c0 : w.cell? ⟨4, 0, none⟩ = some (.int .i64 24) := (hT 4 (by decide)).1
  have c1 : w.cell? ⟨4, 1, none⟩ = some (.int .i64 1) := (hT 4 (by decide)).2
  have T := hid (tturn h hl id wf 24 1 hs)
  clear h hl hT wf hs
  go_enter Tryd.func50, Tryd.ntmps50
  go_wp2_with fail
  refine T.out.mono ?_
  rintro e w2 ⟨rfl, h2, f2⟩
  have H2 := hid h2
  have F2 := hid f2
  clear h2 f2
  go_wp2_with fail
  go_ret
  exact ⟨rfl, H2.out, F2.out⟩
theorem tback (h : TAt w P B M s L) (hl : L.length < maxLen) (hT : TabT w) (id : Int) (wf : (Lit.int .i64 id).wf = true) (hs : ∀ x ∈ L, 1 ≤ x.s ∧ x.s ≤ 4) : Calls Tryd.prog 51 #[.pointer (some ⟨P, 0, none⟩), .int .i64 id] w fun e w' =>
    e = .returned (.int .i64 (turnE L id 16)) ∧ TAt w' P B M s (turnL L id 16 2) ∧ Fr (fun k => k = M) w w' := by
  have c0 : w.cell? ⟨5, 0, none⟩ = some (.int .i64 16) := (hT 5 (by decide)).1
  have c1 : w.cell? ⟨5, 1, none⟩ = some (.int .i64 2) := (hT 5 (by decide)).2
  have T := hid (tturn h hl id wf 16 2 hs)
  clear h hl hT wf hs
  go_enter Tryd.func51, Tryd.ntmps51
  go_wp2_with fail
  refine T.out.mono ?_
  rintro e w2 ⟨rfl, h2, f2⟩
  have H2 := hid h2
  have F2 := hid f2
  clear h2 f2
  go_wp2_with fail
  go_ret
  exact ⟨rfl, H2.out, F2.out⟩
def endE (s : SS) (L : List Thr) (k : Int) : Int := if fndE L k = 0 then (if (fndT L k).s = 2 then freeE s k else 5) else 4
def endL (L : List Thr) (k : Int) : List Thr := if fndE L k = 0 then (if (fndT L k).s = 2 then thrE.del k L else L) else L
def endS (s : SS) (L : List Thr) (k : Int) : SS := if fndE L k = 0 then (if (fndT L k).s = 2 then freeS s k else s) else s
theorem wpList_delT {ops : Array Oper} {rest : List Oper} {o : Oper} {a : Act} {Q : Exit → Act → World → Prop} {b : Nat} (hg : o.guard = none) (m x : Operand) (hop : o.op = Op.call { callee := Callee.builtin Builtin.delete, args := #[m, x], argTypes := #[88, 3] }) (h : MapL thrE Tryd.prog w b L)
    (k : Int) (wf : (Lit.int .i64 k).wf = true) (hm : a.eval m = .map (some b)) (hk : a.eval x = .int .i64 k)
    (hK : ∀ w', MapL thrE Tryd.prog w' b (thrE.del k L) → Fr (fun j => j = b) w w' → wpList Tryd.prog ops Q rest (a.put o.dst (.tuple #[])) w') : wpList Tryd.prog ops Q (o :: rest) a w :=
  wpList_mapDel hg m x 88 77 hop Tryd.underlying88 Tryd.underlying3 h k wf hm hk hK
set_option maxRecDepth 100000 in
set_option maxHeartbeats 4000000 in
theorem tend (h : TAt w P B M s L) (hI : SI s) (id : Int) (wf : (Lit.int .i64 id).wf = true) : Calls Tryd.prog 52 #[.pointer (some ⟨P, 0, none⟩), .int .i64 id] w fun e w' =>
    e = .returned (.int .i64 (endE s L id)) ∧ TAt w' P B M (endS s L id) (endL L id) ∧ Fr (fun k => k = M ∨ k = B.P) w w' := by
  have H := hid h
  have WF := hid wf
  have F0 := h.f0
  have F1 := h.f1
  have hPl := h.ltP
  have HI := hid hI
  clear h wf hI
  have EC := fndE_cases L id
  unfold endE endL endS
  obtain ⟨y, hy⟩ : ∃ y, fndT L id = y := ⟨_, rfl⟩
  obtain ⟨ee, he⟩ : ∃ ee, fndE L id = ee := ⟨_, rfl⟩
  obtain ⟨fe, hfe⟩ : ∃ fe, freeE s id = fe := ⟨_, rfl⟩
  have FD := tfind H.out id WF.out
  rw [hy, he] at FD
  rw [hy, he, hfe]
  rw [he] at EC
  have FDx := hid FD
  have HFE := hid hfe
  clear FD hy he hfe
  go_enter Tryd.func52, Tryd.ntmps52
  go_wp2_with fail
  refine FDx.out.mono ?_
  rintro e w2 ⟨rfl, s2⟩
  have S2 := hid s2
  have G0 := Still.cell S2.out F0
  have G1 := Still.cell S2.out F1
  have HPl2 : P < w2.heap.size := Nat.lt_of_lt_of_le hPl S2.out.size
  clear s2
  rcases EC with rfl | rfl
  · by_cases hst : y.s = 2
    · have e2 : (y.s != 2) = false := by simp [hst]
      have HST := hid hst
      clear hst
      go_wp2_with (first
        | (refine wpList_storeW rfl (.tmp 5) (.tmp 11) 77 rfl _ 77 [.int .i64 t0.i, .int .i64 t0.s, .int .i64 t0.t, .int .i64 t0.c.p, .int .i64 t0.c.q, .int .i64 t0.c.r0, .int .i64 t0.c.r1, .int .i64 t0.c.r2, .int .i64 t0.c.r3, .int .i64 t0.c.r4, .int .i64 t0.c.r5, .int .i64 t0.c.r6, .int .i64 t0.c.r7, .int .i64 t0.c.d, .int .i64 t0.d] [.int .i64 y.i, .int .i64 y.s, .int .i64 y.t, .int .i64 y.c.p, .int .i64 y.c.q, .int .i64 y.c.r0, .int .i64 y.c.r1, .int .i64 y.c.r2, .int .i64 y.c.r3, .int .i64 y.c.r4, .int .i64 y.c.r5, .int .i64 y.c.r6, .int .i64 y.c.r7, .int .i64 y.c.d, .int .i64 y.d] I77 (ones y) rfl rfl (new_t _) rfl ?_; intro w3 b3 f3; have B3 := hid b3; have F3 := hid f3; have d1 : w3.cell? ⟨w2.heap.size, 1, none⟩ = some (.int .i64 y.s) := b3.cell 1; have S3 : Hid (Still w w3) := hid (Still.next (S2.out.trans ((Fr.refl _ _).alloc _)) f3 (fun k hk => by rw [hk]; exact S2.out.size)); have K0 := Still.cell S3.out F0; have K1 := Still.cell S3.out F1; clear b3 f3)
        | (at_delete; refine wpList_delT rfl (.tmp 24) (.tmp 25) rfl (H.out.m.still S3.out) id WF.out rfl rfl ?_; intro w4 m4 f4; have T4 := hid ((H.out.still S3.out).put m4 f4); have F4 := hid ((S3.out.fr (fun k => k = M)).trans f4); have J0 := T4.out.f0; clear m4 f4))
      refine (sfree' T4.out.sl id (wf_in WF.out) HI.out).mono ?_
      rintro e w5 ⟨he, l5, f5⟩
      rw [HFE.out] at he
      subst he
      have T5 : Hid (TAt w5 P B M (freeS s id) (thrE.del id L)) := hid ⟨f5.cellK T4.out.f0 (fun e => T4.out.nPB (.inl e)), f5.cellK T4.out.f1 (fun e => T4.out.nPB (.inl e)), l5, T4.out.m.fr f5 (fun e => T4.out.nMB (.inl e)), T4.out.nPM, T4.out.nPB, T4.out.nMB⟩
      have F5 := hid ((F4.out.mono fun k _ h => Or.inl h : Fr (fun k => k = M ∨ k = B.P) w w4).trans (f5.mono fun k _ h => .inr h))
      clear l5 f5
      go_wp2_with fail
      go_ret
      simp only [if_pos HST.out]
      exact ⟨rfl, T5.out, F5.out⟩
    · have e2 : (y.s != 2) = true := by simp [hst]
      have HST := hid hst
      clear hst
      go_wp2_with (refine wpList_storeW rfl (.tmp 5) (.tmp 11) 77 rfl _ 77 [.int .i64 t0.i, .int .i64 t0.s, .int .i64 t0.t, .int .i64 t0.c.p, .int .i64 t0.c.q, .int .i64 t0.c.r0, .int .i64 t0.c.r1, .int .i64 t0.c.r2, .int .i64 t0.c.r3, .int .i64 t0.c.r4, .int .i64 t0.c.r5, .int .i64 t0.c.r6, .int .i64 t0.c.r7, .int .i64 t0.c.d, .int .i64 t0.d] [.int .i64 y.i, .int .i64 y.s, .int .i64 y.t, .int .i64 y.c.p, .int .i64 y.c.q, .int .i64 y.c.r0, .int .i64 y.c.r1, .int .i64 y.c.r2, .int .i64 y.c.r3, .int .i64 y.c.r4, .int .i64 y.c.r5, .int .i64 y.c.r6, .int .i64 y.c.r7, .int .i64 y.c.d, .int .i64 y.d] I77 (ones y) rfl rfl (new_t _) rfl ?_; intro w3 b3 f3; have B3 := hid b3; have F3 := hid f3; have d1 : w3.cell? ⟨w2.heap.size, 1, none⟩ = some (.int .i64 y.s) := b3.cell 1; have S3 : Hid (Still w w3) := hid (Still.next (S2.out.trans ((Fr.refl _ _).alloc _)) f3 (fun k hk => by rw [hk]; exact S2.out.size)); clear b3 f3)
      go_ret
      simp only [if_neg HST.out]
      exact ⟨rfl, H.out.still S3.out, S3.out.fr _⟩
  · go_wp2_with (refine wpList_storeW rfl (.tmp 5) (.tmp 11) 77 rfl _ 77 [.int .i64 t0.i, .int .i64 t0.s, .int .i64 t0.t, .int .i64 t0.c.p, .int .i64 t0.c.q, .int .i64 t0.c.r0, .int .i64 t0.c.r1, .int .i64 t0.c.r2, .int .i64 t0.c.r3, .int .i64 t0.c.r4, .int .i64 t0.c.r5, .int .i64 t0.c.r6, .int .i64 t0.c.r7, .int .i64 t0.c.d, .int .i64 t0.d] [.int .i64 y.i, .int .i64 y.s, .int .i64 y.t, .int .i64 y.c.p, .int .i64 y.c.q, .int .i64 y.c.r0, .int .i64 y.c.r1, .int .i64 y.c.r2, .int .i64 y.c.r3, .int .i64 y.c.r4, .int .i64 y.c.r5, .int .i64 y.c.r6, .int .i64 y.c.r7, .int .i64 y.c.d, .int .i64 y.d] I77 (ones y) rfl rfl (new_t _) rfl ?_; intro w3 b3 f3; have B3 := hid b3; have F3 := hid f3; have S3 : Hid (Still w w3) := hid (Still.next (S2.out.trans ((Fr.refl _ _).alloc _)) f3 (fun k hk => by rw [hk]; exact S2.out.size)); clear b3 f3)
    go_ret
    exact ⟨rfl, H.out.still S3.out, S3.out.fr _⟩
end
end Go.Proofs.YtffjaaolcphonaaDoor
