/- law16.act: on both sides. -/
import Derived.Test.YtffjaaolcphonaaDoorBdRAx
import Derived.Test.YtffjaaolcphonaaDoorTAct
import Derived.Test.YtffjaaolcphonaaDoorBdLA
import Derived.Test.YtffjaaolcphonaaDoorBdThrA
namespace Go.Proofs.YtffjaaolcphonaaDoor
open Go.RowKit Go.Maps
set_option linter.unusedSimpArgs false
structure AInv (s : SS) (L : List Ac) : Prop where
  si : SI s
  wf : ∀ x ∈ L, (Lit.int .i64 x.i).wf = true
  st : ∀ x ∈ L, 1 ≤ x.s ∧ x.s ≤ 5
section
variable {s s' : SS} {L L' : List Ac}
theorem AInv.ins (h : AInv s L) (z : Ac) (h1 : (Lit.int .i64 z.i).wf = true) (h2 : 1 ≤ z.s ∧ z.s ≤ 5) : AInv s (actE.ins z L) :=
  ⟨h.si, fun x hx => (actE.mem_ins hx).elim (fun e => e ▸ h1) (h.wf x), fun x hx => (actE.mem_ins hx).elim (fun e => e ▸ h2) (h.st x)⟩
theorem AInv.sub (h : AInv s L) (h1 : SI s') (h2 : ∀ x ∈ L', x ∈ L) : AInv s' L' := ⟨h1, fun x hx => h.wf x (h2 x hx), fun x hx => h.st x (h2 x hx)⟩
theorem AInv.zero (n : Nat) (h : n ≤ 4096) : AInv (zeroS n n) [] := ⟨SI.zero n h, fun _ h => (by cases h), fun _ h => (by cases h)⟩
theorem AInv.t (h : AInv s L) {k fr st ce : Int} {cz : Ac} (hk : (Lit.int .i64 k).wf = true) (hz : fndO L k = true → cz.i = k) (h1 : 1 ≤ st) (h2 : st ≤ 5) : AInv s (tL L k fr st ce cz) := by
  unfold tL
  split
  · rename_i e
    by_cases hf : fndO L k = true
    · exact h.ins _ (by show (Lit.int .i64 cz.i).wf = true; rw [hz hf]; exact hk) ⟨h1, h2⟩
    · unfold tE at e; rw [if_neg hf] at e; exact absurd e (by decide)
  · exact h
theorem tL_len {k fr st ce : Int} {cz : Ac} : (tL L k fr st ce cz).length ≤ L.length + 1 := by
  unfold tL
  split
  · exact insA_len _ L
  · omega
theorem AInv.load (h : AInv s L) {k th : Int} (hk : (Lit.int .i64 k).wf = true) : AInv s (loadL L k th) ∧ (loadL L k th).length ≤ L.length + 1 := by
  unfold loadL
  split
  · rename_i e
    by_cases hf : fndO L k = true
    · have h1 := fndA_some hf
      exact ⟨h.ins _ (by show (Lit.int .i64 (fndA L k).i).wf = true; rw [h1.1]; exact hk) (show 1 ≤ (fndA L k).s ∧ (fndA L k).s ≤ 5 from h.st _ h1.2), insA_len _ L⟩
    · unfold loadE at e; rw [if_neg hf] at e; exact absurd e (by decide)
  · exact ⟨h, by omega⟩
theorem AInv.disc (h : AInv s L) {k : Int} : AInv (discS s L k) (discL L k) ∧ (discL L k).length ≤ L.length + 1 := by
  unfold discS discL
  by_cases e : discE L k = 0
  · rw [if_pos e, if_pos e]
    exact ⟨h.sub (h.si.free k) (fun x hx => (List.mem_filter.1 hx).1), by have : (actE.del k L).length ≤ L.length := List.length_filter_le _ _; omega⟩
  · rw [if_neg e, if_neg e]; exact ⟨h, by omega⟩
theorem AInv.drop (h : AInv s L) (sp : Int) : AInv (drS s sp L) (drL L sp) ∧ (drL L sp).length ≤ L.length + 1 :=
  ⟨h.sub (h.si.drop sp L) (fun x hx => (List.mem_filter.1 hx).1), by have : (drL L sp).length ≤ L.length := List.length_filter_le _ _; omega⟩
theorem AInv.make (h : AInv s L) (sp : Int) : AInv (mkS s L sp) (mkL s L sp) ∧ (mkL s L sp).length ≤ L.length + 1 := by
  by_cases hb : mkB sp = true
  · obtain ⟨_, _, e1, e2⟩ := mk_bad (s := s) (L := L) hb
    rw [e1, e2]; exact ⟨h, by omega⟩
  · have hb' : mkB sp = false := by simpa using hb
    cases hf : mkF L sp with
    | some x =>
      obtain ⟨_, _, e1, e2⟩ := mk_old (s := s) hb' hf
      have hx : x ∈ L := List.mem_of_find?_eq_some hf
      rw [e1, e2]
      exact ⟨h.ins _ (h.wf x hx) ⟨by show (1 : Int) ≤ 1; decide, by show (1 : Int) ≤ 5; decide⟩, insA_len _ L⟩
    | none =>
      obtain ⟨_, _, e1, e2⟩ := mk_new (s := s) hb' hf
      rw [e1, e2]
      have h0 : AInv (takeS s) L := ⟨h.si.take, h.wf, h.st⟩
      split
      · exact ⟨h0.ins _ (takeV_wf s) ⟨by show (1 : Int) ≤ 1; decide, by show (1 : Int) ≤ 5; decide⟩, insA_len _ L⟩
      · exact ⟨h0, by omega⟩
theorem idA_wf (h : AInv s L) (x : LAct) (hx : (Lit.int .i64 x.i).wf = true) : (Lit.int .i64 (idA L x)).wf = true := by
  unfold idA
  split
  · split
    · exact hx
    · rename_i h0
      have hn : 0 < L.length := by omega
      have hr := wrap_mod x.i hn
      rw [show L.getD ((IntKind.u64.wrap x.i).tmod (L.length : Int)).toNat a0 = L[((IntKind.u64.wrap x.i).tmod (L.length : Int)).toNat] by simp only [List.getD_eq_getElem?_getD, List.getElem?_eq_getElem hr]; rfl]
      exact h.wf _ (List.getElem_mem hr)
  · exact hx
end
def stepS (s : SS) (L : List Ac) (x : LAct) : SS := if x.k = 0 then mkS s L x.t else if x.k = 6 then discS s L (idA L x) else if x.k = 7 then drS s x.t L else s
def stepL (s : SS) (L : List Ac) (x : LAct) : List Ac :=
  if x.k = 0 then mkL s L x.t
  else if x.k = 1 then tL L (idA L x) 2 2 (runC L x.t) { fndA L (idA L x) with co := x.t }
  else if x.k = 2 then loadL L (idA L x) x.t
  else if x.k = 3 then tL L (idA L x) 4 3 (blkC L (idA L x)) { fndA L (idA L x) with co := -1 }
  else if x.k = 4 then tL L (idA L x) 4 4 0 { fndA L (idA L x) with co := -1, c := x.c }
  else if x.k = 5 then tL L (idA L x) 28 5 0 ⟨(fndA L (idA L x)).i, 0, (fndA L (idA L x)).sp, -1, 0, c0⟩
  else if x.k = 6 then discL L (idA L x)
  else if x.k = 7 then drL L x.t
  else L
theorem step_len (s : SS) (L : List Ac) (x : LAct) (h : AInv s L) (wx : (Lit.int .i64 x.i).wf = true) : (stepL s L x).length ≤ L.length + 1 := by
  unfold stepL
  have hw := idA_wf h x wx
  repeat' split
  · exact (h.make _).2
  · exact tL_len
  · exact (h.load hw).2
  · exact tL_len
  · exact tL_len
  · exact tL_len
  · exact h.disc.2
  · exact (h.drop _).2
  · omega
/-- Both sides, alike. -/
structure TwoA (w : World) (K : TB) (O : Nat → Prop) (s : SS) (L : List Ac) : Prop where
  t : AAt w K.P K.B K.M s L
  r : RAAt w O K.Q K.p K.A K.T K.cA K.cT s L
  v : AInv s L
  nP : ¬ O K.P
  nO : ∀ k, K.own k → ¬ O k
  h8 : ∀ k, K.foot O k → 8 ≤ k
section
variable {w w' : World} {K : TB} {O : Nat → Prop} {s s' : SS} {L L' : List Ac}
theorem AAt.ltM {P : Nat} {B : SB} {M : Nat} (h : AAt w P B M s L) : M < w.heap.size := h.m.lt
theorem TwoA.lt (h : TwoA w K O s L) : ∀ k, K.foot O k → k < w.heap.size := by
  rintro k ((h1 | rfl) | h1)
  · exact h.t.sl.lt h1
  · exact h.t.m.lt
  · exact h.r.ub k h1
theorem TwoA.fr (h : TwoA w K O s L) {F : Nat → Prop} (hf : Fr F w w') (hF : ∀ k, K.foot O k → ¬ F k) (hP : ¬ F K.P) : TwoA w' K O s L :=
  { h with t := h.t.fr hf hP (hF _ (.inl (.inr rfl))) (fun k hk => hF k (.inl (.inl hk))), r := h.r.fr hf (fun k hk => hF k (.inr hk)) }
theorem TwoA.still (h : TwoA w K O s L) (hs : Still w w') : TwoA w' K O s L := h.fr hs (fun _ _ h => h) (fun h => h)
/-- The program's step, then the document's. -/
theorem TwoA.step {w1 : World} (h : TwoA w K O s L) (h1 : AAt w1 K.P K.B K.M s' L') (f1 : Fr K.own w w1) (h2 : RAAt w' (upO O w1 w') K.Q K.p K.A K.T K.cA K.cT s' L') (f2 : Fr O w1 w') (hv : AInv s' L') : TwoA w' K (upO O w w') s' L' ∧ Fr (K.foot O) w w' := by
  have z1 := f1.size
  have z2 := f2.size
  have lP := h.t.ltP
  have h8 := h.h8
  have hub := h.r.ub
  refine ⟨⟨h1.fr f2 h.nP (h.nO _ (.inr rfl)) (fun k hk => h.nO k (.inl hk)), h2.mono (fun k hk => hk.imp _root_.id fun e => ⟨Nat.le_trans z1 e.1, e.2⟩) (fun k hk => hk.elim (fun e => by have := hub k e; omega) (fun e => e.2)), hv, fun e => e.elim h.nP (fun e => by omega), fun k hk e => ?_, fun k hk => ?_⟩, (f1.mono fun k _ hk => .inl hk).trans (f2.mono fun k _ hk => .inr hk)⟩
  · have hl := h.lt k (.inl hk)
    exact e.elim (h.nO k hk) (fun e => by omega)
  · rcases hk with hk | hk | hk
    · exact h8 k (.inl hk)
    · exact h8 k (.inr hk)
    · have := h8 _ (.inr h.r.lQ)
      have := hub _ h.r.lQ
      omega
/-- .. and ahead of it. -/
theorem TwoA.rfr {w1 : World} (h : TwoA w K O s L) (f1 : Fr K.own w w1) : RAAt w1 O K.Q K.p K.A K.T K.cA K.cT s L := h.r.fr f1 (fun k hk e => h.nO k e hk)
end
section
variable {w w' w1 : World} {KB : TB} {O : Nat → Prop} {s s' s0 : SS} {L L' L0 : List Ac}
theorem TwoA.back (h : TwoA w KB O s0 L0) (h1 : w.heap.size ≤ w1.heap.size) (hz : w.heap.size ≤ w'.heap.size) (h2 : TwoA w' KB (upO O w1 w') s L) : TwoA w' KB (upO O w w') s L := by
  have lP := h.t.ltP
  have hub := h.r.ub
  refine { h2 with r := h2.r.mono (fun k hk => hk.imp _root_.id fun e => ⟨Nat.le_trans h1 e.1, e.2⟩) (fun k hk => hk.elim (fun e => by have := hub k e; omega) (fun e => e.2)), nP := fun e => e.elim h.nP (fun e => by omega), nO := fun k hk e => ?_, h8 := fun k hk => ?_ }
  · have hl := h.lt k (.inl hk)
    exact e.elim (h.nO k hk) (fun e => by omega)
  · rcases hk with hk | hk | hk
    · exact h.h8 k (.inl hk)
    · exact h.h8 k (.inr hk)
    · have := h.h8 _ (.inr h.r.lQ)
      have := hub _ h.r.lQ
      omega
theorem TwoA.idle (h : TwoA w KB O s L) (hs : Still w w1) : TwoA w1 KB (upO O w w1) s L := by
  have h1 := h.still hs
  have lP := h.t.ltP
  have hub := h.r.ub
  refine { h1 with r := h1.r.up0, nP := fun e => e.elim h.nP (fun e => by omega), nO := fun k hk e => ?_, h8 := fun k hk => ?_ }
  · have hl := h.lt k (.inl hk)
    exact e.elim (h.nO k hk) (fun e => by omega)
  · rcases hk with hk | hk | hk
    · exact h.h8 k (.inl hk)
    · exact h.h8 k (.inr hk)
    · have := h.h8 _ (.inr h.r.lQ)
      have := hub _ h.r.lQ
      omega
theorem I105 : (Tryd.prog.info? 105).map (·.size) = some 15 := by kernel_rfl
theorem rangeS {x : LAct} {b : Nat} (h : Blk w b [.int .i64 x.k, .int .i64 x.i, .int .i64 x.t, .bool x.re, .int .i64 x.c.p, .int .i64 x.c.q, .int .i64 x.c.r0, .int .i64 x.c.r1, .int .i64 x.c.r2, .int .i64 x.c.r3, .int .i64 x.c.r4, .int .i64 x.c.r5, .int .i64 x.c.r6, .int .i64 x.c.r7, .int .i64 x.c.d] 105) : w.rangeAt b 4 [.int .i64 x.c.p, .int .i64 x.c.q, .int .i64 x.c.r0, .int .i64 x.c.r1, .int .i64 x.c.r2, .int .i64 x.c.r3, .int .i64 x.c.r4, .int .i64 x.c.r5, .int .i64 x.c.r6, .int .i64 x.c.r7, .int .i64 x.c.d] := fun j v hv => by
  rw [h.cell (4 + j)]
  have h := List.getElem?_drop (xs := ([.int .i64 x.k, .int .i64 x.i, .int .i64 x.t, .bool x.re, .int .i64 x.c.p, .int .i64 x.c.q, .int .i64 x.c.r0, .int .i64 x.c.r1, .int .i64 x.c.r2, .int .i64 x.c.r3, .int .i64 x.c.r4, .int .i64 x.c.r5, .int .i64 x.c.r6, .int .i64 x.c.r7, .int .i64 x.c.d] : List Value)) (i := 4) (j := j)
  rw [← h]; exact hv
def ActPostA (w : World) (KB : TB) (O : Nat → Prop) (s : SS) (L : List Ac) (e : Ending) (w' : World) : Prop := e = .returned (.bool true) ∧ TwoA w' KB (upO O w w') s L ∧ Fr (KB.foot O) w w'
set_option maxRecDepth 100000 in
set_option maxHeartbeats 8000000 in
theorem lact0 (h : TwoA w KB O s L) (hl : L.length ≤ 900) (hT : TabD w) (hC : TabF w) (x : LAct) (wx : (Lit.int .i64 x.i).wf = true) (hk : x.k = 0) : Calls Tryd.prog 73 #[.pointer (some ⟨KB.P, 0, none⟩), .pointer (some ⟨KB.Q, 0, none⟩), (Value.agg #[.int .i64 x.k, .int .i64 x.i, .int .i64 x.t, .bool x.re, .int .i64 x.c.p, .int .i64 x.c.q, .int .i64 x.c.r0, .int .i64 x.c.r1, .int .i64 x.c.r2, .int .i64 x.c.r3, .int .i64 x.c.r4, .int .i64 x.c.r5, .int .i64 x.c.r6, .int .i64 x.c.r7, .int .i64 x.c.d])] w (ActPostA w KB O (mkS s L x.t) (mkL s L x.t)) := by
  have e0 : (x.k == 0) = true := by simp [hk]
  have e1 : (x.k == 1) = false := by simp [hk]
  have e2 : (x.k == 2) = false := by simp [hk]
  have e3 : (x.k == 3) = false := by simp [hk]
  have e4 : (x.k == 4) = false := by simp [hk]
  have e5 : (x.k == 5) = false := by simp [hk]
  have e6 : (x.k == 6) = false := by simp [hk]
  have e7 : (x.k == 7) = false := by simp [hk]
  have H := hid h
  have HL := hid hl
  have HT := hid hT
  have HC := hid hC
  have WI := hid (idA_wf h.v x wx)
  have LN := hid (show L.length < maxLen by unfold maxLen; omega)
  have H7 : Hid (¬ KB.B.foot 7) := hid (fun e => by have := h.h8 7 (.inl (.inl e)); omega)
  clear h hT hC wx hk hl
  unfold ActPostA
  go_enter Tryd.func73, Tryd.ntmps73
  go_wp2_with (refine wpList_loadW rfl (.tmp 5) 105 rfl _ Tryd.underlying105 rfl _ 105 [.int .i64 x.k, .int .i64 x.i, .int .i64 x.t, .bool x.re, .int .i64 x.c.p, .int .i64 x.c.q, .int .i64 x.c.r0, .int .i64 x.c.r1, .int .i64 x.c.r2, .int .i64 x.c.r3, .int .i64 x.c.r4, .int .i64 x.c.r5, .int .i64 x.c.r6, .int .i64 x.c.r7, .int .i64 x.c.d] I105 rfl (Blk.new _ _ 105) ?_)
  refine (aid (H.out.r.still ((Fr.refl _ _).alloc _)) x).mono ?_
  rintro e w1 ⟨rfl, s1⟩
  have S1 : Hid (Still w w1) := hid (((Fr.refl _ _).alloc _).trans s1)
  have HB : Hid (Blk w1 w.heap.size [.int .i64 x.k, .int .i64 x.i, .int .i64 x.t, .bool x.re, .int .i64 x.c.p, .int .i64 x.c.q, .int .i64 x.c.r0, .int .i64 x.c.r1, .int .i64 x.c.r2, .int .i64 x.c.r3, .int .i64 x.c.r4, .int .i64 x.c.r5, .int .i64 x.c.r6, .int .i64 x.c.r7, .int .i64 x.c.d] 105) := hid ((Blk.new w _ 105).still s1)
  have H1 := hid (H.out.still S1.out)
  have a0 : w1.cell? ⟨w.heap.size, 0, none⟩ = some (.int .i64 x.k) := HB.out.cell 0
  have a2 : w1.cell? ⟨w.heap.size, 2, none⟩ = some (.int .i64 x.t) := HB.out.cell 2
  have Z1 := hid S1.out.size
  obtain ⟨id, hid0⟩ : ∃ id, idA L x = id := ⟨_, rfl⟩
  have HID := hid hid0
  rw [hid0] at WI
  clear s1 hid0
  have TV := hid (H.out.v.make x.t).1
  obtain ⟨sv, hsv⟩ : ∃ v, mkV s L x.t = v := ⟨_, rfl⟩
  obtain ⟨se, hse⟩ : ∃ v, mkE s L x.t = v := ⟨_, rfl⟩
  have HSV := hid hsv
  have HSE := hid hse
  clear hsv hse
  go_wp2_with fail
  refine (amake H1.out.t (by have := HL.out; omega) H.out.v.si (HT.out.still S1.out) H7.out H.out.v.wf x.t).mono ?_
  rintro e w2 ⟨he, t2, f2⟩
  rw [HSV.out, HSE.out] at he
  subst he
  have T2 := hid t2
  have F2 : Hid (Fr KB.own w1 w2) := hid f2
  have b2 : w2.cell? ⟨w.heap.size, 2, none⟩ = some (.int .i64 x.t) := (HB.out.fr f2 (fun e => by have := H.out.lt _ (.inl e); omega)).cell 2
  clear t2 f2
  go_wp2_with fail
  refine (xmake (H1.out.rfr F2.out) (by have := HL.out; omega) H.out.v.si x.t).mono ?_
  rintro e w3 ⟨he, r3, f3⟩
  rw [HSV.out, HSE.out] at he
  subst he
  have R3 := hid r3
  have F3 : Hid (Fr O w2 w3) := hid f3
  clear r3 f3
  have FT := hid (H1.out.step T2.out F2.out R3.out F3.out TV.out)
  go_wp2_with fail
  go_ret
  exact ⟨rfl, H.out.back Z1.out (Nat.le_trans Z1.out FT.out.2.size) FT.out.1, (S1.out.fr _).trans FT.out.2⟩

set_option maxRecDepth 100000 in
set_option maxHeartbeats 8000000 in
theorem lact3 (h : TwoA w KB O s L) (hl : L.length ≤ 900) (hT : TabD w) (hC : TabF w) (x : LAct) (wx : (Lit.int .i64 x.i).wf = true) (hk : x.k = 3) : Calls Tryd.prog 73 #[.pointer (some ⟨KB.P, 0, none⟩), .pointer (some ⟨KB.Q, 0, none⟩), (Value.agg #[.int .i64 x.k, .int .i64 x.i, .int .i64 x.t, .bool x.re, .int .i64 x.c.p, .int .i64 x.c.q, .int .i64 x.c.r0, .int .i64 x.c.r1, .int .i64 x.c.r2, .int .i64 x.c.r3, .int .i64 x.c.r4, .int .i64 x.c.r5, .int .i64 x.c.r6, .int .i64 x.c.r7, .int .i64 x.c.d])] w (ActPostA w KB O (s) (tL L (idA L x) 4 3 (blkC L (idA L x)) { fndA L (idA L x) with co := -1 })) := by
  have e0 : (x.k == 0) = false := by simp [hk]
  have e1 : (x.k == 1) = false := by simp [hk]
  have e2 : (x.k == 2) = false := by simp [hk]
  have e3 : (x.k == 3) = true := by simp [hk]
  have e4 : (x.k == 4) = false := by simp [hk]
  have e5 : (x.k == 5) = false := by simp [hk]
  have e6 : (x.k == 6) = false := by simp [hk]
  have e7 : (x.k == 7) = false := by simp [hk]
  have H := hid h
  have HL := hid hl
  have HT := hid hT
  have HC := hid hC
  have WI := hid (idA_wf h.v x wx)
  have LN := hid (show L.length < maxLen by unfold maxLen; omega)
  have H7 : Hid (¬ KB.B.foot 7) := hid (fun e => by have := h.h8 7 (.inl (.inl e)); omega)
  clear h hT hC wx hk hl
  unfold ActPostA
  go_enter Tryd.func73, Tryd.ntmps73
  go_wp2_with (refine wpList_loadW rfl (.tmp 5) 105 rfl _ Tryd.underlying105 rfl _ 105 [.int .i64 x.k, .int .i64 x.i, .int .i64 x.t, .bool x.re, .int .i64 x.c.p, .int .i64 x.c.q, .int .i64 x.c.r0, .int .i64 x.c.r1, .int .i64 x.c.r2, .int .i64 x.c.r3, .int .i64 x.c.r4, .int .i64 x.c.r5, .int .i64 x.c.r6, .int .i64 x.c.r7, .int .i64 x.c.d] I105 rfl (Blk.new _ _ 105) ?_)
  refine (aid (H.out.r.still ((Fr.refl _ _).alloc _)) x).mono ?_
  rintro e w1 ⟨rfl, s1⟩
  have S1 : Hid (Still w w1) := hid (((Fr.refl _ _).alloc _).trans s1)
  have HB : Hid (Blk w1 w.heap.size [.int .i64 x.k, .int .i64 x.i, .int .i64 x.t, .bool x.re, .int .i64 x.c.p, .int .i64 x.c.q, .int .i64 x.c.r0, .int .i64 x.c.r1, .int .i64 x.c.r2, .int .i64 x.c.r3, .int .i64 x.c.r4, .int .i64 x.c.r5, .int .i64 x.c.r6, .int .i64 x.c.r7, .int .i64 x.c.d] 105) := hid ((Blk.new w _ 105).still s1)
  have H1 := hid (H.out.still S1.out)
  have a0 : w1.cell? ⟨w.heap.size, 0, none⟩ = some (.int .i64 x.k) := HB.out.cell 0
  have a2 : w1.cell? ⟨w.heap.size, 2, none⟩ = some (.int .i64 x.t) := HB.out.cell 2
  have Z1 := hid S1.out.size
  obtain ⟨id, hid0⟩ : ∃ id, idA L x = id := ⟨_, rfl⟩
  have HID := hid hid0
  rw [hid0] at WI ⊢
  clear s1 hid0
  have TV := hid (H.out.v.t (fr := 4) (st := 3) (ce := blkC L id) (cz := { fndA L id with co := -1 }) WI.out (fun hf => (fndA_some hf).1) (by decide) (by decide))
  obtain ⟨te, hte⟩ : ∃ v, tE L id 4 (blkC L id) = v := ⟨_, rfl⟩
  have HTE := hid hte
  clear hte
  go_wp2_with fail
  refine (ablock H1.out.t LN.out (HC.out.still S1.out) id WI.out H.out.v.st).mono ?_
  rintro e w2 ⟨he, t2, f2⟩
  rw [HTE.out] at he
  subst he
  have T2 := hid t2
  have F2 : Hid (Fr KB.own w1 w2) := hid ((f2.mono fun k _ hk => .inr hk))
  clear t2 f2
  go_wp2_with fail
  refine (xblock (H1.out.rfr F2.out) (by have := HL.out; omega) H.out.v.st id).mono ?_
  rintro e w3 ⟨he, r3, f3⟩
  rw [HTE.out] at he
  subst he
  have R3 : Hid (RAAt w3 (upO O w2 w3) KB.Q KB.p KB.A KB.T KB.cA KB.cT (s) (tL L (id) 4 3 (blkC L (id)) { fndA L (id) with co := -1 })) := hid r3
  have F3 : Hid (Fr O w2 w3) := hid f3
  clear r3 f3
  have FT := hid (H1.out.step T2.out F2.out R3.out F3.out TV.out)
  go_wp2_with fail
  go_ret
  rw [HID.out]
  exact ⟨rfl, H.out.back Z1.out (Nat.le_trans Z1.out FT.out.2.size) FT.out.1, (S1.out.fr _).trans FT.out.2⟩

set_option maxRecDepth 100000 in
set_option maxHeartbeats 8000000 in
theorem lact5 (h : TwoA w KB O s L) (hl : L.length ≤ 900) (hT : TabD w) (hC : TabF w) (x : LAct) (wx : (Lit.int .i64 x.i).wf = true) (hk : x.k = 5) : Calls Tryd.prog 73 #[.pointer (some ⟨KB.P, 0, none⟩), .pointer (some ⟨KB.Q, 0, none⟩), (Value.agg #[.int .i64 x.k, .int .i64 x.i, .int .i64 x.t, .bool x.re, .int .i64 x.c.p, .int .i64 x.c.q, .int .i64 x.c.r0, .int .i64 x.c.r1, .int .i64 x.c.r2, .int .i64 x.c.r3, .int .i64 x.c.r4, .int .i64 x.c.r5, .int .i64 x.c.r6, .int .i64 x.c.r7, .int .i64 x.c.d])] w (ActPostA w KB O (s) (tL L (idA L x) 28 5 0 ⟨(fndA L (idA L x)).i, 0, (fndA L (idA L x)).sp, -1, 0, c0⟩)) := by
  have e0 : (x.k == 0) = false := by simp [hk]
  have e1 : (x.k == 1) = false := by simp [hk]
  have e2 : (x.k == 2) = false := by simp [hk]
  have e3 : (x.k == 3) = false := by simp [hk]
  have e4 : (x.k == 4) = false := by simp [hk]
  have e5 : (x.k == 5) = true := by simp [hk]
  have e6 : (x.k == 6) = false := by simp [hk]
  have e7 : (x.k == 7) = false := by simp [hk]
  have H := hid h
  have HL := hid hl
  have HT := hid hT
  have HC := hid hC
  have WI := hid (idA_wf h.v x wx)
  have LN := hid (show L.length < maxLen by unfold maxLen; omega)
  have H7 : Hid (¬ KB.B.foot 7) := hid (fun e => by have := h.h8 7 (.inl (.inl e)); omega)
  clear h hT hC wx hk hl
  unfold ActPostA
  go_enter Tryd.func73, Tryd.ntmps73
  go_wp2_with (refine wpList_loadW rfl (.tmp 5) 105 rfl _ Tryd.underlying105 rfl _ 105 [.int .i64 x.k, .int .i64 x.i, .int .i64 x.t, .bool x.re, .int .i64 x.c.p, .int .i64 x.c.q, .int .i64 x.c.r0, .int .i64 x.c.r1, .int .i64 x.c.r2, .int .i64 x.c.r3, .int .i64 x.c.r4, .int .i64 x.c.r5, .int .i64 x.c.r6, .int .i64 x.c.r7, .int .i64 x.c.d] I105 rfl (Blk.new _ _ 105) ?_)
  refine (aid (H.out.r.still ((Fr.refl _ _).alloc _)) x).mono ?_
  rintro e w1 ⟨rfl, s1⟩
  have S1 : Hid (Still w w1) := hid (((Fr.refl _ _).alloc _).trans s1)
  have HB : Hid (Blk w1 w.heap.size [.int .i64 x.k, .int .i64 x.i, .int .i64 x.t, .bool x.re, .int .i64 x.c.p, .int .i64 x.c.q, .int .i64 x.c.r0, .int .i64 x.c.r1, .int .i64 x.c.r2, .int .i64 x.c.r3, .int .i64 x.c.r4, .int .i64 x.c.r5, .int .i64 x.c.r6, .int .i64 x.c.r7, .int .i64 x.c.d] 105) := hid ((Blk.new w _ 105).still s1)
  have H1 := hid (H.out.still S1.out)
  have a0 : w1.cell? ⟨w.heap.size, 0, none⟩ = some (.int .i64 x.k) := HB.out.cell 0
  have a2 : w1.cell? ⟨w.heap.size, 2, none⟩ = some (.int .i64 x.t) := HB.out.cell 2
  have Z1 := hid S1.out.size
  obtain ⟨id, hid0⟩ : ∃ id, idA L x = id := ⟨_, rfl⟩
  have HID := hid hid0
  rw [hid0] at WI ⊢
  clear s1 hid0
  have TV := hid (H.out.v.t (fr := 28) (st := 5) (ce := 0) (cz := ⟨(fndA L id).i, 0, (fndA L id).sp, -1, 0, c0⟩) WI.out (fun hf => (fndA_some hf).1) (by decide) (by decide))
  obtain ⟨te, hte⟩ : ∃ v, tE L id 28 0 = v := ⟨_, rfl⟩
  have HTE := hid hte
  clear hte
  go_wp2_with fail
  refine (acache H1.out.t LN.out (HC.out.still S1.out) id WI.out H.out.v.st).mono ?_
  rintro e w2 ⟨he, t2, f2⟩
  rw [HTE.out] at he
  subst he
  have T2 := hid t2
  have F2 : Hid (Fr KB.own w1 w2) := hid ((f2.mono fun k _ hk => .inr hk))
  clear t2 f2
  go_wp2_with fail
  refine (xcache (H1.out.rfr F2.out) (by have := HL.out; omega) H.out.v.st id).mono ?_
  rintro e w3 ⟨he, r3, f3⟩
  rw [HTE.out] at he
  subst he
  have R3 : Hid (RAAt w3 (upO O w2 w3) KB.Q KB.p KB.A KB.T KB.cA KB.cT (s) (tL L (id) 28 5 0 ⟨(fndA L (id)).i, 0, (fndA L (id)).sp, -1, 0, c0⟩)) := hid r3
  have F3 : Hid (Fr O w2 w3) := hid f3
  clear r3 f3
  have FT := hid (H1.out.step T2.out F2.out R3.out F3.out TV.out)
  go_wp2_with fail
  go_ret
  rw [HID.out]
  exact ⟨rfl, H.out.back Z1.out (Nat.le_trans Z1.out FT.out.2.size) FT.out.1, (S1.out.fr _).trans FT.out.2⟩

set_option maxRecDepth 100000 in
set_option maxHeartbeats 8000000 in
theorem lact6 (h : TwoA w KB O s L) (hl : L.length ≤ 900) (hT : TabD w) (hC : TabF w) (x : LAct) (wx : (Lit.int .i64 x.i).wf = true) (hk : x.k = 6) : Calls Tryd.prog 73 #[.pointer (some ⟨KB.P, 0, none⟩), .pointer (some ⟨KB.Q, 0, none⟩), (Value.agg #[.int .i64 x.k, .int .i64 x.i, .int .i64 x.t, .bool x.re, .int .i64 x.c.p, .int .i64 x.c.q, .int .i64 x.c.r0, .int .i64 x.c.r1, .int .i64 x.c.r2, .int .i64 x.c.r3, .int .i64 x.c.r4, .int .i64 x.c.r5, .int .i64 x.c.r6, .int .i64 x.c.r7, .int .i64 x.c.d])] w (ActPostA w KB O (discS s L (idA L x)) (discL L (idA L x))) := by
  have e0 : (x.k == 0) = false := by simp [hk]
  have e1 : (x.k == 1) = false := by simp [hk]
  have e2 : (x.k == 2) = false := by simp [hk]
  have e3 : (x.k == 3) = false := by simp [hk]
  have e4 : (x.k == 4) = false := by simp [hk]
  have e5 : (x.k == 5) = false := by simp [hk]
  have e6 : (x.k == 6) = true := by simp [hk]
  have e7 : (x.k == 7) = false := by simp [hk]
  have H := hid h
  have HL := hid hl
  have HT := hid hT
  have HC := hid hC
  have WI := hid (idA_wf h.v x wx)
  have LN := hid (show L.length < maxLen by unfold maxLen; omega)
  have H7 : Hid (¬ KB.B.foot 7) := hid (fun e => by have := h.h8 7 (.inl (.inl e)); omega)
  clear h hT hC wx hk hl
  unfold ActPostA
  go_enter Tryd.func73, Tryd.ntmps73
  go_wp2_with (refine wpList_loadW rfl (.tmp 5) 105 rfl _ Tryd.underlying105 rfl _ 105 [.int .i64 x.k, .int .i64 x.i, .int .i64 x.t, .bool x.re, .int .i64 x.c.p, .int .i64 x.c.q, .int .i64 x.c.r0, .int .i64 x.c.r1, .int .i64 x.c.r2, .int .i64 x.c.r3, .int .i64 x.c.r4, .int .i64 x.c.r5, .int .i64 x.c.r6, .int .i64 x.c.r7, .int .i64 x.c.d] I105 rfl (Blk.new _ _ 105) ?_)
  refine (aid (H.out.r.still ((Fr.refl _ _).alloc _)) x).mono ?_
  rintro e w1 ⟨rfl, s1⟩
  have S1 : Hid (Still w w1) := hid (((Fr.refl _ _).alloc _).trans s1)
  have HB : Hid (Blk w1 w.heap.size [.int .i64 x.k, .int .i64 x.i, .int .i64 x.t, .bool x.re, .int .i64 x.c.p, .int .i64 x.c.q, .int .i64 x.c.r0, .int .i64 x.c.r1, .int .i64 x.c.r2, .int .i64 x.c.r3, .int .i64 x.c.r4, .int .i64 x.c.r5, .int .i64 x.c.r6, .int .i64 x.c.r7, .int .i64 x.c.d] 105) := hid ((Blk.new w _ 105).still s1)
  have H1 := hid (H.out.still S1.out)
  have a0 : w1.cell? ⟨w.heap.size, 0, none⟩ = some (.int .i64 x.k) := HB.out.cell 0
  have a2 : w1.cell? ⟨w.heap.size, 2, none⟩ = some (.int .i64 x.t) := HB.out.cell 2
  have Z1 := hid S1.out.size
  obtain ⟨id, hid0⟩ : ∃ id, idA L x = id := ⟨_, rfl⟩
  have HID := hid hid0
  rw [hid0] at WI ⊢
  clear s1 hid0
  have TV := hid ((H.out.v.disc (k := id)).1)
  obtain ⟨te, hte⟩ : ∃ v, discE L id = v := ⟨_, rfl⟩
  have HTE := hid hte
  clear hte
  go_wp2_with fail
  refine (adisc H1.out.t H.out.v.si id WI.out).mono ?_
  rintro e w2 ⟨he, t2, f2⟩
  rw [HTE.out] at he
  subst he
  have T2 := hid t2
  have F2 : Hid (Fr KB.own w1 w2) := hid ((f2.mono fun k _ hk => hk.elim .inr (fun h => .inl (.inl h))))
  clear t2 f2
  go_wp2_with fail
  refine (xdisc (H1.out.rfr F2.out) (by have := HL.out; omega) id (wf_in WI.out)).mono ?_
  rintro e w3 ⟨he, r3, f3⟩
  rw [HTE.out] at he
  subst he
  have R3 : Hid (RAAt w3 (upO O w2 w3) KB.Q KB.p KB.A KB.T KB.cA KB.cT (discS s L (id)) (discL L (id))) := hid r3
  have F3 : Hid (Fr O w2 w3) := hid f3
  clear r3 f3
  have FT := hid (H1.out.step T2.out F2.out R3.out F3.out TV.out)
  go_wp2_with fail
  go_ret
  rw [HID.out]
  exact ⟨rfl, H.out.back Z1.out (Nat.le_trans Z1.out FT.out.2.size) FT.out.1, (S1.out.fr _).trans FT.out.2⟩

set_option maxRecDepth 100000 in
set_option maxHeartbeats 8000000 in
theorem lact1 (h : TwoA w KB O s L) (hl : L.length ≤ 900) (hT : TabD w) (hC : TabF w) (x : LAct) (wx : (Lit.int .i64 x.i).wf = true) (hk : x.k = 1) : Calls Tryd.prog 73 #[.pointer (some ⟨KB.P, 0, none⟩), .pointer (some ⟨KB.Q, 0, none⟩), (Value.agg #[.int .i64 x.k, .int .i64 x.i, .int .i64 x.t, .bool x.re, .int .i64 x.c.p, .int .i64 x.c.q, .int .i64 x.c.r0, .int .i64 x.c.r1, .int .i64 x.c.r2, .int .i64 x.c.r3, .int .i64 x.c.r4, .int .i64 x.c.r5, .int .i64 x.c.r6, .int .i64 x.c.r7, .int .i64 x.c.d])] w (ActPostA w KB O (s) (tL L (idA L x) 2 2 (runC L x.t) { fndA L (idA L x) with co := x.t })) := by
  have e0 : (x.k == 0) = false := by simp [hk]
  have e1 : (x.k == 1) = true := by simp [hk]
  have e2 : (x.k == 2) = false := by simp [hk]
  have e3 : (x.k == 3) = false := by simp [hk]
  have e4 : (x.k == 4) = false := by simp [hk]
  have e5 : (x.k == 5) = false := by simp [hk]
  have e6 : (x.k == 6) = false := by simp [hk]
  have e7 : (x.k == 7) = false := by simp [hk]
  have H := hid h
  have HL := hid hl
  have HT := hid hT
  have HC := hid hC
  have WI := hid (idA_wf h.v x wx)
  have LN := hid (show L.length < maxLen by unfold maxLen; omega)
  have H7 : Hid (¬ KB.B.foot 7) := hid (fun e => by have := h.h8 7 (.inl (.inl e)); omega)
  clear h hT hC wx hk hl
  unfold ActPostA
  go_enter Tryd.func73, Tryd.ntmps73
  go_wp2_with (refine wpList_loadW rfl (.tmp 5) 105 rfl _ Tryd.underlying105 rfl _ 105 [.int .i64 x.k, .int .i64 x.i, .int .i64 x.t, .bool x.re, .int .i64 x.c.p, .int .i64 x.c.q, .int .i64 x.c.r0, .int .i64 x.c.r1, .int .i64 x.c.r2, .int .i64 x.c.r3, .int .i64 x.c.r4, .int .i64 x.c.r5, .int .i64 x.c.r6, .int .i64 x.c.r7, .int .i64 x.c.d] I105 rfl (Blk.new _ _ 105) ?_)
  refine (aid (H.out.r.still ((Fr.refl _ _).alloc _)) x).mono ?_
  rintro e w1 ⟨rfl, s1⟩
  have S1 : Hid (Still w w1) := hid (((Fr.refl _ _).alloc _).trans s1)
  have HB : Hid (Blk w1 w.heap.size [.int .i64 x.k, .int .i64 x.i, .int .i64 x.t, .bool x.re, .int .i64 x.c.p, .int .i64 x.c.q, .int .i64 x.c.r0, .int .i64 x.c.r1, .int .i64 x.c.r2, .int .i64 x.c.r3, .int .i64 x.c.r4, .int .i64 x.c.r5, .int .i64 x.c.r6, .int .i64 x.c.r7, .int .i64 x.c.d] 105) := hid ((Blk.new w _ 105).still s1)
  have H1 := hid (H.out.still S1.out)
  have a0 : w1.cell? ⟨w.heap.size, 0, none⟩ = some (.int .i64 x.k) := HB.out.cell 0
  have a2 : w1.cell? ⟨w.heap.size, 2, none⟩ = some (.int .i64 x.t) := HB.out.cell 2
  have Z1 := hid S1.out.size
  obtain ⟨id, hid0⟩ : ∃ id, idA L x = id := ⟨_, rfl⟩
  have HID := hid hid0
  rw [hid0] at WI ⊢
  clear s1 hid0
  have TV := hid (H.out.v.t (fr := 2) (st := 2) (ce := runC L x.t) (cz := { fndA L id with co := x.t }) WI.out (fun hf => (fndA_some hf).1) (by decide) (by decide))
  obtain ⟨te, hte⟩ : ∃ v, tE L id 2 (runC L x.t) = v := ⟨_, rfl⟩
  have HTE := hid hte
  clear hte
  go_wp2_with fail
  refine Held.wp_region_held_tail (S := (fun w' => w'.cell? ⟨w.heap.size, 2, none⟩ = some (.int .i64 x.t))) 11 (by kernel_rfl) (by kernel_rfl) (by decide) ?hS1 (fun hHeld => ?hR1)
  case hS1 =>
    exact a2
  simp only [List.take_succ_cons, List.take_zero, List.drop_succ_cons, List.drop_zero]
  refine wpAnyH_take (i := 0) (oi := _) (v := ?v2) rfl (by kernel_rfl) (by kernel_rfl) (by kernel_rfl) (fun _ _ _ h => h) (Or.inl ⟨by rfl, ?y2⟩) (by assumption) ?r2
  case y2 => ((intro w hSw); (try dsimp only at hSw); go_simp; (try with_reducible rfl))
  (try simp only [Act.put, List.setIfInBounds_toArray, List.set_cons_zero, List.set_cons_succ])
  refine wpAnyH_take (i := 1) (oi := _) (v := ?v3) rfl (by kernel_rfl) (by kernel_rfl) (by kernel_rfl) (fun _ _ _ h => h) (Or.inl ⟨by rfl, ?y3⟩) (by assumption) ?r3
  case y3 => ((intro w hSw); (try dsimp only at hSw); go_simp; (try with_reducible rfl))
  (try simp only [Act.put, List.setIfInBounds_toArray, List.set_cons_zero, List.set_cons_succ])
  refine wpAnyH_take (i := 2) (oi := _) (v := ?v4) rfl (by kernel_rfl) (by kernel_rfl) (by kernel_rfl) (fun _ _ _ h => h) (Or.inl ⟨by rfl, ?y4⟩) (by assumption) ?r4
  case y4 => ((intro w hSw); (try dsimp only at hSw); go_simp; (try with_reducible rfl))
  (try simp only [Act.put, List.setIfInBounds_toArray, List.set_cons_zero, List.set_cons_succ])
  (try simp only [Act.put, List.getElem_toArray, List.getElem_cons_zero, List.getElem_cons_succ, List.setIfInBounds_toArray, List.set_cons_zero, List.set_cons_succ])
  refine wpAnyH_take (i := 3) (oi := _) (v := ?v5) rfl (by kernel_rfl) (by kernel_rfl) (by kernel_rfl) (fun _ _ _ h => h) (Or.inl ⟨by rfl, ?y5⟩) (by assumption) ?r5
  case y5 => ((intro w hSw); (try dsimp only at hSw); go_simp; (try with_reducible rfl))
  (try simp only [Act.put, List.setIfInBounds_toArray, List.set_cons_zero, List.set_cons_succ])
  refine wpAnyH_take (i := 5) (oi := _) (v := ?v6) rfl (by kernel_rfl) (by kernel_rfl) (by kernel_rfl) (fun _ _ _ h => h) (Or.inl ⟨by rfl, ?y6⟩) (by assumption) ?r6
  case y6 => ((intro w hSw); (try dsimp only at hSw); go_simp; (try with_reducible rfl))
  (try simp only [Act.put, List.setIfInBounds_toArray, List.set_cons_zero, List.set_cons_succ])
  refine wpAnyH_take (i := 6) (oi := _) (v := ?v7) rfl (by kernel_rfl) (by kernel_rfl) (by kernel_rfl) (fun _ _ _ h => h) (Or.inl ⟨by rfl, ?y7⟩) (by assumption) ?r7
  case y7 => ((intro w hSw); (try dsimp only at hSw); go_simp; (try with_reducible rfl))
  (try simp only [Act.put, List.setIfInBounds_toArray, List.set_cons_zero, List.set_cons_succ])
  (try simp only [Act.put, List.getElem_toArray, List.getElem_cons_zero, List.getElem_cons_succ, List.setIfInBounds_toArray, List.set_cons_zero, List.set_cons_succ])
  refine wpAnyH_take (i := 7) (oi := _) (v := ?v8) rfl (by kernel_rfl) (by kernel_rfl) (by kernel_rfl) (fun _ _ _ h => h) (Or.inl ⟨by rfl, ?y8⟩) (by assumption) ?r8
  case y8 => ((intro w hSw); (try dsimp only at hSw); go_simp; (try with_reducible rfl))
  (try simp only [Act.put, List.setIfInBounds_toArray, List.set_cons_zero, List.set_cons_succ])
  refine wpAnyH_take (i := 8) (oi := _) (v := ?v9) rfl (by kernel_rfl) (by kernel_rfl) (by kernel_rfl) (fun _ _ _ h => h) (Or.inl ⟨by rfl, ?y9⟩) (by assumption) ?r9
  case y9 => ((intro w hSw); (try dsimp only at hSw); go_simp; (try with_reducible rfl))
  (try simp only [Act.put, List.setIfInBounds_toArray, List.set_cons_zero, List.set_cons_succ])
  (try simp only [Act.put, List.getElem_toArray, List.getElem_cons_zero, List.getElem_cons_succ, List.setIfInBounds_toArray, List.set_cons_zero, List.set_cons_succ])
  refine wpAnyH_ready (rs := [4]) (by kernel_rfl) (by simp) ?_
  refine AllReadyH.cons rfl (fun K hK => ?st10) AllReadyH.nil
  go_simp
  go_at_call 64
  refine (arun (H1.out.t.still (by exact (Fr.refl _ _).drew)) LN.out (HC.out.still (S1.out.trans (Fr.refl _ _).drew)) id WI.out H.out.v.st x.t).mono ?_
  rintro e w2 ⟨he, t2, f2⟩
  rw [HTE.out] at he
  subst he
  have T2 := hid t2
  have F2 : Hid (Fr KB.own w1 w2) := hid (((Fr.refl _ w1).drew).trans (f2.mono fun k _ hk => .inr hk))
  have B2 := hid (HB.out.fr F2.out (fun e => by have := H.out.lt _ (.inl e); omega))
  clear t2 f2
  refine hK.out _ _ ?k10 (fun hHeld10 => ?_)
  case k10 =>
    exact B2.out.cell 2
  clear hK K
  (try simp only [Act.put, List.setIfInBounds_toArray, List.set_cons_zero, List.set_cons_succ])
  refine wpAnyH_ready (rs := [9]) (by kernel_rfl) (by simp) ?_
  refine AllReadyH.cons rfl (fun K hK => ?st11) AllReadyH.nil
  go_simp
  go_at_call 113
  refine (xrun (H1.out.rfr F2.out) (by have := HL.out; omega) H.out.v.st id x.t).mono ?_
  rintro e w3 ⟨he, r3, f3⟩
  rw [HTE.out] at he
  subst he
  have R3 : Hid (RAAt w3 (upO O w2 w3) KB.Q KB.p KB.A KB.T KB.cA KB.cT (s) (tL L (id) 2 2 (runC L x.t) { fndA L (id) with co := x.t })) := hid r3
  have F3 : Hid (Fr O w2 w3) := hid f3
  have B3 := hid (B2.out.fr f3 (fun e => by have := H.out.lt _ (.inr e); omega))
  clear r3 f3
  refine hK.out _ _ ?k11 (fun hHeld11 => ?_)
  case k11 =>
    exact B3.out.cell 2
  clear hK K
  (try simp only [Act.put, List.setIfInBounds_toArray, List.set_cons_zero, List.set_cons_succ])
  refine wpAnyH_take (i := 10) (oi := _) (v := ?v12) rfl (by kernel_rfl) (by kernel_rfl) (by kernel_rfl) (fun _ _ _ h => h) (Or.inl ⟨by rfl, ?y12⟩) (by assumption) ?r12
  case y12 => ((intro w hSw); (try dsimp only at hSw); go_simp; (try with_reducible rfl))
  (try simp only [Act.put, List.setIfInBounds_toArray, List.set_cons_zero, List.set_cons_succ])
  refine wpAnyH_done (by kernel_rfl) (Held.tailQ_normal ?_) _
  have FT := hid (H1.out.step T2.out F2.out R3.out F3.out TV.out)
  go_wp2_with fail
  go_ret
  rw [HID.out]
  exact ⟨rfl, H.out.back Z1.out (Nat.le_trans Z1.out FT.out.2.size) FT.out.1, (S1.out.fr _).trans FT.out.2⟩

set_option maxRecDepth 100000 in
set_option maxHeartbeats 8000000 in
theorem lact2 (h : TwoA w KB O s L) (hl : L.length ≤ 900) (hT : TabD w) (hC : TabF w) (x : LAct) (wx : (Lit.int .i64 x.i).wf = true) (hk : x.k = 2) : Calls Tryd.prog 73 #[.pointer (some ⟨KB.P, 0, none⟩), .pointer (some ⟨KB.Q, 0, none⟩), (Value.agg #[.int .i64 x.k, .int .i64 x.i, .int .i64 x.t, .bool x.re, .int .i64 x.c.p, .int .i64 x.c.q, .int .i64 x.c.r0, .int .i64 x.c.r1, .int .i64 x.c.r2, .int .i64 x.c.r3, .int .i64 x.c.r4, .int .i64 x.c.r5, .int .i64 x.c.r6, .int .i64 x.c.r7, .int .i64 x.c.d])] w (ActPostA w KB O (s) (loadL L (idA L x) x.t)) := by
  have e0 : (x.k == 0) = false := by simp [hk]
  have e1 : (x.k == 1) = false := by simp [hk]
  have e2 : (x.k == 2) = true := by simp [hk]
  have e3 : (x.k == 3) = false := by simp [hk]
  have e4 : (x.k == 4) = false := by simp [hk]
  have e5 : (x.k == 5) = false := by simp [hk]
  have e6 : (x.k == 6) = false := by simp [hk]
  have e7 : (x.k == 7) = false := by simp [hk]
  have H := hid h
  have HL := hid hl
  have HT := hid hT
  have HC := hid hC
  have WI := hid (idA_wf h.v x wx)
  have LN := hid (show L.length < maxLen by unfold maxLen; omega)
  have H7 : Hid (¬ KB.B.foot 7) := hid (fun e => by have := h.h8 7 (.inl (.inl e)); omega)
  clear h hT hC wx hk hl
  unfold ActPostA
  go_enter Tryd.func73, Tryd.ntmps73
  go_wp2_with (refine wpList_loadW rfl (.tmp 5) 105 rfl _ Tryd.underlying105 rfl _ 105 [.int .i64 x.k, .int .i64 x.i, .int .i64 x.t, .bool x.re, .int .i64 x.c.p, .int .i64 x.c.q, .int .i64 x.c.r0, .int .i64 x.c.r1, .int .i64 x.c.r2, .int .i64 x.c.r3, .int .i64 x.c.r4, .int .i64 x.c.r5, .int .i64 x.c.r6, .int .i64 x.c.r7, .int .i64 x.c.d] I105 rfl (Blk.new _ _ 105) ?_)
  refine (aid (H.out.r.still ((Fr.refl _ _).alloc _)) x).mono ?_
  rintro e w1 ⟨rfl, s1⟩
  have S1 : Hid (Still w w1) := hid (((Fr.refl _ _).alloc _).trans s1)
  have HB : Hid (Blk w1 w.heap.size [.int .i64 x.k, .int .i64 x.i, .int .i64 x.t, .bool x.re, .int .i64 x.c.p, .int .i64 x.c.q, .int .i64 x.c.r0, .int .i64 x.c.r1, .int .i64 x.c.r2, .int .i64 x.c.r3, .int .i64 x.c.r4, .int .i64 x.c.r5, .int .i64 x.c.r6, .int .i64 x.c.r7, .int .i64 x.c.d] 105) := hid ((Blk.new w _ 105).still s1)
  have H1 := hid (H.out.still S1.out)
  have a0 : w1.cell? ⟨w.heap.size, 0, none⟩ = some (.int .i64 x.k) := HB.out.cell 0
  have a2 : w1.cell? ⟨w.heap.size, 2, none⟩ = some (.int .i64 x.t) := HB.out.cell 2
  have Z1 := hid S1.out.size
  obtain ⟨id, hid0⟩ : ∃ id, idA L x = id := ⟨_, rfl⟩
  have HID := hid hid0
  rw [hid0] at WI ⊢
  clear s1 hid0
  have TV := hid ((H.out.v.load (th := x.t) WI.out).1)
  obtain ⟨te, hte⟩ : ∃ v, loadE L id x.t = v := ⟨_, rfl⟩
  have HTE := hid hte
  clear hte
  go_wp2_with fail
  refine Held.wp_region_held_tail (S := (fun w' => w'.cell? ⟨w.heap.size, 2, none⟩ = some (.int .i64 x.t))) 11 (by kernel_rfl) (by kernel_rfl) (by decide) ?hS13 (fun hHeld => ?hR13)
  case hS13 =>
    exact a2
  simp only [List.take_succ_cons, List.take_zero, List.drop_succ_cons, List.drop_zero]
  refine wpAnyH_take (i := 0) (oi := _) (v := ?v14) rfl (by kernel_rfl) (by kernel_rfl) (by kernel_rfl) (fun _ _ _ h => h) (Or.inl ⟨by rfl, ?y14⟩) (by assumption) ?r14
  case y14 => ((intro w hSw); (try dsimp only at hSw); go_simp; (try with_reducible rfl))
  (try simp only [Act.put, List.setIfInBounds_toArray, List.set_cons_zero, List.set_cons_succ])
  refine wpAnyH_take (i := 1) (oi := _) (v := ?v15) rfl (by kernel_rfl) (by kernel_rfl) (by kernel_rfl) (fun _ _ _ h => h) (Or.inl ⟨by rfl, ?y15⟩) (by assumption) ?r15
  case y15 => ((intro w hSw); (try dsimp only at hSw); go_simp; (try with_reducible rfl))
  (try simp only [Act.put, List.setIfInBounds_toArray, List.set_cons_zero, List.set_cons_succ])
  refine wpAnyH_take (i := 2) (oi := _) (v := ?v16) rfl (by kernel_rfl) (by kernel_rfl) (by kernel_rfl) (fun _ _ _ h => h) (Or.inl ⟨by rfl, ?y16⟩) (by assumption) ?r16
  case y16 => ((intro w hSw); (try dsimp only at hSw); go_simp; (try with_reducible rfl))
  (try simp only [Act.put, List.setIfInBounds_toArray, List.set_cons_zero, List.set_cons_succ])
  (try simp only [Act.put, List.getElem_toArray, List.getElem_cons_zero, List.getElem_cons_succ, List.setIfInBounds_toArray, List.set_cons_zero, List.set_cons_succ])
  refine wpAnyH_take (i := 3) (oi := _) (v := ?v17) rfl (by kernel_rfl) (by kernel_rfl) (by kernel_rfl) (fun _ _ _ h => h) (Or.inl ⟨by rfl, ?y17⟩) (by assumption) ?r17
  case y17 => ((intro w hSw); (try dsimp only at hSw); go_simp; (try with_reducible rfl))
  (try simp only [Act.put, List.setIfInBounds_toArray, List.set_cons_zero, List.set_cons_succ])
  refine wpAnyH_take (i := 5) (oi := _) (v := ?v18) rfl (by kernel_rfl) (by kernel_rfl) (by kernel_rfl) (fun _ _ _ h => h) (Or.inl ⟨by rfl, ?y18⟩) (by assumption) ?r18
  case y18 => ((intro w hSw); (try dsimp only at hSw); go_simp; (try with_reducible rfl))
  (try simp only [Act.put, List.setIfInBounds_toArray, List.set_cons_zero, List.set_cons_succ])
  refine wpAnyH_take (i := 6) (oi := _) (v := ?v19) rfl (by kernel_rfl) (by kernel_rfl) (by kernel_rfl) (fun _ _ _ h => h) (Or.inl ⟨by rfl, ?y19⟩) (by assumption) ?r19
  case y19 => ((intro w hSw); (try dsimp only at hSw); go_simp; (try with_reducible rfl))
  (try simp only [Act.put, List.setIfInBounds_toArray, List.set_cons_zero, List.set_cons_succ])
  (try simp only [Act.put, List.getElem_toArray, List.getElem_cons_zero, List.getElem_cons_succ, List.setIfInBounds_toArray, List.set_cons_zero, List.set_cons_succ])
  refine wpAnyH_take (i := 7) (oi := _) (v := ?v20) rfl (by kernel_rfl) (by kernel_rfl) (by kernel_rfl) (fun _ _ _ h => h) (Or.inl ⟨by rfl, ?y20⟩) (by assumption) ?r20
  case y20 => ((intro w hSw); (try dsimp only at hSw); go_simp; (try with_reducible rfl))
  (try simp only [Act.put, List.setIfInBounds_toArray, List.set_cons_zero, List.set_cons_succ])
  refine wpAnyH_take (i := 8) (oi := _) (v := ?v21) rfl (by kernel_rfl) (by kernel_rfl) (by kernel_rfl) (fun _ _ _ h => h) (Or.inl ⟨by rfl, ?y21⟩) (by assumption) ?r21
  case y21 => ((intro w hSw); (try dsimp only at hSw); go_simp; (try with_reducible rfl))
  (try simp only [Act.put, List.setIfInBounds_toArray, List.set_cons_zero, List.set_cons_succ])
  (try simp only [Act.put, List.getElem_toArray, List.getElem_cons_zero, List.getElem_cons_succ, List.setIfInBounds_toArray, List.set_cons_zero, List.set_cons_succ])
  refine wpAnyH_ready (rs := [4]) (by kernel_rfl) (by simp) ?_
  refine AllReadyH.cons rfl (fun K hK => ?st22) AllReadyH.nil
  go_simp
  go_at_call 65
  refine (aload (H1.out.t.still (by exact (Fr.refl _ _).drew)) LN.out id WI.out x.t).mono ?_
  rintro e w2 ⟨he, t2, f2⟩
  rw [HTE.out] at he
  subst he
  have T2 := hid t2
  have F2 : Hid (Fr KB.own w1 w2) := hid (((Fr.refl _ w1).drew).trans (f2.mono fun k _ hk => .inr hk))
  have B2 := hid (HB.out.fr F2.out (fun e => by have := H.out.lt _ (.inl e); omega))
  clear t2 f2
  refine hK.out _ _ ?k22 (fun hHeld22 => ?_)
  case k22 =>
    exact B2.out.cell 2
  clear hK K
  (try simp only [Act.put, List.setIfInBounds_toArray, List.set_cons_zero, List.set_cons_succ])
  refine wpAnyH_ready (rs := [9]) (by kernel_rfl) (by simp) ?_
  refine AllReadyH.cons rfl (fun K hK => ?st23) AllReadyH.nil
  go_simp
  go_at_call 114
  refine (xload (H1.out.rfr F2.out) (by have := HL.out; omega) id x.t).mono ?_
  rintro e w3 ⟨he, r3, f3⟩
  rw [HTE.out] at he
  subst he
  have R3 : Hid (RAAt w3 (upO O w2 w3) KB.Q KB.p KB.A KB.T KB.cA KB.cT (s) (loadL L (id) x.t)) := hid r3
  have F3 : Hid (Fr O w2 w3) := hid f3
  have B3 := hid (B2.out.fr f3 (fun e => by have := H.out.lt _ (.inr e); omega))
  clear r3 f3
  refine hK.out _ _ ?k23 (fun hHeld23 => ?_)
  case k23 =>
    exact B3.out.cell 2
  clear hK K
  (try simp only [Act.put, List.setIfInBounds_toArray, List.set_cons_zero, List.set_cons_succ])
  refine wpAnyH_take (i := 10) (oi := _) (v := ?v24) rfl (by kernel_rfl) (by kernel_rfl) (by kernel_rfl) (fun _ _ _ h => h) (Or.inl ⟨by rfl, ?y24⟩) (by assumption) ?r24
  case y24 => ((intro w hSw); (try dsimp only at hSw); go_simp; (try with_reducible rfl))
  (try simp only [Act.put, List.setIfInBounds_toArray, List.set_cons_zero, List.set_cons_succ])
  refine wpAnyH_done (by kernel_rfl) (Held.tailQ_normal ?_) _
  have FT := hid (H1.out.step T2.out F2.out R3.out F3.out TV.out)
  go_wp2_with fail
  go_ret
  rw [HID.out]
  exact ⟨rfl, H.out.back Z1.out (Nat.le_trans Z1.out FT.out.2.size) FT.out.1, (S1.out.fr _).trans FT.out.2⟩

set_option maxRecDepth 100000 in
set_option maxHeartbeats 8000000 in
theorem lact7 (h : TwoA w KB O s L) (hl : L.length ≤ 900) (hT : TabD w) (hC : TabF w) (x : LAct) (wx : (Lit.int .i64 x.i).wf = true) (hk : x.k = 7) : Calls Tryd.prog 73 #[.pointer (some ⟨KB.P, 0, none⟩), .pointer (some ⟨KB.Q, 0, none⟩), (Value.agg #[.int .i64 x.k, .int .i64 x.i, .int .i64 x.t, .bool x.re, .int .i64 x.c.p, .int .i64 x.c.q, .int .i64 x.c.r0, .int .i64 x.c.r1, .int .i64 x.c.r2, .int .i64 x.c.r3, .int .i64 x.c.r4, .int .i64 x.c.r5, .int .i64 x.c.r6, .int .i64 x.c.r7, .int .i64 x.c.d])] w (ActPostA w KB O (drS s x.t L) (drL L x.t)) := by
  have e0 : (x.k == 0) = false := by simp [hk]
  have e1 : (x.k == 1) = false := by simp [hk]
  have e2 : (x.k == 2) = false := by simp [hk]
  have e3 : (x.k == 3) = false := by simp [hk]
  have e4 : (x.k == 4) = false := by simp [hk]
  have e5 : (x.k == 5) = false := by simp [hk]
  have e6 : (x.k == 6) = false := by simp [hk]
  have e7 : (x.k == 7) = true := by simp [hk]
  have H := hid h
  have HL := hid hl
  have HT := hid hT
  have HC := hid hC
  have WI := hid (idA_wf h.v x wx)
  have LN := hid (show L.length < maxLen by unfold maxLen; omega)
  have H7 : Hid (¬ KB.B.foot 7) := hid (fun e => by have := h.h8 7 (.inl (.inl e)); omega)
  clear h hT hC wx hk hl
  unfold ActPostA
  go_enter Tryd.func73, Tryd.ntmps73
  go_wp2_with (refine wpList_loadW rfl (.tmp 5) 105 rfl _ Tryd.underlying105 rfl _ 105 [.int .i64 x.k, .int .i64 x.i, .int .i64 x.t, .bool x.re, .int .i64 x.c.p, .int .i64 x.c.q, .int .i64 x.c.r0, .int .i64 x.c.r1, .int .i64 x.c.r2, .int .i64 x.c.r3, .int .i64 x.c.r4, .int .i64 x.c.r5, .int .i64 x.c.r6, .int .i64 x.c.r7, .int .i64 x.c.d] I105 rfl (Blk.new _ _ 105) ?_)
  refine (aid (H.out.r.still ((Fr.refl _ _).alloc _)) x).mono ?_
  rintro e w1 ⟨rfl, s1⟩
  have S1 : Hid (Still w w1) := hid (((Fr.refl _ _).alloc _).trans s1)
  have HB : Hid (Blk w1 w.heap.size [.int .i64 x.k, .int .i64 x.i, .int .i64 x.t, .bool x.re, .int .i64 x.c.p, .int .i64 x.c.q, .int .i64 x.c.r0, .int .i64 x.c.r1, .int .i64 x.c.r2, .int .i64 x.c.r3, .int .i64 x.c.r4, .int .i64 x.c.r5, .int .i64 x.c.r6, .int .i64 x.c.r7, .int .i64 x.c.d] 105) := hid ((Blk.new w _ 105).still s1)
  have H1 := hid (H.out.still S1.out)
  have a0 : w1.cell? ⟨w.heap.size, 0, none⟩ = some (.int .i64 x.k) := HB.out.cell 0
  have a2 : w1.cell? ⟨w.heap.size, 2, none⟩ = some (.int .i64 x.t) := HB.out.cell 2
  have Z1 := hid S1.out.size
  obtain ⟨id, hid0⟩ : ∃ id, idA L x = id := ⟨_, rfl⟩
  have HID := hid hid0
  rw [hid0] at WI
  clear s1 hid0
  have TV := hid ((H.out.v.drop x.t).1)
  obtain ⟨te, hte⟩ : ∃ v, ((drN L x.t : Nat) : Int) = v := ⟨_, rfl⟩
  have HTE := hid hte
  clear hte
  go_wp2_with fail
  refine Held.wp_region_held_tail (S := (fun w' => w'.cell? ⟨w.heap.size, 2, none⟩ = some (.int .i64 x.t))) 9 (by kernel_rfl) (by kernel_rfl) (by decide) ?hS25 (fun hHeld => ?hR25)
  case hS25 =>
    exact a2
  simp only [List.take_succ_cons, List.take_zero, List.drop_succ_cons, List.drop_zero]
  refine wpAnyH_take (i := 0) (oi := _) (v := ?v26) rfl (by kernel_rfl) (by kernel_rfl) (by kernel_rfl) (fun _ _ _ h => h) (Or.inl ⟨by rfl, ?y26⟩) (by assumption) ?r26
  case y26 => ((intro w hSw); (try dsimp only at hSw); go_simp; (try with_reducible rfl))
  (try simp only [Act.put, List.setIfInBounds_toArray, List.set_cons_zero, List.set_cons_succ])
  refine wpAnyH_take (i := 1) (oi := _) (v := ?v27) rfl (by kernel_rfl) (by kernel_rfl) (by kernel_rfl) (fun _ _ _ h => h) (Or.inl ⟨by rfl, ?y27⟩) (by assumption) ?r27
  case y27 => ((intro w hSw); (try dsimp only at hSw); go_simp; (try with_reducible rfl))
  (try simp only [Act.put, List.setIfInBounds_toArray, List.set_cons_zero, List.set_cons_succ])
  refine wpAnyH_take (i := 2) (oi := _) (v := ?v28) rfl (by kernel_rfl) (by kernel_rfl) (by kernel_rfl) (fun _ _ _ h => h) (Or.inl ⟨by rfl, ?y28⟩) (by assumption) ?r28
  case y28 => ((intro w hSw); (try dsimp only at hSw); go_simp; (try with_reducible rfl))
  (try simp only [Act.put, List.setIfInBounds_toArray, List.set_cons_zero, List.set_cons_succ])
  (try simp only [Act.put, List.getElem_toArray, List.getElem_cons_zero, List.getElem_cons_succ, List.setIfInBounds_toArray, List.set_cons_zero, List.set_cons_succ])
  refine wpAnyH_take (i := 4) (oi := _) (v := ?v29) rfl (by kernel_rfl) (by kernel_rfl) (by kernel_rfl) (fun _ _ _ h => h) (Or.inl ⟨by rfl, ?y29⟩) (by assumption) ?r29
  case y29 => ((intro w hSw); (try dsimp only at hSw); go_simp; (try with_reducible rfl))
  (try simp only [Act.put, List.setIfInBounds_toArray, List.set_cons_zero, List.set_cons_succ])
  refine wpAnyH_take (i := 5) (oi := _) (v := ?v30) rfl (by kernel_rfl) (by kernel_rfl) (by kernel_rfl) (fun _ _ _ h => h) (Or.inl ⟨by rfl, ?y30⟩) (by assumption) ?r30
  case y30 => ((intro w hSw); (try dsimp only at hSw); go_simp; (try with_reducible rfl))
  (try simp only [Act.put, List.setIfInBounds_toArray, List.set_cons_zero, List.set_cons_succ])
  refine wpAnyH_take (i := 6) (oi := _) (v := ?v31) rfl (by kernel_rfl) (by kernel_rfl) (by kernel_rfl) (fun _ _ _ h => h) (Or.inl ⟨by rfl, ?y31⟩) (by assumption) ?r31
  case y31 => ((intro w hSw); (try dsimp only at hSw); go_simp; (try with_reducible rfl))
  (try simp only [Act.put, List.setIfInBounds_toArray, List.set_cons_zero, List.set_cons_succ])
  (try simp only [Act.put, List.getElem_toArray, List.getElem_cons_zero, List.getElem_cons_succ, List.setIfInBounds_toArray, List.set_cons_zero, List.set_cons_succ])
  refine wpAnyH_ready (rs := [3]) (by kernel_rfl) (by simp) ?_
  refine AllReadyH.cons rfl (fun K hK => ?st32) AllReadyH.nil
  go_simp
  go_at_call 82
  refine (adrop (H1.out.t.still (by exact (Fr.refl _ _).drew)) (by have := HL.out; omega) H.out.v.si H.out.v.wf x.t).mono ?_
  rintro e w2 ⟨he, t2, f2⟩
  rw [HTE.out] at he
  subst he
  have T2 := hid t2
  have F2 : Hid (Fr KB.own w1 w2) := hid (((Fr.refl _ w1).drew).trans (f2.mono fun k _ hk => hk.elim .inr (fun h => .inl (.inl h))))
  have B2 := hid (HB.out.fr F2.out (fun e => by have := H.out.lt _ (.inl e); omega))
  clear t2 f2
  refine hK.out _ _ ?k32 (fun hHeld32 => ?_)
  case k32 =>
    exact B2.out.cell 2
  clear hK K
  (try simp only [Act.put, List.setIfInBounds_toArray, List.set_cons_zero, List.set_cons_succ])
  refine wpAnyH_ready (rs := [7]) (by kernel_rfl) (by simp) ?_
  refine AllReadyH.cons rfl (fun K hK => ?st33) AllReadyH.nil
  go_simp
  go_at_call 119
  refine (xdrop (H1.out.rfr F2.out) (by have := HL.out; omega) H.out.v.wf x.t).mono ?_
  rintro e w3 ⟨he, r3, f3⟩
  rw [HTE.out] at he
  subst he
  have R3 : Hid (RAAt w3 (upO O w2 w3) KB.Q KB.p KB.A KB.T KB.cA KB.cT (drS s x.t L) (drL L x.t)) := hid r3
  have F3 : Hid (Fr O w2 w3) := hid f3
  have B3 := hid (B2.out.fr f3 (fun e => by have := H.out.lt _ (.inr e); omega))
  clear r3 f3
  refine hK.out _ _ ?k33 (fun hHeld33 => ?_)
  case k33 =>
    exact B3.out.cell 2
  clear hK K
  (try simp only [Act.put, List.setIfInBounds_toArray, List.set_cons_zero, List.set_cons_succ])
  refine wpAnyH_take (i := 8) (oi := _) (v := ?v34) rfl (by kernel_rfl) (by kernel_rfl) (by kernel_rfl) (fun _ _ _ h => h) (Or.inl ⟨by rfl, ?y34⟩) (by assumption) ?r34
  case y34 => ((intro w hSw); (try dsimp only at hSw); go_simp; (try with_reducible rfl))
  (try simp only [Act.put, List.setIfInBounds_toArray, List.set_cons_zero, List.set_cons_succ])
  refine wpAnyH_done (by kernel_rfl) (Held.tailQ_normal ?_) _
  have FT := hid (H1.out.step T2.out F2.out R3.out F3.out TV.out)
  go_wp2_with fail
  go_ret
  exact ⟨rfl, H.out.back Z1.out (Nat.le_trans Z1.out FT.out.2.size) FT.out.1, (S1.out.fr _).trans FT.out.2⟩

set_option maxRecDepth 100000 in
set_option maxHeartbeats 8000000 in
theorem lact4 (h : TwoA w KB O s L) (hl : L.length ≤ 900) (hT : TabD w) (hC : TabF w) (x : LAct) (wx : (Lit.int .i64 x.i).wf = true) (hk : x.k = 4) : Calls Tryd.prog 73 #[.pointer (some ⟨KB.P, 0, none⟩), .pointer (some ⟨KB.Q, 0, none⟩), (Value.agg #[.int .i64 x.k, .int .i64 x.i, .int .i64 x.t, .bool x.re, .int .i64 x.c.p, .int .i64 x.c.q, .int .i64 x.c.r0, .int .i64 x.c.r1, .int .i64 x.c.r2, .int .i64 x.c.r3, .int .i64 x.c.r4, .int .i64 x.c.r5, .int .i64 x.c.r6, .int .i64 x.c.r7, .int .i64 x.c.d])] w (ActPostA w KB O (s) (tL L (idA L x) 4 4 0 { fndA L (idA L x) with co := -1, c := x.c })) := by
  have e0 : (x.k == 0) = false := by simp [hk]
  have e1 : (x.k == 1) = false := by simp [hk]
  have e2 : (x.k == 2) = false := by simp [hk]
  have e3 : (x.k == 3) = false := by simp [hk]
  have e4 : (x.k == 4) = true := by simp [hk]
  have e5 : (x.k == 5) = false := by simp [hk]
  have e6 : (x.k == 6) = false := by simp [hk]
  have e7 : (x.k == 7) = false := by simp [hk]
  have H := hid h
  have HL := hid hl
  have HT := hid hT
  have HC := hid hC
  have WI := hid (idA_wf h.v x wx)
  have LN := hid (show L.length < maxLen by unfold maxLen; omega)
  have H7 : Hid (¬ KB.B.foot 7) := hid (fun e => by have := h.h8 7 (.inl (.inl e)); omega)
  clear h hT hC wx hk hl
  unfold ActPostA
  go_enter Tryd.func73, Tryd.ntmps73
  go_wp2_with (refine wpList_loadW rfl (.tmp 5) 105 rfl _ Tryd.underlying105 rfl _ 105 [.int .i64 x.k, .int .i64 x.i, .int .i64 x.t, .bool x.re, .int .i64 x.c.p, .int .i64 x.c.q, .int .i64 x.c.r0, .int .i64 x.c.r1, .int .i64 x.c.r2, .int .i64 x.c.r3, .int .i64 x.c.r4, .int .i64 x.c.r5, .int .i64 x.c.r6, .int .i64 x.c.r7, .int .i64 x.c.d] I105 rfl (Blk.new _ _ 105) ?_)
  refine (aid (H.out.r.still ((Fr.refl _ _).alloc _)) x).mono ?_
  rintro e w1 ⟨rfl, s1⟩
  have S1 : Hid (Still w w1) := hid (((Fr.refl _ _).alloc _).trans s1)
  have HB : Hid (Blk w1 w.heap.size [.int .i64 x.k, .int .i64 x.i, .int .i64 x.t, .bool x.re, .int .i64 x.c.p, .int .i64 x.c.q, .int .i64 x.c.r0, .int .i64 x.c.r1, .int .i64 x.c.r2, .int .i64 x.c.r3, .int .i64 x.c.r4, .int .i64 x.c.r5, .int .i64 x.c.r6, .int .i64 x.c.r7, .int .i64 x.c.d] 105) := hid ((Blk.new w _ 105).still s1)
  have H1 := hid (H.out.still S1.out)
  have a0 : w1.cell? ⟨w.heap.size, 0, none⟩ = some (.int .i64 x.k) := HB.out.cell 0
  have a2 : w1.cell? ⟨w.heap.size, 2, none⟩ = some (.int .i64 x.t) := HB.out.cell 2
  have Z1 := hid S1.out.size
  obtain ⟨id, hid0⟩ : ∃ id, idA L x = id := ⟨_, rfl⟩
  have HID := hid hid0
  rw [hid0] at WI ⊢
  clear s1 hid0
  have TV := hid (H.out.v.t (fr := 4) (st := 4) (ce := 0) (cz := { fndA L id with co := -1, c := x.c }) WI.out (fun hf => (fndA_some hf).1) (by decide) (by decide))
  obtain ⟨te, hte⟩ : ∃ v, tE L id 4 0 = v := ⟨_, rfl⟩
  have HTE := hid hte
  clear hte
  go_wp2_with fail
  have RX := rangeS HB.out
  refine Held.wp_region_held_tail (S := (fun w' => w'.rangeAt w.heap.size 4 [.int .i64 x.c.p, .int .i64 x.c.q, .int .i64 x.c.r0, .int .i64 x.c.r1, .int .i64 x.c.r2, .int .i64 x.c.r3, .int .i64 x.c.r4, .int .i64 x.c.r5, .int .i64 x.c.r6, .int .i64 x.c.r7, .int .i64 x.c.d])) 11 (by kernel_rfl) (by kernel_rfl) (by decide) ?hS35 (fun hHeld => ?hR35)
  case hS35 =>
    exact RX
  simp only [List.take_succ_cons, List.take_zero, List.drop_succ_cons, List.drop_zero]
  refine wpAnyH_take (i := 2) (oi := _) (v := ?v36) rfl (by kernel_rfl) (by kernel_rfl) (by kernel_rfl) (fun _ _ _ h => h) (Or.inl ⟨by rfl, ?y36⟩) (by assumption) ?r36
  case y36 => ((intro w hSw); (try dsimp only at hSw); go_simp; (try with_reducible rfl))
  (try simp only [Act.put, List.setIfInBounds_toArray, List.set_cons_zero, List.set_cons_succ])
  refine wpAnyH_take (i := 3) (oi := _) (v := (Value.agg #[.int .i64 x.c.p, .int .i64 x.c.q, .int .i64 x.c.r0, .int .i64 x.c.r1, .int .i64 x.c.r2, .int .i64 x.c.r3, .int .i64 x.c.r4, .int .i64 x.c.r5, .int .i64 x.c.r6, .int .i64 x.c.r7, .int .i64 x.c.d])) rfl (by kernel_rfl) (by kernel_rfl) (by kernel_rfl) (fun _ _ _ h => h) (yieldsIf_load_mid rfl 58 _ rfl w.heap.size 4 rfl [.int .i64 x.c.p, .int .i64 x.c.q, .int .i64 x.c.r0, .int .i64 x.c.r1, .int .i64 x.c.r2, .int .i64 x.c.r3, .int .i64 x.c.r4, .int .i64 x.c.r5, .int .i64 x.c.r6, .int .i64 x.c.r7, .int .i64 x.c.d] _ (fun w h => h) Tryd.underlying58 rfl I58) (by assumption) ?rM1
  (try simp only [Act.put, List.getElem_toArray, List.getElem_cons_zero, List.getElem_cons_succ, List.setIfInBounds_toArray, List.set_cons_zero, List.set_cons_succ])
  refine wpAnyH_take (i := 7) (oi := _) (v := ?v37) rfl (by kernel_rfl) (by kernel_rfl) (by kernel_rfl) (fun _ _ _ h => h) (Or.inl ⟨by rfl, ?y37⟩) (by assumption) ?r37
  case y37 => ((intro w hSw); (try dsimp only at hSw); go_simp; (try with_reducible rfl))
  (try simp only [Act.put, List.setIfInBounds_toArray, List.set_cons_zero, List.set_cons_succ])
  (try simp only [Act.put, List.getElem_toArray, List.getElem_cons_zero, List.getElem_cons_succ, List.setIfInBounds_toArray, List.set_cons_zero, List.set_cons_succ])
  refine wpAnyH_take (i := 8) (oi := _) (v := (Value.agg #[.int .i64 x.c.p, .int .i64 x.c.q, .int .i64 x.c.r0, .int .i64 x.c.r1, .int .i64 x.c.r2, .int .i64 x.c.r3, .int .i64 x.c.r4, .int .i64 x.c.r5, .int .i64 x.c.r6, .int .i64 x.c.r7, .int .i64 x.c.d])) rfl (by kernel_rfl) (by kernel_rfl) (by kernel_rfl) (fun _ _ _ h => h) (yieldsIf_load_mid rfl 58 _ rfl w.heap.size 4 rfl [.int .i64 x.c.p, .int .i64 x.c.q, .int .i64 x.c.r0, .int .i64 x.c.r1, .int .i64 x.c.r2, .int .i64 x.c.r3, .int .i64 x.c.r4, .int .i64 x.c.r5, .int .i64 x.c.r6, .int .i64 x.c.r7, .int .i64 x.c.d] _ (fun w h => h) Tryd.underlying58 rfl I58) (by assumption) ?rN1
  (try simp only [Act.put, List.getElem_toArray, List.getElem_cons_zero, List.getElem_cons_succ, List.setIfInBounds_toArray, List.set_cons_zero, List.set_cons_succ])
  refine wpAnyH_take (i := 0) (oi := _) (v := ?v38) rfl (by kernel_rfl) (by kernel_rfl) (by kernel_rfl) (fun _ _ _ h => h) (Or.inl ⟨by rfl, ?y38⟩) (by assumption) ?r38
  case y38 => ((intro w hSw); (try dsimp only at hSw); go_simp; (try with_reducible rfl))
  (try simp only [Act.put, List.setIfInBounds_toArray, List.set_cons_zero, List.set_cons_succ])
  refine wpAnyH_take (i := 1) (oi := _) (v := ?v39) rfl (by kernel_rfl) (by kernel_rfl) (by kernel_rfl) (fun _ _ _ h => h) (Or.inl ⟨by rfl, ?y39⟩) (by assumption) ?r39
  case y39 => ((intro w hSw); (try dsimp only at hSw); go_simp; (try with_reducible rfl))
  (try simp only [Act.put, List.setIfInBounds_toArray, List.set_cons_zero, List.set_cons_succ])
  refine wpAnyH_take (i := 5) (oi := _) (v := ?v40) rfl (by kernel_rfl) (by kernel_rfl) (by kernel_rfl) (fun _ _ _ h => h) (Or.inl ⟨by rfl, ?y40⟩) (by assumption) ?r40
  case y40 => ((intro w hSw); (try dsimp only at hSw); go_simp; (try with_reducible rfl))
  (try simp only [Act.put, List.setIfInBounds_toArray, List.set_cons_zero, List.set_cons_succ])
  refine wpAnyH_take (i := 6) (oi := _) (v := ?v41) rfl (by kernel_rfl) (by kernel_rfl) (by kernel_rfl) (fun _ _ _ h => h) (Or.inl ⟨by rfl, ?y41⟩) (by assumption) ?r41
  case y41 => ((intro w hSw); (try dsimp only at hSw); go_simp; (try with_reducible rfl))
  (try simp only [Act.put, List.setIfInBounds_toArray, List.set_cons_zero, List.set_cons_succ])
  refine wpAnyH_ready (rs := [4]) (by kernel_rfl) (by simp) ?_
  refine AllReadyH.cons rfl (fun K hK => ?st42) AllReadyH.nil
  go_simp
  go_at_call 67
  refine (apre (H1.out.t.still (by exact (Fr.refl _ _).drew)) LN.out (HC.out.still (S1.out.trans (Fr.refl _ _).drew)) id WI.out H.out.v.st x.c).mono ?_
  rintro e w2 ⟨he, t2, f2⟩
  rw [HTE.out] at he
  subst he
  have T2 := hid t2
  have F2 : Hid (Fr KB.own w1 w2) := hid (((Fr.refl _ w1).drew).trans (f2.mono fun k _ hk => .inr hk))
  have B2 := hid (HB.out.fr F2.out (fun e => by have := H.out.lt _ (.inl e); omega))
  clear t2 f2
  refine hK.out _ _ ?k42 (fun hHeld42 => ?_)
  case k42 =>
    exact rangeS B2.out
  clear hK K
  (try simp only [Act.put, List.setIfInBounds_toArray, List.set_cons_zero, List.set_cons_succ])
  refine wpAnyH_ready (rs := [9]) (by kernel_rfl) (by simp) ?_
  refine AllReadyH.cons rfl (fun K hK => ?st43) AllReadyH.nil
  go_simp
  go_at_call 116
  refine (xpre (H1.out.rfr F2.out) (by have := HL.out; omega) H.out.v.st id x.c).mono ?_
  rintro e w3 ⟨he, r3, f3⟩
  rw [HTE.out] at he
  subst he
  have R3 : Hid (RAAt w3 (upO O w2 w3) KB.Q KB.p KB.A KB.T KB.cA KB.cT (s) (tL L (id) 4 4 0 { fndA L (id) with co := -1, c := x.c })) := hid r3
  have F3 : Hid (Fr O w2 w3) := hid f3
  have B3 := hid (B2.out.fr f3 (fun e => by have := H.out.lt _ (.inr e); omega))
  clear r3 f3
  refine hK.out _ _ ?k43 (fun hHeld43 => ?_)
  case k43 =>
    exact rangeS B3.out
  clear hK K
  (try simp only [Act.put, List.setIfInBounds_toArray, List.set_cons_zero, List.set_cons_succ])
  refine wpAnyH_take (i := 10) (oi := _) (v := ?v44) rfl (by kernel_rfl) (by kernel_rfl) (by kernel_rfl) (fun _ _ _ h => h) (Or.inl ⟨by rfl, ?y44⟩) (by assumption) ?r44
  case y44 => ((intro w hSw); (try dsimp only at hSw); go_simp; (try with_reducible rfl))
  (try simp only [Act.put, List.setIfInBounds_toArray, List.set_cons_zero, List.set_cons_succ])
  refine wpAnyH_done (by kernel_rfl) (Held.tailQ_normal ?_) _
  have FT := hid (H1.out.step T2.out F2.out R3.out F3.out TV.out)
  go_wp2_with fail
  go_ret
  rw [HID.out]
  exact ⟨rfl, H.out.back Z1.out (Nat.le_trans Z1.out FT.out.2.size) FT.out.1, (S1.out.fr _).trans FT.out.2⟩

set_option maxRecDepth 100000 in
set_option maxHeartbeats 8000000 in
theorem lactN (h : TwoA w KB O s L) (hl : L.length ≤ 900) (hT : TabD w) (hC : TabF w) (x : LAct) (wx : (Lit.int .i64 x.i).wf = true) (hk : x.k < 0 ∨ 7 < x.k) : Calls Tryd.prog 73 #[.pointer (some ⟨KB.P, 0, none⟩), .pointer (some ⟨KB.Q, 0, none⟩), (Value.agg #[.int .i64 x.k, .int .i64 x.i, .int .i64 x.t, .bool x.re, .int .i64 x.c.p, .int .i64 x.c.q, .int .i64 x.c.r0, .int .i64 x.c.r1, .int .i64 x.c.r2, .int .i64 x.c.r3, .int .i64 x.c.r4, .int .i64 x.c.r5, .int .i64 x.c.r6, .int .i64 x.c.r7, .int .i64 x.c.d])] w (ActPostA w KB O s L) := by
  have e0 : (x.k == 0) = false := by simp; omega
  have e1 : (x.k == 1) = false := by simp; omega
  have e2 : (x.k == 2) = false := by simp; omega
  have e3 : (x.k == 3) = false := by simp; omega
  have e4 : (x.k == 4) = false := by simp; omega
  have e5 : (x.k == 5) = false := by simp; omega
  have e6 : (x.k == 6) = false := by simp; omega
  have e7 : (x.k == 7) = false := by simp; omega
  have H := hid h
  have HL := hid hl
  have HT := hid hT
  have HC := hid hC
  have WI := hid (idA_wf h.v x wx)
  have LN := hid (show L.length < maxLen by unfold maxLen; omega)
  have H7 : Hid (¬ KB.B.foot 7) := hid (fun e => by have := h.h8 7 (.inl (.inl e)); omega)
  clear h hT hC wx hk hl
  unfold ActPostA
  go_enter Tryd.func73, Tryd.ntmps73
  go_wp2_with (refine wpList_loadW rfl (.tmp 5) 105 rfl _ Tryd.underlying105 rfl _ 105 [.int .i64 x.k, .int .i64 x.i, .int .i64 x.t, .bool x.re, .int .i64 x.c.p, .int .i64 x.c.q, .int .i64 x.c.r0, .int .i64 x.c.r1, .int .i64 x.c.r2, .int .i64 x.c.r3, .int .i64 x.c.r4, .int .i64 x.c.r5, .int .i64 x.c.r6, .int .i64 x.c.r7, .int .i64 x.c.d] I105 rfl (Blk.new _ _ 105) ?_)
  refine (aid (H.out.r.still ((Fr.refl _ _).alloc _)) x).mono ?_
  rintro e w1 ⟨rfl, s1⟩
  have S1 : Hid (Still w w1) := hid (((Fr.refl _ _).alloc _).trans s1)
  have HB : Hid (Blk w1 w.heap.size [.int .i64 x.k, .int .i64 x.i, .int .i64 x.t, .bool x.re, .int .i64 x.c.p, .int .i64 x.c.q, .int .i64 x.c.r0, .int .i64 x.c.r1, .int .i64 x.c.r2, .int .i64 x.c.r3, .int .i64 x.c.r4, .int .i64 x.c.r5, .int .i64 x.c.r6, .int .i64 x.c.r7, .int .i64 x.c.d] 105) := hid ((Blk.new w _ 105).still s1)
  have H1 := hid (H.out.still S1.out)
  have a0 : w1.cell? ⟨w.heap.size, 0, none⟩ = some (.int .i64 x.k) := HB.out.cell 0
  have a2 : w1.cell? ⟨w.heap.size, 2, none⟩ = some (.int .i64 x.t) := HB.out.cell 2
  have Z1 := hid S1.out.size
  obtain ⟨id, hid0⟩ : ∃ id, idA L x = id := ⟨_, rfl⟩
  have HID := hid hid0
  rw [hid0] at WI
  clear s1 hid0
  have I := hid (H.out.idle S1.out)
  go_wp2_with fail
  go_ret
  exact ⟨rfl, I.out, S1.out.fr _⟩
theorem lact (h : TwoA w KB O s L) (hl : L.length ≤ 900) (hT : TabD w) (hC : TabF w) (x : LAct) (wx : (Lit.int .i64 x.i).wf = true) : Calls Tryd.prog 73 #[.pointer (some ⟨KB.P, 0, none⟩), .pointer (some ⟨KB.Q, 0, none⟩), (Value.agg #[.int .i64 x.k, .int .i64 x.i, .int .i64 x.t, .bool x.re, .int .i64 x.c.p, .int .i64 x.c.q, .int .i64 x.c.r0, .int .i64 x.c.r1, .int .i64 x.c.r2, .int .i64 x.c.r3, .int .i64 x.c.r4, .int .i64 x.c.r5, .int .i64 x.c.r6, .int .i64 x.c.r7, .int .i64 x.c.d])] w (ActPostA w KB O (stepS s L x) (stepL s L x)) := by
  by_cases k0 : x.k = 0
  · rw [show stepS s L x = _ by unfold stepS; simp only [k0]; rfl, show stepL s L x = _ by unfold stepL; simp only [k0]; rfl]; exact lact0 h hl hT hC x wx k0
  by_cases k1 : x.k = 1
  · rw [show stepS s L x = _ by unfold stepS; simp only [k1]; rfl, show stepL s L x = _ by unfold stepL; simp only [k1]; rfl]; exact lact1 h hl hT hC x wx k1
  by_cases k2 : x.k = 2
  · rw [show stepS s L x = _ by unfold stepS; simp only [k2]; rfl, show stepL s L x = _ by unfold stepL; simp only [k2]; rfl]; exact lact2 h hl hT hC x wx k2
  by_cases k3 : x.k = 3
  · rw [show stepS s L x = _ by unfold stepS; simp only [k3]; rfl, show stepL s L x = _ by unfold stepL; simp only [k3]; rfl]; exact lact3 h hl hT hC x wx k3
  by_cases k4 : x.k = 4
  · rw [show stepS s L x = _ by unfold stepS; simp only [k4]; rfl, show stepL s L x = _ by unfold stepL; simp only [k4]; rfl]; exact lact4 h hl hT hC x wx k4
  by_cases k5 : x.k = 5
  · rw [show stepS s L x = _ by unfold stepS; simp only [k5]; rfl, show stepL s L x = _ by unfold stepL; simp only [k5]; rfl]; exact lact5 h hl hT hC x wx k5
  by_cases k6 : x.k = 6
  · rw [show stepS s L x = _ by unfold stepS; simp only [k6]; rfl, show stepL s L x = _ by unfold stepL; simp only [k6]; rfl]; exact lact6 h hl hT hC x wx k6
  by_cases k7 : x.k = 7
  · rw [show stepS s L x = _ by unfold stepS; simp only [k7]; rfl, show stepL s L x = _ by unfold stepL; simp only [k7]; rfl]; exact lact7 h hl hT hC x wx k7
  · rw [show stepS s L x = s by unfold stepS; rw [if_neg k0, if_neg k6, if_neg k7], show stepL s L x = L by unfold stepL; rw [if_neg k0, if_neg k1, if_neg k2, if_neg k3, if_neg k4, if_neg k5, if_neg k6, if_neg k7]]; exact lactN h hl hT hC x wx (by omega)
end
end Go.Proofs.YtffjaaolcphonaaDoor
/- LifeCores: who runs where. -/
namespace Go.Proofs.YtffjaaolcphonaaDoor
open Go.RowKit Go.Maps
/-- One alone. -/
def CO (x : Ac) : Prop := (x.s = 2 ↔ 0 ≤ x.co) ∧ x.co ≤ 63 ∧ (x.s = 5 ∨ x.s = 1 → x.th = 0)
structure CInv (L : List Ac) : Prop where
  one : ∀ x ∈ L, CO x
  two : ∀ x ∈ L, ∀ y ∈ L, 0 ≤ x.co → x.co = y.co → x.i = y.i
theorem CInv.nil : CInv [] := ⟨fun _ h => (by cases h), fun _ h => (by cases h)⟩
theorem CInv.sub {L L' : List Ac} (h : CInv L) (hs : ∀ x ∈ L', x ∈ L) : CInv L' := ⟨fun x hx => h.one x (hs x hx), fun x hx y hy => h.two x (hs x hx) y (hs y hy)⟩
theorem CInv.ins {L : List Ac} (h : CInv L) (z : Ac) (h1 : CO z) (h2 : 0 ≤ z.co → ∀ x ∈ L, x.co = z.co → x.i = z.i) : CInv (actE.ins z L) := by
  refine ⟨fun x hx => (actE.mem_ins hx).elim (fun e => e ▸ h1) (h.one x), fun x hx y hy h0 e => ?_⟩
  rcases actE.mem_ins hx with ex | hx
  · rcases actE.mem_ins hy with ey | hy
    · rw [ex, ey]
    · rw [ex] at h0 e ⊢
      exact (h2 h0 y hy e.symm).symm
  · rcases actE.mem_ins hy with ey | hy
    · rw [ey] at e ⊢
      exact h2 (by rw [← e]; exact h0) x hx e
    · exact h.two x hx y hy h0 e
theorem CInv.away {L : List Ac} (h : CInv L) (z : Ac) (h1 : z.s ≠ 2) (h2 : z.co < 0) (h3 : z.s = 5 ∨ z.s = 1 → z.th = 0) : CInv (actE.ins z L) :=
  h.ins z ⟨⟨fun e => absurd e h1, fun e => by omega⟩, by omega, h3⟩ (fun e => by omega)
theorem CInv.t {L : List Ac} (h : CInv L) {k fr st ce : Int} {cz : Ac} (h1 : st ≠ 2) (h2 : cz.co < 0) (h3 : st = 5 ∨ st = 1 → cz.th = 0) : CInv (tL L k fr st ce cz) := by
  unfold tL
  split
  · exact h.away _ h1 h2 h3
  · exact h
theorem CInv.run {L : List Ac} (h : CInv L) {k core : Int} : CInv (tL L k 2 2 (runC L core) { fndA L k with co := core }) := by
  unfold tL
  split
  · rename_i e
    have hr : runC L core = 0 := by
      unfold tE at e
      split at e
      · split at e
        · exact absurd e (by decide)
        · exact e
      · exact absurd e (by decide)
    have h0 : ¬ (core < 0 ∨ 64 ≤ core) := fun hc => by unfold runC at hr; rw [if_pos hc] at hr; exact absurd hr (by decide)
    have hb : busyL L core = false := by
      cases hb : busyL L core with
      | false => rfl
      | true => unfold runC at hr; rw [if_neg h0, if_pos hb] at hr; exact absurd hr (by decide)
    refine h.ins _ ⟨⟨fun _ => by show 0 ≤ core; omega, fun _ => rfl⟩, by show core ≤ 63; omega, fun e => by rcases e with e | e <;> exact absurd e (by show ¬ (2 : Int) = _; decide)⟩ (fun _ x hx e => ?_)
    have e' : x.co = core := e
    have hx2 : x.s = 2 := (h.one x hx).1.2 (by omega)
    unfold busyL at hb
    rw [List.any_eq_false] at hb
    have := hb x hx
    simp [hx2, e'] at this
  · exact h
theorem CInv.load {L : List Ac} (h : CInv L) {k th : Int} : CInv (loadL L k th) := by
  unfold loadL
  split
  · rename_i e
    unfold loadE at e
    by_cases hf : fndO L k = true
    · rw [if_pos hf] at e
      by_cases h2 : (fndA L k).s = 2
      · have hm := (fndA_some hf).2
        have hc := h.one _ hm
        refine h.ins _ ⟨hc.1, hc.2.1, fun e => ?_⟩ (fun h0 x hx e => ?_)
        · have e' : (fndA L k).s = 5 ∨ (fndA L k).s = 1 := e
          rw [h2] at e'
          rcases e' with e' | e' <;> exact absurd e' (by decide)
        · have e' : x.co = (fndA L k).co := e
          exact h.two x hx (fndA L k) hm (by rw [e']; exact h0) e'
      · rw [if_neg h2] at e; exact absurd e (by decide)
    · rw [if_neg hf] at e; exact absurd e (by decide)
  · exact h
theorem CInv.make {s : SS} {L : List Ac} (h : CInv L) (sp : Int) : CInv (mkL s L sp) := by
  by_cases hb : mkB sp = true
  · rw [(mk_bad (s := s) (L := L) hb).2.2.2]; exact h
  · have hb' : mkB sp = false := by simpa using hb
    cases hf : mkF L sp with
    | some x =>
      rw [(mk_old (s := s) hb' hf).2.2.2]
      have hx : x ∈ L := List.mem_of_find?_eq_some hf
      have hp := List.find?_some hf
      have hs : x.s = 5 := by simp at hp; exact hp.2
      have hc := h.one x hx
      refine h.away _ (by show (1 : Int) ≠ 2; decide) ?_ (fun _ => hc.2.2 (.inl hs))
      show x.co < 0
      have := hc.1
      rw [hs] at this
      have h3 : ¬ 0 ≤ x.co := fun e => absurd (this.2 e) (by decide)
      omega
    | none =>
      rw [(mk_new (s := s) hb' hf).2.2.2]
      split
      · exact h.away _ (by show (1 : Int) ≠ 2; decide) (by show (-1 : Int) < 0; decide) (fun _ => rfl)
      · exact h
theorem CInv.step {s : SS} {L : List Ac} (h : CInv L) (x : LAct) : CInv (stepL s L x) := by
  unfold stepL
  repeat' split
  · exact h.make _
  · exact h.run
  · exact h.load
  · exact h.t (by decide) (by show (-1 : Int) < 0; decide) (fun e => by rcases e with e | e <;> exact absurd e (by decide))
  · exact h.t (by decide) (by show (-1 : Int) < 0; decide) (fun e => by rcases e with e | e <;> exact absurd e (by decide))
  · exact h.t (by decide) (by show (-1 : Int) < 0; decide) (fun _ => rfl)
  · unfold discL; split
    · exact h.sub (fun x hx => (List.mem_filter.1 hx).1)
    · exact h
  · exact h.sub (fun x hx => (List.mem_filter.1 hx).1)
  · exact h
/-- Who was met. -/
def met (L : List Ac) (i c : Nat) : Bool := (L.take i).any fun x => x.co == (c : Int)
def metC (L : List Ac) (i : Nat) : List Value := (List.range 64).map fun c => Value.bool (met L i c)
section
variable {L : List Ac} {i : Nat} {x : Ac}
theorem met_next (hi : i < L.length) (hx : L[i] = x) (c : Nat) : met L (i + 1) c = (met L i c || x.co == (c : Int)) := by
  unfold met; rw [take_next hi hx, List.any_append]; simp
theorem metC_at {c : Nat} (hc : c < 64) : (metC L i)[c]? = some (.bool (met L i c)) := by
  unfold metC
  rw [List.getElem?_map, List.getElem?_range hc]; rfl
theorem metC_set (hi : i < L.length) (hx : L[i] = x) {c : Nat} (hc : c < 64) (e : x.co = (c : Int)) : (metC L i).set c (.bool true) = metC L (i + 1) := by
  apply List.ext_getElem?
  intro k
  rw [List.getElem?_set]
  by_cases hk : k < 64
  · rw [metC_at hk, metC_at hk, met_next hi hx]
    by_cases h : c = k
    · subst h
      rw [if_pos rfl, if_pos (by simp [metC]; exact hc), e]; simp
    · rw [if_neg h, e]
      have : ((c : Int) == (k : Int)) = false := by simp; omega
      rw [this, Bool.or_false]
  · have h1 : (metC L (i + 1))[k]? = none := by rw [List.getElem?_eq_none_iff]; simp [metC]; omega
    have h2 : (metC L i)[k]? = none := by rw [List.getElem?_eq_none_iff]; simp [metC]; omega
    rw [h1, h2, if_neg (by omega)]
theorem metC_skip (hi : i < L.length) (hx : L[i] = x) (e : x.co < 0) : metC L (i + 1) = metC L i := by
  unfold metC
  congr 1
  funext c
  rw [met_next hi hx]
  have : (x.co == (c : Int)) = false := by simp; omega
  rw [this, Bool.or_false]
theorem met_no (h : CInv L) (hu : actE.Up L) (hi : i < L.length) (hx : L[i] = x) {c : Nat} (e : x.co = (c : Int)) : met L i c = false := by
  unfold met
  rw [List.any_eq_false]
  intro y hy
  obtain ⟨k, hk, rfl⟩ := List.getElem_of_mem hy
  have hk' : k < i := by have := hk; simp at this; omega
  have h2 : L[k].i < L[i].i := List.pairwise_iff_getElem.1 hu k i (by omega) hi hk'
  rw [List.getElem_take]
  intro e2
  have e3 : L[k].co = (c : Int) := by simpa using e2
  have := h.two L[k] (List.getElem_mem _) L[i] (List.getElem_mem _) (by omega) (by rw [e3, hx, e])
  omega
end
end Go.Proofs.YtffjaaolcphonaaDoor
/- LifeCopies: the walk. -/
namespace Go.Proofs.YtffjaaolcphonaaDoor
open Go.RowKit Go.Maps
set_option linter.unusedSimpArgs false
/-- Both sides' copies. -/
theorem two_copyA {w w1 w2 : World} {s : SS} {L : List Ac} (hv : AInv s L) (hw : 8 ≤ w.heap.size) {P : Nat} {B : SB} {M : Nat} (hA : AAt w1 P B M s L) (hn : TNew w P B M) (hs1 : Still w w1) {Q p A T cA cT : Nat} (hR : RAAt w2 (fun k => w1.heap.size ≤ k ∧ k < w2.heap.size) Q p A T cA cT s L) (hs2 : Still w1 w2) :
    TwoA w2 ⟨P, B, M, Q, p, A, T, cA, cT⟩ (fun k => w1.heap.size ≤ k ∧ k < w2.heap.size) s L ∧ ∀ k, (TB.mk P B M Q p A T cA cT).foot (fun k => w1.heap.size ≤ k ∧ k < w2.heap.size) k → w.heap.size ≤ k := by
  have lP := hA.ltP
  have lM := hA.m.lt
  have lB := fun k hk => hA.sl.lt (k := k) hk
  have z1 := hs1.size
  have hf : ∀ k, (TB.mk P B M Q p A T cA cT).foot (fun k => w1.heap.size ≤ k ∧ k < w2.heap.size) k → w.heap.size ≤ k := by
    rintro k ((h | rfl) | h)
    · exact hn.b k h
    · exact hn.m
    · omega
  refine ⟨⟨hA.still hs2, hR, hv, fun e => by have h1 : w1.heap.size ≤ P := e.1; omega, ?_, fun k hk => by have := hf k hk; omega⟩, hf⟩
  rintro k (h | h) e
  · have := lB k h; have := e.1; omega
  · have h1 := e.1
    have h2 : k = M := h
    omega
theorem new_s2 (w : World) : Blk (w.alloc (.cells #[.int .i64 0, .int .i64 0, .int .i64 0, .bool false, .int .i64 0, .int .i64 0, .int .i64 0, .int .i64 0, .int .i64 0, .int .i64 0, .int .i64 0, .int .i64 0, .int .i64 0, .int .i64 0, .int .i64 0] 105)) w.heap.size [.int .i64 l0.k, .int .i64 l0.i, .int .i64 l0.t, .bool l0.re, .int .i64 l0.c.p, .int .i64 l0.c.q, .int .i64 l0.c.r0, .int .i64 l0.c.r1, .int .i64 l0.c.r2, .int .i64 l0.c.r3, .int .i64 l0.c.r4, .int .i64 l0.c.r5, .int .i64 l0.c.r6, .int .i64 l0.c.r7, .int .i64 l0.c.d] 105 := Blk.new w _ 105
theorem upO_loA {O : Nat → Prop} {K : TB} {N : Nat} {w1 w2 : World} (h : ∀ k, K.foot O k → N ≤ k) (hz : N ≤ w1.heap.size) : ∀ k, K.foot (upO O w1 w2) k → N ≤ k := by
  rintro k (hk | hk | hk)
  · exact h k (.inl hk)
  · exact h k (.inr hk)
  · omega
theorem lifeCopies_big1 (w : World) (hT : TabD w) (hC : TabF w) (a1 a2 : Option Addr) (n1 c1 n2 c2 : Nat) (hn : 60 < n1) : Calls Tryd.prog 16 #[.slice a1 n1 c1, .slice a2 n2 c2] w fun e w' => e = .returned (.bool true) ∧ Still w w' := by
  have hn1 : (60 : Int) < (n1 : Int) := by omega
  have HT := hid hT
  have HC := hid hC
  have HN := hid (fun (u : World) => anew u 6 (by omega) (by omega))
  have HR := hid (fun (u : World) => xnew u 6 (by omega) (by omega))
  clear hT hC
  go_enter Tryd.func16, Tryd.ntmps16
  go_wp2_with fail
  refine (HN.out w).mono ?_
  rintro e w1 ⟨P, B, M, rfl, hA, hs1, hnn⟩
  clear hA hnn
  go_wp2_with fail
  refine (HR.out w1).mono ?_
  rintro e w2 ⟨Q, p, A, T, cA, cT, rfl, hR, hs2⟩
  clear hR
  have S2 := hid (hs1.trans hs2)
  clear hs1 hs2
  go_wp2_with (go_at_call 71; refine (alives _ (HT.out.still S2.out) (HC.out.still S2.out)).mono ?_; rintro e w' ⟨rfl, hs⟩)
  go_ret
  exact ⟨rfl, S2.out.trans hs⟩
theorem lifeCopies_big2 (w : World) (hT : TabD w) (hC : TabF w) (a1 a2 : Option Addr) (n1 c1 n2 c2 : Nat) (hm : n1 ≤ 60) (hn : 60 < n2) : Calls Tryd.prog 16 #[.slice a1 n1 c1, .slice a2 n2 c2] w fun e w' => e = .returned (.bool true) ∧ Still w w' := by
  have hn1 : ¬ (60 : Int) < (n1 : Int) := by omega
  have hn2 : (60 : Int) < (n2 : Int) := by omega
  have HT := hid hT
  have HC := hid hC
  have HN := hid (fun (u : World) => anew u 6 (by omega) (by omega))
  have HR := hid (fun (u : World) => xnew u 6 (by omega) (by omega))
  clear hT hC
  go_enter Tryd.func16, Tryd.ntmps16
  go_wp2_with fail
  refine (HN.out w).mono ?_
  rintro e w1 ⟨P, B, M, rfl, hA, hs1, hnn⟩
  clear hA hnn
  go_wp2_with fail
  refine (HR.out w1).mono ?_
  rintro e w2 ⟨Q, p, A, T, cA, cT, rfl, hR, hs2⟩
  clear hR
  have S2 := hid (hs1.trans hs2)
  clear hs1 hs2
  go_wp2_with (go_at_call 71; refine (alives _ (HT.out.still S2.out) (HC.out.still S2.out)).mono ?_; rintro e w' ⟨rfl, hs⟩)
  go_ret
  exact ⟨rfl, S2.out.trans hs⟩
set_option maxRecDepth 100000 in
set_option maxHeartbeats 8000000 in
theorem lifeCopies_ok (w : World) (hT : TabD w) (hC : TabF w) (a1 a2 : Option Addr) (n1 c1 n2 c2 : Nat) (F1 F2 : Nat → LAct) (hF1 : IsLActs w a1 n1 c1 F1) (hF2 : IsLActs w a2 n2 c2 F2) (hn1 : n1 ≤ 60) (hn2 : n2 ≤ 60) :
    Calls Tryd.prog 16 #[.slice a1 n1 c1, .slice a2 n2 c2] w fun e w' => e = .returned (.bool true) ∧ Still w w' := by
  have hn1' : ¬ (60 : Int) < (n1 : Int) := by omega
  have hn2' : ¬ (60 : Int) < (n2 : Int) := by omega
  have HF1 := hid hF1
  have HF2 := hid hF2
  have HT := hid hT
  have HC := hid hC
  have h7 := hid hT.lt
  have HN := hid (anew w 6 (by omega) (by omega))
  have HR := hid (fun (u : World) => xnew u 6 (by omega) (by omega))
  clear hF1 hF2 hT hC
  go_enter Tryd.func16, Tryd.ntmps16
  go_wp2_with fail
  refine HN.out.mono ?_
  rintro e w1 ⟨P, B, M, rfl, hA, hs1, hnn⟩
  have HA := hid hA
  have HS1 := hid hs1
  have HNN := hid hnn
  clear hA hs1 hnn
  go_wp2_with fail
  refine (HR.out w1).mono ?_
  rintro e w2 ⟨Q, p, A, T, cA, cT, rfl, hR, hs2⟩
  have TS := two_copyA (AInv.zero 6 (by omega)) (by have := h7.out; omega) HA.out HNN.out HS1.out hR hs2
  obtain ⟨KB, hKB⟩ : ∃ K : TB, TB.mk P B M Q p A T cA cT = K := ⟨_, rfl⟩
  obtain ⟨O0, hO0⟩ : ∃ O : Nat → Prop, (fun k => w1.heap.size ≤ k ∧ k < w2.heap.size) = O := ⟨_, rfl⟩
  rw [hKB, hO0] at TS
  have KP : P = KB.P := by rw [← hKB]
  have KQ : Q = KB.Q := by rw [← hKB]
  have T0 := hid TS.1
  have FT0 := hid TS.2
  have S2 := hid (HS1.out.trans hs2)
  rw [KP, KQ]
  clear TS hR hs2 hKB hO0 KP KQ HA HNN HN HR
  go_wp2_with fail
  go_loopw [8, 34] (fun s8 cc wr => ∃ (j : Nat) (s : SS) (L : List Ac) (O : Nat → Prop), cc = .int .i64 j ∧ j ≤ n1 ∧ Hid (TwoA wr KB O s L) ∧ Hid (∀ k, KB.foot O k → w.heap.size ≤ k) ∧ Hid (Still w wr) ∧ Hid (L.length ≤ j)) (fun s8 cc _ => n1 - (intOf cc).toNat)
  case atStart => exact ⟨0, _, [], O0, rfl, Nat.zero_le _, T0, FT0, S2, hid (Nat.le_refl 0)⟩
  case round =>
    clear T0 FT0 S2
    obtain ⟨j, s, L, O, rfl, hj, T1, FT, S1, LJ⟩ := hrel
    by_cases hlt : j < n1
    · have hlt' : (j : Int) < (n1 : Int) := by omega
      rcases HF1.out with h0 | ⟨b1, o1, rfl, _, _, _, _, hc⟩
      · omega
      obtain ⟨hx, hwx⟩ := hc j hlt
      obtain ⟨x, hxx⟩ : ∃ x, F1 j = x := ⟨_, rfl⟩
      rw [hxx] at hx hwx
      have HX : Hid (wr.rangeAt b1 (o1 + j * 15) [.int .i64 x.k, .int .i64 x.i, .int .i64 x.t, .bool x.re, .int .i64 x.c.p, .int .i64 x.c.q, .int .i64 x.c.r0, .int .i64 x.c.r1, .int .i64 x.c.r2, .int .i64 x.c.r3, .int .i64 x.c.r4, .int .i64 x.c.r5, .int .i64 x.c.r6, .int .i64 x.c.r7, .int .i64 x.c.d]) := hid fun k v hv => Still.cell S1.out (hx k v hv)
      have WX := hid hwx
      clear hc hx hwx hxx
      go_wp2_with (first
        | (refine wpList_load_mid rfl 105 (.tmp 36) rfl b1 (o1 + j * 15) rfl [.int .i64 x.k, .int .i64 x.i, .int .i64 x.t, .bool x.re, .int .i64 x.c.p, .int .i64 x.c.q, .int .i64 x.c.r0, .int .i64 x.c.r1, .int .i64 x.c.r2, .int .i64 x.c.r3, .int .i64 x.c.r4, .int .i64 x.c.r5, .int .i64 x.c.r6, .int .i64 x.c.r7, .int .i64 x.c.d] _ HX.out Tryd.underlying105 rfl I105 ?_)
        | (refine wpList_storeW rfl (.tmp 8) (.tmp 37) 105 rfl _ 105 [.int .i64 l0.k, .int .i64 l0.i, .int .i64 l0.t, .bool l0.re, .int .i64 l0.c.p, .int .i64 l0.c.q, .int .i64 l0.c.r0, .int .i64 l0.c.r1, .int .i64 l0.c.r2, .int .i64 l0.c.r3, .int .i64 l0.c.r4, .int .i64 l0.c.r5, .int .i64 l0.c.r6, .int .i64 l0.c.r7, .int .i64 l0.c.d] [.int .i64 x.k, .int .i64 x.i, .int .i64 x.t, .bool x.re, .int .i64 x.c.p, .int .i64 x.c.q, .int .i64 x.c.r0, .int .i64 x.c.r1, .int .i64 x.c.r2, .int .i64 x.c.r3, .int .i64 x.c.r4, .int .i64 x.c.r5, .int .i64 x.c.r6, .int .i64 x.c.r7, .int .i64 x.c.d] I105 (onesL x) rfl rfl (new_s2 _) rfl ?_; intro w3 b3 f3; have B3 := hid b3; have S3 : Hid (Still wr w3) := hid (Still.next ((Fr.refl _ _).alloc _) f3 (fun k hk => by rw [hk]; exact Nat.le_refl _)); clear b3 f3)
        | (refine wpList_loadW rfl (.tmp 8) 105 rfl _ Tryd.underlying105 rfl _ 105 [.int .i64 x.k, .int .i64 x.i, .int .i64 x.t, .bool x.re, .int .i64 x.c.p, .int .i64 x.c.q, .int .i64 x.c.r0, .int .i64 x.c.r1, .int .i64 x.c.r2, .int .i64 x.c.r3, .int .i64 x.c.r4, .int .i64 x.c.r5, .int .i64 x.c.r6, .int .i64 x.c.r7, .int .i64 x.c.d] I105 rfl B3.out ?_))
      have SW3 := hid (S1.out.trans S3.out)
      refine (lact (T1.out.still S3.out) (by have := LJ.out; omega) (HT.out.still SW3.out) (HC.out.still SW3.out) x WX.out).mono ?_
      rintro e w4 ⟨rfl, t4, f4⟩
      have LK := hid (step_len s L x T1.out.v WX.out)
      have T4 := hid t4
      have SW4 : Hid (Still w w4) := hid (SW3.out.next f4 (fun k hk => FT.out k hk))
      have FT4 : Hid (∀ k, KB.foot (upO O w3 w4) k → w.heap.size ≤ k) := hid (upO_lo FT.out SW3.out.size)
      clear t4 f4
      go_wp2_with fail
      go_roundw
      case rel => exact ⟨j + 1, _, _, _, by go_num, by omega, T4, FT4, SW4, hid (by have h1 := LJ.out; have h2 := LK.out; omega)⟩
      case measure => simp [intOf]; omega
    · have hlt' : ¬ (j : Int) < (n1 : Int) := by omega
      clear FT HF1
      have NB0 : Hid (∀ k, KB.foot O k → k < wr.heap.size) := hid T1.out.lt
      have NP0 : Hid (KB.P < wr.heap.size) := hid T1.out.t.ltP
      have WN := hid S1.out.size
      go_wp2_with fail
      refine (acopy T1.out.t).mono ?_
      rintro e w5 ⟨P2, B2, M2, rfl, hA5, hs5, hn5⟩
      have HA5 := hid hA5
      have HS5 := hid hs5
      have HN5 := hid hn5
      have T5 := hid (T1.out.still hs5)
      clear hA5 hs5 hn5
      go_wp2_with fail
      refine (xcopy T5.out.r).mono ?_
      rintro e w6 ⟨Q2, p2, A2, T2, cA2, cT2, rfl, hR6, hs6⟩
      have TS := two_copyA T1.out.v (by have := h7.out; have := WN.out; omega) HA5.out HN5.out HS5.out hR6 hs6
      obtain ⟨KC, hKC⟩ : ∃ K : TB, TB.mk P2 B2 M2 Q2 p2 A2 T2 cA2 cT2 = K := ⟨_, rfl⟩
      obtain ⟨OC, hOC⟩ : ∃ O : Nat → Prop, (fun k => w5.heap.size ≤ k ∧ k < w6.heap.size) = O := ⟨_, rfl⟩
      rw [hKC, hOC] at TS
      have KP : P2 = KC.P := by rw [← hKC]
      have KQ : Q2 = KC.Q := by rw [← hKC]
      have TC0 := hid TS.1
      have FC0 := hid TS.2
      have T6 := hid (T5.out.still hs6)
      have S6 := hid (S1.out.trans (HS5.out.trans hs6))
      rw [KP, KQ]
      obtain ⟨NN, hNN⟩ : ∃ N : Nat, wr.heap.size = N := ⟨_, rfl⟩
      rw [hNN] at NB0 NP0 WN FC0
      clear TS hR6 hs6 hKC hOC KP KQ HA5 HN5 HS5 T5 T1 S1 hNN
      go_wp2_with fail
      go_loopw [12, 49] (fun s12 cc wr => ∃ (j2 : Nat) (s2 : SS) (L2 : List Ac) (O2 : Nat → Prop), cc = .int .i64 j2 ∧ j2 ≤ n2 ∧ Hid (TwoA wr KC O2 s2 L2) ∧ Hid (∀ k, KC.foot O2 k → NN ≤ k) ∧ Hid (TwoA wr KB O s L) ∧ Hid (Still w wr) ∧ Hid (L2.length ≤ n1 + j2)) (fun s12 cc _ => n2 - (intOf cc).toNat)
      case atStart => exact ⟨0, _, _, OC, rfl, Nat.zero_le _, TC0, FC0, T6, S6, hid (by have := LJ.out; omega)⟩
      case round =>
        clear TC0 FC0 T6 S6
        obtain ⟨j2, s2, L2, O2, rfl, hj2, T1, FT, TK, S1, LJ2⟩ := hrel
        by_cases hlt2 : j2 < n2
        · have hlt2' : (j2 : Int) < (n2 : Int) := by omega
          rcases HF2.out with h0 | ⟨b1, o1, rfl, _, _, _, _, hc⟩
          · omega
          obtain ⟨hx, hwx⟩ := hc j2 hlt2
          obtain ⟨x, hxx⟩ : ∃ x, F2 j2 = x := ⟨_, rfl⟩
          rw [hxx] at hx hwx
          have HX : Hid (wr.rangeAt b1 (o1 + j2 * 15) [.int .i64 x.k, .int .i64 x.i, .int .i64 x.t, .bool x.re, .int .i64 x.c.p, .int .i64 x.c.q, .int .i64 x.c.r0, .int .i64 x.c.r1, .int .i64 x.c.r2, .int .i64 x.c.r3, .int .i64 x.c.r4, .int .i64 x.c.r5, .int .i64 x.c.r6, .int .i64 x.c.r7, .int .i64 x.c.d]) := hid fun k v hv => Still.cell S1.out (hx k v hv)
          have WX := hid hwx
          clear hc hx hwx hxx
          go_wp2_with (first
            | (refine wpList_load_mid rfl 105 (.tmp 51) rfl b1 (o1 + j2 * 15) rfl [.int .i64 x.k, .int .i64 x.i, .int .i64 x.t, .bool x.re, .int .i64 x.c.p, .int .i64 x.c.q, .int .i64 x.c.r0, .int .i64 x.c.r1, .int .i64 x.c.r2, .int .i64 x.c.r3, .int .i64 x.c.r4, .int .i64 x.c.r5, .int .i64 x.c.r6, .int .i64 x.c.r7, .int .i64 x.c.d] _ HX.out Tryd.underlying105 rfl I105 ?_)
            | (refine wpList_storeW rfl (.tmp 12) (.tmp 52) 105 rfl _ 105 [.int .i64 l0.k, .int .i64 l0.i, .int .i64 l0.t, .bool l0.re, .int .i64 l0.c.p, .int .i64 l0.c.q, .int .i64 l0.c.r0, .int .i64 l0.c.r1, .int .i64 l0.c.r2, .int .i64 l0.c.r3, .int .i64 l0.c.r4, .int .i64 l0.c.r5, .int .i64 l0.c.r6, .int .i64 l0.c.r7, .int .i64 l0.c.d] [.int .i64 x.k, .int .i64 x.i, .int .i64 x.t, .bool x.re, .int .i64 x.c.p, .int .i64 x.c.q, .int .i64 x.c.r0, .int .i64 x.c.r1, .int .i64 x.c.r2, .int .i64 x.c.r3, .int .i64 x.c.r4, .int .i64 x.c.r5, .int .i64 x.c.r6, .int .i64 x.c.r7, .int .i64 x.c.d] I105 (onesL x) rfl rfl (new_s2 _) rfl ?_; intro w3 b3 f3; have B3 := hid b3; have S3 : Hid (Still wr w3) := hid (Still.next ((Fr.refl _ _).alloc _) f3 (fun k hk => by rw [hk]; exact Nat.le_refl _)); clear b3 f3)
            | (refine wpList_loadW rfl (.tmp 12) 105 rfl _ Tryd.underlying105 rfl _ 105 [.int .i64 x.k, .int .i64 x.i, .int .i64 x.t, .bool x.re, .int .i64 x.c.p, .int .i64 x.c.q, .int .i64 x.c.r0, .int .i64 x.c.r1, .int .i64 x.c.r2, .int .i64 x.c.r3, .int .i64 x.c.r4, .int .i64 x.c.r5, .int .i64 x.c.r6, .int .i64 x.c.r7, .int .i64 x.c.d] I105 rfl B3.out ?_))
          have SW3 := hid (S1.out.trans S3.out)
          refine (lact (T1.out.still S3.out) (by have := LJ2.out; omega) (HT.out.still SW3.out) (HC.out.still SW3.out) x WX.out).mono ?_
          rintro e w4 ⟨rfl, t4, f4⟩
          have LK := hid (step_len s2 L2 x T1.out.v WX.out)
          have T4 := hid t4
          have SW4 : Hid (Still w w4) := hid (SW3.out.next f4 (fun k hk => Nat.le_trans WN.out (FT.out k hk)))
          have FT4 : Hid (∀ k, KC.foot (upO O2 w3 w4) k → NN ≤ k) := hid (upO_loA FT.out (by
            have h1 := FT.out _ (.inl (.inr rfl)); have h2 := (T1.out.still S3.out).lt _ (.inl (.inr rfl)); omega))
          have TK4 : Hid (TwoA w4 KB O s L) := hid ((TK.out.still S3.out).fr f4 (fun k hk e => by have := NB0.out k hk; have := FT.out k e; omega) (fun e => by have := NP0.out; have := FT.out _ e; omega))
          clear t4 f4
          go_wp2_with fail
          go_roundw
          case rel => exact ⟨j2 + 1, _, _, _, by go_num, by omega, T4, FT4, TK4, SW4, hid (by have h1 := LJ2.out; have h2 := LK.out; omega)⟩
          case measure => simp [intOf]; omega
        · have hlt2' : ¬ (j2 : Int) < (n2 : Int) := by omega
          have LN : Hid (L.length ≤ 32 * 30) := hid (by have := LJ.out; omega)
          have LM : Hid (L2.length ≤ 32 * 30) := hid (by have := LJ2.out; omega)
          obtain ⟨rv, q1, ro, _⟩ := TK.out.r.ex
          have RO := hid (SRow.own (S := S114) ro rfl)
          obtain ⟨ra, rc, rfl⟩ := own_shape ro _ rfl
          obtain ⟨rv2, q2, ro2, _⟩ := T1.out.r.ex
          have RO2 := hid (SRow.own (S := S114) ro2 rfl)
          obtain ⟨ra2, rc2, rfl⟩ := own_shape ro2 _ rfl
          clear ro ro2 FT NB0 NP0 HF2
          go_wp2_with fail
          refine Held.wp_region_held_tail (S := (fun w' => w'.cell? ⟨KB.Q, 1, none⟩ = some (.slice ra L.length rc) ∧ w'.cell? ⟨KC.Q, 1, none⟩ = some (.slice ra2 L2.length rc2))) 21 (by kernel_rfl) (by kernel_rfl) (by decide) ?hS1 (fun hHeld => ?hR1)
          case hS1 =>
            exact ⟨q1, q2⟩
          simp only [List.take_succ_cons, List.take_zero, List.drop_succ_cons, List.drop_zero]
          refine wpAnyH_take (i := 0) (oi := _) (v := ?v2) rfl (by kernel_rfl) (by kernel_rfl) (by kernel_rfl) (fun _ _ _ h => h) (Or.inl ⟨by rfl, ?y2⟩) (by assumption) ?r2
          case y2 => ((intro w hSw); (try dsimp only at hSw); go_simp; (try with_reducible rfl))
          (try simp only [Act.put, List.setIfInBounds_toArray, List.set_cons_zero, List.set_cons_succ])
          refine wpAnyH_take (i := 3) (oi := _) (v := ?v3) rfl (by kernel_rfl) (by kernel_rfl) (by kernel_rfl) (fun _ _ _ h => h) (Or.inl ⟨by rfl, ?y3⟩) (by assumption) ?r3
          case y3 => ((intro w hSw); (try dsimp only at hSw); go_simp; (try with_reducible rfl))
          (try simp only [Act.put, List.setIfInBounds_toArray, List.set_cons_zero, List.set_cons_succ])
          refine wpAnyH_take (i := 4) (oi := _) (v := ?v4) rfl (by kernel_rfl) (by kernel_rfl) (by kernel_rfl) (fun _ _ _ h => h) (Or.inl ⟨by rfl, ?y4⟩) (by assumption) ?r4
          case y4 => ((intro w hSw); (try dsimp only at hSw); go_simp; (try with_reducible rfl))
          (try simp only [Act.put, List.setIfInBounds_toArray, List.set_cons_zero, List.set_cons_succ])
          (try simp only [Act.put, List.getElem_toArray, List.getElem_cons_zero, List.getElem_cons_succ, List.setIfInBounds_toArray, List.set_cons_zero, List.set_cons_succ])
          refine wpAnyH_take (i := 5) (oi := _) (v := ?v5) rfl (by kernel_rfl) (by kernel_rfl) (by kernel_rfl) (fun _ _ _ h => h) (Or.inl ⟨by rfl, ?y5⟩) (by assumption) ?r5
          case y5 => ((intro w hSw); (try dsimp only at hSw); go_simp; (try with_reducible rfl))
          (try simp only [Act.put, List.setIfInBounds_toArray, List.set_cons_zero, List.set_cons_succ])
          refine wpAnyH_take (i := 6) (oi := _) (v := ?v6) rfl (by kernel_rfl) (by kernel_rfl) (by kernel_rfl) (fun _ _ _ h => h) (Or.inl ⟨by rfl, ?y6⟩) (by assumption) ?r6
          case y6 => ((intro w hSw); (try dsimp only at hSw); go_simp; (try with_reducible rfl))
          (try simp only [Act.put, List.setIfInBounds_toArray, List.set_cons_zero, List.set_cons_succ])
          (try simp only [Act.put, List.getElem_toArray, List.getElem_cons_zero, List.getElem_cons_succ, List.setIfInBounds_toArray, List.set_cons_zero, List.set_cons_succ])
          refine wpAnyH_ready (rs := [1]) (by kernel_rfl) (by simp) ?_
          refine AllReadyH.cons rfl (fun K hK => ?st7) AllReadyH.nil
          go_simp
          go_at_call 74
          refine (aall (TK.out.t.still (by exact (Fr.refl _ _).drew)) (by have := LN.out; omega) TK.out.v.wf).mono ?_
          rintro e w5 ⟨v5, rfl, o5, s5⟩
          obtain ⟨a5, c5, rfl⟩ := own_shape o5 _ rfl
          have O5 := hid (SRow.own (S := S108) o5 rfl)
          have S5 : Hid (Still wr w5) := hid (Still.trans (Fr.refl _ _).drew s5)
          clear o5 s5
          refine hK.out _ _ ?k7 (fun hHeld7 => ?_)
          case k7 =>
            exact ⟨Still.cell S5.out q1, Still.cell S5.out q2⟩
          clear hK K
          (try simp only [Act.put, List.setIfInBounds_toArray, List.set_cons_zero, List.set_cons_succ])
          refine wpAnyH_ready (rs := [2]) (by kernel_rfl) (by simp) ?_
          refine AllReadyH.cons rfl (fun K hK => ?st8) AllReadyH.nil
          go_simp
          go_at_call 76
          refine (aplain _ O5.out (by have := LN.out; omega)).mono ?_
          rintro e w6 ⟨v6, rfl, o6, s6⟩
          obtain ⟨a6, c6, rfl⟩ := own_shape o6 _ rfl
          have O6 := hid (SRow.own (S := S114) o6 rfl)
          have S6 := hid (S5.out.trans s6)
          clear o6 s6
          refine hK.out _ _ ?k8 (fun hHeld8 => ?_)
          case k8 =>
            exact ⟨Still.cell S6.out q1, Still.cell S6.out q2⟩
          clear hK K
          (try simp only [Act.put, List.setIfInBounds_toArray, List.set_cons_zero, List.set_cons_succ])
          refine wpAnyH_ready (rs := [7]) (by kernel_rfl) (by simp) ?_
          refine AllReadyH.cons rfl (fun K hK => ?st9) AllReadyH.nil
          go_simp
          go_at_call 75
          refine (asame _ _ O6.out (RO.out.still S6.out) (by have := LN.out; omega)).mono ?_
          rintro e w7 ⟨rfl, s7⟩
          have S7 := hid (S6.out.trans s7)
          clear s7
          refine hK.out _ _ ?k9 (fun hHeld9 => ?_)
          case k9 =>
            exact ⟨Still.cell S7.out q1, Still.cell S7.out q2⟩
          clear hK K
          (try simp only [Act.put, List.setIfInBounds_toArray, List.set_cons_zero, List.set_cons_succ])
          (try simp only [Act.put, List.getElem_toArray, List.getElem_cons_zero, List.getElem_cons_succ, List.setIfInBounds_toArray, List.set_cons_zero, List.set_cons_succ])
          refine wpAnyH_take (i := 8) (oi := _) (v := ?v10) rfl (by kernel_rfl) (by kernel_rfl) (by kernel_rfl) (fun _ _ _ h => h) (Or.inl ⟨by rfl, ?y10⟩) (by assumption) ?r10
          case y10 => ((intro w hSw); (try dsimp only at hSw); go_simp; (try with_reducible rfl))
          (try simp only [Act.put, List.setIfInBounds_toArray, List.set_cons_zero, List.set_cons_succ])
          refine wpAnyH_take (i := 9) (oi := _) (v := ?v11) rfl (by kernel_rfl) (by kernel_rfl) (by kernel_rfl) (fun _ _ _ h => h) (Or.inl ⟨by rfl, ?y11⟩) (by assumption) ?r11
          case y11 => ((intro w hSw); (try dsimp only at hSw); go_simp; (try with_reducible rfl))
          (try simp only [Act.put, List.setIfInBounds_toArray, List.set_cons_zero, List.set_cons_succ])
          refine wpAnyH_take (i := 12) (oi := _) (v := ?v12) rfl (by kernel_rfl) (by kernel_rfl) (by kernel_rfl) (fun _ _ _ h => h) (Or.inl ⟨by rfl, ?y12⟩) (by assumption) ?r12
          case y12 => ((intro w hSw); (try dsimp only at hSw); go_simp; (try with_reducible rfl))
          (try simp only [Act.put, List.setIfInBounds_toArray, List.set_cons_zero, List.set_cons_succ])
          (try simp only [Act.put, List.getElem_toArray, List.getElem_cons_zero, List.getElem_cons_succ, List.setIfInBounds_toArray, List.set_cons_zero, List.set_cons_succ])
          refine wpAnyH_take (i := 13) (oi := _) (v := ?v13) rfl (by kernel_rfl) (by kernel_rfl) (by kernel_rfl) (fun _ _ _ h => h) (Or.inl ⟨by rfl, ?y13⟩) (by assumption) ?r13
          case y13 => ((intro w hSw); (try dsimp only at hSw); go_simp; (try with_reducible rfl))
          (try simp only [Act.put, List.setIfInBounds_toArray, List.set_cons_zero, List.set_cons_succ])
          refine wpAnyH_take (i := 14) (oi := _) (v := ?v14) rfl (by kernel_rfl) (by kernel_rfl) (by kernel_rfl) (fun _ _ _ h => h) (Or.inl ⟨by rfl, ?y14⟩) (by assumption) ?r14
          case y14 => ((intro w hSw); (try dsimp only at hSw); go_simp; (try with_reducible rfl))
          (try simp only [Act.put, List.setIfInBounds_toArray, List.set_cons_zero, List.set_cons_succ])
          refine wpAnyH_take (i := 15) (oi := _) (v := ?v15) rfl (by kernel_rfl) (by kernel_rfl) (by kernel_rfl) (fun _ _ _ h => h) (Or.inl ⟨by rfl, ?y15⟩) (by assumption) ?r15
          case y15 => ((intro w hSw); (try dsimp only at hSw); go_simp; (try with_reducible rfl))
          (try simp only [Act.put, List.setIfInBounds_toArray, List.set_cons_zero, List.set_cons_succ])
          (try simp only [Act.put, List.getElem_toArray, List.getElem_cons_zero, List.getElem_cons_succ, List.setIfInBounds_toArray, List.set_cons_zero, List.set_cons_succ])
          refine wpAnyH_ready (rs := [10]) (by kernel_rfl) (by simp) ?_
          refine AllReadyH.cons rfl (fun K hK => ?st16) AllReadyH.nil
          go_simp
          go_at_call 74
          refine (aall (T1.out.t.still S7.out) (by have := LM.out; omega) T1.out.v.wf).mono ?_
          rintro e w8 ⟨v8, rfl, o8, s8⟩
          obtain ⟨a8, c8, rfl⟩ := own_shape o8 _ rfl
          have O8 := hid (SRow.own (S := S108) o8 rfl)
          have S8 := hid (S7.out.trans s8)
          clear o8 s8
          refine hK.out _ _ ?k16 (fun hHeld16 => ?_)
          case k16 =>
            exact ⟨Still.cell S8.out q1, Still.cell S8.out q2⟩
          clear hK K
          (try simp only [Act.put, List.setIfInBounds_toArray, List.set_cons_zero, List.set_cons_succ])
          refine wpAnyH_ready (rs := [11]) (by kernel_rfl) (by simp) ?_
          refine AllReadyH.cons rfl (fun K hK => ?st17) AllReadyH.nil
          go_simp
          go_at_call 76
          refine (aplain _ O8.out (by have := LM.out; omega)).mono ?_
          rintro e w9 ⟨v9, rfl, o9, s9⟩
          obtain ⟨a9, c9, rfl⟩ := own_shape o9 _ rfl
          have O9 := hid (SRow.own (S := S114) o9 rfl)
          have S9 := hid (S8.out.trans s9)
          clear o9 s9
          refine hK.out _ _ ?k17 (fun hHeld17 => ?_)
          case k17 =>
            exact ⟨Still.cell S9.out q1, Still.cell S9.out q2⟩
          clear hK K
          (try simp only [Act.put, List.setIfInBounds_toArray, List.set_cons_zero, List.set_cons_succ])
          refine wpAnyH_ready (rs := [16]) (by kernel_rfl) (by simp) ?_
          refine AllReadyH.cons rfl (fun K hK => ?st18) AllReadyH.nil
          go_simp
          go_at_call 75
          refine (asame _ _ O9.out (RO2.out.still S9.out) (by have := LM.out; omega)).mono ?_
          rintro e w10 ⟨rfl, s10⟩
          have S10 := hid (S9.out.trans s10)
          clear s10
          refine hK.out _ _ ?k18 (fun hHeld18 => ?_)
          case k18 =>
            exact ⟨Still.cell S10.out q1, Still.cell S10.out q2⟩
          clear hK K
          (try simp only [Act.put, List.setIfInBounds_toArray, List.set_cons_zero, List.set_cons_succ])
          (try simp only [Act.put, List.getElem_toArray, List.getElem_cons_zero, List.getElem_cons_succ, List.setIfInBounds_toArray, List.set_cons_zero, List.set_cons_succ])
          refine wpAnyH_take (i := 17) (oi := _) (v := ?v19) rfl (by kernel_rfl) (by kernel_rfl) (by kernel_rfl) (fun _ _ _ h => h) (Or.inl ⟨by rfl, ?y19⟩) (by assumption) ?r19
          case y19 => ((intro w hSw); (try dsimp only at hSw); go_simp; (try with_reducible rfl))
          (try simp only [Act.put, List.setIfInBounds_toArray, List.set_cons_zero, List.set_cons_succ])
          refine wpAnyH_take (i := 18) (oi := _) (v := ?v20) rfl (by kernel_rfl) (by kernel_rfl) (by kernel_rfl) (fun _ _ _ h => h) (Or.inl ⟨by rfl, ?y20⟩) (by assumption) ?r20
          case y20 => ((intro w hSw); (try dsimp only at hSw); go_simp; (try with_reducible rfl))
          (try simp only [Act.put, List.setIfInBounds_toArray, List.set_cons_zero, List.set_cons_succ])
          (try simp only [Act.put, List.getElem_toArray, List.getElem_cons_zero, List.getElem_cons_succ, List.setIfInBounds_toArray, List.set_cons_zero, List.set_cons_succ])
          refine wpAnyH_ready (rs := [19]) (by kernel_rfl) (by simp) ?_
          refine AllReadyH.cons rfl (fun K hK => ?st21) AllReadyH.nil
          go_simp
          go_at_call 71
          refine (alives _ (HT.out.still (S1.out.trans S10.out)) (HC.out.still (S1.out.trans S10.out))).mono ?_
          rintro e w11 ⟨rfl, s11⟩
          have S11 := hid (S10.out.trans s11)
          clear s11
          refine hK.out _ _ ?k21 (fun hHeld21 => ?_)
          case k21 =>
            exact ⟨Still.cell S11.out q1, Still.cell S11.out q2⟩
          clear hK K
          (try simp only [Act.put, List.setIfInBounds_toArray, List.set_cons_zero, List.set_cons_succ])
          refine wpAnyH_take (i := 20) (oi := _) (v := ?v22) rfl (by kernel_rfl) (by kernel_rfl) (by kernel_rfl) (fun _ _ _ h => h) (Or.inl ⟨by rfl, ?y22⟩) (by assumption) ?r22
          case y22 => ((intro w hSw); (try dsimp only at hSw); go_simp; (try with_reducible rfl))
          (try simp only [Act.put, List.setIfInBounds_toArray, List.set_cons_zero, List.set_cons_succ])
          refine wpAnyH_done (by kernel_rfl) (Held.tailQ_normal ?_) _
          (try simp only [Act.put, List.getElem_toArray, List.getElem_cons_zero, List.getElem_cons_succ, List.setIfInBounds_toArray, List.set_cons_zero, List.set_cons_succ])
          go_wp2_with fail
          go_ret
          exact ⟨rfl, S1.out.trans S11.out⟩
theorem lifeCopies (w : World) (hT : TabD w) (hC : TabF w) (a1 : Option Addr) (n1 c1 : Nat) (F1 : Nat → LAct) (hF1 : IsLActs w a1 n1 c1 F1) (a2 : Option Addr) (n2 c2 : Nat) (F2 : Nat → LAct) (hF2 : IsLActs w a2 n2 c2 F2) : Calls Tryd.prog 16 #[.slice a1 n1 c1, .slice a2 n2 c2] w fun e w' => e = .returned (.bool true) ∧ Still w w' := by
  by_cases hn1 : 60 < n1
  · exact lifeCopies_big1 w hT hC a1 a2 n1 c1 n2 c2 hn1
  · by_cases hn2 : 60 < n2
    · exact lifeCopies_big2 w hT hC a1 a2 n1 c1 n2 c2 (by omega) hn2
    · exact lifeCopies_ok w hT hC a1 a2 n1 c1 n2 c2 F1 F2 hF1 hF2 (by omega) (by omega)
end Go.Proofs.YtffjaaolcphonaaDoor
/- LifeActs: the walk. -/
namespace Go.Proofs.YtffjaaolcphonaaDoor
open Go.RowKit Go.Maps
set_option linter.unusedSimpArgs false
theorem lifeActs_big (w : World) (hT : TabD w) (hC : TabF w) (x : Int) (a : Option Addr) (n c : Nat) (hn : 80 < n) : Calls Tryd.prog 15 #[.int .i64 x, .slice a n c] w fun e w' => e = .returned (.bool true) ∧ Still w w' := by
  have hn' : (80 : Int) < (n : Int) := by omega
  have L := hid (alives w hT hC)
  clear hn hT hC
  go_enter Tryd.func15, Tryd.ntmps15
  go_wp2_with (go_at_call 71; refine L.out.mono ?_; rintro e w' ⟨rfl, hs⟩)
  go_ret
  exact ⟨rfl, hs⟩
theorem lifeActs_no (w : World) (hT : TabD w) (hC : TabF w) (x : Int) (a : Option Addr) (n c : Nat) (hn : n ≤ 80) (hx : x < 1 ∨ 4096 < x) : Calls Tryd.prog 15 #[.int .i64 x, .slice a n c] w fun e w' => e = .returned (.bool true) ∧ Still w w' := by
  have hn' : ¬ (80 : Int) < (n : Int) := by omega
  have L := hid (alives w hT hC)
  have N1 := hid (anew_no w x hx)
  have N2 := hid (xnew_no w x hx)
  clear hn hT hC hx
  go_enter Tryd.func15, Tryd.ntmps15
  go_wp2_with (first | (go_at_call 71; refine L.out.mono ?_; rintro e w' ⟨rfl, hs⟩) | (go_at_call 62; refine N1.out.mono ?_; rintro e w' ⟨rfl, rfl⟩) | (go_at_call 72; refine N2.out.mono ?_; rintro e w' ⟨rfl, rfl⟩))
  go_ret
  exact ⟨rfl, hs⟩
set_option maxRecDepth 100000 in
set_option maxHeartbeats 8000000 in
theorem lifeActs_ok (w : World) (hT : TabD w) (hC : TabF w) (x : Nat) (a : Option Addr) (n c : Nat) (F : Nat → LAct) (hF : IsLActs w a n c F) (hn : n ≤ 80) (x0 : 1 ≤ x) (x1 : x ≤ 4096) :
    Calls Tryd.prog 15 #[.int .i64 (x : Int), .slice a n c] w fun e w' => e = .returned (.bool true) ∧ Still w w' := by
  have hn' : ¬ (80 : Int) < (n : Int) := by omega
  have HF := hid hF
  have HT := hid hT
  have HC := hid hC
  have h7 := hid hT.lt
  have HN := hid (anew w x x0 x1)
  clear hF hT hC
  go_enter Tryd.func15, Tryd.ntmps15
  go_wp2_with fail
  refine HN.out.mono ?_
  rintro e w1 ⟨P, B, M, rfl, hA, hs1, hnn⟩
  have HA := hid hA
  have HS1 := hid hs1
  have HNN := hid hnn
  clear hA hs1 hnn
  go_wp2_with fail
  refine (xnew w1 x x0 x1).mono ?_
  rintro e w2 ⟨Q, p, A, T, cA, cT, rfl, hR, hs2⟩
  have TS := two_copyA (AInv.zero x x1) (by have := h7.out; omega) HA.out HNN.out HS1.out hR hs2
  obtain ⟨KB, hKB⟩ : ∃ K : TB, TB.mk P B M Q p A T cA cT = K := ⟨_, rfl⟩
  obtain ⟨O0, hO0⟩ : ∃ O : Nat → Prop, (fun k => w1.heap.size ≤ k ∧ k < w2.heap.size) = O := ⟨_, rfl⟩
  rw [hKB, hO0] at TS
  have KP : P = KB.P := by rw [← hKB]
  have KQ : Q = KB.Q := by rw [← hKB]
  have T0 := hid TS.1
  have FT0 := hid TS.2
  have S2 := hid (HS1.out.trans hs2)
  rw [KP, KQ]
  clear TS hR hs2 hKB hO0 KP KQ HA HNN HN
  go_wp2_with fail
  go_loopw [8, 9, 10, 11, 12, 31] (fun s8 s9 s10 s11 s12 cc wr => ∃ (j : Nat) (s : SS) (L : List Ac) (O : Nat → Prop), cc = .int .i64 j ∧ j ≤ n ∧ Hid (TwoA wr KB O s L) ∧ Hid (∀ k, KB.foot O k → w.heap.size ≤ k) ∧ Hid (Still w wr) ∧ Hid (L.length ≤ j)) (fun s8 s9 s10 s11 s12 cc _ => n - (intOf cc).toNat)
  case atStart => exact ⟨0, _, [], O0, rfl, Nat.zero_le _, T0, FT0, S2, hid (Nat.le_refl 0)⟩
  case round =>
    clear T0 FT0 S2
    obtain ⟨j, s, L, O, rfl, hj, T1, FT, S1, LJ⟩ := hrel
    by_cases hlt : j < n
    · have hlt' : (j : Int) < (n : Int) := by omega
      rcases HF.out with h0 | ⟨b1, o1, rfl, _, _, _, _, hc⟩
      · omega
      obtain ⟨hx, hwx⟩ := hc j hlt
      obtain ⟨x, hxx⟩ : ∃ x, F j = x := ⟨_, rfl⟩
      rw [hxx] at hx hwx
      have HX : Hid (wr.rangeAt b1 (o1 + j * 15) [.int .i64 x.k, .int .i64 x.i, .int .i64 x.t, .bool x.re, .int .i64 x.c.p, .int .i64 x.c.q, .int .i64 x.c.r0, .int .i64 x.c.r1, .int .i64 x.c.r2, .int .i64 x.c.r3, .int .i64 x.c.r4, .int .i64 x.c.r5, .int .i64 x.c.r6, .int .i64 x.c.r7, .int .i64 x.c.d]) := hid fun k v hv => Still.cell S1.out (hx k v hv)
      have WX := hid hwx
      clear hc hx hwx hxx
      go_wp2_with (first
        | (refine wpList_load_mid rfl 105 (.tmp 33) rfl b1 (o1 + j * 15) rfl [.int .i64 x.k, .int .i64 x.i, .int .i64 x.t, .bool x.re, .int .i64 x.c.p, .int .i64 x.c.q, .int .i64 x.c.r0, .int .i64 x.c.r1, .int .i64 x.c.r2, .int .i64 x.c.r3, .int .i64 x.c.r4, .int .i64 x.c.r5, .int .i64 x.c.r6, .int .i64 x.c.r7, .int .i64 x.c.d] _ HX.out Tryd.underlying105 rfl I105 ?_)
        | (refine wpList_storeW rfl (.tmp 8) (.tmp 34) 105 rfl _ 105 [.int .i64 l0.k, .int .i64 l0.i, .int .i64 l0.t, .bool l0.re, .int .i64 l0.c.p, .int .i64 l0.c.q, .int .i64 l0.c.r0, .int .i64 l0.c.r1, .int .i64 l0.c.r2, .int .i64 l0.c.r3, .int .i64 l0.c.r4, .int .i64 l0.c.r5, .int .i64 l0.c.r6, .int .i64 l0.c.r7, .int .i64 l0.c.d] [.int .i64 x.k, .int .i64 x.i, .int .i64 x.t, .bool x.re, .int .i64 x.c.p, .int .i64 x.c.q, .int .i64 x.c.r0, .int .i64 x.c.r1, .int .i64 x.c.r2, .int .i64 x.c.r3, .int .i64 x.c.r4, .int .i64 x.c.r5, .int .i64 x.c.r6, .int .i64 x.c.r7, .int .i64 x.c.d] I105 (onesL x) rfl rfl (new_s2 _) rfl ?_; intro w3 b3 f3; have B3 := hid b3; have S3 : Hid (Still wr w3) := hid (Still.next ((Fr.refl _ _).alloc _) f3 (fun k hk => by rw [hk]; exact Nat.le_refl _)); clear b3 f3))
      obtain ⟨ab, hab⟩ : ∃ ab, wr.heap.size = ab := ⟨_, rfl⟩
      have NAB : Hid (∀ k, KB.foot O k → k < ab) := hid fun k hk => by rw [← hab]; exact T1.out.lt k hk
      have LAB : Hid (w.heap.size ≤ ab) := hid (by rw [← hab]; exact S1.out.size)
      rw [hab] at B3 ⊢
      have T3 := hid (T1.out.still S3.out)
      have SW3 := hid (S1.out.trans S3.out)
      clear hab
      have RX : w3.rangeAt ab 0 [.int .i64 x.k, .int .i64 x.i, .int .i64 x.t, .bool x.re, .int .i64 x.c.p, .int .i64 x.c.q, .int .i64 x.c.r0, .int .i64 x.c.r1, .int .i64 x.c.r2, .int .i64 x.c.r3, .int .i64 x.c.r4, .int .i64 x.c.r5, .int .i64 x.c.r6, .int .i64 x.c.r7, .int .i64 x.c.d] := fun k v hv => by rw [Nat.zero_add, B3.out.cell k]; exact hv
      have i3 : w3.cell? ⟨ab, 1, none⟩ = some (.int .i64 x.i) := B3.out.cell 1
      have n3 : w3.cell? ⟨ab, 2, none⟩ = some (.int .i64 x.t) := B3.out.cell 2
      refine Held.wp_region_held_tail (S := (fun w' => w'.rangeAt ab 0 [.int .i64 x.k, .int .i64 x.i, .int .i64 x.t, .bool x.re, .int .i64 x.c.p, .int .i64 x.c.q, .int .i64 x.c.r0, .int .i64 x.c.r1, .int .i64 x.c.r2, .int .i64 x.c.r3, .int .i64 x.c.r4, .int .i64 x.c.r5, .int .i64 x.c.r6, .int .i64 x.c.r7, .int .i64 x.c.d] ∧ w'.cell? ⟨ab, 1, none⟩ = some (.int .i64 x.i) ∧ w'.cell? ⟨ab, 2, none⟩ = some (.int .i64 x.t))) 30 (by kernel_rfl) (by kernel_rfl) (by decide) ?hS1 (fun hHeld => ?hR1)
      case hS1 =>
        exact ⟨RX, i3, n3⟩
      simp only [List.take_succ_cons, List.take_zero, List.drop_succ_cons, List.drop_zero]
      refine wpAnyH_take (i := 2) (oi := _) (v := (Value.agg #[.int .i64 x.k, .int .i64 x.i, .int .i64 x.t, .bool x.re, .int .i64 x.c.p, .int .i64 x.c.q, .int .i64 x.c.r0, .int .i64 x.c.r1, .int .i64 x.c.r2, .int .i64 x.c.r3, .int .i64 x.c.r4, .int .i64 x.c.r5, .int .i64 x.c.r6, .int .i64 x.c.r7, .int .i64 x.c.d])) rfl (by kernel_rfl) (by kernel_rfl) (by kernel_rfl) (fun _ _ _ h => h) (yieldsIf_load_mid rfl 105 _ rfl ab 0 rfl [.int .i64 x.k, .int .i64 x.i, .int .i64 x.t, .bool x.re, .int .i64 x.c.p, .int .i64 x.c.q, .int .i64 x.c.r0, .int .i64 x.c.r1, .int .i64 x.c.r2, .int .i64 x.c.r3, .int .i64 x.c.r4, .int .i64 x.c.r5, .int .i64 x.c.r6, .int .i64 x.c.r7, .int .i64 x.c.d] _ (fun w h => h.1) Tryd.underlying105 rfl I105) (by assumption) ?rA
      simp only [Act.put, List.getElem_toArray, List.getElem_cons_zero, List.getElem_cons_succ, List.setIfInBounds_toArray, List.set_cons_zero, List.set_cons_succ]
      refine wpAnyH_take (i := 0) (oi := _) (v := ?v2) rfl (by kernel_rfl) (by kernel_rfl) (by kernel_rfl) (fun _ _ _ h => h) (Or.inl ⟨by rfl, ?y2⟩) (by assumption) ?r2
      case y2 => ((intro w hSw); (try dsimp only at hSw); go_simp; (try with_reducible rfl))
      (try simp only [Act.put, List.setIfInBounds_toArray, List.set_cons_zero, List.set_cons_succ])
      refine wpAnyH_take (i := 1) (oi := _) (v := ?v3) rfl (by kernel_rfl) (by kernel_rfl) (by kernel_rfl) (fun _ _ _ h => h) (Or.inl ⟨by rfl, ?y3⟩) (by assumption) ?r3
      case y3 => ((intro w hSw); (try dsimp only at hSw); go_simp; (try with_reducible rfl))
      (try simp only [Act.put, List.setIfInBounds_toArray, List.set_cons_zero, List.set_cons_succ])
      refine wpAnyH_ready (rs := [3]) (by kernel_rfl) (by simp) ?_
      refine AllReadyH.cons rfl (fun K hK => ?st4) AllReadyH.nil
      go_simp
      go_at_call 73
      refine (lact (T3.out.still (by exact (Fr.refl _ _).drew)) (by have := LJ.out; omega) (HT.out.still (SW3.out.trans (Fr.refl _ _).drew)) (HC.out.still (SW3.out.trans (Fr.refl _ _).drew)) x WX.out).mono ?_
      rintro e w4 ⟨rfl, t4, f4⟩
      have z34 : w3.heap.size ≤ w4.heap.size := f4.size
      have F4 : Hid (Fr (KB.foot O) w3 w4) := hid (((Fr.refl _ w3).drew).trans f4)
      have T4 := hid t4
      have B4 := hid (B3.out.fr F4.out (fun e => by have := NAB.out _ e; omega))
      have NB4 : Hid (∀ k, KB.foot (upO O w3 w4) k → k ≠ ab) := hid (by
        have hl := B3.out.lt
        rintro k (hk | hk | hk) rfl
        · have := NAB.out _ (.inl hk); omega
        · have := NAB.out _ (.inr hk); omega
        · omega)
      have SW4 : Hid (Still w w4) := hid (SW3.out.next F4.out (fun k hk => FT.out k hk))
      have FT4 : Hid (∀ k, KB.foot (upO O w3 w4) k → w.heap.size ≤ k) := hid (upO_lo FT.out SW3.out.size)
      clear t4 f4
      refine hK.out _ _ ?k4 (fun hHeld4 => ?_)
      case k4 =>
        exact ⟨fun k v hv => by rw [Nat.zero_add, B4.out.cell k]; exact hv, B4.out.cell 1, B4.out.cell 2⟩
      clear hK K
      (try simp only [Act.put, List.setIfInBounds_toArray, List.set_cons_zero, List.set_cons_succ])
      refine wpAnyH_take (i := 4) (oi := _) (v := ?v5) rfl (by kernel_rfl) (by kernel_rfl) (by kernel_rfl) (fun _ _ _ h => h) (Or.inl ⟨by rfl, ?y5⟩) (by assumption) ?r5
      case y5 => ((intro w hSw); (try dsimp only at hSw); go_simp; (try with_reducible rfl))
      (try simp only [Act.put, List.setIfInBounds_toArray, List.set_cons_zero, List.set_cons_succ])
      refine wpAnyH_take (i := 5) (oi := _) (v := ?v6) rfl (by kernel_rfl) (by kernel_rfl) (by kernel_rfl) (fun _ _ _ h => h) (Or.inl ⟨by rfl, ?y6⟩) (by assumption) ?r6
      case y6 => ((intro w hSw); (try dsimp only at hSw); go_simp; (try with_reducible rfl))
      (try simp only [Act.put, List.setIfInBounds_toArray, List.set_cons_zero, List.set_cons_succ])
      simp only [Act.put, List.getElem_toArray, List.getElem_cons_zero, List.getElem_cons_succ, List.setIfInBounds_toArray, List.set_cons_zero, List.set_cons_succ]
      have R4 := T4.out.r
      obtain ⟨rv, q4, ro, _⟩ := R4.ex
      have RO := hid (SRow.own (S := S114) ro rfl)
      obtain ⟨ra, rc, rfl⟩ := own_shape ro _ rfl
      have i4 : w4.cell? ⟨ab, 1, none⟩ = some (.int .i64 x.i) := B4.out.cell 1
      have n4 : w4.cell? ⟨ab, 2, none⟩ = some (.int .i64 x.t) := B4.out.cell 2
      have LK := hid (step_len s L x T1.out.v WX.out)
      have LN : Hid ((stepL s L x).length ≤ 900) := hid (by have := LK.out; have := LJ.out; omega)
      obtain ⟨LL, hLL⟩ : ∃ M, stepL s L x = M := ⟨_, rfl⟩
      obtain ⟨s4, hs4⟩ : ∃ M, stepS s L x = M := ⟨_, rfl⟩
      rw [hLL] at q4 RO LN T4 LK
      rw [hs4] at T4
      clear ro R4 hLL hs4
      refine wpAnyH_strong (S' := fun w' => w'.cell? ⟨ab, 1, none⟩ = some (.int .i64 x.i) ∧ w'.cell? ⟨ab, 2, none⟩ = some (.int .i64 x.t) ∧ w'.cell? ⟨KB.Q, 1, none⟩ = some (.slice ra LL.length rc) ∧ w'.rangeAt ab 0 [.int .i64 x.k, .int .i64 x.i, .int .i64 x.t, .bool x.re, .int .i64 x.c.p, .int .i64 x.c.q, .int .i64 x.c.r0, .int .i64 x.c.r1, .int .i64 x.c.r2, .int .i64 x.c.r3, .int .i64 x.c.r4, .int .i64 x.c.r5, .int .i64 x.c.r6, .int .i64 x.c.r7, .int .i64 x.c.d]) (fun w h => ⟨h.2.2.2, h.1, h.2.1⟩) _ _ _ _ ?_
      have hS' : w4.cell? ⟨ab, 1, none⟩ = some (.int .i64 x.i) ∧ w4.cell? ⟨ab, 2, none⟩ = some (.int .i64 x.t) ∧ w4.cell? ⟨KB.Q, 1, none⟩ = some (.slice ra LL.length rc) ∧ w4.rangeAt ab 0 [.int .i64 x.k, .int .i64 x.i, .int .i64 x.t, .bool x.re, .int .i64 x.c.p, .int .i64 x.c.q, .int .i64 x.c.r0, .int .i64 x.c.r1, .int .i64 x.c.r2, .int .i64 x.c.r3, .int .i64 x.c.r4, .int .i64 x.c.r5, .int .i64 x.c.r6, .int .i64 x.c.r7, .int .i64 x.c.d] := ⟨i4, n4, q4, fun k v hv => by rw [Nat.zero_add, B4.out.cell k]; exact hv⟩
      refine wpAnyH_take (i := 6) (oi := _) (v := ?v7) rfl (by kernel_rfl) (by kernel_rfl) (by kernel_rfl) (fun _ _ _ h => h) (Or.inl ⟨by rfl, ?y7⟩) (by assumption) ?r7
      case y7 => ((intro w hSw); (try dsimp only at hSw); go_simp; (try with_reducible rfl))
      (try simp only [Act.put, List.setIfInBounds_toArray, List.set_cons_zero, List.set_cons_succ])
      refine wpAnyH_take (i := 9) (oi := _) (v := ?v8) rfl (by kernel_rfl) (by kernel_rfl) (by kernel_rfl) (fun _ _ _ h => h) (Or.inl ⟨by rfl, ?y8⟩) (by assumption) ?r8
      case y8 => ((intro w hSw); (try dsimp only at hSw); go_simp; (try with_reducible rfl))
      (try simp only [Act.put, List.setIfInBounds_toArray, List.set_cons_zero, List.set_cons_succ])
      refine wpAnyH_take (i := 10) (oi := _) (v := ?v9) rfl (by kernel_rfl) (by kernel_rfl) (by kernel_rfl) (fun _ _ _ h => h) (Or.inl ⟨by rfl, ?y9⟩) (by assumption) ?r9
      case y9 => ((intro w hSw); (try dsimp only at hSw); go_simp; (try with_reducible rfl))
      (try simp only [Act.put, List.setIfInBounds_toArray, List.set_cons_zero, List.set_cons_succ])
      simp only [Act.put, List.getElem_toArray, List.getElem_cons_zero, List.getElem_cons_succ, List.setIfInBounds_toArray, List.set_cons_zero, List.set_cons_succ]
      refine wpAnyH_take (i := 11) (oi := _) (v := ?v10) rfl (by kernel_rfl) (by kernel_rfl) (by kernel_rfl) (fun _ _ _ h => h) (Or.inl ⟨by rfl, ?y10⟩) (by assumption) ?r10
      case y10 => ((intro w hSw); (try dsimp only at hSw); go_simp; (try with_reducible rfl))
      (try simp only [Act.put, List.setIfInBounds_toArray, List.set_cons_zero, List.set_cons_succ])
      refine wpAnyH_take (i := 12) (oi := _) (v := ?v11) rfl (by kernel_rfl) (by kernel_rfl) (by kernel_rfl) (fun _ _ _ h => h) (Or.inl ⟨by rfl, ?y11⟩) (by assumption) ?r11
      case y11 => ((intro w hSw); (try dsimp only at hSw); go_simp; (try with_reducible rfl))
      (try simp only [Act.put, List.setIfInBounds_toArray, List.set_cons_zero, List.set_cons_succ])
      simp only [Act.put, List.getElem_toArray, List.getElem_cons_zero, List.getElem_cons_succ, List.setIfInBounds_toArray, List.set_cons_zero, List.set_cons_succ]
      refine wpAnyH_ready (rs := [7]) (by kernel_rfl) (by simp) ?_
      refine AllReadyH.cons rfl (fun K hK => ?st12) AllReadyH.nil
      go_simp
      go_at_call 74
      refine (aall T4.out.t (by have := LN.out; omega) T4.out.v.wf).mono ?_
      rintro e w5 ⟨v5, rfl, o5, s5⟩
      obtain ⟨a5, c5, rfl⟩ := own_shape o5 _ rfl
      have O5 := hid (SRow.own (S := S108) o5 rfl)
      have S5 := hid s5
      clear o5 s5
      refine hK.out _ _ ?k12 (fun hHeld12 => ?_)
      case k12 =>
        exact ⟨Still.cell S5.out i4, Still.cell S5.out n4, Still.cell S5.out q4, fun k v hv => Still.cell S5.out (by rw [Nat.zero_add, B4.out.cell k]; exact hv)⟩
      clear hK K
      (try simp only [Act.put, List.setIfInBounds_toArray, List.set_cons_zero, List.set_cons_succ])
      refine wpAnyH_ready (rs := [8]) (by kernel_rfl) (by simp) ?_
      refine AllReadyH.cons rfl (fun K hK => ?st13) AllReadyH.nil
      go_simp
      go_at_call 76
      refine (aplain _ O5.out (by have := LN.out; omega)).mono ?_
      rintro e w6 ⟨v6, rfl, o6, s6⟩
      obtain ⟨a6, c6, rfl⟩ := own_shape o6 _ rfl
      have O6 := hid (SRow.own (S := S114) o6 rfl)
      have S6 := hid (S5.out.trans s6)
      clear o6 s6
      refine hK.out _ _ ?k13 (fun hHeld13 => ?_)
      case k13 =>
        exact ⟨Still.cell S6.out i4, Still.cell S6.out n4, Still.cell S6.out q4, fun k v hv => Still.cell S6.out (by rw [Nat.zero_add, B4.out.cell k]; exact hv)⟩
      clear hK K
      (try simp only [Act.put, List.setIfInBounds_toArray, List.set_cons_zero, List.set_cons_succ])
      refine wpAnyH_ready (rs := [13]) (by kernel_rfl) (by simp) ?_
      refine AllReadyH.cons rfl (fun K hK => ?st14) AllReadyH.nil
      go_simp
      go_at_call 75
      refine (asame _ _ O6.out (RO.out.still S6.out) (by have := LN.out; omega)).mono ?_
      rintro e w7 ⟨rfl, s7⟩
      have S7 := hid (S6.out.trans s7)
      clear s7
      refine hK.out _ _ ?k14 (fun hHeld14 => ?_)
      case k14 =>
        exact ⟨Still.cell S7.out i4, Still.cell S7.out n4, Still.cell S7.out q4, fun k v hv => Still.cell S7.out (by rw [Nat.zero_add, B4.out.cell k]; exact hv)⟩
      clear hK K
      (try simp only [Act.put, List.setIfInBounds_toArray, List.set_cons_zero, List.set_cons_succ])
      refine wpAnyH_take (i := 14) (oi := _) (v := ?v15) rfl (by kernel_rfl) (by kernel_rfl) (by kernel_rfl) (fun _ _ _ h => h) (Or.inl ⟨by rfl, ?y15⟩) (by assumption) ?r15
      case y15 => ((intro w hSw); (try dsimp only at hSw); go_simp; (try with_reducible rfl))
      (try simp only [Act.put, List.setIfInBounds_toArray, List.set_cons_zero, List.set_cons_succ])
      refine wpAnyH_take (i := 15) (oi := _) (v := ?v16) rfl (by kernel_rfl) (by kernel_rfl) (by kernel_rfl) (fun _ _ _ h => h) (Or.inl ⟨by rfl, ?y16⟩) (by assumption) ?r16
      case y16 => ((intro w hSw); (try dsimp only at hSw); go_simp; (try with_reducible rfl))
      (try simp only [Act.put, List.setIfInBounds_toArray, List.set_cons_zero, List.set_cons_succ])
      refine wpAnyH_take (i := 16) (oi := _) (v := ?v17) rfl (by kernel_rfl) (by kernel_rfl) (by kernel_rfl) (fun _ _ _ h => h) (Or.inl ⟨by rfl, ?y17⟩) (by assumption) ?r17
      case y17 => ((intro w hSw); (try dsimp only at hSw); go_simp; (try with_reducible rfl))
      (try simp only [Act.put, List.setIfInBounds_toArray, List.set_cons_zero, List.set_cons_succ])
      simp only [Act.put, List.getElem_toArray, List.getElem_cons_zero, List.getElem_cons_succ, List.setIfInBounds_toArray, List.set_cons_zero, List.set_cons_succ]
      refine wpAnyH_take (i := 17) (oi := _) (v := ?v18) rfl (by kernel_rfl) (by kernel_rfl) (by kernel_rfl) (fun _ _ _ h => h) (Or.inl ⟨by rfl, ?y18⟩) (by assumption) ?r18
      case y18 => ((intro w hSw); (try dsimp only at hSw); go_simp; (try with_reducible rfl))
      (try simp only [Act.put, List.setIfInBounds_toArray, List.set_cons_zero, List.set_cons_succ])
      refine wpAnyH_take (i := 18) (oi := _) (v := ?v19) rfl (by kernel_rfl) (by kernel_rfl) (by kernel_rfl) (fun _ _ _ h => h) (Or.inl ⟨by rfl, ?y19⟩) (by assumption) ?r19
      case y19 => ((intro w hSw); (try dsimp only at hSw); go_simp; (try with_reducible rfl))
      (try simp only [Act.put, List.setIfInBounds_toArray, List.set_cons_zero, List.set_cons_succ])
      refine wpAnyH_take (i := 20) (oi := _) (v := ?v20) rfl (by kernel_rfl) (by kernel_rfl) (by kernel_rfl) (fun _ _ _ h => h) (Or.inl ⟨by rfl, ?y20⟩) (by assumption) ?r20
      case y20 => ((intro w hSw); (try dsimp only at hSw); go_simp; (try with_reducible rfl))
      (try simp only [Act.put, List.setIfInBounds_toArray, List.set_cons_zero, List.set_cons_succ])
      simp only [Act.put, List.getElem_toArray, List.getElem_cons_zero, List.getElem_cons_succ, List.setIfInBounds_toArray, List.set_cons_zero, List.set_cons_succ]
      refine wpAnyH_take (i := 19) (oi := _) (v := ?v21) rfl (by kernel_rfl) (by kernel_rfl) (by kernel_rfl) (fun _ _ _ h => h) (Or.inl ⟨by rfl, ?y21⟩) (by assumption) ?r21
      case y21 => ((intro w hSw); (try dsimp only at hSw); go_simp; (try with_reducible rfl))
      (try simp only [Act.put, List.setIfInBounds_toArray, List.set_cons_zero, List.set_cons_succ])
      refine wpAnyH_take (i := 21) (oi := _) (v := ?v22) rfl (by kernel_rfl) (by kernel_rfl) (by kernel_rfl) (fun _ _ _ h => h) (Or.inl ⟨by rfl, ?y22⟩) (by assumption) ?r22
      case y22 => ((intro w hSw); (try dsimp only at hSw); go_simp; (try with_reducible rfl))
      (try simp only [Act.put, List.setIfInBounds_toArray, List.set_cons_zero, List.set_cons_succ])
      refine wpAnyH_take (i := 23) (oi := _) (v := ?v23) rfl (by kernel_rfl) (by kernel_rfl) (by kernel_rfl) (fun _ _ _ h => h) (Or.inl ⟨by rfl, ?y23⟩) (by assumption) ?r23
      case y23 => ((intro w hSw); (try dsimp only at hSw); go_simp; (try with_reducible rfl))
      (try simp only [Act.put, List.setIfInBounds_toArray, List.set_cons_zero, List.set_cons_succ])
      simp only [Act.put, List.getElem_toArray, List.getElem_cons_zero, List.getElem_cons_succ, List.setIfInBounds_toArray, List.set_cons_zero, List.set_cons_succ]
      refine wpAnyH_take (i := 24) (oi := _) (v := ?v24) rfl (by kernel_rfl) (by kernel_rfl) (by kernel_rfl) (fun _ _ _ h => h) (Or.inl ⟨by rfl, ?y24⟩) (by assumption) ?r24
      case y24 => ((intro w hSw); (try dsimp only at hSw); go_simp; (try with_reducible rfl))
      (try simp only [Act.put, List.setIfInBounds_toArray, List.set_cons_zero, List.set_cons_succ])
      refine wpAnyH_take (i := 26) (oi := _) (v := ?v25) rfl (by kernel_rfl) (by kernel_rfl) (by kernel_rfl) (fun _ _ _ h => h) (Or.inl ⟨by rfl, ?y25⟩) (by assumption) ?r25
      case y25 => ((intro w hSw); (try dsimp only at hSw); go_simp; (try with_reducible rfl))
      (try simp only [Act.put, List.setIfInBounds_toArray, List.set_cons_zero, List.set_cons_succ])
      refine wpAnyH_take (i := 25) (oi := _) (v := ?v26) rfl (by kernel_rfl) (by kernel_rfl) (by kernel_rfl) (fun _ _ _ h => h) (Or.inl ⟨by rfl, ?y26⟩) (by assumption) ?r26
      case y26 => ((intro w hSw); (try dsimp only at hSw); go_simp; (try with_reducible rfl))
      (try simp only [Act.put, List.setIfInBounds_toArray, List.set_cons_zero, List.set_cons_succ])
      simp only [Act.put, List.getElem_toArray, List.getElem_cons_zero, List.getElem_cons_succ, List.setIfInBounds_toArray, List.set_cons_zero, List.set_cons_succ]
      refine wpAnyH_take (i := 27) (oi := _) (v := ?v27) rfl (by kernel_rfl) (by kernel_rfl) (by kernel_rfl) (fun _ _ _ h => h) (Or.inl ⟨by rfl, ?y27⟩) (by assumption) ?r27
      case y27 => ((intro w hSw); (try dsimp only at hSw); go_simp; (try with_reducible rfl))
      (try simp only [Act.put, List.setIfInBounds_toArray, List.set_cons_zero, List.set_cons_succ])
      simp only [Act.put, List.getElem_toArray, List.getElem_cons_zero, List.getElem_cons_succ, List.setIfInBounds_toArray, List.set_cons_zero, List.set_cons_succ]
      refine wpAnyH_ready (rs := [22]) (by kernel_rfl) (by simp) ?_
      refine AllReadyH.cons rfl (fun K hK => ?st28) AllReadyH.nil
      go_simp
      go_at_call 69
      refine (acount (T4.out.t.still S7.out) (by have := LN.out; omega) x.t x.i).mono ?_
      rintro e w8 ⟨rfl, s8⟩
      have S8 := hid (S7.out.trans s8)
      clear s8
      refine hK.out _ _ ?k28 (fun hHeld28 => ?_)
      case k28 =>
        exact ⟨Still.cell S8.out i4, Still.cell S8.out n4, Still.cell S8.out q4, fun k v hv => Still.cell S8.out (by rw [Nat.zero_add, B4.out.cell k]; exact hv)⟩
      clear hK K
      (try simp only [Act.put, List.setIfInBounds_toArray, List.set_cons_zero, List.set_cons_succ])
      refine wpAnyH_ready (rs := [28]) (by kernel_rfl) (by simp) ?_
      refine AllReadyH.cons rfl (fun K hK => ?st29) AllReadyH.nil
      go_simp
      go_at_call 77
      refine (xcount (T4.out.r.still S8.out) x.t x.i).mono ?_
      rintro e w9 ⟨rfl, s9⟩
      have S9 := hid (S8.out.trans s9)
      clear s9
      refine hK.out _ _ ?k29 (fun hHeld29 => ?_)
      case k29 =>
        exact ⟨Still.cell S9.out i4, Still.cell S9.out n4, Still.cell S9.out q4, fun k v hv => Still.cell S9.out (by rw [Nat.zero_add, B4.out.cell k]; exact hv)⟩
      clear hK K
      (try simp only [Act.put, List.setIfInBounds_toArray, List.set_cons_zero, List.set_cons_succ])
      refine wpAnyH_take (i := 29) (oi := _) (v := ?v30) rfl (by kernel_rfl) (by kernel_rfl) (by kernel_rfl) (fun _ _ _ h => h) (Or.inl ⟨by rfl, ?y30⟩) (by assumption) ?r30
      case y30 => ((intro w hSw); (try dsimp only at hSw); go_simp; (try with_reducible rfl))
      (try simp only [Act.put, List.setIfInBounds_toArray, List.set_cons_zero, List.set_cons_succ])
      refine wpAnyH_done (by kernel_rfl) (Held.tailQ_normal ?_) _
      simp only [Act.put, List.getElem_toArray, List.getElem_cons_zero, List.getElem_cons_succ, List.setIfInBounds_toArray, List.set_cons_zero, List.set_cons_succ]
      have S9w := S9
      have i9 := Still.cell S9.out i4
      clear i4 n4 q4 hS' i3 n3 RX
      go_wp2_with fail
      refine (aget (T4.out.t.still S9.out) x.i WX.out).mono ?_
      rintro e w10 ⟨rfl, s10⟩
      have S10 := hid (S9.out.trans s10)
      clear s10
      obtain ⟨y, hy⟩ : ∃ y, fndA LL x.i = y := ⟨_, rfl⟩
      obtain ⟨ye, hye⟩ : ∃ y, fndO LL x.i = y := ⟨_, rfl⟩
      have HY := hid hy
      have HYE := hid hye
      rw [hy, hye]
      clear hy hye
      go_wp2_with (refine wpList_storeW rfl (.tmp 9) (.tmp 71) 111 rfl _ 111 [.int .i64 a0.i, .int .i64 a0.s, .int .i64 a0.sp, .int .i64 a0.co, .int .i64 a0.th, .int .i64 a0.c.p, .int .i64 a0.c.q, .int .i64 a0.c.r0, .int .i64 a0.c.r1, .int .i64 a0.c.r2, .int .i64 a0.c.r3, .int .i64 a0.c.r4, .int .i64 a0.c.r5, .int .i64 a0.c.r6, .int .i64 a0.c.r7, .int .i64 a0.c.d] [.int .i64 y.i, .int .i64 y.s, .int .i64 y.sp, .int .i64 y.co, .int .i64 y.th, .int .i64 y.c.p, .int .i64 y.c.q, .int .i64 y.c.r0, .int .i64 y.c.r1, .int .i64 y.c.r2, .int .i64 y.c.r3, .int .i64 y.c.r4, .int .i64 y.c.r5, .int .i64 y.c.r6, .int .i64 y.c.r7, .int .i64 y.c.d] I111 (onesA y) rfl rfl (new_a _) rfl ?_; intro w11 b11 f11; have B11 := hid b11; have S11 : Hid (Still w4 w11) := hid (Still.next (S10.out.alloc _) f11 (fun k hk => by rw [hk]; exact S10.out.size)); have i11 : w11.cell? ⟨ab, 1, none⟩ = some (.int .i64 x.i) := (B4.out.still S11.out).cell 1; clear b11 f11)
      refine (xget (T4.out.r.still S11.out) x.i).mono ?_
      rintro e w12 ⟨he, s12⟩
      rw [HY.out, HYE.out] at he
      subst he
      have S12 := hid (S11.out.trans s12)
      have B12 := hid (B11.out.still s12)
      clear s12
      have NE := neq120 y
      go_wp2_with (first
        | (refine wpList_storeW rfl (.tmp 11) (.tmp 78) 120 rfl _ 120 [.int .i64 a0.i, .int .i64 a0.s, .int .i64 a0.sp, .int .i64 a0.co, .int .i64 a0.th, .int .i64 a0.c.p, .int .i64 a0.c.q, .int .i64 a0.c.r0, .int .i64 a0.c.r1, .int .i64 a0.c.r2, .int .i64 a0.c.r3, .int .i64 a0.c.r4, .int .i64 a0.c.r5, .int .i64 a0.c.r6, .int .i64 a0.c.r7, .int .i64 a0.c.d] [.int .i64 y.i, .int .i64 y.s, .int .i64 y.sp, .int .i64 y.co, .int .i64 y.th, .int .i64 y.c.p, .int .i64 y.c.q, .int .i64 y.c.r0, .int .i64 y.c.r1, .int .i64 y.c.r2, .int .i64 y.c.r3, .int .i64 y.c.r4, .int .i64 y.c.r5, .int .i64 y.c.r6, .int .i64 y.c.r7, .int .i64 y.c.d] I120 (onesA y) rfl rfl (new_ra _) rfl ?_; intro w13 b13 f13; have B13 := hid b13; have S13 : Hid (Still w4 w13) := hid (Still.next (S12.out.alloc _) f13 (fun k hk => by rw [hk]; exact S12.out.size)); have C13 := hid ((B12.out.alloc _).fr f13 (by have := B12.out.lt; omega)); clear b13 f13)
        | (refine wpList_loadW rfl (.tmp 9) 111 rfl _ Tryd.underlying111 rfl _ 111 [.int .i64 y.i, .int .i64 y.s, .int .i64 y.sp, .int .i64 y.co, .int .i64 y.th, .int .i64 y.c.p, .int .i64 y.c.q, .int .i64 y.c.r0, .int .i64 y.c.r1, .int .i64 y.c.r2, .int .i64 y.c.r3, .int .i64 y.c.r4, .int .i64 y.c.r5, .int .i64 y.c.r6, .int .i64 y.c.r7, .int .i64 y.c.d] I111 rfl C13.out ?_)
        | (refine wpList_loadW rfl (.tmp 11) 120 rfl _ Tryd.underlying120 rfl _ 120 [.int .i64 y.i, .int .i64 y.s, .int .i64 y.sp, .int .i64 y.co, .int .i64 y.th, .int .i64 y.c.p, .int .i64 y.c.q, .int .i64 y.c.r0, .int .i64 y.c.r1, .int .i64 y.c.r2, .int .i64 y.c.r3, .int .i64 y.c.r4, .int .i64 y.c.r5, .int .i64 y.c.r6, .int .i64 y.c.r7, .int .i64 y.c.d] I120 rfl B13.out ?_))
      go_roundw
      case rel => exact ⟨j + 1, s4, LL, upO O w3 w4, by go_num, by omega, hid (T4.out.still S13.out), FT4, hid (SW4.out.trans S13.out), hid (by have h1 := LJ.out; have h2 := LK.out; omega)⟩
      case measure => simp [intOf]; omega
    · have hlt' : ¬ (j : Int) < (n : Int) := by omega
      go_wp2_with (go_at_call 71; refine (alives _ (HT.out.still S1.out) (HC.out.still S1.out)).mono ?_; rintro e w' ⟨rfl, hs2⟩)
      go_ret
      exact ⟨rfl, S1.out.trans hs2⟩
theorem lifeActs (w : World) (hT : TabD w) (hC : TabF w) (x : Int) (a : Option Addr) (n c : Nat) (F : Nat → LAct) (hF : IsLActs w a n c F) : Calls Tryd.prog 15 #[.int .i64 x, .slice a n c] w fun e w' => e = .returned (.bool true) ∧ Still w w' := by
  by_cases hn : 80 < n
  · exact lifeActs_big w hT hC x a n c hn
  · by_cases hx : x < 1 ∨ 4096 < x
    · exact lifeActs_no w hT hC x a n c (by omega) hx
    · obtain ⟨k, rfl⟩ : ∃ k : Nat, x = (k : Int) := ⟨x.toNat, by omega⟩
      exact lifeActs_ok w hT hC k a n c F hF (by omega) (by omega) (by omega)
end Go.Proofs.YtffjaaolcphonaaDoor
/- LifeCores: the walk. -/
namespace Go.Proofs.YtffjaaolcphonaaDoor
open Go.RowKit Go.Maps
set_option linter.unusedSimpArgs false
theorem idx107 (g k : Nat) (hk : k < 64) : ∀ u : World, (Instr.indexAt 107 (.pointer (some ⟨g, 0, none⟩)) (.int .i64 (k : Int))).run Tryd.prog u = .ok (.pointer (some ⟨g, k, none⟩)) u := by
  intro u
  have h : Tryd.prog.underlying 107 = some (.array (Tryd.prog.arrayLen 107) (Tryd.prog.elem 107)) := by kernel_rfl
  have h2 : Tryd.prog.arrayLen 107 = 64 := by kernel_rfl
  have hs : ∀ u, (sizeOf (Tryd.prog.elem 107)).run Tryd.prog u = .ok 1 u := fun _ => by kernel_rfl
  rw [run_indexAt_array (h := h), h2, if_pos ⟨by omega, by omega⟩, hs]
  simp only [Result.andThen, Int.toNat_natCast, Nat.mul_one]
  have := Addr.add_mid g 0 k
  rw [this, Nat.zero_add]
theorem core_keep {w4 w7 wr w6 : World} {LL : List Ac} {i : Nat} {a7 : Option Addr} {c7 : Nat} {o : Obj} (GX : Blk wr w4.heap.size (metC LL i) 107) (RX : SRow S108 wr (.slice a7 LL.length c7) LL) (RL : ∀ b off c n, Value.slice a7 LL.length c7 = .slice (some ⟨b, off, none⟩) n c → w4.heap.size < b ∧ b < w7.heap.size) (SX : Still w4 wr) (ZX : w7.heap.size ≤ wr.heap.size) (f6 : Fr (fun k => k = wr.heap.size) (wr.alloc o) w6) :
    Blk w6 w4.heap.size (metC LL i) 107 ∧ SRow S108 w6 (.slice a7 LL.length c7) LL ∧ Still w4 w6 ∧ w7.heap.size ≤ w6.heap.size := by
  have h1 := GX.lt
  refine ⟨(GX.alloc o).fr f6 (by omega), (RX.alloc o).fr f6 (fun b off c n e h => ?_), Still.next (SX.alloc _) f6 (fun k hk => by rw [hk]; exact SX.size), ?_⟩
  · have h2 : b = wr.heap.size := h
    have := RL b off c n e
    omega
  · have h2 := f6.size
    simp only [World.size_alloc] at h2; omega
theorem lifeCores_big (w : World) (hT : TabD w) (hC : TabF w) (a : Option Addr) (n c : Nat) (hn : 80 < n) : Calls Tryd.prog 14 #[.slice a n c] w fun e w' => e = .returned (.bool true) ∧ Still w w' := by
  have hn' : (80 : Int) < (n : Int) := by omega
  have HT := hid hT
  have HC := hid hC
  have HN := hid (fun (u : World) => anew u 9 (by omega) (by omega))
  have HR := hid (fun (u : World) => xnew u 9 (by omega) (by omega))
  clear hn hT hC
  go_enter Tryd.func14, Tryd.ntmps14
  go_wp2_with fail
  refine (HN.out w).mono ?_
  rintro e w1 ⟨P, B, M, rfl, hA, hs1, hnn⟩
  clear hA hnn
  go_wp2_with fail
  refine (HR.out w1).mono ?_
  rintro e w2 ⟨Q, p, A, T, cA, cT, rfl, hR, hs2⟩
  clear hR
  have S2 := hid (hs1.trans hs2)
  clear hs1 hs2
  go_wp2_with (go_at_call 71; refine (alives _ (HT.out.still S2.out) (HC.out.still S2.out)).mono ?_; rintro e w' ⟨rfl, hs⟩)
  go_ret
  exact ⟨rfl, S2.out.trans hs⟩
set_option maxRecDepth 100000 in
set_option maxHeartbeats 8000000 in
theorem lifeCores_ok (w : World) (hT : TabD w) (hC : TabF w) (a : Option Addr) (n c : Nat) (F : Nat → LAct) (hF : IsLActs w a n c F) (hn : n ≤ 80) :
    Calls Tryd.prog 14 #[.slice a n c] w fun e w' => e = .returned (.bool true) ∧ Still w w' := by
  have hn' : ¬ (80 : Int) < (n : Int) := by omega
  have HF := hid hF
  have HT := hid hT
  have HC := hid hC
  have h7 := hid hT.lt
  have HN := hid (anew w 9 (by omega) (by omega))
  have HR := hid (fun (u : World) => xnew u 9 (by omega) (by omega))
  clear hF hT hC
  go_enter Tryd.func14, Tryd.ntmps14
  go_wp2_with fail
  refine HN.out.mono ?_
  rintro e w1 ⟨P, B, M, rfl, hA, hs1, hnn⟩
  have HA := hid hA
  have HS1 := hid hs1
  have HNN := hid hnn
  clear hA hs1 hnn
  go_wp2_with fail
  refine (HR.out w1).mono ?_
  rintro e w2 ⟨Q, p, A, T, cA, cT, rfl, hR, hs2⟩
  have TS := two_copyA (AInv.zero 9 (by omega)) (by have := h7.out; omega) HA.out HNN.out HS1.out hR hs2
  obtain ⟨KB, hKB⟩ : ∃ K : TB, TB.mk P B M Q p A T cA cT = K := ⟨_, rfl⟩
  obtain ⟨O0, hO0⟩ : ∃ O : Nat → Prop, (fun k => w1.heap.size ≤ k ∧ k < w2.heap.size) = O := ⟨_, rfl⟩
  rw [hKB, hO0] at TS
  have KP : P = KB.P := by rw [← hKB]
  have KQ : Q = KB.Q := by rw [← hKB]
  have T0 := hid TS.1
  have FT0 := hid TS.2
  have S2 := hid (HS1.out.trans hs2)
  rw [KP, KQ]
  clear TS hR hs2 hKB hO0 KP KQ HA HNN HN HR
  have CI0 := hid CInv.nil
  go_wp2_with fail
  go_loopw [6, 7, 9, 26] (fun s6 s7 s9 cc wr => ∃ (j : Nat) (s : SS) (L : List Ac) (O : Nat → Prop), cc = .int .i64 j ∧ j ≤ n ∧ Hid (TwoA wr KB O s L) ∧ Hid (∀ k, KB.foot O k → w.heap.size ≤ k) ∧ Hid (Still w wr) ∧ Hid (L.length ≤ j) ∧ Hid (CInv L)) (fun s6 s7 s9 cc _ => n - (intOf cc).toNat)
  case atStart => exact ⟨0, _, [], O0, rfl, Nat.zero_le _, T0, FT0, S2, hid (Nat.le_refl 0), CI0⟩
  case round =>
    clear T0 FT0 S2 CI0
    obtain ⟨j, s, L, O, rfl, hj, T1, FT, S1, LJ, C1⟩ := hrel
    by_cases hlt : j < n
    · have hlt' : (j : Int) < (n : Int) := by omega
      rcases HF.out with h0 | ⟨b1, o1, rfl, _, _, _, _, hc⟩
      · omega
      obtain ⟨hx, hwx⟩ := hc j hlt
      obtain ⟨y, hyy⟩ : ∃ y, F j = y := ⟨_, rfl⟩
      rw [hyy] at hx hwx
      have HX : Hid (wr.rangeAt b1 (o1 + j * 15) [.int .i64 y.k, .int .i64 y.i, .int .i64 y.t, .bool y.re, .int .i64 y.c.p, .int .i64 y.c.q, .int .i64 y.c.r0, .int .i64 y.c.r1, .int .i64 y.c.r2, .int .i64 y.c.r3, .int .i64 y.c.r4, .int .i64 y.c.r5, .int .i64 y.c.r6, .int .i64 y.c.r7, .int .i64 y.c.d]) := hid fun k v hv => Still.cell S1.out (hx k v hv)
      have WX := hid hwx
      clear hc hx hwx hyy
      go_wp2_with (first
        | (refine wpList_load_mid rfl 105 (.tmp 28) rfl b1 (o1 + j * 15) rfl [.int .i64 y.k, .int .i64 y.i, .int .i64 y.t, .bool y.re, .int .i64 y.c.p, .int .i64 y.c.q, .int .i64 y.c.r0, .int .i64 y.c.r1, .int .i64 y.c.r2, .int .i64 y.c.r3, .int .i64 y.c.r4, .int .i64 y.c.r5, .int .i64 y.c.r6, .int .i64 y.c.r7, .int .i64 y.c.d] _ HX.out Tryd.underlying105 rfl I105 ?_)
        | (refine wpList_storeW rfl (.tmp 6) (.tmp 29) 105 rfl _ 105 [.int .i64 l0.k, .int .i64 l0.i, .int .i64 l0.t, .bool l0.re, .int .i64 l0.c.p, .int .i64 l0.c.q, .int .i64 l0.c.r0, .int .i64 l0.c.r1, .int .i64 l0.c.r2, .int .i64 l0.c.r3, .int .i64 l0.c.r4, .int .i64 l0.c.r5, .int .i64 l0.c.r6, .int .i64 l0.c.r7, .int .i64 l0.c.d] [.int .i64 y.k, .int .i64 y.i, .int .i64 y.t, .bool y.re, .int .i64 y.c.p, .int .i64 y.c.q, .int .i64 y.c.r0, .int .i64 y.c.r1, .int .i64 y.c.r2, .int .i64 y.c.r3, .int .i64 y.c.r4, .int .i64 y.c.r5, .int .i64 y.c.r6, .int .i64 y.c.r7, .int .i64 y.c.d] I105 (onesL y) rfl rfl (new_s2 _) rfl ?_; intro w3 b3 f3; have B3 := hid b3; have S3 : Hid (Still wr w3) := hid (Still.next ((Fr.refl _ _).alloc _) f3 (fun k hk => by rw [hk]; exact Nat.le_refl _)); clear b3 f3)
        | (refine wpList_loadW rfl (.tmp 6) 105 rfl _ Tryd.underlying105 rfl _ 105 [.int .i64 y.k, .int .i64 y.i, .int .i64 y.t, .bool y.re, .int .i64 y.c.p, .int .i64 y.c.q, .int .i64 y.c.r0, .int .i64 y.c.r1, .int .i64 y.c.r2, .int .i64 y.c.r3, .int .i64 y.c.r4, .int .i64 y.c.r5, .int .i64 y.c.r6, .int .i64 y.c.r7, .int .i64 y.c.d] I105 rfl B3.out ?_))
      have SW3 := hid (S1.out.trans S3.out)
      refine (lact (T1.out.still S3.out) (by have := LJ.out; omega) (HT.out.still SW3.out) (HC.out.still SW3.out) y WX.out).mono ?_
      rintro e w4 ⟨rfl, t4, f4⟩
      have LK := hid (step_len s L y T1.out.v WX.out)
      have C4 := hid (C1.out.step (s := s) y)
      have T4 := hid t4
      have SW4 : Hid (Still w w4) := hid (SW3.out.next f4 (fun k hk => FT.out k hk))
      have FT4 : Hid (∀ k, KB.foot (upO O w3 w4) k → w.heap.size ≤ k) := hid (upO_lo FT.out SW3.out.size)
      obtain ⟨LL, hLL⟩ : ∃ M, stepL s L y = M := ⟨_, rfl⟩
      obtain ⟨s4, hs4⟩ : ∃ M, stepS s L y = M := ⟨_, rfl⟩
      rw [hLL] at T4 LK C4
      rw [hs4] at T4
      have LE : Hid (LL.length ≤ 81) := hid (by have := LK.out; have := LJ.out; omega)
      clear t4 f4 hLL hs4
      have UP := hid T4.out.t.m.2
      go_wp2_with fail
      obtain ⟨w5, hw5⟩ : ∃ u, w4.alloc (.cells (metC LL 0).toArray 107) = u := ⟨_, rfl⟩
      have hz0 : (metC LL 0).toArray = #[.bool false, .bool false, .bool false, .bool false, .bool false, .bool false, .bool false, .bool false, .bool false, .bool false, .bool false, .bool false, .bool false, .bool false, .bool false, .bool false, .bool false, .bool false, .bool false, .bool false, .bool false, .bool false, .bool false, .bool false, .bool false, .bool false, .bool false, .bool false, .bool false, .bool false, .bool false, .bool false, .bool false, .bool false, .bool false, .bool false, .bool false, .bool false, .bool false, .bool false, .bool false, .bool false, .bool false, .bool false, .bool false, .bool false, .bool false, .bool false, .bool false, .bool false, .bool false, .bool false, .bool false, .bool false, .bool false, .bool false, .bool false, .bool false, .bool false, .bool false, .bool false, .bool false, .bool false, .bool false] := by unfold metC met; rfl
      have S5 : Hid (Still w4 w5) := hid (hw5 ▸ (Fr.refl _ _).alloc _)
      have G5 : Hid (Blk w5 w4.heap.size (metC LL 0) 107) := hid (hw5 ▸ Blk.new w4 _ 107)
      have Z5 : Hid (w4.heap.size < w5.heap.size) := hid G5.out.lt
      rw [hz0] at hw5
      rw [hw5]
      clear hw5 hz0
      refine (aall (T4.out.t.still S5.out) (by have := LE.out; omega) T4.out.v.wf).mono ?_
      rintro e w7 ⟨v7, rfl, o7, s7⟩
      obtain ⟨a7, c7, rfl⟩ := own_shape o7 _ rfl
      have R7 := hid (SRow.own (S := S108) o7 rfl)
      have RL0 : Hid (∀ b off c n, Value.slice a7 LL.length c7 = .slice (some ⟨b, off, none⟩) n c → w4.heap.size < b ∧ b < w7.heap.size) := hid (fun b off c n e => by
        have h1 := own_lt2 o7 (b := b) (by rw [e]; rfl)
        have := Z5.out
        exact ⟨by omega, h1.2⟩)
      have G7 := hid (G5.out.still s7)
      have S7 := hid (S5.out.trans s7)
      clear o7 s7
      go_wp2_with fail
      go_loopw [9, 37] (fun s9 c2 wr => ∃ i : Nat, c2 = .int .i64 i ∧ i ≤ LL.length ∧ Hid (Blk wr w4.heap.size (metC LL i) 107) ∧ Hid (SRow S108 wr (.slice a7 LL.length c7) LL) ∧ Hid (Still w4 wr ∧ w7.heap.size ≤ wr.heap.size)) (fun s9 c2 _ => LL.length - (intOf c2).toNat)
      case atStart => exact ⟨0, rfl, Nat.zero_le _, G7, R7, hid ⟨S7.out, Nat.le_refl _⟩⟩
      case round =>
        clear G7 R7 S7
        obtain ⟨i, rfl, hi, GX, RX, SXX⟩ := hrel
        have SX := hid SXX.out.1
        have ZX := hid SXX.out.2
        have RL := RL0
        have hbb := LE.out
        by_cases hil : i < LL.length
        · have hil' : (i : Int) < (LL.length : Int) := by omega
          obtain ⟨b, off, c3, ev, hc⟩ := RX.out.at hil
          obtain ⟨rfl, rfl⟩ : a7 = some ⟨b, off, none⟩ ∧ c7 = c3 := by injection ev with e1 _ e3; exact ⟨e1, e3⟩
          obtain ⟨x, hx⟩ : ∃ x, LL[i] = x := ⟨_, rfl⟩
          rw [hx] at hc
          have HXX := hid hx
          have OX := C4.out.one x (hx ▸ List.getElem_mem hil)
          have HC5 : Hid (wr.rangeAt b (off + i * 16) [.int .i64 x.i, .int .i64 x.s, .int .i64 x.sp, .int .i64 x.co, .int .i64 x.th, .int .i64 x.c.p, .int .i64 x.c.q, .int .i64 x.c.r0, .int .i64 x.c.r1, .int .i64 x.c.r2, .int .i64 x.c.r3, .int .i64 x.c.r4, .int .i64 x.c.r5, .int .i64 x.c.r6, .int .i64 x.c.r7, .int .i64 x.c.d]) := hid hc
          clear hc ev hx
          by_cases hst : x.s = 2
          · obtain ⟨k, hk⟩ : ∃ k : Nat, x.co = (k : Int) := ⟨x.co.toNat, by have := OX.1.1 hst; omega⟩
            have hk6 : k < 64 := by have := OX.2.1; omega
            have e2 : (x.s == 2) = true := by simp [hst]
            have e5 : (x.s == 5) = false := by simp [hst]
            have e1 : (x.s == 1) = false := by simp [hst]
            have NM := hid (met_no C4.out UP.out hil HXX.out hk)
            have MS := hid (metC_set hil HXX.out hk6 hk)
            have HK := hid hk
            have hk6' : (k : Int) < 64 := by omega
            have IX := idx107 w4.heap.size k hk6
            have hk6'' : ¬ (63 : Int) < (k : Int) := by omega
            clear hst OX hk
            have N2 : True := trivial
            go_wp2_with (first
              | (refine wpList_load_mid rfl 111 (.tmp 39) rfl b (off + i * 16) rfl [.int .i64 x.i, .int .i64 x.s, .int .i64 x.sp, .int .i64 x.co, .int .i64 x.th, .int .i64 x.c.p, .int .i64 x.c.q, .int .i64 x.c.r0, .int .i64 x.c.r1, .int .i64 x.c.r2, .int .i64 x.c.r3, .int .i64 x.c.r4, .int .i64 x.c.r5, .int .i64 x.c.r6, .int .i64 x.c.r7, .int .i64 x.c.d] _ HC5.out Tryd.underlying111 rfl I111 ?_)
              | (clear N2; refine wpList_storeW rfl (.tmp 9) (.tmp 40) 111 rfl _ 111 [.int .i64 a0.i, .int .i64 a0.s, .int .i64 a0.sp, .int .i64 a0.co, .int .i64 a0.th, .int .i64 a0.c.p, .int .i64 a0.c.q, .int .i64 a0.c.r0, .int .i64 a0.c.r1, .int .i64 a0.c.r2, .int .i64 a0.c.r3, .int .i64 a0.c.r4, .int .i64 a0.c.r5, .int .i64 a0.c.r6, .int .i64 a0.c.r7, .int .i64 a0.c.d] [.int .i64 x.i, .int .i64 x.s, .int .i64 x.sp, .int .i64 x.co, .int .i64 x.th, .int .i64 x.c.p, .int .i64 x.c.q, .int .i64 x.c.r0, .int .i64 x.c.r1, .int .i64 x.c.r2, .int .i64 x.c.r3, .int .i64 x.c.r4, .int .i64 x.c.r5, .int .i64 x.c.r6, .int .i64 x.c.r7, .int .i64 x.c.d] I111 (onesA x) rfl rfl (new_a _) rfl ?_; intro w6 b6 f6; have d1 : w6.cell? ⟨wr.heap.size, 1, none⟩ = some (.int .i64 x.s) := (b6.cell 1); have d3 : w6.cell? ⟨wr.heap.size, 3, none⟩ = some (.int .i64 (k : Int)) := (by rw [← HK.out]; exact b6.cell 3); have d4 : w6.cell? ⟨wr.heap.size, 4, none⟩ = some (.int .i64 x.th) := (b6.cell 4); have K6 := core_keep GX.out RX.out RL.out SX.out ZX.out f6; have G6 := hid K6.1; have R6 := hid K6.2.1; have S6 := hid K6.2.2; have g1 : w6.cell? ⟨w4.heap.size, k, none⟩ = some (.bool false) := (by rw [G6.out.cell k, metC_at hk6, NM.out]); have zg := G6.out.frozen k; clear b6 f6 K6))
            have G8 : Hid (Blk (w6.setCell ⟨w4.heap.size, k, none⟩ (.bool true)) w4.heap.size (metC LL (i + 1)) 107) := hid (by rw [← MS.out]; exact G6.out.put k _)
            have R8 : Hid (SRow S108 (w6.setCell ⟨w4.heap.size, k, none⟩ (.bool true)) (.slice (some ⟨b, off, none⟩) LL.length c7) LL) := hid (R6.out.fr (F := fun q => q = w4.heap.size) (Fr.setCell (F := fun q => q = w4.heap.size) (p := ⟨w4.heap.size, k, none⟩) (Fr.refl _ _) (.inl rfl) _) (fun b off c n e h => by have := RL.out b off c n e; omega))
            have S8 : Hid (Still w4 (w6.setCell ⟨w4.heap.size, k, none⟩ (.bool true)) ∧ w7.heap.size ≤ (w6.setCell ⟨w4.heap.size, k, none⟩ (.bool true)).heap.size) := hid ⟨Fr.setCell S6.out.1 (.inr (Nat.le_refl _)) _, by rw [World.size_setCell]; exact S6.out.2⟩
            go_roundw
            case rel => exact ⟨i + 1, by go_num, by omega, G8, R8, S8⟩
            case measure => simp [intOf]; omega
          · have e2 : (x.s == 2) = false := by simp [hst]
            have hneg : x.co < 0 := by
              have h3 : ¬ 0 ≤ x.co := fun e => hst (OX.1.2 e)
              omega
            have hneg' : ¬ 0 ≤ x.co := by omega
            have MK := hid (metC_skip hil HXX.out hneg)
            by_cases h5 : x.s = 5
            · have e5 : (x.s == 5) = true := by simp [h5]
              have ht := OX.2.2 (.inl h5)
              have et : (x.th != 0) = false := by simp [ht]
              clear hst OX h5 ht
              have N2 : True := trivial
              go_wp2_with (first
                | (refine wpList_load_mid rfl 111 (.tmp 39) rfl b (off + i * 16) rfl [.int .i64 x.i, .int .i64 x.s, .int .i64 x.sp, .int .i64 x.co, .int .i64 x.th, .int .i64 x.c.p, .int .i64 x.c.q, .int .i64 x.c.r0, .int .i64 x.c.r1, .int .i64 x.c.r2, .int .i64 x.c.r3, .int .i64 x.c.r4, .int .i64 x.c.r5, .int .i64 x.c.r6, .int .i64 x.c.r7, .int .i64 x.c.d] _ HC5.out Tryd.underlying111 rfl I111 ?_)
                | (clear N2; refine wpList_storeW rfl (.tmp 9) (.tmp 40) 111 rfl _ 111 [.int .i64 a0.i, .int .i64 a0.s, .int .i64 a0.sp, .int .i64 a0.co, .int .i64 a0.th, .int .i64 a0.c.p, .int .i64 a0.c.q, .int .i64 a0.c.r0, .int .i64 a0.c.r1, .int .i64 a0.c.r2, .int .i64 a0.c.r3, .int .i64 a0.c.r4, .int .i64 a0.c.r5, .int .i64 a0.c.r6, .int .i64 a0.c.r7, .int .i64 a0.c.d] [.int .i64 x.i, .int .i64 x.s, .int .i64 x.sp, .int .i64 x.co, .int .i64 x.th, .int .i64 x.c.p, .int .i64 x.c.q, .int .i64 x.c.r0, .int .i64 x.c.r1, .int .i64 x.c.r2, .int .i64 x.c.r3, .int .i64 x.c.r4, .int .i64 x.c.r5, .int .i64 x.c.r6, .int .i64 x.c.r7, .int .i64 x.c.d] I111 (onesA x) rfl rfl (new_a _) rfl ?_; intro w6 b6 f6; have d1 : w6.cell? ⟨wr.heap.size, 1, none⟩ = some (.int .i64 x.s) := (b6.cell 1); have d3 : w6.cell? ⟨wr.heap.size, 3, none⟩ = some (.int .i64 x.co) := (b6.cell 3); have d4 : w6.cell? ⟨wr.heap.size, 4, none⟩ = some (.int .i64 x.th) := (b6.cell 4); have K6 := core_keep GX.out RX.out RL.out SX.out ZX.out f6; have G6 := hid K6.1; have R6 := hid K6.2.1; have S6 := hid K6.2.2;  clear b6 f6 K6))
              go_roundw
              case rel => exact ⟨i + 1, by go_num, by omega, hid (by rw [MK.out]; exact G6.out), R6, S6⟩
              case measure => simp [intOf]; omega
            · have e5 : (x.s == 5) = false := by simp [h5]
              by_cases h1 : x.s = 1
              · have e1 : (x.s == 1) = true := by simp [h1]
                have ht := OX.2.2 (.inr h1)
                have et : (x.th != 0) = false := by simp [ht]
                clear hst OX h5 h1 ht
                have N2 : True := trivial
                go_wp2_with (first
                  | (refine wpList_load_mid rfl 111 (.tmp 39) rfl b (off + i * 16) rfl [.int .i64 x.i, .int .i64 x.s, .int .i64 x.sp, .int .i64 x.co, .int .i64 x.th, .int .i64 x.c.p, .int .i64 x.c.q, .int .i64 x.c.r0, .int .i64 x.c.r1, .int .i64 x.c.r2, .int .i64 x.c.r3, .int .i64 x.c.r4, .int .i64 x.c.r5, .int .i64 x.c.r6, .int .i64 x.c.r7, .int .i64 x.c.d] _ HC5.out Tryd.underlying111 rfl I111 ?_)
                  | (clear N2; refine wpList_storeW rfl (.tmp 9) (.tmp 40) 111 rfl _ 111 [.int .i64 a0.i, .int .i64 a0.s, .int .i64 a0.sp, .int .i64 a0.co, .int .i64 a0.th, .int .i64 a0.c.p, .int .i64 a0.c.q, .int .i64 a0.c.r0, .int .i64 a0.c.r1, .int .i64 a0.c.r2, .int .i64 a0.c.r3, .int .i64 a0.c.r4, .int .i64 a0.c.r5, .int .i64 a0.c.r6, .int .i64 a0.c.r7, .int .i64 a0.c.d] [.int .i64 x.i, .int .i64 x.s, .int .i64 x.sp, .int .i64 x.co, .int .i64 x.th, .int .i64 x.c.p, .int .i64 x.c.q, .int .i64 x.c.r0, .int .i64 x.c.r1, .int .i64 x.c.r2, .int .i64 x.c.r3, .int .i64 x.c.r4, .int .i64 x.c.r5, .int .i64 x.c.r6, .int .i64 x.c.r7, .int .i64 x.c.d] I111 (onesA x) rfl rfl (new_a _) rfl ?_; intro w6 b6 f6; have d1 : w6.cell? ⟨wr.heap.size, 1, none⟩ = some (.int .i64 x.s) := (b6.cell 1); have d3 : w6.cell? ⟨wr.heap.size, 3, none⟩ = some (.int .i64 x.co) := (b6.cell 3); have d4 : w6.cell? ⟨wr.heap.size, 4, none⟩ = some (.int .i64 x.th) := (b6.cell 4); have K6 := core_keep GX.out RX.out RL.out SX.out ZX.out f6; have G6 := hid K6.1; have R6 := hid K6.2.1; have S6 := hid K6.2.2;  clear b6 f6 K6))
                go_roundw
                case rel => exact ⟨i + 1, by go_num, by omega, hid (by rw [MK.out]; exact G6.out), R6, S6⟩
                case measure => simp [intOf]; omega
              · have e1 : (x.s == 1) = false := by simp [h1]
                clear hst OX h5 h1
                have N2 : True := trivial
                go_wp2_with (first
                  | (refine wpList_load_mid rfl 111 (.tmp 39) rfl b (off + i * 16) rfl [.int .i64 x.i, .int .i64 x.s, .int .i64 x.sp, .int .i64 x.co, .int .i64 x.th, .int .i64 x.c.p, .int .i64 x.c.q, .int .i64 x.c.r0, .int .i64 x.c.r1, .int .i64 x.c.r2, .int .i64 x.c.r3, .int .i64 x.c.r4, .int .i64 x.c.r5, .int .i64 x.c.r6, .int .i64 x.c.r7, .int .i64 x.c.d] _ HC5.out Tryd.underlying111 rfl I111 ?_)
                  | (clear N2; refine wpList_storeW rfl (.tmp 9) (.tmp 40) 111 rfl _ 111 [.int .i64 a0.i, .int .i64 a0.s, .int .i64 a0.sp, .int .i64 a0.co, .int .i64 a0.th, .int .i64 a0.c.p, .int .i64 a0.c.q, .int .i64 a0.c.r0, .int .i64 a0.c.r1, .int .i64 a0.c.r2, .int .i64 a0.c.r3, .int .i64 a0.c.r4, .int .i64 a0.c.r5, .int .i64 a0.c.r6, .int .i64 a0.c.r7, .int .i64 a0.c.d] [.int .i64 x.i, .int .i64 x.s, .int .i64 x.sp, .int .i64 x.co, .int .i64 x.th, .int .i64 x.c.p, .int .i64 x.c.q, .int .i64 x.c.r0, .int .i64 x.c.r1, .int .i64 x.c.r2, .int .i64 x.c.r3, .int .i64 x.c.r4, .int .i64 x.c.r5, .int .i64 x.c.r6, .int .i64 x.c.r7, .int .i64 x.c.d] I111 (onesA x) rfl rfl (new_a _) rfl ?_; intro w6 b6 f6; have d1 : w6.cell? ⟨wr.heap.size, 1, none⟩ = some (.int .i64 x.s) := (b6.cell 1); have d3 : w6.cell? ⟨wr.heap.size, 3, none⟩ = some (.int .i64 x.co) := (b6.cell 3); have d4 : w6.cell? ⟨wr.heap.size, 4, none⟩ = some (.int .i64 x.th) := (b6.cell 4); have K6 := core_keep GX.out RX.out RL.out SX.out ZX.out f6; have G6 := hid K6.1; have R6 := hid K6.2.1; have S6 := hid K6.2.2;  clear b6 f6 K6))
                go_roundw
                case rel => exact ⟨i + 1, by go_num, by omega, hid (by rw [MK.out]; exact G6.out), R6, S6⟩
                case measure => simp [intOf]; omega
        · have hil' : ¬ (i : Int) < (LL.length : Int) := by omega
          have T9 := hid (T4.out.still SX.out)
          have SW9 := hid (SW4.out.trans SX.out)
          go_wp2_with fail
          go_roundw
          case rel => exact ⟨j + 1, _, _, _, by go_num, by omega, T9, FT4, SW9, hid (by have h1 := LJ.out; have h2 := LK.out; omega), C4⟩
          case measure => simp [intOf]; omega
    · have hlt' : ¬ (j : Int) < (n : Int) := by omega
      go_wp2_with (go_at_call 71; refine (alives _ (HT.out.still S1.out) (HC.out.still S1.out)).mono ?_; rintro e w' ⟨rfl, hs2⟩)
      go_ret
      exact ⟨rfl, S1.out.trans hs2⟩
theorem lifeCores (w : World) (hT : TabD w) (hC : TabF w) (a : Option Addr) (n c : Nat) (F : Nat → LAct) (hF : IsLActs w a n c F) : Calls Tryd.prog 14 #[.slice a n c] w fun e w' => e = .returned (.bool true) ∧ Still w w' := by
  by_cases hn : 80 < n
  · exact lifeCores_big w hT hC a n c hn
  · exact lifeCores_ok w hT hC a n c F hF (by omega)
end Go.Proofs.YtffjaaolcphonaaDoor
