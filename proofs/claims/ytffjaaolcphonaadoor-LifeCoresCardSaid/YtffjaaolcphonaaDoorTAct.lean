/- law22.act: on both sides. -/
import Derived.Test.YtffjaaolcphonaaDoorRThr8
import Derived.Test.YtffjaaolcphonaaDoorEqT
namespace Go.Proofs.YtffjaaolcphonaaDoor
open Go.RowKit Go.Maps
set_option linter.unusedSimpArgs false
def actS (s : SS) (L : List Thr) (x : LAct) : SS := if x.k = 0 then spS s x.t else if x.k = 9 then endS s L (idT L x) else s
def actL (s : SS) (L : List Thr) (x : LAct) : List Thr :=
  if x.k = 0 then spL s L x.c x.t
  else if x.k = 1 then updT L (idT L x) (fun y => { y with c := x.c })
  else if x.k = 2 then updT L (idT L x) (fun y => { y with c := x.c, d := wrap64 (y.d + 1) })
  else if x.k = 3 then turnL L (idT L x) 2 2
  else if x.k = 4 then turnL L (idT L x) 4 1
  else if x.k = 5 then turnL L (idT L x) 4 3
  else if x.k = 6 then turnL L (idT L x) 4 4
  else if x.k = 7 then turnL L (idT L x) 24 1
  else if x.k = 8 then turnL L (idT L x) 16 2
  else if x.k = 9 then endL L (idT L x)
  else L
section
variable {w w' w1 : World} {KB : TB} {O : Nat → Prop} {s s' s0 : SS} {L L' L0 : List Thr}
theorem TwoT.back (h : TwoT w KB O s0 L0) (h1 : w.heap.size ≤ w1.heap.size) (hz : w.heap.size ≤ w'.heap.size) (h2 : TwoT w' KB (upO O w1 w') s L) : TwoT w' KB (upO O w w') s L := by
  have lP := h.t.ltP
  have hub := h.r.ub
  refine { h2 with r := h2.r.mono (fun k hk => hk.imp _root_.id fun e => ⟨Nat.le_trans h1 e.1, e.2⟩) (fun k hk => hk.elim (fun e => by have := hub k e; omega) (fun e => e.2)), nP := fun e => e.elim h.nP (fun e => by omega), nO := fun k hk e => ?_, h8 := fun k hk => ?_ }
  · have hl := h.lt k (.inl hk)
    exact e.elim (h.nO k hk) (fun e => by omega)
  · rcases hk with hk | hk | hk
    · exact h.h8 k (.inl hk)
    · exact h.h8 k (.inr hk)
    · have := h.h8 _ (.inr h.r.lQ)
      have := hub _ h.r.lQ
      omega
theorem TwoT.idle (h : TwoT w KB O s L) (hs : Still w w1) : TwoT w1 KB (upO O w w1) s L := by
  have h1 := h.still hs
  have lP := h.t.ltP
  have hub := h.r.ub
  refine { h1 with r := h1.r.up0, nP := fun e => e.elim h.nP (fun e => by omega), nO := fun k hk e => ?_, h8 := fun k hk => ?_ }
  · have hl := h.lt k (.inl hk)
    exact e.elim (h.nO k hk) (fun e => by omega)
  · rcases hk with hk | hk | hk
    · exact h.h8 k (.inl hk)
    · exact h.h8 k (.inr hk)
    · have := h.h8 _ (.inr h.r.lQ)
      have := hub _ h.r.lQ
      omega
theorem I60 : (Tryd.prog.info? 60).map (·.size) = some 15 := by kernel_rfl
theorem rangeL {x : LAct} {b : Nat} (h : Blk w b [.int .i64 x.k, .int .i64 x.i, .int .i64 x.t, .bool x.re, .int .i64 x.c.p, .int .i64 x.c.q, .int .i64 x.c.r0, .int .i64 x.c.r1, .int .i64 x.c.r2, .int .i64 x.c.r3, .int .i64 x.c.r4, .int .i64 x.c.r5, .int .i64 x.c.r6, .int .i64 x.c.r7, .int .i64 x.c.d] 60) : w.rangeAt b 4 [.int .i64 x.c.p, .int .i64 x.c.q, .int .i64 x.c.r0, .int .i64 x.c.r1, .int .i64 x.c.r2, .int .i64 x.c.r3, .int .i64 x.c.r4, .int .i64 x.c.r5, .int .i64 x.c.r6, .int .i64 x.c.r7, .int .i64 x.c.d] := fun j v hv => by
  rw [h.cell (4 + j)]
  have h := List.getElem?_drop (xs := ([.int .i64 x.k, .int .i64 x.i, .int .i64 x.t, .bool x.re, .int .i64 x.c.p, .int .i64 x.c.q, .int .i64 x.c.r0, .int .i64 x.c.r1, .int .i64 x.c.r2, .int .i64 x.c.r3, .int .i64 x.c.r4, .int .i64 x.c.r5, .int .i64 x.c.r6, .int .i64 x.c.r7, .int .i64 x.c.d] : List Value)) (i := 4) (j := j)
  rw [← h]; exact hv
def ActPost (w : World) (KB : TB) (O : Nat → Prop) (s : SS) (L : List Thr) (e : Ending) (w' : World) : Prop := e = .returned (.bool true) ∧ TwoT w' KB (upO O w w') s L ∧ Fr (KB.foot O) w w'
theorem two_new (w : World) (a b : Int) : IRow (w.alloc (.cells #[.int .i64 a, .int .i64 b] 3)) (.slice (some ⟨w.heap.size, 0, none⟩) 2 2) [a, b] := IRow.of_blk (xs := [a, b]) (Blk.new w [.int .i64 a, .int .i64 b] 3) (Nat.succ_pos 1)
set_option maxRecDepth 100000 in
set_option maxHeartbeats 8000000 in
theorem tact0 (h : TwoT w KB O s L) (hT : TabD w) (hC : TabT w) (x : LAct) (wx : (Lit.int .i64 x.i).wf = true) (hk : x.k = 0) : Calls Tryd.prog 41 #[.pointer (some ⟨KB.P, 0, none⟩), .pointer (some ⟨KB.Q, 0, none⟩), (Value.agg #[.int .i64 x.k, .int .i64 x.i, .int .i64 x.t, .bool x.re, .int .i64 x.c.p, .int .i64 x.c.q, .int .i64 x.c.r0, .int .i64 x.c.r1, .int .i64 x.c.r2, .int .i64 x.c.r3, .int .i64 x.c.r4, .int .i64 x.c.r5, .int .i64 x.c.r6, .int .i64 x.c.r7, .int .i64 x.c.d])] w (ActPost w KB O (spS s x.t) (spL s L x.c x.t)) := by
  have e0 : (x.k == 0) = true := by simp [hk]
  have e1 : (x.k == 1) = false := by simp [hk]
  have e2 : (x.k == 2) = false := by simp [hk]
  have e3 : (x.k == 3) = false := by simp [hk]
  have e4 : (x.k == 4) = false := by simp [hk]
  have e5 : (x.k == 5) = false := by simp [hk]
  have e6 : (x.k == 6) = false := by simp [hk]
  have e7 : (x.k == 7) = false := by simp [hk]
  have e8 : (x.k == 8) = false := by simp [hk]
  have e9 : (x.k == 9) = false := by simp [hk]
  have H := hid h
  have HT := hid hT
  have HC := hid hC
  have WI := hid (idT_wf h.v x wx)
  have LN := hid (show L.length < maxLen by have := h.v.len; unfold maxLen; omega)
  have H7 : Hid (¬ KB.B.foot 7) := hid (fun e => by have := h.h8 7 (.inl (.inl e)); omega)
  clear h hT hC wx hk
  unfold ActPost
  go_enter Tryd.func41, Tryd.ntmps41
  go_wp2_with (refine wpList_loadW rfl (.tmp 5) 60 rfl _ Tryd.underlying60 rfl _ 60 [.int .i64 x.k, .int .i64 x.i, .int .i64 x.t, .bool x.re, .int .i64 x.c.p, .int .i64 x.c.q, .int .i64 x.c.r0, .int .i64 x.c.r1, .int .i64 x.c.r2, .int .i64 x.c.r3, .int .i64 x.c.r4, .int .i64 x.c.r5, .int .i64 x.c.r6, .int .i64 x.c.r7, .int .i64 x.c.d] I60 rfl (Blk.new _ _ 60) ?_)
  refine (tid (H.out.r.still ((Fr.refl _ _).alloc _)) x).mono ?_
  rintro e w1 ⟨rfl, s1⟩
  have S1 : Hid (Still w w1) := hid (((Fr.refl _ _).alloc _).trans s1)
  have HB : Hid (Blk w1 w.heap.size [.int .i64 x.k, .int .i64 x.i, .int .i64 x.t, .bool x.re, .int .i64 x.c.p, .int .i64 x.c.q, .int .i64 x.c.r0, .int .i64 x.c.r1, .int .i64 x.c.r2, .int .i64 x.c.r3, .int .i64 x.c.r4, .int .i64 x.c.r5, .int .i64 x.c.r6, .int .i64 x.c.r7, .int .i64 x.c.d] 60) := hid ((Blk.new w _ 60).still s1)
  have H1 := hid (H.out.still S1.out)
  have a0 : w1.cell? ⟨w.heap.size, 0, none⟩ = some (.int .i64 x.k) := HB.out.cell 0
  have a2 : w1.cell? ⟨w.heap.size, 2, none⟩ = some (.int .i64 x.t) := HB.out.cell 2
  have Z1 := hid S1.out.size
  obtain ⟨id, hid0⟩ : ∃ id, idT L x = id := ⟨_, rfl⟩
  have HID := hid hid0
  rw [hid0] at WI ⊢
  clear s1 hid0
  have TV := hid (H.out.v.spawn x.c x.t)
  obtain ⟨sv, hsv⟩ : ∃ v, spV s x.t = v := ⟨_, rfl⟩
  obtain ⟨se, hse⟩ : ∃ v, spE s x.t = v := ⟨_, rfl⟩
  have HSV := hid hsv
  have HSE := hid hse
  clear hsv hse
  go_wp2_with (refine wpList_loadB rfl (.tmp 21) 58 rfl _ Tryd.underlying58 rfl _ 4 60 [.int .i64 x.k, .int .i64 x.i, .int .i64 x.t, .bool x.re, .int .i64 x.c.p, .int .i64 x.c.q, .int .i64 x.c.r0, .int .i64 x.c.r1, .int .i64 x.c.r2, .int .i64 x.c.r3, .int .i64 x.c.r4, .int .i64 x.c.r5, .int .i64 x.c.r6, .int .i64 x.c.r7, .int .i64 x.c.d] [.int .i64 x.c.p, .int .i64 x.c.q, .int .i64 x.c.r0, .int .i64 x.c.r1, .int .i64 x.c.r2, .int .i64 x.c.r3, .int .i64 x.c.r4, .int .i64 x.c.r5, .int .i64 x.c.r6, .int .i64 x.c.r7, .int .i64 x.c.d] I58 rfl HB.out rfl ?_)
  refine (tspawn H1.out.t LN.out H.out.v.i (HT.out.still S1.out) H7.out x.c x.t).mono ?_
  rintro e w2 ⟨he, t2, f2⟩
  rw [HSV.out, HSE.out] at he
  subst he
  have T2 := hid t2
  have F2 : Hid (Fr KB.own w1 w2) := hid f2
  have HB2 : Hid (Blk w2 w.heap.size [.int .i64 x.k, .int .i64 x.i, .int .i64 x.t, .bool x.re, .int .i64 x.c.p, .int .i64 x.c.q, .int .i64 x.c.r0, .int .i64 x.c.r1, .int .i64 x.c.r2, .int .i64 x.c.r3, .int .i64 x.c.r4, .int .i64 x.c.r5, .int .i64 x.c.r6, .int .i64 x.c.r7, .int .i64 x.c.d] 60) := hid (HB.out.fr f2 (fun e => by have := H.out.lt _ (.inl e); omega))
  have b2 : w2.cell? ⟨w.heap.size, 2, none⟩ = some (.int .i64 x.t) := HB2.out.cell 2
  clear t2 f2
  go_wp2_with (refine wpList_loadB rfl (.tmp 30) 58 rfl _ Tryd.underlying58 rfl _ 4 60 [.int .i64 x.k, .int .i64 x.i, .int .i64 x.t, .bool x.re, .int .i64 x.c.p, .int .i64 x.c.q, .int .i64 x.c.r0, .int .i64 x.c.r1, .int .i64 x.c.r2, .int .i64 x.c.r3, .int .i64 x.c.r4, .int .i64 x.c.r5, .int .i64 x.c.r6, .int .i64 x.c.r7, .int .i64 x.c.d] [.int .i64 x.c.p, .int .i64 x.c.q, .int .i64 x.c.r0, .int .i64 x.c.r1, .int .i64 x.c.r2, .int .i64 x.c.r3, .int .i64 x.c.r4, .int .i64 x.c.r5, .int .i64 x.c.r6, .int .i64 x.c.r7, .int .i64 x.c.d] I58 rfl HB2.out rfl ?_)
  refine (rspawn (H1.out.rfr F2.out) H.out.v.i (by have := H.out.v.len; omega) (fun ht => H.out.v.new ht) x.c x.t).mono ?_
  rintro e w3 ⟨he, r3, f3⟩
  rw [HSV.out, HSE.out] at he
  subst he
  have R3 := hid r3
  have F3 : Hid (Fr O w2 w3) := hid f3
  clear r3 f3
  have FT := hid (H1.out.step T2.out F2.out R3.out F3.out TV.out)
  go_wp2_with fail
  go_ret
  exact ⟨rfl, H.out.back Z1.out (Nat.le_trans Z1.out FT.out.2.size) FT.out.1, (S1.out.fr _).trans FT.out.2⟩
set_option maxRecDepth 100000 in
set_option maxHeartbeats 8000000 in
theorem tact3 (h : TwoT w KB O s L) (hT : TabD w) (hC : TabT w) (x : LAct) (wx : (Lit.int .i64 x.i).wf = true) (hk : x.k = 3) : Calls Tryd.prog 41 #[.pointer (some ⟨KB.P, 0, none⟩), .pointer (some ⟨KB.Q, 0, none⟩), (Value.agg #[.int .i64 x.k, .int .i64 x.i, .int .i64 x.t, .bool x.re, .int .i64 x.c.p, .int .i64 x.c.q, .int .i64 x.c.r0, .int .i64 x.c.r1, .int .i64 x.c.r2, .int .i64 x.c.r3, .int .i64 x.c.r4, .int .i64 x.c.r5, .int .i64 x.c.r6, .int .i64 x.c.r7, .int .i64 x.c.d])] w (ActPost w KB O (s) (turnL L (idT L x) 2 2)) := by
  have e0 : (x.k == 0) = false := by simp [hk]
  have e1 : (x.k == 1) = false := by simp [hk]
  have e2 : (x.k == 2) = false := by simp [hk]
  have e3 : (x.k == 3) = true := by simp [hk]
  have e4 : (x.k == 4) = false := by simp [hk]
  have e5 : (x.k == 5) = false := by simp [hk]
  have e6 : (x.k == 6) = false := by simp [hk]
  have e7 : (x.k == 7) = false := by simp [hk]
  have e8 : (x.k == 8) = false := by simp [hk]
  have e9 : (x.k == 9) = false := by simp [hk]
  have H := hid h
  have HT := hid hT
  have HC := hid hC
  have WI := hid (idT_wf h.v x wx)
  have LN := hid (show L.length < maxLen by have := h.v.len; unfold maxLen; omega)
  have H7 : Hid (¬ KB.B.foot 7) := hid (fun e => by have := h.h8 7 (.inl (.inl e)); omega)
  clear h hT hC wx hk
  unfold ActPost
  go_enter Tryd.func41, Tryd.ntmps41
  go_wp2_with (refine wpList_loadW rfl (.tmp 5) 60 rfl _ Tryd.underlying60 rfl _ 60 [.int .i64 x.k, .int .i64 x.i, .int .i64 x.t, .bool x.re, .int .i64 x.c.p, .int .i64 x.c.q, .int .i64 x.c.r0, .int .i64 x.c.r1, .int .i64 x.c.r2, .int .i64 x.c.r3, .int .i64 x.c.r4, .int .i64 x.c.r5, .int .i64 x.c.r6, .int .i64 x.c.r7, .int .i64 x.c.d] I60 rfl (Blk.new _ _ 60) ?_)
  refine (tid (H.out.r.still ((Fr.refl _ _).alloc _)) x).mono ?_
  rintro e w1 ⟨rfl, s1⟩
  have S1 : Hid (Still w w1) := hid (((Fr.refl _ _).alloc _).trans s1)
  have HB : Hid (Blk w1 w.heap.size [.int .i64 x.k, .int .i64 x.i, .int .i64 x.t, .bool x.re, .int .i64 x.c.p, .int .i64 x.c.q, .int .i64 x.c.r0, .int .i64 x.c.r1, .int .i64 x.c.r2, .int .i64 x.c.r3, .int .i64 x.c.r4, .int .i64 x.c.r5, .int .i64 x.c.r6, .int .i64 x.c.r7, .int .i64 x.c.d] 60) := hid ((Blk.new w _ 60).still s1)
  have H1 := hid (H.out.still S1.out)
  have a0 : w1.cell? ⟨w.heap.size, 0, none⟩ = some (.int .i64 x.k) := HB.out.cell 0
  have a2 : w1.cell? ⟨w.heap.size, 2, none⟩ = some (.int .i64 x.t) := HB.out.cell 2
  have Z1 := hid S1.out.size
  obtain ⟨id, hid0⟩ : ∃ id, idT L x = id := ⟨_, rfl⟩
  have HID := hid hid0
  rw [hid0] at WI ⊢
  clear s1 hid0
  have TV := hid (H.out.v.turn (fr := 2) (tz := 2) (by decide) (by decide) id)
  have TI := turn_is d_run H.out.v id 2
  obtain ⟨te, hte⟩ : ∃ v, turnE L id 2 = v := ⟨_, rfl⟩
  rw [hte] at TI
  have HTI := hid TI
  have HTE := hid hte
  clear TI hte
  go_wp2_with fail
  refine (trun H1.out.t LN.out (HC.out.still S1.out) id WI.out H.out.v.st).mono ?_
  rintro e w2 ⟨he, t2, f2⟩
  rw [HTE.out] at he
  subst he
  have T2 := hid t2
  have F2 : Hid (Fr KB.own w1 w2) := hid (f2.mono fun k _ hk => .inr hk)
  clear t2 f2
  go_wp2_with fail
  refine (rturn ((H1.out.rfr F2.out).still ((Fr.refl _ _).alloc _)) id 2 _ [1] (one_new w2 1 1) (by decide)).mono ?_
  rintro e w3 ⟨he, r3, f3⟩
  rw [← HTI.out.1] at he
  rw [← HTI.out.2] at r3
  subst he
  have R3 : Hid (RTAt w3 (upO O w2 w3) KB.Q KB.p KB.A KB.T KB.cA KB.cT s (turnL L id 2 2)) := hid r3.up0
  have F3 : Hid (Fr O w2 w3) := hid (((Fr.refl _ _).alloc _).trans f3)
  clear r3 f3
  have FT := hid (H1.out.step T2.out F2.out R3.out F3.out TV.out)
  go_wp2_with fail
  go_ret
  rw [HID.out]
  exact ⟨rfl, H.out.back Z1.out (Nat.le_trans Z1.out FT.out.2.size) FT.out.1, (S1.out.fr _).trans FT.out.2⟩
set_option maxRecDepth 100000 in
set_option maxHeartbeats 8000000 in
theorem tact4 (h : TwoT w KB O s L) (hT : TabD w) (hC : TabT w) (x : LAct) (wx : (Lit.int .i64 x.i).wf = true) (hk : x.k = 4) : Calls Tryd.prog 41 #[.pointer (some ⟨KB.P, 0, none⟩), .pointer (some ⟨KB.Q, 0, none⟩), (Value.agg #[.int .i64 x.k, .int .i64 x.i, .int .i64 x.t, .bool x.re, .int .i64 x.c.p, .int .i64 x.c.q, .int .i64 x.c.r0, .int .i64 x.c.r1, .int .i64 x.c.r2, .int .i64 x.c.r3, .int .i64 x.c.r4, .int .i64 x.c.r5, .int .i64 x.c.r6, .int .i64 x.c.r7, .int .i64 x.c.d])] w (ActPost w KB O (s) (turnL L (idT L x) 4 1)) := by
  have e0 : (x.k == 0) = false := by simp [hk]
  have e1 : (x.k == 1) = false := by simp [hk]
  have e2 : (x.k == 2) = false := by simp [hk]
  have e3 : (x.k == 3) = false := by simp [hk]
  have e4 : (x.k == 4) = true := by simp [hk]
  have e5 : (x.k == 5) = false := by simp [hk]
  have e6 : (x.k == 6) = false := by simp [hk]
  have e7 : (x.k == 7) = false := by simp [hk]
  have e8 : (x.k == 8) = false := by simp [hk]
  have e9 : (x.k == 9) = false := by simp [hk]
  have H := hid h
  have HT := hid hT
  have HC := hid hC
  have WI := hid (idT_wf h.v x wx)
  have LN := hid (show L.length < maxLen by have := h.v.len; unfold maxLen; omega)
  have H7 : Hid (¬ KB.B.foot 7) := hid (fun e => by have := h.h8 7 (.inl (.inl e)); omega)
  clear h hT hC wx hk
  unfold ActPost
  go_enter Tryd.func41, Tryd.ntmps41
  go_wp2_with (refine wpList_loadW rfl (.tmp 5) 60 rfl _ Tryd.underlying60 rfl _ 60 [.int .i64 x.k, .int .i64 x.i, .int .i64 x.t, .bool x.re, .int .i64 x.c.p, .int .i64 x.c.q, .int .i64 x.c.r0, .int .i64 x.c.r1, .int .i64 x.c.r2, .int .i64 x.c.r3, .int .i64 x.c.r4, .int .i64 x.c.r5, .int .i64 x.c.r6, .int .i64 x.c.r7, .int .i64 x.c.d] I60 rfl (Blk.new _ _ 60) ?_)
  refine (tid (H.out.r.still ((Fr.refl _ _).alloc _)) x).mono ?_
  rintro e w1 ⟨rfl, s1⟩
  have S1 : Hid (Still w w1) := hid (((Fr.refl _ _).alloc _).trans s1)
  have HB : Hid (Blk w1 w.heap.size [.int .i64 x.k, .int .i64 x.i, .int .i64 x.t, .bool x.re, .int .i64 x.c.p, .int .i64 x.c.q, .int .i64 x.c.r0, .int .i64 x.c.r1, .int .i64 x.c.r2, .int .i64 x.c.r3, .int .i64 x.c.r4, .int .i64 x.c.r5, .int .i64 x.c.r6, .int .i64 x.c.r7, .int .i64 x.c.d] 60) := hid ((Blk.new w _ 60).still s1)
  have H1 := hid (H.out.still S1.out)
  have a0 : w1.cell? ⟨w.heap.size, 0, none⟩ = some (.int .i64 x.k) := HB.out.cell 0
  have a2 : w1.cell? ⟨w.heap.size, 2, none⟩ = some (.int .i64 x.t) := HB.out.cell 2
  have Z1 := hid S1.out.size
  obtain ⟨id, hid0⟩ : ∃ id, idT L x = id := ⟨_, rfl⟩
  have HID := hid hid0
  rw [hid0] at WI ⊢
  clear s1 hid0
  have TV := hid (H.out.v.turn (fr := 4) (tz := 1) (by decide) (by decide) id)
  have TI := turn_is d_four H.out.v id 1
  obtain ⟨te, hte⟩ : ∃ v, turnE L id 4 = v := ⟨_, rfl⟩
  rw [hte] at TI
  have HTI := hid TI
  have HTE := hid hte
  clear TI hte
  go_wp2_with fail
  refine (tyield H1.out.t LN.out (HC.out.still S1.out) id WI.out H.out.v.st).mono ?_
  rintro e w2 ⟨he, t2, f2⟩
  rw [HTE.out] at he
  subst he
  have T2 := hid t2
  have F2 : Hid (Fr KB.own w1 w2) := hid (f2.mono fun k _ hk => .inr hk)
  clear t2 f2
  go_wp2_with fail
  refine (rturn ((H1.out.rfr F2.out).still ((Fr.refl _ _).alloc _)) id 1 _ [2] (one_new w2 2 1) (by decide)).mono ?_
  rintro e w3 ⟨he, r3, f3⟩
  rw [← HTI.out.1] at he
  rw [← HTI.out.2] at r3
  subst he
  have R3 : Hid (RTAt w3 (upO O w2 w3) KB.Q KB.p KB.A KB.T KB.cA KB.cT s (turnL L id 4 1)) := hid r3.up0
  have F3 : Hid (Fr O w2 w3) := hid (((Fr.refl _ _).alloc _).trans f3)
  clear r3 f3
  have FT := hid (H1.out.step T2.out F2.out R3.out F3.out TV.out)
  go_wp2_with fail
  go_ret
  rw [HID.out]
  exact ⟨rfl, H.out.back Z1.out (Nat.le_trans Z1.out FT.out.2.size) FT.out.1, (S1.out.fr _).trans FT.out.2⟩
set_option maxRecDepth 100000 in
set_option maxHeartbeats 8000000 in
theorem tact5 (h : TwoT w KB O s L) (hT : TabD w) (hC : TabT w) (x : LAct) (wx : (Lit.int .i64 x.i).wf = true) (hk : x.k = 5) : Calls Tryd.prog 41 #[.pointer (some ⟨KB.P, 0, none⟩), .pointer (some ⟨KB.Q, 0, none⟩), (Value.agg #[.int .i64 x.k, .int .i64 x.i, .int .i64 x.t, .bool x.re, .int .i64 x.c.p, .int .i64 x.c.q, .int .i64 x.c.r0, .int .i64 x.c.r1, .int .i64 x.c.r2, .int .i64 x.c.r3, .int .i64 x.c.r4, .int .i64 x.c.r5, .int .i64 x.c.r6, .int .i64 x.c.r7, .int .i64 x.c.d])] w (ActPost w KB O (s) (turnL L (idT L x) 4 3)) := by
  have e0 : (x.k == 0) = false := by simp [hk]
  have e1 : (x.k == 1) = false := by simp [hk]
  have e2 : (x.k == 2) = false := by simp [hk]
  have e3 : (x.k == 3) = false := by simp [hk]
  have e4 : (x.k == 4) = false := by simp [hk]
  have e5 : (x.k == 5) = true := by simp [hk]
  have e6 : (x.k == 6) = false := by simp [hk]
  have e7 : (x.k == 7) = false := by simp [hk]
  have e8 : (x.k == 8) = false := by simp [hk]
  have e9 : (x.k == 9) = false := by simp [hk]
  have H := hid h
  have HT := hid hT
  have HC := hid hC
  have WI := hid (idT_wf h.v x wx)
  have LN := hid (show L.length < maxLen by have := h.v.len; unfold maxLen; omega)
  have H7 : Hid (¬ KB.B.foot 7) := hid (fun e => by have := h.h8 7 (.inl (.inl e)); omega)
  clear h hT hC wx hk
  unfold ActPost
  go_enter Tryd.func41, Tryd.ntmps41
  go_wp2_with (refine wpList_loadW rfl (.tmp 5) 60 rfl _ Tryd.underlying60 rfl _ 60 [.int .i64 x.k, .int .i64 x.i, .int .i64 x.t, .bool x.re, .int .i64 x.c.p, .int .i64 x.c.q, .int .i64 x.c.r0, .int .i64 x.c.r1, .int .i64 x.c.r2, .int .i64 x.c.r3, .int .i64 x.c.r4, .int .i64 x.c.r5, .int .i64 x.c.r6, .int .i64 x.c.r7, .int .i64 x.c.d] I60 rfl (Blk.new _ _ 60) ?_)
  refine (tid (H.out.r.still ((Fr.refl _ _).alloc _)) x).mono ?_
  rintro e w1 ⟨rfl, s1⟩
  have S1 : Hid (Still w w1) := hid (((Fr.refl _ _).alloc _).trans s1)
  have HB : Hid (Blk w1 w.heap.size [.int .i64 x.k, .int .i64 x.i, .int .i64 x.t, .bool x.re, .int .i64 x.c.p, .int .i64 x.c.q, .int .i64 x.c.r0, .int .i64 x.c.r1, .int .i64 x.c.r2, .int .i64 x.c.r3, .int .i64 x.c.r4, .int .i64 x.c.r5, .int .i64 x.c.r6, .int .i64 x.c.r7, .int .i64 x.c.d] 60) := hid ((Blk.new w _ 60).still s1)
  have H1 := hid (H.out.still S1.out)
  have a0 : w1.cell? ⟨w.heap.size, 0, none⟩ = some (.int .i64 x.k) := HB.out.cell 0
  have a2 : w1.cell? ⟨w.heap.size, 2, none⟩ = some (.int .i64 x.t) := HB.out.cell 2
  have Z1 := hid S1.out.size
  obtain ⟨id, hid0⟩ : ∃ id, idT L x = id := ⟨_, rfl⟩
  have HID := hid hid0
  rw [hid0] at WI ⊢
  clear s1 hid0
  have TV := hid (H.out.v.turn (fr := 4) (tz := 3) (by decide) (by decide) id)
  have TI := turn_is d_four H.out.v id 3
  obtain ⟨te, hte⟩ : ∃ v, turnE L id 4 = v := ⟨_, rfl⟩
  rw [hte] at TI
  have HTI := hid TI
  have HTE := hid hte
  clear TI hte
  go_wp2_with fail
  refine (twait H1.out.t LN.out (HC.out.still S1.out) id WI.out H.out.v.st).mono ?_
  rintro e w2 ⟨he, t2, f2⟩
  rw [HTE.out] at he
  subst he
  have T2 := hid t2
  have F2 : Hid (Fr KB.own w1 w2) := hid (f2.mono fun k _ hk => .inr hk)
  clear t2 f2
  go_wp2_with fail
  refine (rturn ((H1.out.rfr F2.out).still ((Fr.refl _ _).alloc _)) id 3 _ [2] (one_new w2 2 1) (by decide)).mono ?_
  rintro e w3 ⟨he, r3, f3⟩
  rw [← HTI.out.1] at he
  rw [← HTI.out.2] at r3
  subst he
  have R3 : Hid (RTAt w3 (upO O w2 w3) KB.Q KB.p KB.A KB.T KB.cA KB.cT s (turnL L id 4 3)) := hid r3.up0
  have F3 : Hid (Fr O w2 w3) := hid (((Fr.refl _ _).alloc _).trans f3)
  clear r3 f3
  have FT := hid (H1.out.step T2.out F2.out R3.out F3.out TV.out)
  go_wp2_with fail
  go_ret
  rw [HID.out]
  exact ⟨rfl, H.out.back Z1.out (Nat.le_trans Z1.out FT.out.2.size) FT.out.1, (S1.out.fr _).trans FT.out.2⟩
set_option maxRecDepth 100000 in
set_option maxHeartbeats 8000000 in
theorem tact6 (h : TwoT w KB O s L) (hT : TabD w) (hC : TabT w) (x : LAct) (wx : (Lit.int .i64 x.i).wf = true) (hk : x.k = 6) : Calls Tryd.prog 41 #[.pointer (some ⟨KB.P, 0, none⟩), .pointer (some ⟨KB.Q, 0, none⟩), (Value.agg #[.int .i64 x.k, .int .i64 x.i, .int .i64 x.t, .bool x.re, .int .i64 x.c.p, .int .i64 x.c.q, .int .i64 x.c.r0, .int .i64 x.c.r1, .int .i64 x.c.r2, .int .i64 x.c.r3, .int .i64 x.c.r4, .int .i64 x.c.r5, .int .i64 x.c.r6, .int .i64 x.c.r7, .int .i64 x.c.d])] w (ActPost w KB O (s) (turnL L (idT L x) 4 4)) := by
  have e0 : (x.k == 0) = false := by simp [hk]
  have e1 : (x.k == 1) = false := by simp [hk]
  have e2 : (x.k == 2) = false := by simp [hk]
  have e3 : (x.k == 3) = false := by simp [hk]
  have e4 : (x.k == 4) = false := by simp [hk]
  have e5 : (x.k == 5) = false := by simp [hk]
  have e6 : (x.k == 6) = true := by simp [hk]
  have e7 : (x.k == 7) = false := by simp [hk]
  have e8 : (x.k == 8) = false := by simp [hk]
  have e9 : (x.k == 9) = false := by simp [hk]
  have H := hid h
  have HT := hid hT
  have HC := hid hC
  have WI := hid (idT_wf h.v x wx)
  have LN := hid (show L.length < maxLen by have := h.v.len; unfold maxLen; omega)
  have H7 : Hid (¬ KB.B.foot 7) := hid (fun e => by have := h.h8 7 (.inl (.inl e)); omega)
  clear h hT hC wx hk
  unfold ActPost
  go_enter Tryd.func41, Tryd.ntmps41
  go_wp2_with (refine wpList_loadW rfl (.tmp 5) 60 rfl _ Tryd.underlying60 rfl _ 60 [.int .i64 x.k, .int .i64 x.i, .int .i64 x.t, .bool x.re, .int .i64 x.c.p, .int .i64 x.c.q, .int .i64 x.c.r0, .int .i64 x.c.r1, .int .i64 x.c.r2, .int .i64 x.c.r3, .int .i64 x.c.r4, .int .i64 x.c.r5, .int .i64 x.c.r6, .int .i64 x.c.r7, .int .i64 x.c.d] I60 rfl (Blk.new _ _ 60) ?_)
  refine (tid (H.out.r.still ((Fr.refl _ _).alloc _)) x).mono ?_
  rintro e w1 ⟨rfl, s1⟩
  have S1 : Hid (Still w w1) := hid (((Fr.refl _ _).alloc _).trans s1)
  have HB : Hid (Blk w1 w.heap.size [.int .i64 x.k, .int .i64 x.i, .int .i64 x.t, .bool x.re, .int .i64 x.c.p, .int .i64 x.c.q, .int .i64 x.c.r0, .int .i64 x.c.r1, .int .i64 x.c.r2, .int .i64 x.c.r3, .int .i64 x.c.r4, .int .i64 x.c.r5, .int .i64 x.c.r6, .int .i64 x.c.r7, .int .i64 x.c.d] 60) := hid ((Blk.new w _ 60).still s1)
  have H1 := hid (H.out.still S1.out)
  have a0 : w1.cell? ⟨w.heap.size, 0, none⟩ = some (.int .i64 x.k) := HB.out.cell 0
  have a2 : w1.cell? ⟨w.heap.size, 2, none⟩ = some (.int .i64 x.t) := HB.out.cell 2
  have Z1 := hid S1.out.size
  obtain ⟨id, hid0⟩ : ∃ id, idT L x = id := ⟨_, rfl⟩
  have HID := hid hid0
  rw [hid0] at WI ⊢
  clear s1 hid0
  have TV := hid (H.out.v.turn (fr := 4) (tz := 4) (by decide) (by decide) id)
  have TI := turn_is d_four H.out.v id 4
  obtain ⟨te, hte⟩ : ∃ v, turnE L id 4 = v := ⟨_, rfl⟩
  rw [hte] at TI
  have HTI := hid TI
  have HTE := hid hte
  clear TI hte
  go_wp2_with fail
  refine (ttrap H1.out.t LN.out (HC.out.still S1.out) id WI.out H.out.v.st).mono ?_
  rintro e w2 ⟨he, t2, f2⟩
  rw [HTE.out] at he
  subst he
  have T2 := hid t2
  have F2 : Hid (Fr KB.own w1 w2) := hid (f2.mono fun k _ hk => .inr hk)
  clear t2 f2
  go_wp2_with fail
  refine (rturn ((H1.out.rfr F2.out).still ((Fr.refl _ _).alloc _)) id 4 _ [2] (one_new w2 2 1) (by decide)).mono ?_
  rintro e w3 ⟨he, r3, f3⟩
  rw [← HTI.out.1] at he
  rw [← HTI.out.2] at r3
  subst he
  have R3 : Hid (RTAt w3 (upO O w2 w3) KB.Q KB.p KB.A KB.T KB.cA KB.cT s (turnL L id 4 4)) := hid r3.up0
  have F3 : Hid (Fr O w2 w3) := hid (((Fr.refl _ _).alloc _).trans f3)
  clear r3 f3
  have FT := hid (H1.out.step T2.out F2.out R3.out F3.out TV.out)
  go_wp2_with fail
  go_ret
  rw [HID.out]
  exact ⟨rfl, H.out.back Z1.out (Nat.le_trans Z1.out FT.out.2.size) FT.out.1, (S1.out.fr _).trans FT.out.2⟩
set_option maxRecDepth 100000 in
set_option maxHeartbeats 8000000 in
theorem tact7 (h : TwoT w KB O s L) (hT : TabD w) (hC : TabT w) (x : LAct) (wx : (Lit.int .i64 x.i).wf = true) (hk : x.k = 7) : Calls Tryd.prog 41 #[.pointer (some ⟨KB.P, 0, none⟩), .pointer (some ⟨KB.Q, 0, none⟩), (Value.agg #[.int .i64 x.k, .int .i64 x.i, .int .i64 x.t, .bool x.re, .int .i64 x.c.p, .int .i64 x.c.q, .int .i64 x.c.r0, .int .i64 x.c.r1, .int .i64 x.c.r2, .int .i64 x.c.r3, .int .i64 x.c.r4, .int .i64 x.c.r5, .int .i64 x.c.r6, .int .i64 x.c.r7, .int .i64 x.c.d])] w (ActPost w KB O (s) (turnL L (idT L x) 24 1)) := by
  have e0 : (x.k == 0) = false := by simp [hk]
  have e1 : (x.k == 1) = false := by simp [hk]
  have e2 : (x.k == 2) = false := by simp [hk]
  have e3 : (x.k == 3) = false := by simp [hk]
  have e4 : (x.k == 4) = false := by simp [hk]
  have e5 : (x.k == 5) = false := by simp [hk]
  have e6 : (x.k == 6) = false := by simp [hk]
  have e7 : (x.k == 7) = true := by simp [hk]
  have e8 : (x.k == 8) = false := by simp [hk]
  have e9 : (x.k == 9) = false := by simp [hk]
  have H := hid h
  have HT := hid hT
  have HC := hid hC
  have WI := hid (idT_wf h.v x wx)
  have LN := hid (show L.length < maxLen by have := h.v.len; unfold maxLen; omega)
  have H7 : Hid (¬ KB.B.foot 7) := hid (fun e => by have := h.h8 7 (.inl (.inl e)); omega)
  clear h hT hC wx hk
  unfold ActPost
  go_enter Tryd.func41, Tryd.ntmps41
  go_wp2_with (refine wpList_loadW rfl (.tmp 5) 60 rfl _ Tryd.underlying60 rfl _ 60 [.int .i64 x.k, .int .i64 x.i, .int .i64 x.t, .bool x.re, .int .i64 x.c.p, .int .i64 x.c.q, .int .i64 x.c.r0, .int .i64 x.c.r1, .int .i64 x.c.r2, .int .i64 x.c.r3, .int .i64 x.c.r4, .int .i64 x.c.r5, .int .i64 x.c.r6, .int .i64 x.c.r7, .int .i64 x.c.d] I60 rfl (Blk.new _ _ 60) ?_)
  refine (tid (H.out.r.still ((Fr.refl _ _).alloc _)) x).mono ?_
  rintro e w1 ⟨rfl, s1⟩
  have S1 : Hid (Still w w1) := hid (((Fr.refl _ _).alloc _).trans s1)
  have HB : Hid (Blk w1 w.heap.size [.int .i64 x.k, .int .i64 x.i, .int .i64 x.t, .bool x.re, .int .i64 x.c.p, .int .i64 x.c.q, .int .i64 x.c.r0, .int .i64 x.c.r1, .int .i64 x.c.r2, .int .i64 x.c.r3, .int .i64 x.c.r4, .int .i64 x.c.r5, .int .i64 x.c.r6, .int .i64 x.c.r7, .int .i64 x.c.d] 60) := hid ((Blk.new w _ 60).still s1)
  have H1 := hid (H.out.still S1.out)
  have a0 : w1.cell? ⟨w.heap.size, 0, none⟩ = some (.int .i64 x.k) := HB.out.cell 0
  have a2 : w1.cell? ⟨w.heap.size, 2, none⟩ = some (.int .i64 x.t) := HB.out.cell 2
  have Z1 := hid S1.out.size
  obtain ⟨id, hid0⟩ : ∃ id, idT L x = id := ⟨_, rfl⟩
  have HID := hid hid0
  rw [hid0] at WI ⊢
  clear s1 hid0
  have TV := hid (H.out.v.turn (fr := 24) (tz := 1) (by decide) (by decide) id)
  have TI := turn_is d_wake H.out.v id 1
  obtain ⟨te, hte⟩ : ∃ v, turnE L id 24 = v := ⟨_, rfl⟩
  rw [hte] at TI
  have HTI := hid TI
  have HTE := hid hte
  clear TI hte
  go_wp2_with fail
  refine (twake H1.out.t LN.out (HC.out.still S1.out) id WI.out H.out.v.st).mono ?_
  rintro e w2 ⟨he, t2, f2⟩
  rw [HTE.out] at he
  subst he
  have T2 := hid t2
  have F2 : Hid (Fr KB.own w1 w2) := hid (f2.mono fun k _ hk => .inr hk)
  clear t2 f2
  go_wp2_with fail
  refine (rturn ((H1.out.rfr F2.out).still ((Fr.refl _ _).alloc _)) id 1 _ [3, 4] (two_new w2 3 4) (by decide)).mono ?_
  rintro e w3 ⟨he, r3, f3⟩
  rw [← HTI.out.1] at he
  rw [← HTI.out.2] at r3
  subst he
  have R3 : Hid (RTAt w3 (upO O w2 w3) KB.Q KB.p KB.A KB.T KB.cA KB.cT s (turnL L id 24 1)) := hid r3.up0
  have F3 : Hid (Fr O w2 w3) := hid (((Fr.refl _ _).alloc _).trans f3)
  clear r3 f3
  have FT := hid (H1.out.step T2.out F2.out R3.out F3.out TV.out)
  go_wp2_with fail
  go_ret
  rw [HID.out]
  exact ⟨rfl, H.out.back Z1.out (Nat.le_trans Z1.out FT.out.2.size) FT.out.1, (S1.out.fr _).trans FT.out.2⟩
set_option maxRecDepth 100000 in
set_option maxHeartbeats 8000000 in
theorem tact8 (h : TwoT w KB O s L) (hT : TabD w) (hC : TabT w) (x : LAct) (wx : (Lit.int .i64 x.i).wf = true) (hk : x.k = 8) : Calls Tryd.prog 41 #[.pointer (some ⟨KB.P, 0, none⟩), .pointer (some ⟨KB.Q, 0, none⟩), (Value.agg #[.int .i64 x.k, .int .i64 x.i, .int .i64 x.t, .bool x.re, .int .i64 x.c.p, .int .i64 x.c.q, .int .i64 x.c.r0, .int .i64 x.c.r1, .int .i64 x.c.r2, .int .i64 x.c.r3, .int .i64 x.c.r4, .int .i64 x.c.r5, .int .i64 x.c.r6, .int .i64 x.c.r7, .int .i64 x.c.d])] w (ActPost w KB O (s) (turnL L (idT L x) 16 2)) := by
  have e0 : (x.k == 0) = false := by simp [hk]
  have e1 : (x.k == 1) = false := by simp [hk]
  have e2 : (x.k == 2) = false := by simp [hk]
  have e3 : (x.k == 3) = false := by simp [hk]
  have e4 : (x.k == 4) = false := by simp [hk]
  have e5 : (x.k == 5) = false := by simp [hk]
  have e6 : (x.k == 6) = false := by simp [hk]
  have e7 : (x.k == 7) = false := by simp [hk]
  have e8 : (x.k == 8) = true := by simp [hk]
  have e9 : (x.k == 9) = false := by simp [hk]
  have H := hid h
  have HT := hid hT
  have HC := hid hC
  have WI := hid (idT_wf h.v x wx)
  have LN := hid (show L.length < maxLen by have := h.v.len; unfold maxLen; omega)
  have H7 : Hid (¬ KB.B.foot 7) := hid (fun e => by have := h.h8 7 (.inl (.inl e)); omega)
  clear h hT hC wx hk
  unfold ActPost
  go_enter Tryd.func41, Tryd.ntmps41
  go_wp2_with (refine wpList_loadW rfl (.tmp 5) 60 rfl _ Tryd.underlying60 rfl _ 60 [.int .i64 x.k, .int .i64 x.i, .int .i64 x.t, .bool x.re, .int .i64 x.c.p, .int .i64 x.c.q, .int .i64 x.c.r0, .int .i64 x.c.r1, .int .i64 x.c.r2, .int .i64 x.c.r3, .int .i64 x.c.r4, .int .i64 x.c.r5, .int .i64 x.c.r6, .int .i64 x.c.r7, .int .i64 x.c.d] I60 rfl (Blk.new _ _ 60) ?_)
  refine (tid (H.out.r.still ((Fr.refl _ _).alloc _)) x).mono ?_
  rintro e w1 ⟨rfl, s1⟩
  have S1 : Hid (Still w w1) := hid (((Fr.refl _ _).alloc _).trans s1)
  have HB : Hid (Blk w1 w.heap.size [.int .i64 x.k, .int .i64 x.i, .int .i64 x.t, .bool x.re, .int .i64 x.c.p, .int .i64 x.c.q, .int .i64 x.c.r0, .int .i64 x.c.r1, .int .i64 x.c.r2, .int .i64 x.c.r3, .int .i64 x.c.r4, .int .i64 x.c.r5, .int .i64 x.c.r6, .int .i64 x.c.r7, .int .i64 x.c.d] 60) := hid ((Blk.new w _ 60).still s1)
  have H1 := hid (H.out.still S1.out)
  have a0 : w1.cell? ⟨w.heap.size, 0, none⟩ = some (.int .i64 x.k) := HB.out.cell 0
  have a2 : w1.cell? ⟨w.heap.size, 2, none⟩ = some (.int .i64 x.t) := HB.out.cell 2
  have Z1 := hid S1.out.size
  obtain ⟨id, hid0⟩ : ∃ id, idT L x = id := ⟨_, rfl⟩
  have HID := hid hid0
  rw [hid0] at WI ⊢
  clear s1 hid0
  have TV := hid (H.out.v.turn (fr := 16) (tz := 2) (by decide) (by decide) id)
  have TI := turn_is d_back H.out.v id 2
  obtain ⟨te, hte⟩ : ∃ v, turnE L id 16 = v := ⟨_, rfl⟩
  rw [hte] at TI
  have HTI := hid TI
  have HTE := hid hte
  clear TI hte
  go_wp2_with fail
  refine (tback H1.out.t LN.out (HC.out.still S1.out) id WI.out H.out.v.st).mono ?_
  rintro e w2 ⟨he, t2, f2⟩
  rw [HTE.out] at he
  subst he
  have T2 := hid t2
  have F2 : Hid (Fr KB.own w1 w2) := hid (f2.mono fun k _ hk => .inr hk)
  clear t2 f2
  go_wp2_with fail
  refine (rturn ((H1.out.rfr F2.out).still ((Fr.refl _ _).alloc _)) id 2 _ [4] (one_new w2 4 1) (by decide)).mono ?_
  rintro e w3 ⟨he, r3, f3⟩
  rw [← HTI.out.1] at he
  rw [← HTI.out.2] at r3
  subst he
  have R3 : Hid (RTAt w3 (upO O w2 w3) KB.Q KB.p KB.A KB.T KB.cA KB.cT s (turnL L id 16 2)) := hid r3.up0
  have F3 : Hid (Fr O w2 w3) := hid (((Fr.refl _ _).alloc _).trans f3)
  clear r3 f3
  have FT := hid (H1.out.step T2.out F2.out R3.out F3.out TV.out)
  go_wp2_with fail
  go_ret
  rw [HID.out]
  exact ⟨rfl, H.out.back Z1.out (Nat.le_trans Z1.out FT.out.2.size) FT.out.1, (S1.out.fr _).trans FT.out.2⟩
set_option maxRecDepth 100000 in
set_option maxHeartbeats 8000000 in
theorem tact9 (h : TwoT w KB O s L) (hT : TabD w) (hC : TabT w) (x : LAct) (wx : (Lit.int .i64 x.i).wf = true) (hk : x.k = 9) : Calls Tryd.prog 41 #[.pointer (some ⟨KB.P, 0, none⟩), .pointer (some ⟨KB.Q, 0, none⟩), (Value.agg #[.int .i64 x.k, .int .i64 x.i, .int .i64 x.t, .bool x.re, .int .i64 x.c.p, .int .i64 x.c.q, .int .i64 x.c.r0, .int .i64 x.c.r1, .int .i64 x.c.r2, .int .i64 x.c.r3, .int .i64 x.c.r4, .int .i64 x.c.r5, .int .i64 x.c.r6, .int .i64 x.c.r7, .int .i64 x.c.d])] w (ActPost w KB O (endS s L (idT L x)) (endL L (idT L x))) := by
  have e0 : (x.k == 0) = false := by simp [hk]
  have e1 : (x.k == 1) = false := by simp [hk]
  have e2 : (x.k == 2) = false := by simp [hk]
  have e3 : (x.k == 3) = false := by simp [hk]
  have e4 : (x.k == 4) = false := by simp [hk]
  have e5 : (x.k == 5) = false := by simp [hk]
  have e6 : (x.k == 6) = false := by simp [hk]
  have e7 : (x.k == 7) = false := by simp [hk]
  have e8 : (x.k == 8) = false := by simp [hk]
  have e9 : (x.k == 9) = true := by simp [hk]
  have H := hid h
  have HT := hid hT
  have HC := hid hC
  have WI := hid (idT_wf h.v x wx)
  have LN := hid (show L.length < maxLen by have := h.v.len; unfold maxLen; omega)
  have H7 : Hid (¬ KB.B.foot 7) := hid (fun e => by have := h.h8 7 (.inl (.inl e)); omega)
  clear h hT hC wx hk
  unfold ActPost
  go_enter Tryd.func41, Tryd.ntmps41
  go_wp2_with (refine wpList_loadW rfl (.tmp 5) 60 rfl _ Tryd.underlying60 rfl _ 60 [.int .i64 x.k, .int .i64 x.i, .int .i64 x.t, .bool x.re, .int .i64 x.c.p, .int .i64 x.c.q, .int .i64 x.c.r0, .int .i64 x.c.r1, .int .i64 x.c.r2, .int .i64 x.c.r3, .int .i64 x.c.r4, .int .i64 x.c.r5, .int .i64 x.c.r6, .int .i64 x.c.r7, .int .i64 x.c.d] I60 rfl (Blk.new _ _ 60) ?_)
  refine (tid (H.out.r.still ((Fr.refl _ _).alloc _)) x).mono ?_
  rintro e w1 ⟨rfl, s1⟩
  have S1 : Hid (Still w w1) := hid (((Fr.refl _ _).alloc _).trans s1)
  have HB : Hid (Blk w1 w.heap.size [.int .i64 x.k, .int .i64 x.i, .int .i64 x.t, .bool x.re, .int .i64 x.c.p, .int .i64 x.c.q, .int .i64 x.c.r0, .int .i64 x.c.r1, .int .i64 x.c.r2, .int .i64 x.c.r3, .int .i64 x.c.r4, .int .i64 x.c.r5, .int .i64 x.c.r6, .int .i64 x.c.r7, .int .i64 x.c.d] 60) := hid ((Blk.new w _ 60).still s1)
  have H1 := hid (H.out.still S1.out)
  have a0 : w1.cell? ⟨w.heap.size, 0, none⟩ = some (.int .i64 x.k) := HB.out.cell 0
  have a2 : w1.cell? ⟨w.heap.size, 2, none⟩ = some (.int .i64 x.t) := HB.out.cell 2
  have Z1 := hid S1.out.size
  obtain ⟨id, hid0⟩ : ∃ id, idT L x = id := ⟨_, rfl⟩
  have HID := hid hid0
  rw [hid0] at WI ⊢
  clear s1 hid0
  have TS := H.out.v.stop id
  have TV := hid TS.1
  obtain ⟨te, hte⟩ : ∃ v, endE s L id = v := ⟨_, rfl⟩
  have TE := TS.2
  rw [hte] at TE
  have HTI := hid TE
  have HTE := hid hte
  clear TS TE hte
  go_wp2_with fail
  refine (tend H1.out.t H.out.v.i id WI.out).mono ?_
  rintro e w2 ⟨he, t2, f2⟩
  rw [HTE.out] at he
  subst he
  have T2 := hid t2
  have F2 : Hid (Fr KB.own w1 w2) := hid (f2.mono fun k _ hk => hk.elim .inr (fun e => .inl (.inl e)))
  clear t2 f2
  go_wp2_with fail
  refine (rend (H1.out.rfr F2.out) id (wf_in WI.out)).mono ?_
  rintro e w3 ⟨he, r3, f3⟩
  rw [← HTI.out] at he
  subst he
  have R3 := hid r3
  have F3 : Hid (Fr O w2 w3) := hid f3
  clear r3 f3
  have FT := hid (H1.out.step T2.out F2.out R3.out F3.out TV.out)
  go_wp2_with fail
  go_ret
  rw [HID.out]
  exact ⟨rfl, H.out.back Z1.out (Nat.le_trans Z1.out FT.out.2.size) FT.out.1, (S1.out.fr _).trans FT.out.2⟩
set_option maxRecDepth 100000 in
set_option maxHeartbeats 8000000 in
theorem tactN (h : TwoT w KB O s L) (hT : TabD w) (hC : TabT w) (x : LAct) (wx : (Lit.int .i64 x.i).wf = true) (hk : x.k ≠ 0 ∧ x.k ≠ 1 ∧ x.k ≠ 2 ∧ x.k ≠ 3 ∧ x.k ≠ 4 ∧ x.k ≠ 5 ∧ x.k ≠ 6 ∧ x.k ≠ 7 ∧ x.k ≠ 8 ∧ x.k ≠ 9) : Calls Tryd.prog 41 #[.pointer (some ⟨KB.P, 0, none⟩), .pointer (some ⟨KB.Q, 0, none⟩), (Value.agg #[.int .i64 x.k, .int .i64 x.i, .int .i64 x.t, .bool x.re, .int .i64 x.c.p, .int .i64 x.c.q, .int .i64 x.c.r0, .int .i64 x.c.r1, .int .i64 x.c.r2, .int .i64 x.c.r3, .int .i64 x.c.r4, .int .i64 x.c.r5, .int .i64 x.c.r6, .int .i64 x.c.r7, .int .i64 x.c.d])] w (ActPost w KB O (s) (L)) := by
  have e0 : (x.k == 0) = false := by simp [hk.1]
  have e1 : (x.k == 1) = false := by simp [hk.2.1]
  have e2 : (x.k == 2) = false := by simp [hk.2.2.1]
  have e3 : (x.k == 3) = false := by simp [hk.2.2.2.1]
  have e4 : (x.k == 4) = false := by simp [hk.2.2.2.2.1]
  have e5 : (x.k == 5) = false := by simp [hk.2.2.2.2.2.1]
  have e6 : (x.k == 6) = false := by simp [hk.2.2.2.2.2.2.1]
  have e7 : (x.k == 7) = false := by simp [hk.2.2.2.2.2.2.2.1]
  have e8 : (x.k == 8) = false := by simp [hk.2.2.2.2.2.2.2.2.1]
  have e9 : (x.k == 9) = false := by simp [hk.2.2.2.2.2.2.2.2.2]
  have H := hid h
  have HT := hid hT
  have HC := hid hC
  have WI := hid (idT_wf h.v x wx)
  have LN := hid (show L.length < maxLen by have := h.v.len; unfold maxLen; omega)
  have H7 : Hid (¬ KB.B.foot 7) := hid (fun e => by have := h.h8 7 (.inl (.inl e)); omega)
  clear h hT hC wx hk
  unfold ActPost
  go_enter Tryd.func41, Tryd.ntmps41
  go_wp2_with (refine wpList_loadW rfl (.tmp 5) 60 rfl _ Tryd.underlying60 rfl _ 60 [.int .i64 x.k, .int .i64 x.i, .int .i64 x.t, .bool x.re, .int .i64 x.c.p, .int .i64 x.c.q, .int .i64 x.c.r0, .int .i64 x.c.r1, .int .i64 x.c.r2, .int .i64 x.c.r3, .int .i64 x.c.r4, .int .i64 x.c.r5, .int .i64 x.c.r6, .int .i64 x.c.r7, .int .i64 x.c.d] I60 rfl (Blk.new _ _ 60) ?_)
  refine (tid (H.out.r.still ((Fr.refl _ _).alloc _)) x).mono ?_
  rintro e w1 ⟨rfl, s1⟩
  have S1 : Hid (Still w w1) := hid (((Fr.refl _ _).alloc _).trans s1)
  have HB : Hid (Blk w1 w.heap.size [.int .i64 x.k, .int .i64 x.i, .int .i64 x.t, .bool x.re, .int .i64 x.c.p, .int .i64 x.c.q, .int .i64 x.c.r0, .int .i64 x.c.r1, .int .i64 x.c.r2, .int .i64 x.c.r3, .int .i64 x.c.r4, .int .i64 x.c.r5, .int .i64 x.c.r6, .int .i64 x.c.r7, .int .i64 x.c.d] 60) := hid ((Blk.new w _ 60).still s1)
  have H1 := hid (H.out.still S1.out)
  have a0 : w1.cell? ⟨w.heap.size, 0, none⟩ = some (.int .i64 x.k) := HB.out.cell 0
  have a2 : w1.cell? ⟨w.heap.size, 2, none⟩ = some (.int .i64 x.t) := HB.out.cell 2
  have Z1 := hid S1.out.size
  obtain ⟨id, hid0⟩ : ∃ id, idT L x = id := ⟨_, rfl⟩
  have HID := hid hid0
  rw [hid0] at WI ⊢
  clear s1 hid0
  go_wp2_with fail
  go_ret
  exact ⟨rfl, H.out.idle S1.out, S1.out.fr _⟩
set_option maxRecDepth 100000 in
set_option maxHeartbeats 8000000 in
theorem tact1 (h : TwoT w KB O s L) (hT : TabD w) (hC : TabT w) (x : LAct) (wx : (Lit.int .i64 x.i).wf = true) (hk : x.k = 1) : Calls Tryd.prog 41 #[.pointer (some ⟨KB.P, 0, none⟩), .pointer (some ⟨KB.Q, 0, none⟩), (Value.agg #[.int .i64 x.k, .int .i64 x.i, .int .i64 x.t, .bool x.re, .int .i64 x.c.p, .int .i64 x.c.q, .int .i64 x.c.r0, .int .i64 x.c.r1, .int .i64 x.c.r2, .int .i64 x.c.r3, .int .i64 x.c.r4, .int .i64 x.c.r5, .int .i64 x.c.r6, .int .i64 x.c.r7, .int .i64 x.c.d])] w (ActPost w KB O (s) (updT L (idT L x) (fun y => { y with c := x.c }))) := by
  have e0 : (x.k == 0) = false := by simp [hk]
  have e1 : (x.k == 1) = true := by simp [hk]
  have e2 : (x.k == 2) = false := by simp [hk]
  have e3 : (x.k == 3) = false := by simp [hk]
  have e4 : (x.k == 4) = false := by simp [hk]
  have e5 : (x.k == 5) = false := by simp [hk]
  have e6 : (x.k == 6) = false := by simp [hk]
  have e7 : (x.k == 7) = false := by simp [hk]
  have e8 : (x.k == 8) = false := by simp [hk]
  have e9 : (x.k == 9) = false := by simp [hk]
  have H := hid h
  have HT := hid hT
  have HC := hid hC
  have WI := hid (idT_wf h.v x wx)
  have LN := hid (show L.length < maxLen by have := h.v.len; unfold maxLen; omega)
  have H7 : Hid (¬ KB.B.foot 7) := hid (fun e => by have := h.h8 7 (.inl (.inl e)); omega)
  clear h hT hC wx hk
  unfold ActPost
  go_enter Tryd.func41, Tryd.ntmps41
  go_wp2_with (refine wpList_loadW rfl (.tmp 5) 60 rfl _ Tryd.underlying60 rfl _ 60 [.int .i64 x.k, .int .i64 x.i, .int .i64 x.t, .bool x.re, .int .i64 x.c.p, .int .i64 x.c.q, .int .i64 x.c.r0, .int .i64 x.c.r1, .int .i64 x.c.r2, .int .i64 x.c.r3, .int .i64 x.c.r4, .int .i64 x.c.r5, .int .i64 x.c.r6, .int .i64 x.c.r7, .int .i64 x.c.d] I60 rfl (Blk.new _ _ 60) ?_)
  refine (tid (H.out.r.still ((Fr.refl _ _).alloc _)) x).mono ?_
  rintro e w1 ⟨rfl, s1⟩
  have S1 : Hid (Still w w1) := hid (((Fr.refl _ _).alloc _).trans s1)
  have HB : Hid (Blk w1 w.heap.size [.int .i64 x.k, .int .i64 x.i, .int .i64 x.t, .bool x.re, .int .i64 x.c.p, .int .i64 x.c.q, .int .i64 x.c.r0, .int .i64 x.c.r1, .int .i64 x.c.r2, .int .i64 x.c.r3, .int .i64 x.c.r4, .int .i64 x.c.r5, .int .i64 x.c.r6, .int .i64 x.c.r7, .int .i64 x.c.d] 60) := hid ((Blk.new w _ 60).still s1)
  have H1 := hid (H.out.still S1.out)
  have a0 : w1.cell? ⟨w.heap.size, 0, none⟩ = some (.int .i64 x.k) := HB.out.cell 0
  have a2 : w1.cell? ⟨w.heap.size, 2, none⟩ = some (.int .i64 x.t) := HB.out.cell 2
  have Z1 := hid S1.out.size
  obtain ⟨id, hid0⟩ : ∃ id, idT L x = id := ⟨_, rfl⟩
  have HID := hid hid0
  rw [hid0] at WI ⊢
  clear s1 hid0
  have TV := hid (H.out.v.upd id (fun y => { y with c := x.c }) (fun _ => rfl) (fun y hy => H.out.v.st y hy))
  obtain ⟨te, hte⟩ : ∃ v, fndE L id = v := ⟨_, rfl⟩
  have HTE := hid hte
  clear hte
  go_wp2_with fail
  have RX := rangeL HB.out
  refine Held.wp_region_held_tail (S := (fun w' => w'.rangeAt w.heap.size 4 [.int .i64 x.c.p, .int .i64 x.c.q, .int .i64 x.c.r0, .int .i64 x.c.r1, .int .i64 x.c.r2, .int .i64 x.c.r3, .int .i64 x.c.r4, .int .i64 x.c.r5, .int .i64 x.c.r6, .int .i64 x.c.r7, .int .i64 x.c.d])) 11 (by kernel_rfl) (by kernel_rfl) (by decide) ?hS1 (fun hHeld => ?hR1)
  case hS1 =>
    exact RX
  simp only [List.take_succ_cons, List.take_zero, List.drop_succ_cons, List.drop_zero]
  refine wpAnyH_take (i := 2) (oi := _) (v := ?v2) rfl (by kernel_rfl) (by kernel_rfl) (by kernel_rfl) (fun _ _ _ h => h) (Or.inl ⟨by rfl, ?y2⟩) (by assumption) ?r2
  case y2 => ((intro w hSw); (try dsimp only at hSw); go_simp; (try with_reducible rfl))
  (try simp only [Act.put, List.setIfInBounds_toArray, List.set_cons_zero, List.set_cons_succ])
  refine wpAnyH_take (i := 3) (oi := _) (v := (Value.agg #[.int .i64 x.c.p, .int .i64 x.c.q, .int .i64 x.c.r0, .int .i64 x.c.r1, .int .i64 x.c.r2, .int .i64 x.c.r3, .int .i64 x.c.r4, .int .i64 x.c.r5, .int .i64 x.c.r6, .int .i64 x.c.r7, .int .i64 x.c.d])) rfl (by kernel_rfl) (by kernel_rfl) (by kernel_rfl) (fun _ _ _ h => h) (yieldsIf_load_mid rfl 58 _ rfl w.heap.size 4 rfl [.int .i64 x.c.p, .int .i64 x.c.q, .int .i64 x.c.r0, .int .i64 x.c.r1, .int .i64 x.c.r2, .int .i64 x.c.r3, .int .i64 x.c.r4, .int .i64 x.c.r5, .int .i64 x.c.r6, .int .i64 x.c.r7, .int .i64 x.c.d] _ (fun w h => h) Tryd.underlying58 rfl I58) (by assumption) ?rM1
  simp only [Act.put, List.getElem_toArray, List.getElem_cons_zero, List.getElem_cons_succ, List.setIfInBounds_toArray, List.set_cons_zero, List.set_cons_succ]
  refine wpAnyH_take (i := 7) (oi := _) (v := ?v3) rfl (by kernel_rfl) (by kernel_rfl) (by kernel_rfl) (fun _ _ _ h => h) (Or.inl ⟨by rfl, ?y3⟩) (by assumption) ?r3
  case y3 => ((intro w hSw); (try dsimp only at hSw); go_simp; (try with_reducible rfl))
  (try simp only [Act.put, List.setIfInBounds_toArray, List.set_cons_zero, List.set_cons_succ])
  simp only [Act.put, List.getElem_toArray, List.getElem_cons_zero, List.getElem_cons_succ, List.setIfInBounds_toArray, List.set_cons_zero, List.set_cons_succ]
  refine wpAnyH_take (i := 8) (oi := _) (v := (Value.agg #[.int .i64 x.c.p, .int .i64 x.c.q, .int .i64 x.c.r0, .int .i64 x.c.r1, .int .i64 x.c.r2, .int .i64 x.c.r3, .int .i64 x.c.r4, .int .i64 x.c.r5, .int .i64 x.c.r6, .int .i64 x.c.r7, .int .i64 x.c.d])) rfl (by kernel_rfl) (by kernel_rfl) (by kernel_rfl) (fun _ _ _ h => h) (yieldsIf_load_mid rfl 58 _ rfl w.heap.size 4 rfl [.int .i64 x.c.p, .int .i64 x.c.q, .int .i64 x.c.r0, .int .i64 x.c.r1, .int .i64 x.c.r2, .int .i64 x.c.r3, .int .i64 x.c.r4, .int .i64 x.c.r5, .int .i64 x.c.r6, .int .i64 x.c.r7, .int .i64 x.c.d] _ (fun w h => h) Tryd.underlying58 rfl I58) (by assumption) ?rN1
  simp only [Act.put, List.getElem_toArray, List.getElem_cons_zero, List.getElem_cons_succ, List.setIfInBounds_toArray, List.set_cons_zero, List.set_cons_succ]
  refine wpAnyH_take (i := 0) (oi := _) (v := ?v4) rfl (by kernel_rfl) (by kernel_rfl) (by kernel_rfl) (fun _ _ _ h => h) (Or.inl ⟨by rfl, ?y4⟩) (by assumption) ?r4
  case y4 => ((intro w hSw); (try dsimp only at hSw); go_simp; (try with_reducible rfl))
  (try simp only [Act.put, List.setIfInBounds_toArray, List.set_cons_zero, List.set_cons_succ])
  refine wpAnyH_take (i := 1) (oi := _) (v := ?v5) rfl (by kernel_rfl) (by kernel_rfl) (by kernel_rfl) (fun _ _ _ h => h) (Or.inl ⟨by rfl, ?y5⟩) (by assumption) ?r5
  case y5 => ((intro w hSw); (try dsimp only at hSw); go_simp; (try with_reducible rfl))
  (try simp only [Act.put, List.setIfInBounds_toArray, List.set_cons_zero, List.set_cons_succ])
  refine wpAnyH_take (i := 5) (oi := _) (v := ?v6) rfl (by kernel_rfl) (by kernel_rfl) (by kernel_rfl) (fun _ _ _ h => h) (Or.inl ⟨by rfl, ?y6⟩) (by assumption) ?r6
  case y6 => ((intro w hSw); (try dsimp only at hSw); go_simp; (try with_reducible rfl))
  (try simp only [Act.put, List.setIfInBounds_toArray, List.set_cons_zero, List.set_cons_succ])
  refine wpAnyH_take (i := 6) (oi := _) (v := ?v7) rfl (by kernel_rfl) (by kernel_rfl) (by kernel_rfl) (fun _ _ _ h => h) (Or.inl ⟨by rfl, ?y7⟩) (by assumption) ?r7
  case y7 => ((intro w hSw); (try dsimp only at hSw); go_simp; (try with_reducible rfl))
  (try simp only [Act.put, List.setIfInBounds_toArray, List.set_cons_zero, List.set_cons_succ])
  refine wpAnyH_ready (rs := [4]) (by kernel_rfl) (by simp) ?_
  refine AllReadyH.cons rfl (fun K hK => ?st8) AllReadyH.nil
  go_simp
  go_at_call 60
  refine (tset (H1.out.t.still (by exact (Fr.refl _ _).drew)) LN.out id WI.out x.c).mono ?_
  rintro e w2 ⟨he, t2, f2⟩
  rw [HTE.out] at he
  subst he
  have T2 := hid t2
  have F2 : Hid (Fr KB.own w1 w2) := hid (((Fr.refl _ w1).drew).trans (f2.mono fun k _ hk => .inr hk))
  have B2 := hid (HB.out.fr F2.out (fun e => by have := H.out.lt _ (.inl e); omega))
  clear t2 f2
  refine hK.out _ _ ?k8 (fun hHeld8 => ?_)
  case k8 =>
    exact rangeL B2.out
  clear hK K
  (try simp only [Act.put, List.setIfInBounds_toArray, List.set_cons_zero, List.set_cons_succ])
  refine wpAnyH_ready (rs := [9]) (by kernel_rfl) (by simp) ?_
  refine AllReadyH.cons rfl (fun K hK => ?st9) AllReadyH.nil
  go_simp
  go_at_call 90
  refine (rset (H1.out.rfr F2.out) id x.c).mono ?_
  rintro e w3 ⟨he, r3, f3⟩
  rw [HTE.out] at he
  subst he
  have R3 : Hid (RTAt w3 (upO O w2 w3) KB.Q KB.p KB.A KB.T KB.cA KB.cT s (updT L id (fun y => { y with c := x.c }))) := hid r3.up0
  have F3 : Hid (Fr O w2 w3) := hid f3
  have B3 := hid (B2.out.fr f3 (fun e => by have := H.out.lt _ (.inr e); omega))
  clear r3 f3
  refine hK.out _ _ ?k9 (fun hHeld9 => ?_)
  case k9 =>
    exact rangeL B3.out
  clear hK K
  (try simp only [Act.put, List.setIfInBounds_toArray, List.set_cons_zero, List.set_cons_succ])
  refine wpAnyH_take (i := 10) (oi := _) (v := ?v10) rfl (by kernel_rfl) (by kernel_rfl) (by kernel_rfl) (fun _ _ _ h => h) (Or.inl ⟨by rfl, ?y10⟩) (by assumption) ?r10
  case y10 => ((intro w hSw); (try dsimp only at hSw); go_simp; (try with_reducible rfl))
  (try simp only [Act.put, List.setIfInBounds_toArray, List.set_cons_zero, List.set_cons_succ])
  refine wpAnyH_done (by kernel_rfl) (Held.tailQ_normal ?_) _
  have FT := hid (H1.out.step T2.out F2.out R3.out F3.out TV.out)
  go_wp2_with fail
  go_ret
  rw [HID.out]
  exact ⟨rfl, H.out.back Z1.out (Nat.le_trans Z1.out FT.out.2.size) FT.out.1, (S1.out.fr _).trans FT.out.2⟩
set_option maxRecDepth 100000 in
set_option maxHeartbeats 8000000 in
theorem tact2 (h : TwoT w KB O s L) (hT : TabD w) (hC : TabT w) (x : LAct) (wx : (Lit.int .i64 x.i).wf = true) (hk : x.k = 2) : Calls Tryd.prog 41 #[.pointer (some ⟨KB.P, 0, none⟩), .pointer (some ⟨KB.Q, 0, none⟩), (Value.agg #[.int .i64 x.k, .int .i64 x.i, .int .i64 x.t, .bool x.re, .int .i64 x.c.p, .int .i64 x.c.q, .int .i64 x.c.r0, .int .i64 x.c.r1, .int .i64 x.c.r2, .int .i64 x.c.r3, .int .i64 x.c.r4, .int .i64 x.c.r5, .int .i64 x.c.r6, .int .i64 x.c.r7, .int .i64 x.c.d])] w (ActPost w KB O (s) (updT L (idT L x) (fun y => { y with c := x.c, d := wrap64 (y.d + 1) }))) := by
  have e0 : (x.k == 0) = false := by simp [hk]
  have e1 : (x.k == 1) = false := by simp [hk]
  have e2 : (x.k == 2) = true := by simp [hk]
  have e3 : (x.k == 3) = false := by simp [hk]
  have e4 : (x.k == 4) = false := by simp [hk]
  have e5 : (x.k == 5) = false := by simp [hk]
  have e6 : (x.k == 6) = false := by simp [hk]
  have e7 : (x.k == 7) = false := by simp [hk]
  have e8 : (x.k == 8) = false := by simp [hk]
  have e9 : (x.k == 9) = false := by simp [hk]
  have H := hid h
  have HT := hid hT
  have HC := hid hC
  have WI := hid (idT_wf h.v x wx)
  have LN := hid (show L.length < maxLen by have := h.v.len; unfold maxLen; omega)
  have H7 : Hid (¬ KB.B.foot 7) := hid (fun e => by have := h.h8 7 (.inl (.inl e)); omega)
  clear h hT hC wx hk
  unfold ActPost
  go_enter Tryd.func41, Tryd.ntmps41
  go_wp2_with (refine wpList_loadW rfl (.tmp 5) 60 rfl _ Tryd.underlying60 rfl _ 60 [.int .i64 x.k, .int .i64 x.i, .int .i64 x.t, .bool x.re, .int .i64 x.c.p, .int .i64 x.c.q, .int .i64 x.c.r0, .int .i64 x.c.r1, .int .i64 x.c.r2, .int .i64 x.c.r3, .int .i64 x.c.r4, .int .i64 x.c.r5, .int .i64 x.c.r6, .int .i64 x.c.r7, .int .i64 x.c.d] I60 rfl (Blk.new _ _ 60) ?_)
  refine (tid (H.out.r.still ((Fr.refl _ _).alloc _)) x).mono ?_
  rintro e w1 ⟨rfl, s1⟩
  have S1 : Hid (Still w w1) := hid (((Fr.refl _ _).alloc _).trans s1)
  have HB : Hid (Blk w1 w.heap.size [.int .i64 x.k, .int .i64 x.i, .int .i64 x.t, .bool x.re, .int .i64 x.c.p, .int .i64 x.c.q, .int .i64 x.c.r0, .int .i64 x.c.r1, .int .i64 x.c.r2, .int .i64 x.c.r3, .int .i64 x.c.r4, .int .i64 x.c.r5, .int .i64 x.c.r6, .int .i64 x.c.r7, .int .i64 x.c.d] 60) := hid ((Blk.new w _ 60).still s1)
  have H1 := hid (H.out.still S1.out)
  have a0 : w1.cell? ⟨w.heap.size, 0, none⟩ = some (.int .i64 x.k) := HB.out.cell 0
  have a2 : w1.cell? ⟨w.heap.size, 2, none⟩ = some (.int .i64 x.t) := HB.out.cell 2
  have Z1 := hid S1.out.size
  obtain ⟨id, hid0⟩ : ∃ id, idT L x = id := ⟨_, rfl⟩
  have HID := hid hid0
  rw [hid0] at WI ⊢
  clear s1 hid0
  have TV := hid (H.out.v.upd id (fun y => { y with c := x.c, d := wrap64 (y.d + 1) }) (fun _ => rfl) (fun y hy => H.out.v.st y hy))
  obtain ⟨te, hte⟩ : ∃ v, fndE L id = v := ⟨_, rfl⟩
  have HTE := hid hte
  clear hte
  go_wp2_with fail
  have RX := rangeL HB.out
  refine Held.wp_region_held_tail (S := (fun w' => w'.rangeAt w.heap.size 4 [.int .i64 x.c.p, .int .i64 x.c.q, .int .i64 x.c.r0, .int .i64 x.c.r1, .int .i64 x.c.r2, .int .i64 x.c.r3, .int .i64 x.c.r4, .int .i64 x.c.r5, .int .i64 x.c.r6, .int .i64 x.c.r7, .int .i64 x.c.d])) 11 (by kernel_rfl) (by kernel_rfl) (by decide) ?hS11 (fun hHeld => ?hR11)
  case hS11 =>
    exact RX
  simp only [List.take_succ_cons, List.take_zero, List.drop_succ_cons, List.drop_zero]
  refine wpAnyH_take (i := 2) (oi := _) (v := ?v12) rfl (by kernel_rfl) (by kernel_rfl) (by kernel_rfl) (fun _ _ _ h => h) (Or.inl ⟨by rfl, ?y12⟩) (by assumption) ?r12
  case y12 => ((intro w hSw); (try dsimp only at hSw); go_simp; (try with_reducible rfl))
  (try simp only [Act.put, List.setIfInBounds_toArray, List.set_cons_zero, List.set_cons_succ])
  refine wpAnyH_take (i := 3) (oi := _) (v := (Value.agg #[.int .i64 x.c.p, .int .i64 x.c.q, .int .i64 x.c.r0, .int .i64 x.c.r1, .int .i64 x.c.r2, .int .i64 x.c.r3, .int .i64 x.c.r4, .int .i64 x.c.r5, .int .i64 x.c.r6, .int .i64 x.c.r7, .int .i64 x.c.d])) rfl (by kernel_rfl) (by kernel_rfl) (by kernel_rfl) (fun _ _ _ h => h) (yieldsIf_load_mid rfl 58 _ rfl w.heap.size 4 rfl [.int .i64 x.c.p, .int .i64 x.c.q, .int .i64 x.c.r0, .int .i64 x.c.r1, .int .i64 x.c.r2, .int .i64 x.c.r3, .int .i64 x.c.r4, .int .i64 x.c.r5, .int .i64 x.c.r6, .int .i64 x.c.r7, .int .i64 x.c.d] _ (fun w h => h) Tryd.underlying58 rfl I58) (by assumption) ?rM2
  simp only [Act.put, List.getElem_toArray, List.getElem_cons_zero, List.getElem_cons_succ, List.setIfInBounds_toArray, List.set_cons_zero, List.set_cons_succ]
  refine wpAnyH_take (i := 7) (oi := _) (v := ?v13) rfl (by kernel_rfl) (by kernel_rfl) (by kernel_rfl) (fun _ _ _ h => h) (Or.inl ⟨by rfl, ?y13⟩) (by assumption) ?r13
  case y13 => ((intro w hSw); (try dsimp only at hSw); go_simp; (try with_reducible rfl))
  (try simp only [Act.put, List.setIfInBounds_toArray, List.set_cons_zero, List.set_cons_succ])
  simp only [Act.put, List.getElem_toArray, List.getElem_cons_zero, List.getElem_cons_succ, List.setIfInBounds_toArray, List.set_cons_zero, List.set_cons_succ]
  refine wpAnyH_take (i := 8) (oi := _) (v := (Value.agg #[.int .i64 x.c.p, .int .i64 x.c.q, .int .i64 x.c.r0, .int .i64 x.c.r1, .int .i64 x.c.r2, .int .i64 x.c.r3, .int .i64 x.c.r4, .int .i64 x.c.r5, .int .i64 x.c.r6, .int .i64 x.c.r7, .int .i64 x.c.d])) rfl (by kernel_rfl) (by kernel_rfl) (by kernel_rfl) (fun _ _ _ h => h) (yieldsIf_load_mid rfl 58 _ rfl w.heap.size 4 rfl [.int .i64 x.c.p, .int .i64 x.c.q, .int .i64 x.c.r0, .int .i64 x.c.r1, .int .i64 x.c.r2, .int .i64 x.c.r3, .int .i64 x.c.r4, .int .i64 x.c.r5, .int .i64 x.c.r6, .int .i64 x.c.r7, .int .i64 x.c.d] _ (fun w h => h) Tryd.underlying58 rfl I58) (by assumption) ?rN2
  simp only [Act.put, List.getElem_toArray, List.getElem_cons_zero, List.getElem_cons_succ, List.setIfInBounds_toArray, List.set_cons_zero, List.set_cons_succ]
  refine wpAnyH_take (i := 0) (oi := _) (v := ?v14) rfl (by kernel_rfl) (by kernel_rfl) (by kernel_rfl) (fun _ _ _ h => h) (Or.inl ⟨by rfl, ?y14⟩) (by assumption) ?r14
  case y14 => ((intro w hSw); (try dsimp only at hSw); go_simp; (try with_reducible rfl))
  (try simp only [Act.put, List.setIfInBounds_toArray, List.set_cons_zero, List.set_cons_succ])
  refine wpAnyH_take (i := 1) (oi := _) (v := ?v15) rfl (by kernel_rfl) (by kernel_rfl) (by kernel_rfl) (fun _ _ _ h => h) (Or.inl ⟨by rfl, ?y15⟩) (by assumption) ?r15
  case y15 => ((intro w hSw); (try dsimp only at hSw); go_simp; (try with_reducible rfl))
  (try simp only [Act.put, List.setIfInBounds_toArray, List.set_cons_zero, List.set_cons_succ])
  refine wpAnyH_take (i := 5) (oi := _) (v := ?v16) rfl (by kernel_rfl) (by kernel_rfl) (by kernel_rfl) (fun _ _ _ h => h) (Or.inl ⟨by rfl, ?y16⟩) (by assumption) ?r16
  case y16 => ((intro w hSw); (try dsimp only at hSw); go_simp; (try with_reducible rfl))
  (try simp only [Act.put, List.setIfInBounds_toArray, List.set_cons_zero, List.set_cons_succ])
  refine wpAnyH_take (i := 6) (oi := _) (v := ?v17) rfl (by kernel_rfl) (by kernel_rfl) (by kernel_rfl) (fun _ _ _ h => h) (Or.inl ⟨by rfl, ?y17⟩) (by assumption) ?r17
  case y17 => ((intro w hSw); (try dsimp only at hSw); go_simp; (try with_reducible rfl))
  (try simp only [Act.put, List.setIfInBounds_toArray, List.set_cons_zero, List.set_cons_succ])
  refine wpAnyH_ready (rs := [4]) (by kernel_rfl) (by simp) ?_
  refine AllReadyH.cons rfl (fun K hK => ?st18) AllReadyH.nil
  go_simp
  go_at_call 61
  refine (tdid (H1.out.t.still (by exact (Fr.refl _ _).drew)) LN.out id WI.out x.c).mono ?_
  rintro e w2 ⟨he, t2, f2⟩
  rw [HTE.out] at he
  subst he
  have T2 := hid t2
  have F2 : Hid (Fr KB.own w1 w2) := hid (((Fr.refl _ w1).drew).trans (f2.mono fun k _ hk => .inr hk))
  have B2 := hid (HB.out.fr F2.out (fun e => by have := H.out.lt _ (.inl e); omega))
  clear t2 f2
  refine hK.out _ _ ?k18 (fun hHeld18 => ?_)
  case k18 =>
    exact rangeL B2.out
  clear hK K
  (try simp only [Act.put, List.setIfInBounds_toArray, List.set_cons_zero, List.set_cons_succ])
  refine wpAnyH_ready (rs := [9]) (by kernel_rfl) (by simp) ?_
  refine AllReadyH.cons rfl (fun K hK => ?st19) AllReadyH.nil
  go_simp
  go_at_call 91
  refine (rdid (H1.out.rfr F2.out) id x.c).mono ?_
  rintro e w3 ⟨he, r3, f3⟩
  rw [HTE.out] at he
  subst he
  have R3 : Hid (RTAt w3 (upO O w2 w3) KB.Q KB.p KB.A KB.T KB.cA KB.cT s (updT L id (fun y => { y with c := x.c, d := wrap64 (y.d + 1) }))) := hid r3.up0
  have F3 : Hid (Fr O w2 w3) := hid f3
  have B3 := hid (B2.out.fr f3 (fun e => by have := H.out.lt _ (.inr e); omega))
  clear r3 f3
  refine hK.out _ _ ?k19 (fun hHeld19 => ?_)
  case k19 =>
    exact rangeL B3.out
  clear hK K
  (try simp only [Act.put, List.setIfInBounds_toArray, List.set_cons_zero, List.set_cons_succ])
  refine wpAnyH_take (i := 10) (oi := _) (v := ?v20) rfl (by kernel_rfl) (by kernel_rfl) (by kernel_rfl) (fun _ _ _ h => h) (Or.inl ⟨by rfl, ?y20⟩) (by assumption) ?r20
  case y20 => ((intro w hSw); (try dsimp only at hSw); go_simp; (try with_reducible rfl))
  (try simp only [Act.put, List.setIfInBounds_toArray, List.set_cons_zero, List.set_cons_succ])
  refine wpAnyH_done (by kernel_rfl) (Held.tailQ_normal ?_) _
  have FT := hid (H1.out.step T2.out F2.out R3.out F3.out TV.out)
  go_wp2_with fail
  go_ret
  rw [HID.out]
  exact ⟨rfl, H.out.back Z1.out (Nat.le_trans Z1.out FT.out.2.size) FT.out.1, (S1.out.fr _).trans FT.out.2⟩
end
end Go.Proofs.YtffjaaolcphonaaDoor
namespace Go.Proofs.YtffjaaolcphonaaDoor
open Go.RowKit Go.Maps
section
variable {w : World} {K : TB} {O : Nat → Prop} {s : SS} {L : List Thr}
theorem tact (h : TwoT w K O s L) (hT : TabD w) (hC : TabT w) (x : LAct) (wx : (Lit.int .i64 x.i).wf = true) : Calls Tryd.prog 41 #[.pointer (some ⟨K.P, 0, none⟩), .pointer (some ⟨K.Q, 0, none⟩), (Value.agg #[.int .i64 x.k, .int .i64 x.i, .int .i64 x.t, .bool x.re, .int .i64 x.c.p, .int .i64 x.c.q, .int .i64 x.c.r0, .int .i64 x.c.r1, .int .i64 x.c.r2, .int .i64 x.c.r3, .int .i64 x.c.r4, .int .i64 x.c.r5, .int .i64 x.c.r6, .int .i64 x.c.r7, .int .i64 x.c.d])] w (ActPost w K O (actS s L x) (actL s L x)) := by
  by_cases k0 : x.k = 0
  · rw [show actS s L x = _ by unfold actS; rw [if_pos k0], show actL s L x = _ by unfold actL; rw [if_pos k0]]; exact tact0 h hT hC x wx k0
  by_cases k1 : x.k = 1
  · rw [show actS s L x = s by simp [actS, k1], show actL s L x = _ by unfold actL; rw [if_neg k0, if_pos k1]]; exact tact1 h hT hC x wx k1
  by_cases k2 : x.k = 2
  · rw [show actS s L x = s by simp [actS, k2], show actL s L x = _ by unfold actL; rw [if_neg k0, if_neg k1, if_pos k2]]; exact tact2 h hT hC x wx k2
  by_cases k3 : x.k = 3
  · rw [show actS s L x = s by simp [actS, k3], show actL s L x = _ by unfold actL; rw [if_neg k0, if_neg k1, if_neg k2, if_pos k3]]; exact tact3 h hT hC x wx k3
  by_cases k4 : x.k = 4
  · rw [show actS s L x = s by simp [actS, k4], show actL s L x = _ by unfold actL; rw [if_neg k0, if_neg k1, if_neg k2, if_neg k3, if_pos k4]]; exact tact4 h hT hC x wx k4
  by_cases k5 : x.k = 5
  · rw [show actS s L x = s by simp [actS, k5], show actL s L x = _ by unfold actL; rw [if_neg k0, if_neg k1, if_neg k2, if_neg k3, if_neg k4, if_pos k5]]; exact tact5 h hT hC x wx k5
  by_cases k6 : x.k = 6
  · rw [show actS s L x = s by simp [actS, k6], show actL s L x = _ by unfold actL; rw [if_neg k0, if_neg k1, if_neg k2, if_neg k3, if_neg k4, if_neg k5, if_pos k6]]; exact tact6 h hT hC x wx k6
  by_cases k7 : x.k = 7
  · rw [show actS s L x = s by simp [actS, k7], show actL s L x = _ by unfold actL; rw [if_neg k0, if_neg k1, if_neg k2, if_neg k3, if_neg k4, if_neg k5, if_neg k6, if_pos k7]]; exact tact7 h hT hC x wx k7
  by_cases k8 : x.k = 8
  · rw [show actS s L x = s by simp [actS, k8], show actL s L x = _ by unfold actL; rw [if_neg k0, if_neg k1, if_neg k2, if_neg k3, if_neg k4, if_neg k5, if_neg k6, if_neg k7, if_pos k8]]; exact tact8 h hT hC x wx k8
  by_cases k9 : x.k = 9
  · rw [show actS s L x = _ by unfold actS; rw [if_neg k0, if_pos k9], show actL s L x = _ by unfold actL; rw [if_neg k0, if_neg k1, if_neg k2, if_neg k3, if_neg k4, if_neg k5, if_neg k6, if_neg k7, if_neg k8, if_pos k9]]; exact tact9 h hT hC x wx k9
  · rw [show actS s L x = s by unfold actS; rw [if_neg k0, if_neg k9], show actL s L x = L by unfold actL; rw [if_neg k0, if_neg k1, if_neg k2, if_neg k3, if_neg k4, if_neg k5, if_neg k6, if_neg k7, if_neg k8, if_neg k9]]; exact tactN h hT hC x wx ⟨k0, k1, k2, k3, k4, k5, k6, k7, k8, k9⟩
end
end Go.Proofs.YtffjaaolcphonaaDoor
