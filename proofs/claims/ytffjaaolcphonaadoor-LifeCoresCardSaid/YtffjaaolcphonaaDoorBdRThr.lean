/- The document's threads: find, Get, Count. -/
import Derived.Test.YtffjaaolcphonaaDoorThr9
import Derived.Test.YtffjaaolcphonaaDoorRef4e
import Derived.Test.YtffjaaolcphonaaDoorRRow
import Derived.Test.YtffjaaolcphonaaDoorHeld
import Derived.Test.YtffjaaolcphonaaDoorHeldIn
import Derived.Deep.RegionHeld3
import Derived.Test.YtffjaaolcphonaaDoorStore1
namespace Go.Proofs.YtffjaaolcphonaaDoor
open Go.RowKit Go.Maps
set_option linter.unusedSimpArgs false
/-- The document's table: Q itself, its slots' blocks p, A, T; all among O. -/
structure RTAt (w : World) (O : Nat → Prop) (Q p A T cA cT : Nat) (s : SS) (L : List Thr) : Prop where
  f0 : w.cell? ⟨Q, 0, none⟩ = some (.pointer (some ⟨p, 0, none⟩))
  ex : ∃ v, w.cell? ⟨Q, 1, none⟩ = some v ∧ w.ownsRow 0 80 15 v L.length (S66.row L) ∧ ∀ b, v.ownBlock = some b → O b ∧ b ≠ Q ∧ b ≠ p ∧ b ≠ A ∧ b ≠ T
  z1 : w.frozen? ⟨Q, 1, none⟩ = false
  r : RAt w p A T cA cT s
  qp : Q ≠ p
  qA : Q ≠ A
  qT : Q ≠ T
  lQ : O Q
  lp : O p
  lA : O A
  lT : O T
  ub : ∀ k, O k → k < w.heap.size
  up : thrE.Up L
  len : L.length ≤ 100000
section
variable {w w' : World} {O : Nat → Prop} {Q p A T cA cT : Nat} {s : SS} {L : List Thr}
theorem RTAt.fr (h : RTAt w O Q p A T cA cT s L) {F : Nat → Prop} (hf : Fr F w w') (hF : ∀ k, O k → ¬ F k) : RTAt w' O Q p A T cA cT s L := by
  obtain ⟨v, v1, v2, v3⟩ := h.ex
  refine ⟨hf.cellK h.f0 (hF _ h.lQ), ⟨v, hf.cellK v1 (hF _ h.lQ), ?_, v3⟩, ?_, h.r.fr hf (hF _ h.lp) (hF _ h.lA) (hF _ h.lT), h.qp, h.qA, h.qT, h.lQ, h.lp, h.lA, h.lT, fun k hk => Nat.lt_of_lt_of_le (h.ub k hk) hf.size, h.up, h.len⟩
  · obtain ⟨e, ⟨rfl, h2⟩ | ⟨g, cap, cur, rfl, hg, hcur, r⟩⟩ := v2
    · exact ⟨e, .inl ⟨rfl, h2⟩⟩
    · have hgl := (Array.getElem?_eq_some_iff.1 hcur).1
      exact ⟨e, .inr ⟨g, cap, cur, rfl, hg, (hf.block g hgl (hF g (v3 g rfl).1)).trans hcur, r⟩⟩
  · have hq := World.block_lt_of_cell? _ _ h.f0
    rw [← h.z1]; unfold World.frozen?; rw [hf.block Q hq (hF _ h.lQ)]
theorem RTAt.still (h : RTAt w O Q p A T cA cT s L) (hs : Still w w') : RTAt w' O Q p A T cA cT s L := h.fr hs (fun _ _ h => h)
/-- Where the one at a key stands; below 0: there is none. -/
def posT (L : List Thr) (k : Int) : Int := match L.findIdx? (fun x => x.i == k) with | some i => (i : Int) | none => -1
theorem pos_cases (L : List Thr) (k : Int) : (∃ i : Nat, posT L k = i ∧ ∃ h : i < L.length, fndT L k = L[i] ∧ L[i].i = k ∧ fndE L k = 0) ∨ (posT L k = -1 ∧ fndE L k = 4 ∧ fndT L k = t0 ∧ ∀ x ∈ L, x.i ≠ k) := by
  unfold posT
  cases h : L.findIdx? (fun x => x.i == k) with
  | none =>
    right
    rw [List.findIdx?_eq_none_iff] at h
    have e : thrE.fnd L k = none := by
      unfold El.fnd
      rw [List.find?_eq_none]
      intro x hx; have := h x hx; simpa [thrE] using this
    refine ⟨rfl, ?_, ?_, fun x hx => by simpa using h x hx⟩
    · unfold fndE; rw [e]; rfl
    · unfold fndT; rw [e]; rfl
  | some i =>
    left
    rw [List.findIdx?_eq_some_iff_getElem] at h
    obtain ⟨hi, h1, h2⟩ := h
    have e : thrE.fnd L k = some L[i] := by
      unfold El.fnd
      rw [List.find?_eq_some_iff_getElem]
      exact ⟨by simpa [thrE] using h1, i, hi, rfl, fun j hj => by simpa [thrE] using h2 j hj⟩
    refine ⟨i, rfl, hi, ?_, by simpa using h1, ?_⟩
    · unfold fndT; rw [e]; rfl
    · unfold fndE; rw [e]; rfl
theorem pos_at {L : List Thr} {k : Int} {i : Nat} (hi : i < L.length) (h1 : L[i].i = k) (h2 : ∀ j (hj : j < i), L[j].i ≠ k) : posT L k = i := by
  unfold posT
  have : L.findIdx? (fun x => x.i == k) = some i := by
    rw [List.findIdx?_eq_some_iff_getElem]
    exact ⟨hi, by simpa using h1, fun j hj => by simpa using h2 j hj⟩
  rw [this]
theorem pos_no {L : List Thr} {k : Int} (h2 : ∀ j (hj : j < L.length), L[j].i ≠ k) : posT L k = -1 := by
  unfold posT
  have : L.findIdx? (fun x => x.i == k) = none := by
    rw [List.findIdx?_eq_none_iff]
    intro x hx
    obtain ⟨j, hj, rfl⟩ := List.getElem_of_mem hx
    simpa using h2 j hj
  rw [this]
theorem I80 : (Tryd.prog.info? 80).map (·.size) = some 15 := by kernel_rfl
theorem new_r (w : World) : Blk (w.alloc (.cells #[.int .i64 0, .int .i64 0, .int .i64 0, .int .i64 0, .int .i64 0, .int .i64 0, .int .i64 0, .int .i64 0, .int .i64 0, .int .i64 0, .int .i64 0, .int .i64 0, .int .i64 0, .int .i64 0, .int .i64 0] 80)) w.heap.size [.int .i64 t0.i, .int .i64 t0.s, .int .i64 t0.t, .int .i64 t0.c.p, .int .i64 t0.c.q, .int .i64 t0.c.r0, .int .i64 t0.c.r1, .int .i64 t0.c.r2, .int .i64 t0.c.r3, .int .i64 t0.c.r4, .int .i64 t0.c.r5, .int .i64 t0.c.r6, .int .i64 t0.c.r7, .int .i64 t0.c.d, .int .i64 t0.d] 80 := Blk.new w _ 80
theorem wpList_loadR {ops : Array Oper} {rest : List Oper} {o : Oper} {a : Act} {Q : Exit → Act → World → Prop} (hg : o.guard = none) (q : Operand) (hop : o.op = Op.load 80 q) (b off : Nat) (x : Thr) (hp : a.eval q = .pointer (some ⟨b, off, none⟩)) (hc : w.rangeAt b off [.int .i64 x.i, .int .i64 x.s, .int .i64 x.t, .int .i64 x.c.p, .int .i64 x.c.q, .int .i64 x.c.r0, .int .i64 x.c.r1, .int .i64 x.c.r2, .int .i64 x.c.r3, .int .i64 x.c.r4, .int .i64 x.c.r5, .int .i64 x.c.r6, .int .i64 x.c.r7, .int .i64 x.c.d, .int .i64 x.d])
    (hK : wpList Tryd.prog ops Q rest (a.put o.dst (Value.agg #[.int .i64 x.i, .int .i64 x.s, .int .i64 x.t, .int .i64 x.c.p, .int .i64 x.c.q, .int .i64 x.c.r0, .int .i64 x.c.r1, .int .i64 x.c.r2, .int .i64 x.c.r3, .int .i64 x.c.r4, .int .i64 x.c.r5, .int .i64 x.c.r6, .int .i64 x.c.r7, .int .i64 x.c.d, .int .i64 x.d])) w) : wpList Tryd.prog ops Q (o :: rest) a w :=
  wpList_load_mid hg 80 q hop b off hp [.int .i64 x.i, .int .i64 x.s, .int .i64 x.t, .int .i64 x.c.p, .int .i64 x.c.q, .int .i64 x.c.r0, .int .i64 x.c.r1, .int .i64 x.c.r2, .int .i64 x.c.r3, .int .i64 x.c.r4, .int .i64 x.c.r5, .int .i64 x.c.r6, .int .i64 x.c.r7, .int .i64 x.c.d, .int .i64 x.d] _ hc Tryd.underlying80 rfl I80 hK
set_option maxRecDepth 100000 in
set_option maxHeartbeats 4000000 in
theorem rfind (h : RTAt w O Q p A T cA cT s L) (id : Int) : Calls Tryd.prog 99 #[.pointer (some ⟨Q, 0, none⟩), .int .i64 id] w fun e w' => e = .returned (.int .i64 (posT L id)) ∧ Still w w' := by
  have H := hid h
  obtain ⟨v, v1, v2, _⟩ := h.ex
  have R := hid (SRow.own (S := S66) v2 rfl)
  obtain ⟨a, c, rfl⟩ := own_shape v2 _ rfl
  have hb := h.len
  clear h v2
  go_enter Tryd.func99, Tryd.ntmps99
  go_wp2_with fail
  go_loopw [5, 6, 12] (fun s5 s6 s12 wr => ∃ j : Nat, s12 = .int .i64 j ∧ j ≤ L.length ∧ Still w wr ∧ Hid (∀ i (hi : i < L.length), i < j → L[i].i ≠ id)) (fun _ _ s12 _ => L.length - (intOf s12).toNat)
  case atStart => exact ⟨0, rfl, Nat.zero_le _, Fr.refl _ _, hid (fun i hi h0 => by omega)⟩
  case round =>
    obtain ⟨j, rfl, hj, hst, NO⟩ := hrel
    have SX := hid hst
    clear hst
    by_cases hlt : j < L.length
    · have hlt' : (j : Int) < (L.length : Int) := by omega
      obtain ⟨b, off, c2, ev, hc⟩ := (R.out.still SX.out).at hlt
      obtain ⟨rfl, rfl⟩ : a = some ⟨b, off, none⟩ ∧ c = c2 := by injection ev with e1 _ e3; exact ⟨e1, e3⟩
      obtain ⟨x, hx⟩ : ∃ x, L[j] = x := ⟨_, rfl⟩
      rw [hx] at hc
      have HX := hid hx
      have HC : Hid (wr.rangeAt b (off + j * 15) [.int .i64 x.i, .int .i64 x.s, .int .i64 x.t, .int .i64 x.c.p, .int .i64 x.c.q, .int .i64 x.c.r0, .int .i64 x.c.r1, .int .i64 x.c.r2, .int .i64 x.c.r3, .int .i64 x.c.r4, .int .i64 x.c.r5, .int .i64 x.c.r6, .int .i64 x.c.r7, .int .i64 x.c.d, .int .i64 x.d]) := hid hc
      clear hx hc ev
      by_cases hid2 : x.i = id
      · have e0 : (x.i == id) = true := by simp [hid2]
        have e1 := pos_at hlt (by rw [HX.out]; exact hid2) (fun i hi => NO.out i (by omega) hi)
        have E1 := hid e1
        clear hid2 e1
        go_wp2_with (first
          | (refine wpList_loadR rfl (.tmp 15) rfl b (off + j * 15) x rfl HC.out ?_)
          | (refine wpList_storeW rfl (.tmp 6) (.tmp 16) 80 rfl _ 80 [.int .i64 t0.i, .int .i64 t0.s, .int .i64 t0.t, .int .i64 t0.c.p, .int .i64 t0.c.q, .int .i64 t0.c.r0, .int .i64 t0.c.r1, .int .i64 t0.c.r2, .int .i64 t0.c.r3, .int .i64 t0.c.r4, .int .i64 t0.c.r5, .int .i64 t0.c.r6, .int .i64 t0.c.r7, .int .i64 t0.c.d, .int .i64 t0.d] [.int .i64 x.i, .int .i64 x.s, .int .i64 x.t, .int .i64 x.c.p, .int .i64 x.c.q, .int .i64 x.c.r0, .int .i64 x.c.r1, .int .i64 x.c.r2, .int .i64 x.c.r3, .int .i64 x.c.r4, .int .i64 x.c.r5, .int .i64 x.c.r6, .int .i64 x.c.r7, .int .i64 x.c.d, .int .i64 x.d] I80 (ones x) rfl rfl (new_r _) rfl ?_; intro w3 b3 f3; have d0 : w3.cell? ⟨wr.heap.size, 0, none⟩ = some (.int .i64 x.i) := b3.cell 0; have S3 : Hid (Still w w3) := hid (Still.next (SX.out.alloc _) f3 (fun k hk => by rw [hk]; exact SX.out.size)); clear b3 f3))
        go_ret
        exact ⟨by rw [E1.out]; rfl, S3.out⟩
      · have e0 : (x.i == id) = false := by simp [hid2]
        have HN := hid hid2
        clear hid2
        go_wp2_with (first
          | (refine wpList_loadR rfl (.tmp 15) rfl b (off + j * 15) x rfl HC.out ?_)
          | (refine wpList_storeW rfl (.tmp 6) (.tmp 16) 80 rfl _ 80 [.int .i64 t0.i, .int .i64 t0.s, .int .i64 t0.t, .int .i64 t0.c.p, .int .i64 t0.c.q, .int .i64 t0.c.r0, .int .i64 t0.c.r1, .int .i64 t0.c.r2, .int .i64 t0.c.r3, .int .i64 t0.c.r4, .int .i64 t0.c.r5, .int .i64 t0.c.r6, .int .i64 t0.c.r7, .int .i64 t0.c.d, .int .i64 t0.d] [.int .i64 x.i, .int .i64 x.s, .int .i64 x.t, .int .i64 x.c.p, .int .i64 x.c.q, .int .i64 x.c.r0, .int .i64 x.c.r1, .int .i64 x.c.r2, .int .i64 x.c.r3, .int .i64 x.c.r4, .int .i64 x.c.r5, .int .i64 x.c.r6, .int .i64 x.c.r7, .int .i64 x.c.d, .int .i64 x.d] I80 (ones x) rfl rfl (new_r _) rfl ?_; intro w3 b3 f3; have d0 : w3.cell? ⟨wr.heap.size, 0, none⟩ = some (.int .i64 x.i) := b3.cell 0; have S3 : Hid (Still w w3) := hid (Still.next (SX.out.alloc _) f3 (fun k hk => by rw [hk]; exact SX.out.size)); clear b3 f3))
        go_roundw
        case rel => exact ⟨j + 1, by go_num, by omega, S3.out, hid (fun i hi h1 => by
          by_cases e : i = j
          · subst e; rw [HX.out]; exact HN.out
          · exact NO.out i hi (by omega))⟩
        case measure => simp [intOf]; omega
    · have hlt' : ¬ (j : Int) < (L.length : Int) := by omega
      have e1 := pos_no (L := L) (k := id) (fun i hi => NO.out i hi (by omega))
      have E1 := hid e1
      clear e1
      go_wp2_with fail
      go_ret
      exact ⟨by rw [E1.out]; rfl, SX.out⟩
end
end Go.Proofs.YtffjaaolcphonaaDoor
/- The document's threads: Get, Count; Same; plain. -/
namespace Go.Proofs.YtffjaaolcphonaaDoor
open Go.RowKit Go.Maps
set_option linter.unusedSimpArgs false
section
variable {w w' : World} {lo : Nat → Prop} {Q p A T cA cT : Nat} {s : SS} {L : List Thr}
set_option maxRecDepth 100000 in
set_option maxHeartbeats 4000000 in
theorem rget (h : RTAt w lo Q p A T cA cT s L) (id : Int) : Calls Tryd.prog 57 #[.pointer (some ⟨Q, 0, none⟩), .int .i64 id] w fun e w' => e = .returned (.tuple #[(Value.agg #[.int .i64 (fndT L id).i, .int .i64 (fndT L id).s, .int .i64 (fndT L id).t, .int .i64 (fndT L id).c.p, .int .i64 (fndT L id).c.q, .int .i64 (fndT L id).c.r0, .int .i64 (fndT L id).c.r1, .int .i64 (fndT L id).c.r2, .int .i64 (fndT L id).c.r3, .int .i64 (fndT L id).c.r4, .int .i64 (fndT L id).c.r5, .int .i64 (fndT L id).c.r6, .int .i64 (fndT L id).c.r7, .int .i64 (fndT L id).c.d, .int .i64 (fndT L id).d]), .bool (fndE L id == 0)]) ∧ Still w w' := by
  have H := hid h
  obtain ⟨v, v1, v2, _⟩ := h.ex
  have R := hid (SRow.own (S := S66) v2 rfl)
  obtain ⟨a, c, rfl⟩ := own_shape v2 _ rfl
  have FD := hid (rfind (H.out.still ((Fr.refl _ w).alloc (.cells #[.int .i64 0, .int .i64 0, .int .i64 0, .int .i64 0, .int .i64 0, .int .i64 0, .int .i64 0, .int .i64 0, .int .i64 0, .int .i64 0, .int .i64 0, .int .i64 0, .int .i64 0, .int .i64 0, .int .i64 0] 80))) id)
  clear h v2
  rcases pos_cases L id with ⟨i, hp, hi, h1, h2, h3⟩ | ⟨hp, h3, h1, _⟩
  · rw [hp] at FD
    rw [h1, h3]
    obtain ⟨x, hx⟩ : ∃ x, L[i] = x := ⟨_, rfl⟩
    rw [hx]
    have HX := hid hx
    have hi' : (i : Int) < (L.length : Int) := by omega
    clear hp h1 h2 h3 hx
    go_enter Tryd.func57, Tryd.ntmps57
    go_wp2_with fail
    refine FD.out.mono ?_
    rintro e w2 ⟨rfl, s2⟩
    have S2 := hid (((Fr.refl _ _).alloc _).trans s2)
    have B2 : Hid (Blk w2 w.heap.size [.int .i64 t0.i, .int .i64 t0.s, .int .i64 t0.t, .int .i64 t0.c.p, .int .i64 t0.c.q, .int .i64 t0.c.r0, .int .i64 t0.c.r1, .int .i64 t0.c.r2, .int .i64 t0.c.r3, .int .i64 t0.c.r4, .int .i64 t0.c.r5, .int .i64 t0.c.r6, .int .i64 t0.c.r7, .int .i64 t0.c.d, .int .i64 t0.d] 80) := hid ((new_r w).still s2)
    have q1 := Still.cell S2.out v1
    obtain ⟨b, off, c2, ev, hc⟩ := (R.out.still S2.out).at hi
    obtain ⟨rfl, rfl⟩ : a = some ⟨b, off, none⟩ ∧ c = c2 := by injection ev with e1 _ e3; exact ⟨e1, e3⟩
    rw [HX.out] at hc
    have HC : Hid (w2.rangeAt b (off + i * 15) [.int .i64 x.i, .int .i64 x.s, .int .i64 x.t, .int .i64 x.c.p, .int .i64 x.c.q, .int .i64 x.c.r0, .int .i64 x.c.r1, .int .i64 x.c.r2, .int .i64 x.c.r3, .int .i64 x.c.r4, .int .i64 x.c.r5, .int .i64 x.c.r6, .int .i64 x.c.r7, .int .i64 x.c.d, .int .i64 x.d]) := hid hc
    clear s2 hc ev v1
    go_wp2_with (first
      | (refine wpList_loadR rfl (.tmp 17) rfl b (off + i * 15) x rfl HC.out ?_)
      | (refine wpList_storeW rfl (.tmp 4) (.tmp 18) 80 rfl _ 80 [.int .i64 t0.i, .int .i64 t0.s, .int .i64 t0.t, .int .i64 t0.c.p, .int .i64 t0.c.q, .int .i64 t0.c.r0, .int .i64 t0.c.r1, .int .i64 t0.c.r2, .int .i64 t0.c.r3, .int .i64 t0.c.r4, .int .i64 t0.c.r5, .int .i64 t0.c.r6, .int .i64 t0.c.r7, .int .i64 t0.c.d, .int .i64 t0.d] [.int .i64 x.i, .int .i64 x.s, .int .i64 x.t, .int .i64 x.c.p, .int .i64 x.c.q, .int .i64 x.c.r0, .int .i64 x.c.r1, .int .i64 x.c.r2, .int .i64 x.c.r3, .int .i64 x.c.r4, .int .i64 x.c.r5, .int .i64 x.c.r6, .int .i64 x.c.r7, .int .i64 x.c.d, .int .i64 x.d] I80 (ones x) rfl rfl B2.out rfl ?_; intro w3 b3 f3; have B3 := hid b3; have S3 : Hid (Still w w3) := hid (Still.next S2.out f3 (fun k hk => by rw [hk]; exact Nat.le_refl _)); clear b3 f3))
    (try simp only [Exit.inBlock, Exit.then]); refine bodyPost_ret (results_cell2 rfl _ _ w.heap.size 80 [.int .i64 x.i, .int .i64 x.s, .int .i64 x.t, .int .i64 x.c.p, .int .i64 x.c.q, .int .i64 x.c.r0, .int .i64 x.c.r1, .int .i64 x.c.r2, .int .i64 x.c.r3, .int .i64 x.c.r4, .int .i64 x.c.r5, .int .i64 x.c.r6, .int .i64 x.c.r7, .int .i64 x.c.d, .int .i64 x.d] _ _ rfl rfl B3.out Tryd.underlying80 rfl I80) rfl ?_
    exact ⟨rfl, S3.out⟩
  · rw [hp] at FD
    rw [h1, h3]
    clear hp h1 h3
    go_enter Tryd.func57, Tryd.ntmps57
    go_wp2_with fail
    refine FD.out.mono ?_
    rintro e w2 ⟨rfl, s2⟩
    have S2 := hid (((Fr.refl _ _).alloc _).trans s2)
    have B2 : Hid (Blk w2 w.heap.size [.int .i64 t0.i, .int .i64 t0.s, .int .i64 t0.t, .int .i64 t0.c.p, .int .i64 t0.c.q, .int .i64 t0.c.r0, .int .i64 t0.c.r1, .int .i64 t0.c.r2, .int .i64 t0.c.r3, .int .i64 t0.c.r4, .int .i64 t0.c.r5, .int .i64 t0.c.r6, .int .i64 t0.c.r7, .int .i64 t0.c.d, .int .i64 t0.d] 80) := hid ((new_r w).still s2)
    clear s2
    go_wp2_with (refine wpList_storeW rfl (.tmp 4) (.tmp 19) 80 rfl _ 80 [.int .i64 t0.i, .int .i64 t0.s, .int .i64 t0.t, .int .i64 t0.c.p, .int .i64 t0.c.q, .int .i64 t0.c.r0, .int .i64 t0.c.r1, .int .i64 t0.c.r2, .int .i64 t0.c.r3, .int .i64 t0.c.r4, .int .i64 t0.c.r5, .int .i64 t0.c.r6, .int .i64 t0.c.r7, .int .i64 t0.c.d, .int .i64 t0.d] [.int .i64 t0.i, .int .i64 t0.s, .int .i64 t0.t, .int .i64 t0.c.p, .int .i64 t0.c.q, .int .i64 t0.c.r0, .int .i64 t0.c.r1, .int .i64 t0.c.r2, .int .i64 t0.c.r3, .int .i64 t0.c.r4, .int .i64 t0.c.r5, .int .i64 t0.c.r6, .int .i64 t0.c.r7, .int .i64 t0.c.d, .int .i64 t0.d] I80 (ones t0) rfl rfl B2.out rfl ?_; intro w3 b3 f3; have B3 := hid b3; have S3 : Hid (Still w w3) := hid (Still.next S2.out f3 (fun k hk => by rw [hk]; exact Nat.le_refl _)); clear b3 f3)
    (try simp only [Exit.inBlock, Exit.then]); refine bodyPost_ret (results_cell2 rfl _ _ w.heap.size 80 [.int .i64 t0.i, .int .i64 t0.s, .int .i64 t0.t, .int .i64 t0.c.p, .int .i64 t0.c.q, .int .i64 t0.c.r0, .int .i64 t0.c.r1, .int .i64 t0.c.r2, .int .i64 t0.c.r3, .int .i64 t0.c.r4, .int .i64 t0.c.r5, .int .i64 t0.c.r6, .int .i64 t0.c.r7, .int .i64 t0.c.d, .int .i64 t0.d] _ _ rfl rfl B3.out Tryd.underlying80 rfl I80) rfl ?_
    exact ⟨rfl, S3.out⟩
theorem cnt_take {L : List Thr} {st : Int} {j : Nat} (hj : j < L.length) : (L.take (j + 1)).countP (fun x => x.s == st) = (L.take j).countP (fun x => x.s == st) + if L[j].s == st then 1 else 0 := by
  rw [← List.take_append_getElem hj, List.countP_append]
  simp [List.countP_cons]
set_option maxRecDepth 100000 in
set_option maxHeartbeats 4000000 in
theorem rcount (h : RTAt w lo Q p A T cA cT s L) (st : Int) : Calls Tryd.prog 55 #[.pointer (some ⟨Q, 0, none⟩), .int .i64 st] w fun e w' => e = .returned (.int .i64 (cntT L st)) ∧ Still w w' := by
  have H := hid h
  obtain ⟨v, v1, v2, _⟩ := h.ex
  have R := hid (SRow.own (S := S66) v2 rfl)
  obtain ⟨a, c, rfl⟩ := own_shape v2 _ rfl
  have hb := h.len
  clear h v2
  go_enter Tryd.func55, Tryd.ntmps55
  go_wp2_with fail
  go_loopw [5, 7, 13] (fun s5 s7 s13 wr => ∃ (j n : Nat), s13 = .int .i64 j ∧ j ≤ L.length ∧ s5 = .int .i64 n ∧ n ≤ j ∧ Still w wr ∧ Hid ((L.take j).countP (fun x => x.s == st) = n)) (fun _ _ s13 _ => L.length - (intOf s13).toNat)
  case atStart => exact ⟨0, 0, rfl, Nat.zero_le _, rfl, Nat.le_refl _, Fr.refl _ _, hid rfl⟩
  case round =>
    obtain ⟨j, n, rfl, hj, rfl, hn, hst, CN⟩ := hrel
    have SX := hid hst
    clear hst
    by_cases hlt : j < L.length
    · have hlt' : (j : Int) < (L.length : Int) := by omega
      obtain ⟨b, off, c2, ev, hc⟩ := (R.out.still SX.out).at hlt
      obtain ⟨rfl, rfl⟩ : a = some ⟨b, off, none⟩ ∧ c = c2 := by injection ev with e1 _ e3; exact ⟨e1, e3⟩
      have CT := hid (cnt_take (st := st) hlt)
      obtain ⟨x, hx⟩ : ∃ x, L[j] = x := ⟨_, rfl⟩
      rw [hx] at hc CT
      have HC : Hid (wr.rangeAt b (off + j * 15) [.int .i64 x.i, .int .i64 x.s, .int .i64 x.t, .int .i64 x.c.p, .int .i64 x.c.q, .int .i64 x.c.r0, .int .i64 x.c.r1, .int .i64 x.c.r2, .int .i64 x.c.r3, .int .i64 x.c.r4, .int .i64 x.c.r5, .int .i64 x.c.r6, .int .i64 x.c.r7, .int .i64 x.c.d, .int .i64 x.d]) := hid hc
      clear hx hc ev
      by_cases hst : x.s = st
      · have e0 : (x.s == st) = true := by simp [hst]
        have E0 := hid e0
        clear hst
        go_wp2_with (first
          | (refine wpList_loadR rfl (.tmp 15) rfl b (off + j * 15) x rfl HC.out ?_)
          | (refine wpList_storeW rfl (.tmp 7) (.tmp 16) 80 rfl _ 80 [.int .i64 t0.i, .int .i64 t0.s, .int .i64 t0.t, .int .i64 t0.c.p, .int .i64 t0.c.q, .int .i64 t0.c.r0, .int .i64 t0.c.r1, .int .i64 t0.c.r2, .int .i64 t0.c.r3, .int .i64 t0.c.r4, .int .i64 t0.c.r5, .int .i64 t0.c.r6, .int .i64 t0.c.r7, .int .i64 t0.c.d, .int .i64 t0.d] [.int .i64 x.i, .int .i64 x.s, .int .i64 x.t, .int .i64 x.c.p, .int .i64 x.c.q, .int .i64 x.c.r0, .int .i64 x.c.r1, .int .i64 x.c.r2, .int .i64 x.c.r3, .int .i64 x.c.r4, .int .i64 x.c.r5, .int .i64 x.c.r6, .int .i64 x.c.r7, .int .i64 x.c.d, .int .i64 x.d] I80 (ones x) rfl rfl (new_r _) rfl ?_; intro w3 b3 f3; have d1 : w3.cell? ⟨wr.heap.size, 1, none⟩ = some (.int .i64 x.s) := b3.cell 1; have S3 : Hid (Still w w3) := hid (Still.next (SX.out.alloc _) f3 (fun k hk => by rw [hk]; exact SX.out.size)); clear b3 f3))
        go_roundw
        case rel => exact ⟨j + 1, n + 1, by go_num, by omega, by go_num, by omega, S3.out, hid (by rw [CT.out, CN.out, E0.out]; rfl)⟩
        case measure => simp [intOf]; omega
      · have e0 : (x.s == st) = false := by simp [hst]
        have E0 := hid e0
        clear hst
        go_wp2_with (first
          | (refine wpList_loadR rfl (.tmp 15) rfl b (off + j * 15) x rfl HC.out ?_)
          | (refine wpList_storeW rfl (.tmp 7) (.tmp 16) 80 rfl _ 80 [.int .i64 t0.i, .int .i64 t0.s, .int .i64 t0.t, .int .i64 t0.c.p, .int .i64 t0.c.q, .int .i64 t0.c.r0, .int .i64 t0.c.r1, .int .i64 t0.c.r2, .int .i64 t0.c.r3, .int .i64 t0.c.r4, .int .i64 t0.c.r5, .int .i64 t0.c.r6, .int .i64 t0.c.r7, .int .i64 t0.c.d, .int .i64 t0.d] [.int .i64 x.i, .int .i64 x.s, .int .i64 x.t, .int .i64 x.c.p, .int .i64 x.c.q, .int .i64 x.c.r0, .int .i64 x.c.r1, .int .i64 x.c.r2, .int .i64 x.c.r3, .int .i64 x.c.r4, .int .i64 x.c.r5, .int .i64 x.c.r6, .int .i64 x.c.r7, .int .i64 x.c.d, .int .i64 x.d] I80 (ones x) rfl rfl (new_r _) rfl ?_; intro w3 b3 f3; have d1 : w3.cell? ⟨wr.heap.size, 1, none⟩ = some (.int .i64 x.s) := b3.cell 1; have S3 : Hid (Still w w3) := hid (Still.next (SX.out.alloc _) f3 (fun k hk => by rw [hk]; exact SX.out.size)); clear b3 f3))
        go_roundw
        case rel => exact ⟨j + 1, n, by go_num, by omega, rfl, by omega, S3.out, hid (by rw [CT.out, CN.out, E0.out]; rfl)⟩
        case measure => simp [intOf]; omega
    · have hlt' : ¬ (j : Int) < (L.length : Int) := by omega
      have e : cntT L st = n := by
        have h := CN.out
        rw [List.take_of_length_le (by omega)] at h
        exact h
      have E := hid e
      clear e
      go_wp2_with fail
      go_ret
      exact ⟨by rw [E.out]; rfl, SX.out⟩
set_option maxRecDepth 100000 in
set_option maxHeartbeats 4000000 in
/-- law22.plain: the program's rows in the document's form. -/
theorem tplain (v : Value) (h : SRow S68 w v L) (hb : L.length ≤ 100000) : Calls Tryd.prog 42 #[v] w fun e w' => ∃ u, e = .returned u ∧ w'.ownsRow w.heap.size 80 15 u L.length (S66.row L) ∧ Still w w' := by
  have R := hid h
  obtain ⟨a, c, rfl⟩ := h.shape
  clear h
  go_enter Tryd.func42, Tryd.ntmps42
  go_wp2_with fail
  go_loopw [3, 5, 8] (fun s3 s5 s8 wr => ∃ j : Nat, s8 = .int .i64 j ∧ j ≤ L.length ∧ wr.ownsRow w.heap.size 80 15 s3 j (S66.row (L.take j)) ∧ Still w wr) (fun _ _ s8 _ => L.length - (intOf s8).toNat)
  case atStart => exact ⟨0, rfl, Nat.zero_le _, owns_nilS (S := S66) _ _, Fr.refl _ _⟩
  case round =>
    obtain ⟨j, rfl, hj, ho, hst⟩ := hrel
    have OX := hid ho
    have SX := hid hst
    obtain ⟨a3, c3, rfl⟩ := own_shape ho _ rfl
    clear ho hst
    by_cases hlt : j < L.length
    · have hlt' : (j : Int) < (L.length : Int) := by omega
      obtain ⟨b, off, c2, ev, hc⟩ := (R.out.still SX.out).at hlt
      obtain ⟨rfl, rfl⟩ : a = some ⟨b, off, none⟩ ∧ c = c2 := by injection ev with e1 _ e3; exact ⟨e1, e3⟩
      obtain ⟨x, hx⟩ : ∃ x, L[j] = x := ⟨_, rfl⟩
      rw [hx] at hc
      have HXX := hid hx
      have HC : Hid (wr.rangeAt b (off + j * 15) [.int .i64 x.i, .int .i64 x.s, .int .i64 x.t, .int .i64 x.c.p, .int .i64 x.c.q, .int .i64 x.c.r0, .int .i64 x.c.r1, .int .i64 x.c.r2, .int .i64 x.c.r3, .int .i64 x.c.r4, .int .i64 x.c.r5, .int .i64 x.c.r6, .int .i64 x.c.r7, .int .i64 x.c.d, .int .i64 x.d]) := hid hc
      clear hx hc ev
      have zx := SX.out.size
      go_wp2_with (first
        | (refine wpList_load_mid rfl 77 (.tmp 10) rfl b (off + j * 15) rfl [.int .i64 x.i, .int .i64 x.s, .int .i64 x.t, .int .i64 x.c.p, .int .i64 x.c.q, .int .i64 x.c.r0, .int .i64 x.c.r1, .int .i64 x.c.r2, .int .i64 x.c.r3, .int .i64 x.c.r4, .int .i64 x.c.r5, .int .i64 x.c.r6, .int .i64 x.c.r7, .int .i64 x.c.d, .int .i64 x.d] _ HC.out Tryd.underlying77 rfl I77 ?_)
        | (refine wpList_storeW rfl (.tmp 5) (.tmp 11) 77 rfl _ 77 [.int .i64 t0.i, .int .i64 t0.s, .int .i64 t0.t, .int .i64 t0.c.p, .int .i64 t0.c.q, .int .i64 t0.c.r0, .int .i64 t0.c.r1, .int .i64 t0.c.r2, .int .i64 t0.c.r3, .int .i64 t0.c.r4, .int .i64 t0.c.r5, .int .i64 t0.c.r6, .int .i64 t0.c.r7, .int .i64 t0.c.d, .int .i64 t0.d] [.int .i64 x.i, .int .i64 x.s, .int .i64 x.t, .int .i64 x.c.p, .int .i64 x.c.q, .int .i64 x.c.r0, .int .i64 x.c.r1, .int .i64 x.c.r2, .int .i64 x.c.r3, .int .i64 x.c.r4, .int .i64 x.c.r5, .int .i64 x.c.r6, .int .i64 x.c.r7, .int .i64 x.c.d, .int .i64 x.d] I77 (ones x) rfl rfl (new_t _) rfl ?_; intro w3 b3 f3; have B3 := hid b3; have S3 : Hid (Still w w3) := hid (Still.next (SX.out.alloc _) f3 (fun k hk => by rw [hk]; exact SX.out.size)); have O3 := hid (owns_fr OX.out (((Fr.refl _ wr).alloc _).trans f3) (fun k _ h2 h3 => by omega)); have z3 := S3.out.size; clear b3 f3)
        | (refine wpList_loadW rfl (.tmp 5) 77 rfl _ Tryd.underlying77 rfl _ 77 [.int .i64 x.i, .int .i64 x.s, .int .i64 x.t, .int .i64 x.c.p, .int .i64 x.c.q, .int .i64 x.c.r0, .int .i64 x.c.r1, .int .i64 x.c.r2, .int .i64 x.c.r3, .int .i64 x.c.r4, .int .i64 x.c.r5, .int .i64 x.c.r6, .int .i64 x.c.r7, .int .i64 x.c.d, .int .i64 x.d] I77 rfl B3.out ?_)
        | (at_builtin; refine wpList_append_srow (S := S66) rfl (.tmp 12) (.tmp 14) rfl w.heap.size j (L.take j) [x] _ _ rfl rfl (O3.out.alloc _) (one_newS (S := S66) _ x _) (by simp; omega) (by simp; omega) ?_; intro v5 w5 ho5 hg5 hl5; have O5 := hid ho5; have S5 : Hid (Still w w5) := hid (Fr.of_own (S3.out.alloc _) (O3.out.alloc _) hg5 (Nat.le_refl _)); clear ho5 hg5 hl5))
      go_roundw
      case rel => exact ⟨j + 1, by go_num, by omega, by have h := O5.out; rw [← HXX.out, List.take_append_getElem hlt] at h; exact h, S5.out⟩
      case measure => simp [intOf]; omega
    · have hlt' : ¬ (j : Int) < (L.length : Int) := by omega
      have e : j = L.length := by omega
      go_wp2_with fail
      go_ret
      refine ⟨_, rfl, ?_, SX.out⟩
      have h := OX.out
      rw [e, List.take_length] at h
      exact h
end
end Go.Proofs.YtffjaaolcphonaaDoor
/- The document's threads: Set, Did, Turn. -/
namespace Go.Proofs.YtffjaaolcphonaaDoor
open Go.RowKit Go.Maps
set_option linter.unusedSimpArgs false
section
variable {w w' : World} {O : Nat → Prop} {Q p A T cA cT : Nat} {s : SS} {L : List Thr}
/-- The row of a table that is not empty. -/
structure ROpen (w : World) (O : Nat → Prop) (Q p A T : Nat) (L : List Thr) (g cap : Nat) (C : List Value) : Prop where
  v1 : w.cell? ⟨Q, 1, none⟩ = some (.slice (some ⟨g, 0, none⟩) L.length cap)
  lg : O g
  b : Blk w g C 80
  c1 : L.length ≤ cap
  c2 : cap ≤ maxLen
  c3 : C.length = cap * 15
  c4 : C.take (L.length * 15) = S66.row L
  nQ : g ≠ Q
  np : g ≠ p
  nA : g ≠ A
  nT : g ≠ T
theorem RTAt.opened (h : RTAt w O Q p A T cA cT s L) (h0 : 0 < L.length) : ∃ g cap C, ROpen w O Q p A T L g cap C := by
  obtain ⟨v, v1, v2, v3⟩ := h.ex
  obtain ⟨g, cap, C, rfl, h1, h2, h3, h4, h5, h6⟩ := own_blk (S := S66) v2 rfl h0
  obtain ⟨n0, n1, n2, n3, n4⟩ := v3 g rfl
  exact ⟨g, cap, C, v1, n0, h2, h3, h4, h5, h6, n1, n2, n3, n4⟩
theorem ROpen.at {g cap : Nat} {C : List Value} (h : ROpen w O Q p A T L g cap C) {i : Nat} (hi : i < L.length) : w.rangeAt g (i * 15) (S66.cells L[i]) := by
  intro j v hv
  have hj : j < 15 := (List.getElem?_eq_some_iff.1 hv).1
  rw [h.b.cell]
  have h1 := S66.row_at hi (j := j) hj
  rw [← h.c4, List.getElem?_take, if_pos (by
    have : (i + 1) * 15 ≤ L.length * 15 := Nat.mul_le_mul_right 15 hi
    show i * 15 + j < L.length * 15
    omega)] at h1
  exact h1.trans hv
theorem ROpen.fr {g cap : Nat} {C : List Value} (h : ROpen w O Q p A T L g cap C) (hs : Still w w') : ROpen w' O Q p A T L g cap C := { h with v1 := Still.cell hs h.v1, b := h.b.still hs }
theorem RTAt.put (h : RTAt w O Q p A T cA cT s L) {g cap : Nat} {C : List Value} (o : ROpen w O Q p A T L g cap C) {i off : Nat} (hi : i < L.length) {x : Thr} (hk : x.i = L[i].i) {B : List Value} (hl : off + B.length ≤ 15)
    (hx : (S66.cells L[i]).take off ++ B ++ (S66.cells L[i]).drop (off + B.length) = [.int .i64 x.i, .int .i64 x.s, .int .i64 x.t, .int .i64 x.c.p, .int .i64 x.c.q, .int .i64 x.c.r0, .int .i64 x.c.r1, .int .i64 x.c.r2, .int .i64 x.c.r3, .int .i64 x.c.r4, .int .i64 x.c.r5, .int .i64 x.c.r6, .int .i64 x.c.r7, .int .i64 x.c.d, .int .i64 x.d]) (hb : Blk w' g (C.take (i * 15 + off) ++ B ++ C.drop (i * 15 + off + B.length)) 80) (hf : Fr (fun k => k = g) w w') : RTAt w' O Q p A T cA cT s (thrE.ins x L) := by
  rw [thrE.ins_set h.up hi hk]
  have hlen : (L.set i x).length = L.length := List.length_set
  have le : i * 15 + off + B.length ≤ C.length := by
    rw [o.c3]
    have h1 : (i + 1) * 15 ≤ cap * 15 := Nat.mul_le_mul_right 15 (by have := o.c1; omega)
    omega
  have hr := row_set (S := S66) (A := C) rfl o.c4 hi hl hx
  have ho : w'.ownsRow 0 80 15 (.slice (some ⟨g, 0, none⟩) L.length cap) L.length (S66.row (L.set i x)) :=
    own_of (S := S66) (Nat.zero_le _) hb o.c1 o.c2 (by simp only [List.length_append, List.length_take, List.length_drop]; show _ = cap * 15; have := o.c3; omega) hr hlen.symm
  refine ⟨hf.cellK h.f0 (fun e => o.nQ e.symm), ⟨_, hf.cellK o.v1 (fun e => o.nQ e.symm), by rw [hlen]; exact ho, fun b hb' => ?_⟩, ?_, h.r.fr hf (fun e => o.np e.symm) (fun e => o.nA e.symm) (fun e => o.nT e.symm), h.qp, h.qA, h.qT, h.lQ, h.lp, h.lA, h.lT, fun k hk => Nat.lt_of_lt_of_le (h.ub k hk) hf.size, ?_, by rw [hlen]; exact h.len⟩
  · obtain rfl : g = b := by simpa [Value.ownBlock] using hb'
    exact ⟨o.lg, o.nQ, o.np, o.nA, o.nT⟩
  · have hq := World.block_lt_of_cell? _ _ h.f0
    rw [← h.z1]; unfold World.frozen?; rw [hf.block Q hq (fun e => o.nQ e.symm)]
  · rw [← thrE.ins_set h.up hi hk]; exact thrE.up_ins x L h.up
set_option maxRecDepth 100000 in
set_option maxHeartbeats 4000000 in
theorem rset (h : RTAt w O Q p A T cA cT s L) (id : Int) (c : Ctx) : Calls Tryd.prog 90 #[.pointer (some ⟨Q, 0, none⟩), .int .i64 id, (Value.agg #[.int .i64 c.p, .int .i64 c.q, .int .i64 c.r0, .int .i64 c.r1, .int .i64 c.r2, .int .i64 c.r3, .int .i64 c.r4, .int .i64 c.r5, .int .i64 c.r6, .int .i64 c.r7, .int .i64 c.d])] w fun e w' =>
    e = .returned (.int .i64 (fndE L id)) ∧ RTAt w' O Q p A T cA cT s (updT L id fun x => { x with c := c }) ∧ Fr O w w' := by
  have H := hid h
  have FD := hid (rfind (H.out.still ((Fr.refl _ w).alloc (.cells #[.int .i64 c.p, .int .i64 c.q, .int .i64 c.r0, .int .i64 c.r1, .int .i64 c.r2, .int .i64 c.r3, .int .i64 c.r4, .int .i64 c.r5, .int .i64 c.r6, .int .i64 c.r7, .int .i64 c.d] 58))) id)
  have HLe := h.len
  clear h
  have UP : updT L id (fun x => { x with c := c }) = if fndE L id = 0 then thrE.ins { fndT L id with c := c } L else L := rfl
  rw [UP]
  clear UP
  rcases pos_cases L id with ⟨i, hp, hi, h1, h2, h3⟩ | ⟨hp, h3, h1, _⟩
  · rw [hp] at FD
    rw [h1, h3, if_pos rfl]
    obtain ⟨x, hx⟩ : ∃ x, L[i] = x := ⟨_, rfl⟩
    rw [hx]
    have HX := hid hx
    have hi' : (i : Int) < (L.length : Int) := by omega
    obtain ⟨g, cap, C, ho⟩ := H.out.opened (by omega)
    have HO := hid ho
    have q1 := ho.v1
    clear hp h1 h2 h3 hx ho
    go_enter Tryd.func90, Tryd.ntmps90
    go_wp2_with fail
    refine FD.out.mono ?_
    rintro e w2 ⟨rfl, s2⟩
    have S2 : Hid (Still w w2) := hid (((Fr.refl _ _).alloc _).trans s2)
    have B2 : Hid (Blk w2 w.heap.size [.int .i64 c.p, .int .i64 c.q, .int .i64 c.r0, .int .i64 c.r1, .int .i64 c.r2, .int .i64 c.r3, .int .i64 c.r4, .int .i64 c.r5, .int .i64 c.r6, .int .i64 c.r7, .int .i64 c.d] 58) := hid ((Blk.new w _ 58).still s2)
    have q2 := Still.cell S2.out q1
    clear s2 q1
    go_wp2_with fail
    have R2 : w2.rangeAt w.heap.size 0 [.int .i64 c.p, .int .i64 c.q, .int .i64 c.r0, .int .i64 c.r1, .int .i64 c.r2, .int .i64 c.r3, .int .i64 c.r4, .int .i64 c.r5, .int .i64 c.r6, .int .i64 c.r7, .int .i64 c.d] := fun j v hv => by rw [Nat.zero_add, B2.out.cell j]; exact hv
    refine Held.wp_region_held_tail (S := (fun w' => w'.cell? ⟨Q, 1, none⟩ = some (.slice (some ⟨g, 0, none⟩) L.length cap) ∧ w'.rangeAt w.heap.size 0 [.int .i64 c.p, .int .i64 c.q, .int .i64 c.r0, .int .i64 c.r1, .int .i64 c.r2, .int .i64 c.r3, .int .i64 c.r4, .int .i64 c.r5, .int .i64 c.r6, .int .i64 c.r7, .int .i64 c.d])) 8 (by kernel_rfl) (by kernel_rfl) (by decide) ?hS1 (fun hHeld => ?hR1)
    case hS1 =>
      exact ⟨q2, R2⟩
    simp only [List.take_succ_cons, List.take_zero, List.drop_succ_cons, List.drop_zero]
    refine wpAnyH_take (i := 0) (oi := _) (v := ?v2) rfl (by kernel_rfl) (by kernel_rfl) (by kernel_rfl) (fun _ _ _ h => h) (Or.inl ⟨by rfl, ?y2⟩) (by assumption) ?r2
    case y2 => ((intro w hSw); (try dsimp only at hSw); go_simp; (try with_reducible rfl))
    (try simp only [Act.put, List.setIfInBounds_toArray, List.set_cons_zero, List.set_cons_succ])
    refine wpAnyH_take (i := 5) (oi := _) (v := (Value.agg #[.int .i64 c.p, .int .i64 c.q, .int .i64 c.r0, .int .i64 c.r1, .int .i64 c.r2, .int .i64 c.r3, .int .i64 c.r4, .int .i64 c.r5, .int .i64 c.r6, .int .i64 c.r7, .int .i64 c.d])) rfl (by kernel_rfl) (by kernel_rfl) (by kernel_rfl) (fun _ _ _ h => h) (yieldsIf_load_mid rfl 58 _ rfl w.heap.size 0 rfl [.int .i64 c.p, .int .i64 c.q, .int .i64 c.r0, .int .i64 c.r1, .int .i64 c.r2, .int .i64 c.r3, .int .i64 c.r4, .int .i64 c.r5, .int .i64 c.r6, .int .i64 c.r7, .int .i64 c.d] _ (fun w h => h.2) Tryd.underlying58 rfl I58) (by assumption) ?rM
    simp only [Act.put, List.setIfInBounds_toArray, List.set_cons_zero, List.set_cons_succ]
    refine wpAnyH_take (i := 1) (oi := _) (v := ?v3) rfl (by kernel_rfl) (by kernel_rfl) (by kernel_rfl) (fun _ _ _ h => h) (Or.inl ⟨by rfl, ?y3⟩) (by assumption) ?r3
    case y3 => ((intro w hSw); (try dsimp only at hSw); go_simp; (try with_reducible rfl))
    (try simp only [Act.put, List.setIfInBounds_toArray, List.set_cons_zero, List.set_cons_succ])
    refine wpAnyH_take (i := 2) (oi := _) (v := ?v4) rfl (by kernel_rfl) (by kernel_rfl) (by kernel_rfl) (fun _ _ _ h => h) (Or.inl ⟨by rfl, ?y4⟩) (by assumption) ?r4
    case y4 => ((intro w hSw); (try dsimp only at hSw); go_simp; (try with_reducible rfl))
    (try simp only [Act.put, List.setIfInBounds_toArray, List.set_cons_zero, List.set_cons_succ])
    refine wpAnyH_take (i := 3) (oi := _) (v := ?v5) rfl (by kernel_rfl) (by kernel_rfl) (by kernel_rfl) (fun _ _ _ h => h) (Or.inl ⟨by rfl, ?y5⟩) (by assumption) ?r5
    case y5 => ((intro w hSw); (try dsimp only at hSw); go_simp; (try with_reducible rfl))
    (try simp only [Act.put, List.setIfInBounds_toArray, List.set_cons_zero, List.set_cons_succ])
    refine wpAnyH_take (i := 4) (oi := _) (v := ?v6) rfl (by kernel_rfl) (by kernel_rfl) (by kernel_rfl) (fun _ _ _ h => h) (Or.inl ⟨by rfl, ?y6⟩) (by assumption) ?r6
    case y6 => ((intro w hSw); (try dsimp only at hSw); go_simp; (try with_reducible rfl))
    (try simp only [Act.put, List.setIfInBounds_toArray, List.set_cons_zero, List.set_cons_succ])
    refine wpAnyH_take (i := 6) (oi := _) (v := ?v7) rfl (by kernel_rfl) (by kernel_rfl) (by kernel_rfl) (fun _ _ _ h => h) (Or.inl ⟨by rfl, ?y7⟩) (by assumption) ?r7
    case y7 => ((intro w hSw); (try dsimp only at hSw); go_simp; (try with_reducible rfl))
    (try simp only [Act.put, List.setIfInBounds_toArray, List.set_cons_zero, List.set_cons_succ])
    refine wpAnyH_take (i := 7) (oi := _) (v := ?v8) rfl (by kernel_rfl) (by kernel_rfl) (by kernel_rfl) (fun _ _ _ h => h) (Or.inl ⟨by rfl, ?y8⟩) (by assumption) ?r8
    case y8 => ((intro w hSw); (try dsimp only at hSw); go_simp; (try with_reducible rfl))
    (try simp only [Act.put, List.setIfInBounds_toArray, List.set_cons_zero, List.set_cons_succ])
    refine wpAnyH_done (by kernel_rfl) (Held.tailQ_normal ?_) _
    simp only [Act.put, List.getElem_toArray, List.getElem_cons_zero, List.getElem_cons_succ, List.setIfInBounds_toArray, List.set_cons_zero, List.set_cons_succ]
    have SD : Hid (Still w w2.drew) := hid (Fr.drew S2.out)
    have O2 := HO.out.fr SD.out
    refine wpList_storeV rfl (.tmp 20) (.tmp 18) 58 rfl g (i * 15 + 3) 80 C [.int .i64 c.p, .int .i64 c.q, .int .i64 c.r0, .int .i64 c.r1, .int .i64 c.r2, .int .i64 c.r3, .int .i64 c.r4, .int .i64 c.r5, .int .i64 c.r6, .int .i64 c.r7, .int .i64 c.d] (Value.agg #[.int .i64 c.p, .int .i64 c.q, .int .i64 c.r0, .int .i64 c.r1, .int .i64 c.r2, .int .i64 c.r3, .int .i64 c.r4, .int .i64 c.r5, .int .i64 c.r6, .int .i64 c.r7, .int .i64 c.d]) rfl I58 (onesC c) rfl rfl O2.b (by have h1 := O2.c1; have h3 := O2.c3; have h2 : (i + 1) * 15 ≤ cap * 15 := Nat.mul_le_mul_right 15 (by omega); simp; omega) ?_
    intro w3 b3 f3
    have T3 := hid ((H.out.still SD.out).put O2 hi (off := 3) (x := { x with c := c }) (by rw [HX.out]) (B := [.int .i64 c.p, .int .i64 c.q, .int .i64 c.r0, .int .i64 c.r1, .int .i64 c.r2, .int .i64 c.r3, .int .i64 c.r4, .int .i64 c.r5, .int .i64 c.r6, .int .i64 c.r7, .int .i64 c.d]) (by simp) (by rw [HX.out]; rfl) b3 f3)
    have F3 : Hid (Fr O w w3) := hid ((SD.out.fr _).trans (f3.mono fun k _ hk => by rw [hk]; exact O2.lg))
    clear b3 f3 O2
    go_wp2_with fail
    go_ret
    exact ⟨rfl, T3.out, F3.out⟩
  · rw [hp] at FD
    rw [h3, if_neg (by decide)]
    clear hp h1 h3
    go_enter Tryd.func90, Tryd.ntmps90
    go_wp2_with fail
    refine FD.out.mono ?_
    rintro e w2 ⟨rfl, s2⟩
    have S2 : Hid (Still w w2) := hid (((Fr.refl _ _).alloc _).trans s2)
    clear s2
    go_wp2_with fail
    go_ret
    exact ⟨rfl, H.out.still S2.out, S2.out.fr _⟩
end
end Go.Proofs.YtffjaaolcphonaaDoor
/- The document's threads: Did, Turn. -/
namespace Go.Proofs.YtffjaaolcphonaaDoor
open Go.RowKit Go.Maps
set_option linter.unusedSimpArgs false
section
variable {w w' : World} {O : Nat → Prop} {Q p A T cA cT : Nat} {s : SS} {L : List Thr}
theorem ins_ins (h : thrE.Up L) {i : Nat} (hi : i < L.length) {y z : Thr} (hy : y.i = L[i].i) (hz : z.i = L[i].i) : thrE.ins z (thrE.ins y L) = thrE.ins z L := by
  have e1 := thrE.ins_set h hi (x := y) hy
  have hi2 : i < (L.set i y).length := by simpa using hi
  have h2 : thrE.Up (L.set i y) := by rw [← e1]; exact thrE.up_ins y L h
  rw [e1, thrE.ins_set h2 hi2 (x := z) (by simp; rw [show thrE.key z = z.i from rfl, show thrE.key y = y.i from rfl, hz, hy]), thrE.ins_set h hi (x := z) hz, List.set_set]
set_option maxRecDepth 100000 in
set_option maxHeartbeats 4000000 in
theorem rdid (h : RTAt w O Q p A T cA cT s L) (id : Int) (c : Ctx) : Calls Tryd.prog 91 #[.pointer (some ⟨Q, 0, none⟩), .int .i64 id, (Value.agg #[.int .i64 c.p, .int .i64 c.q, .int .i64 c.r0, .int .i64 c.r1, .int .i64 c.r2, .int .i64 c.r3, .int .i64 c.r4, .int .i64 c.r5, .int .i64 c.r6, .int .i64 c.r7, .int .i64 c.d])] w fun e w' =>
    e = .returned (.int .i64 (fndE L id)) ∧ RTAt w' O Q p A T cA cT s (updT L id fun x => { x with c := c, d := wrap64 (x.d + 1) }) ∧ Fr O w w' := by
  have H := hid h
  clear h
  have UP : updT L id (fun x => { x with c := c, d := wrap64 (x.d + 1) }) = if fndE L id = 0 then thrE.ins { fndT L id with c := c, d := wrap64 ((fndT L id).d + 1) } L else L := rfl
  have UQ : updT L id (fun x => { x with c := c }) = if fndE L id = 0 then thrE.ins { fndT L id with c := c } L else L := rfl
  rw [UP]
  have ST := fun (u : World) (hu : Still w u) => rset (H.out.still hu) id c
  rw [UQ] at ST
  clear UP UQ
  rcases pos_cases L id with ⟨i, hp, hi, h1, h2, h3⟩ | ⟨hp, h3, h1, _⟩
  · rw [h1, h3, if_pos rfl] at ST
    rw [h1, h3, if_pos rfl]
    obtain ⟨x, hx⟩ : ∃ x, L[i] = x := ⟨_, rfl⟩
    rw [hx] at ST h2 ⊢
    obtain ⟨y, hy⟩ : ∃ y, { x with c := c } = y := ⟨_, rfl⟩
    rw [hy] at ST
    have yi : y.i = L[i].i := by rw [← hy, hx]
    have IS := thrE.ins_set H.out.up hi (x := y) yi
    have HST := hid ST
    have HX := hid hx
    have HY := hid hy
    have HI := hid h2
    have HIS := hid IS
    have HYI := hid yi
    have hi' : (i : Int) < (L.length : Int) := by omega
    clear hp h1 h2 h3 hx ST IS yi hy
    go_enter Tryd.func91, Tryd.ntmps91
    go_wp2_with (refine wpList_loadW rfl (.tmp 5) 58 rfl _ Tryd.underlying58 rfl _ 58 [.int .i64 c.p, .int .i64 c.q, .int .i64 c.r0, .int .i64 c.r1, .int .i64 c.r2, .int .i64 c.r3, .int .i64 c.r4, .int .i64 c.r5, .int .i64 c.r6, .int .i64 c.r7, .int .i64 c.d] I58 rfl (Blk.new _ _ 58) ?_)
    refine (HST.out _ ((Fr.refl _ _).alloc _)).mono ?_
    rintro e w2 ⟨rfl, t2, f2⟩
    have T2 := hid t2
    have F2 : Hid (Fr O w w2) := hid (((Fr.refl _ _).alloc _).trans f2)
    have hl2 : (thrE.ins y L).length = L.length := by rw [HIS.out, List.length_set]
    obtain ⟨g, cap, C, ho⟩ := t2.opened (by omega)
    have HO := hid ho
    have q2 := ho.v1
    rw [hl2] at q2
    have hi2 : i < (thrE.ins y L).length := by omega
    have gi : (thrE.ins y L)[i] = y := by simp only [HIS.out, List.getElem_set_self]
    have r2 := ho.at hi2
    rw [gi] at r2
    have d2 : w2.cell? ⟨g, i * 15 + 14, none⟩ = some (.int .i64 y.d) := r2 14 _ rfl
    have FD := fun (u : World) (hu : Still w2 u) => rfind (T2.out.still hu) id
    rw [pos_at hi2 (by rw [gi, HYI.out, HX.out]; exact HI.out) (fun j hj => by
      have hj2 : j < L.length := by omega
      have : (thrE.ins y L)[j] = L[j] := by simp only [HIS.out]; rw [List.getElem_set_ne (by omega)]
      rw [this]
      intro e
      have h1 := List.pairwise_iff_getElem.1 H.out.up j i hj2 hi hj
      have h4 : L[j].i < L[i].i := h1
      rw [HX.out, HI.out] at h4
      omega)] at FD
    have HFD := hid FD
    have GI : Hid (∀ h : i < (thrE.ins y L).length, (thrE.ins y L)[i] = y) := hid (fun _ => gi)
    have HI2 := hid hi2
    clear t2 f2 ho r2 FD gi hl2 hi2
    go_wp2_with fail
    refine Held.wp_region_held_tail (S := (fun w' => w'.cell? ⟨Q, 1, none⟩ = some (.slice (some ⟨g, 0, none⟩) L.length cap) ∧ w'.cell? ⟨g, i * 15 + 14, none⟩ = some (.int .i64 y.d))) 13 (by kernel_rfl) (by kernel_rfl) (by decide) ?hS1 (fun hHeld => ?hR1)
    case hS1 =>
      exact ⟨q2, d2⟩
    simp only [List.take_succ_cons, List.take_zero, List.drop_succ_cons, List.drop_zero]
    refine wpAnyH_take (i := 0) (oi := _) (v := ?v2) rfl (by kernel_rfl) (by kernel_rfl) (by kernel_rfl) (fun _ _ _ h => h) (Or.inl ⟨by rfl, ?y2⟩) (by assumption) ?r2
    case y2 => ((intro w hSw); (try dsimp only at hSw); go_simp; (try with_reducible rfl))
    (try simp only [Act.put, List.setIfInBounds_toArray, List.set_cons_zero, List.set_cons_succ])
    refine wpAnyH_take (i := 1) (oi := _) (v := ?v3) rfl (by kernel_rfl) (by kernel_rfl) (by kernel_rfl) (fun _ _ _ h => h) (Or.inl ⟨by rfl, ?y3⟩) (by assumption) ?r3
    case y3 => ((intro w hSw); (try dsimp only at hSw); go_simp; (try with_reducible rfl))
    (try simp only [Act.put, List.setIfInBounds_toArray, List.set_cons_zero, List.set_cons_succ])
    refine wpAnyH_take (i := 2) (oi := _) (v := ?v4) rfl (by kernel_rfl) (by kernel_rfl) (by kernel_rfl) (fun _ _ _ h => h) (Or.inl ⟨by rfl, ?y4⟩) (by assumption) ?r4
    case y4 => ((intro w hSw); (try dsimp only at hSw); go_simp; (try with_reducible rfl))
    (try simp only [Act.put, List.setIfInBounds_toArray, List.set_cons_zero, List.set_cons_succ])
    refine wpAnyH_take (i := 3) (oi := _) (v := ?v5) rfl (by kernel_rfl) (by kernel_rfl) (by kernel_rfl) (fun _ _ _ h => h) (Or.inl ⟨by rfl, ?y5⟩) (by assumption) ?r5
    case y5 => ((intro w hSw); (try dsimp only at hSw); go_simp; (try with_reducible rfl))
    (try simp only [Act.put, List.setIfInBounds_toArray, List.set_cons_zero, List.set_cons_succ])
    refine wpAnyH_take (i := 4) (oi := _) (v := ?v6) rfl (by kernel_rfl) (by kernel_rfl) (by kernel_rfl) (fun _ _ _ h => h) (Or.inl ⟨by rfl, ?y6⟩) (by assumption) ?r6
    case y6 => ((intro w hSw); (try dsimp only at hSw); go_simp; (try with_reducible rfl))
    (try simp only [Act.put, List.setIfInBounds_toArray, List.set_cons_zero, List.set_cons_succ])
    refine wpAnyH_take (i := 5) (oi := _) (v := ?v7) rfl (by kernel_rfl) (by kernel_rfl) (by kernel_rfl) (fun _ _ _ h => h) (Or.inl ⟨by rfl, ?y7⟩) (by assumption) ?r7
    case y7 => ((intro w hSw); (try dsimp only at hSw); go_simp; (try with_reducible rfl))
    (try simp only [Act.put, List.setIfInBounds_toArray, List.set_cons_zero, List.set_cons_succ])
    refine wpAnyH_ready (rs := [6]) (by kernel_rfl) (by simp) ?_
    refine AllReadyH.cons rfl (fun K hK => ?st8) AllReadyH.nil
    go_simp
    go_at_call 99
    refine (HFD.out _ (by exact (Fr.refl _ _).drew)).mono ?_
    rintro e w3 ⟨rfl, s3⟩
    have S3 : Hid (Still w2 w3) := hid (Still.trans (Fr.refl _ _).drew s3)
    clear s3
    refine hK.out _ _ ?k8 (fun hHeld8 => ?_)
    case k8 =>
      exact ⟨Still.cell S3.out q2, Still.cell S3.out d2⟩
    clear hK K
    (try simp only [Act.put, List.setIfInBounds_toArray, List.set_cons_zero, List.set_cons_succ])
    refine wpAnyH_take (i := 7) (oi := _) (v := ?v9) rfl (by kernel_rfl) (by kernel_rfl) (by kernel_rfl) (fun _ _ _ h => h) (Or.inl ⟨by rfl, ?y9⟩) (by assumption) ?r9
    case y9 => ((intro w hSw); (try dsimp only at hSw); go_simp; (try with_reducible rfl))
    (try simp only [Act.put, List.setIfInBounds_toArray, List.set_cons_zero, List.set_cons_succ])
    refine wpAnyH_take (i := 8) (oi := _) (v := ?v10) rfl (by kernel_rfl) (by kernel_rfl) (by kernel_rfl) (fun _ _ _ h => h) (Or.inl ⟨by rfl, ?y10⟩) (by assumption) ?r10
    case y10 => ((intro w hSw); (try dsimp only at hSw); go_simp; (try with_reducible rfl))
    (try simp only [Act.put, List.setIfInBounds_toArray, List.set_cons_zero, List.set_cons_succ])
    refine wpAnyH_take (i := 9) (oi := _) (v := ?v11) rfl (by kernel_rfl) (by kernel_rfl) (by kernel_rfl) (fun _ _ _ h => h) (Or.inl ⟨by rfl, ?y11⟩) (by assumption) ?r11
    case y11 => ((intro w hSw); (try dsimp only at hSw); go_simp; (try with_reducible rfl))
    (try simp only [Act.put, List.setIfInBounds_toArray, List.set_cons_zero, List.set_cons_succ])
    refine wpAnyH_take (i := 10) (oi := _) (v := ?v12) rfl (by kernel_rfl) (by kernel_rfl) (by kernel_rfl) (fun _ _ _ h => h) (Or.inl ⟨by rfl, ?y12⟩) (by assumption) ?r12
    case y12 => ((intro w hSw); (try dsimp only at hSw); go_simp; (try with_reducible rfl))
    (try simp only [Act.put, List.setIfInBounds_toArray, List.set_cons_zero, List.set_cons_succ])
    refine wpAnyH_take (i := 11) (oi := _) (v := ?v13) rfl (by kernel_rfl) (by kernel_rfl) (by kernel_rfl) (fun _ _ _ h => h) (Or.inl ⟨by rfl, ?y13⟩) (by assumption) ?r13
    case y13 => ((intro w hSw); (try dsimp only at hSw); go_simp; (try with_reducible rfl))
    (try simp only [Act.put, List.setIfInBounds_toArray, List.set_cons_zero, List.set_cons_succ])
    refine wpAnyH_take (i := 12) (oi := _) (v := ?v14) rfl (by kernel_rfl) (by kernel_rfl) (by kernel_rfl) (fun _ _ _ h => h) (Or.inl ⟨by rfl, ?y14⟩) (by assumption) ?r14
    case y14 => ((intro w hSw); (try dsimp only at hSw); go_simp; (try with_reducible rfl))
    (try simp only [Act.put, List.setIfInBounds_toArray, List.set_cons_zero, List.set_cons_succ])
    refine wpAnyH_done (by kernel_rfl) (Held.tailQ_normal ?_) _
    simp only [Act.put, List.getElem_toArray, List.getElem_cons_zero, List.getElem_cons_succ, List.setIfInBounds_toArray, List.set_cons_zero, List.set_cons_succ]
    have O3 := HO.out.fr S3.out
    refine wpList_storeV rfl (.tmp 26) (.tmp 24) 3 rfl g (i * 15 + 14) 80 C [.int .i64 (wrap64 (y.d + 1))] (.int .i64 (wrap64 (y.d + 1))) rfl (by kernel_rfl) (by simp; rfl) rfl (congrArg (Value.int .i64) (show IntKind.i64.wrap (y.d + 1) = wrap64 (y.d + 1) by rw [IntKind.wrap_i64]; unfold wrap64; omega)) O3.b (by have h1 := O3.c1; have h3 := O3.c3; have h4 := HI2.out; have h2 : (i + 1) * 15 ≤ cap * 15 := Nat.mul_le_mul_right 15 (by omega); simp; omega) ?_
    intro w4 b4 f4
    have T4 := (T2.out.still S3.out).put O3 HI2.out (off := 14) (x := { y with d := wrap64 (y.d + 1) }) (by rw [GI.out HI2.out]) (B := [.int .i64 (wrap64 (y.d + 1))]) (by simp) (by rw [GI.out HI2.out]; rfl) b4 f4
    rw [ins_ins H.out.up hi HYI.out (z := { y with d := wrap64 (y.d + 1) }) HYI.out] at T4
    have HT4 := hid T4
    have F4 : Hid (Fr O w w4) := hid ((F2.out.trans (S3.out.fr _)).trans (f4.mono fun k _ hk => by rw [hk]; exact O3.lg))
    clear b4 f4 O3 T4
    go_wp2_with fail
    go_ret
    exact ⟨rfl, by have h := HT4.out; rw [← HY.out] at h; exact h, F4.out⟩
  · rw [h3, if_neg (by decide)] at ST
    rw [h3, if_neg (by decide)]
    have HST := hid ST
    clear hp h1 h3 ST
    go_enter Tryd.func91, Tryd.ntmps91
    go_wp2_with (refine wpList_loadW rfl (.tmp 5) 58 rfl _ Tryd.underlying58 rfl _ 58 [.int .i64 c.p, .int .i64 c.q, .int .i64 c.r0, .int .i64 c.r1, .int .i64 c.r2, .int .i64 c.r3, .int .i64 c.r4, .int .i64 c.r5, .int .i64 c.r6, .int .i64 c.r7, .int .i64 c.d] I58 rfl (Blk.new _ _ 58) ?_)
    refine (HST.out _ ((Fr.refl _ _).alloc _)).mono ?_
    rintro e w2 ⟨rfl, t2, f2⟩
    have T2 := hid t2
    have F2 : Hid (Fr O w w2) := hid (((Fr.refl _ _).alloc _).trans f2)
    clear t2 f2
    go_wp2_with fail
    go_ret
    exact ⟨rfl, T2.out, F2.out⟩
end
end Go.Proofs.YtffjaaolcphonaaDoor
/- The document's threads: Turn. -/
namespace Go.Proofs.YtffjaaolcphonaaDoor
open Go.RowKit Go.Maps
set_option linter.unusedSimpArgs false
section
variable {w w' : World} {O : Nat → Prop} {Q p A T cA cT : Nat} {s : SS} {L : List Thr}
def rtE (L : List Thr) (k : Int) (fs : List Int) : Int := if fndE L k = 0 then (if fs.contains (fndT L k).s = true then 0 else 5) else 4
def rtL (L : List Thr) (k : Int) (fs : List Int) (tz : Int) : List Thr := if fndE L k = 0 then (if fs.contains (fndT L k).s = true then thrE.ins { fndT L k with s := tz } L else L) else L
theorem IRow.at {w : World} {v : Value} {xs : List Int} (h : IRow w v xs) {i : Nat} (hi : i < xs.length) : ∃ b off c, v = .slice (some ⟨b, off, none⟩) xs.length c ∧ w.cell? ⟨b, off + i, none⟩ = some (.int .i64 (xs.getD i 0)) := by
  rcases h with ⟨rfl, _⟩ | ⟨_, b, off, c, hv, hc⟩
  · cases hi
  · exact ⟨b, off, c, hv, hc i hi⟩
set_option maxRecDepth 100000 in
set_option maxHeartbeats 4000000 in
theorem rturn (h : RTAt w O Q p A T cA cT s L) (id tz : Int) (v : Value) (fs : List Int) (hv : IRow w v fs) (hfl : fs.length ≤ 100) : Calls Tryd.prog 92 #[.pointer (some ⟨Q, 0, none⟩), .int .i64 id, .int .i64 tz, v] w fun e w' =>
    e = .returned (.int .i64 (rtE L id fs)) ∧ RTAt w' O Q p A T cA cT s (rtL L id fs tz) ∧ Fr O w w' := by
  have H := hid h
  have FD := hid (rfind h id)
  have HV := hid hv
  obtain ⟨va, vc, rfl⟩ := hv.len
  clear h hv
  rcases pos_cases L id with ⟨i, hp, hi, h1, h2, h3⟩ | ⟨hp, h3, h1, _⟩
  · rw [hp] at FD
    obtain ⟨x, hx⟩ : ∃ x, L[i] = x := ⟨_, rfl⟩
    have EE : Hid (rtE L id fs = if fs.contains x.s = true then 0 else 5) := hid (by unfold rtE; rw [h1, h3, if_pos (show (0 : Int) = 0 from rfl), hx])
    have EL : Hid (rtL L id fs tz = if fs.contains x.s = true then thrE.ins { x with s := tz } L else L) := hid (by unfold rtL; rw [h1, h3, if_pos (show (0 : Int) = 0 from rfl), hx])
    have HX := hid hx
    have HI2 := hid hi
    have hi' : (i : Int) < (L.length : Int) := by omega
    obtain ⟨g, cap, C, ho⟩ := H.out.opened (by omega)
    have HO := hid ho
    clear hp h1 h2 h3 hx ho
    go_enter Tryd.func92, Tryd.ntmps92
    go_wp2_with fail
    refine FD.out.mono ?_
    rintro e w2 ⟨rfl, s2⟩
    have S2 := hid s2
    have q2 := Still.cell s2 HO.out.v1
    have r2 := (HO.out.fr s2).at HI2.out
    rw [HX.out] at r2
    have d2 : w2.cell? ⟨g, i * 15 + 1, none⟩ = some (.int .i64 x.s) := r2 1 _ rfl
    have D2 := hid d2
    have z2 : w2.frozen? ⟨g, i * 15 + 1, none⟩ = false := (HO.out.fr s2).b.frozen _
    clear s2 r2
    go_wp2_with fail
    go_loopw [11, 19] (fun s11 cc wx => ∃ j : Nat, cc = .int .i64 j ∧ j ≤ fs.length ∧ wx = w2 ∧ Hid (∀ k, k < j → fs.getD k 0 ≠ x.s)) (fun _ cc _ => fs.length - (intOf cc).toNat)
    case atStart => exact ⟨0, rfl, Nat.zero_le _, rfl, hid (fun k hk => by omega)⟩
    case round =>
      obtain ⟨j, rfl, hj, hw, NO⟩ := hrel
      subst hw
      by_cases hlt : j < fs.length
      · have hlt' : (j : Int) < (fs.length : Int) := by omega
        obtain ⟨vb, voff, vc2, ev, hcell⟩ := (HV.out.still S2.out).at hlt
        obtain ⟨rfl, rfl⟩ : va = some ⟨vb, voff, none⟩ ∧ vc = vc2 := by injection ev with e1 _ e3; exact ⟨e1, e3⟩
        obtain ⟨f, hf⟩ : ∃ f, fs.getD j 0 = f := ⟨_, rfl⟩
        rw [hf] at hcell
        have HF := hid hf
        clear hf ev
        by_cases hs : x.s = f
        · have e0 : (x.s == f) = true := by simp [hs]
          have hin : fs.contains x.s = true := by
            rw [List.contains_iff_mem, hs, ← HF.out]
            simp only [List.getD_eq_getElem?_getD, List.getElem?_eq_getElem hlt]
            exact List.getElem_mem hlt
          have HIN := hid hin
          clear hs hin
          have O2 := hid (HO.out.fr S2.out)
          go_wp2_with (refine wpList_storeV rfl (.tmp 40) (.tmp 38) 3 rfl g (i * 15 + 1) 80 C [.int .i64 tz] (.int .i64 tz) rfl (by kernel_rfl) (by simp; rfl) rfl rfl O2.out.b (by have h1 := O2.out.c1; have h3 := O2.out.c3; have h4 := HI2.out; have h2 : (i + 1) * 15 ≤ cap * 15 := Nat.mul_le_mul_right 15 (by omega); simp; omega) ?_; intro w4 b4 f4; have T4 := hid ((H.out.still S2.out).put O2.out HI2.out (off := 1) (x := { x with s := tz }) (by rw [HX.out]) (B := [.int .i64 tz]) (by simp) (by rw [HX.out]; rfl) b4 f4); have F4 : Hid (Fr O w w4) := hid ((S2.out.fr _).trans (f4.mono fun k _ hk => by rw [hk]; exact O2.out.lg)); clear b4 f4)
          go_ret
          rw [EE.out, EL.out, if_pos HIN.out, if_pos HIN.out]
          exact ⟨rfl, T4.out, F4.out⟩
        · have e0 : (x.s == f) = false := by simp [hs]
          have HS := hid hs
          clear hs
          go_wp2_with fail
          go_roundw
          case rel => exact ⟨j + 1, by go_num, by omega, trivial, hid (fun k hk => by
            by_cases e : k = j
            · subst e; rw [HF.out]; exact fun h => HS.out h.symm
            · exact NO.out k (by omega))⟩
          case measure => simp [intOf]; omega
      · have hlt' : ¬ (j : Int) < (fs.length : Int) := by omega
        have hin : ¬ fs.contains x.s = true := by
          rw [List.contains_iff_mem]
          intro hm
          obtain ⟨k, hk, he⟩ := List.getElem_of_mem hm
          refine NO.out k (by omega) ?_
          simp only [List.getD_eq_getElem?_getD, List.getElem?_eq_getElem hk]
          exact he
        have HIN := hid hin
        clear hin
        go_wp2_with fail
        go_ret
        rw [EE.out, EL.out, if_neg HIN.out, if_neg HIN.out]
        exact ⟨rfl, H.out.still S2.out, S2.out.fr _⟩
  · rw [hp] at FD
    have EE : Hid (rtE L id fs = 4) := hid (by unfold rtE; rw [h3]; rfl)
    have EL : Hid (rtL L id fs tz = L) := hid (by unfold rtL; rw [h3]; rfl)
    clear hp h1 h3
    go_enter Tryd.func92, Tryd.ntmps92
    go_wp2_with fail
    refine FD.out.mono ?_
    rintro e w2 ⟨rfl, s2⟩
    have S2 := hid s2
    clear s2
    go_wp2_with fail
    go_ret
    rw [EE.out, EL.out]
    exact ⟨rfl, H.out.still S2.out, S2.out.fr _⟩
end
end Go.Proofs.YtffjaaolcphonaaDoor
/- The document's threads: End. -/
namespace Go.Proofs.YtffjaaolcphonaaDoor
open Go.RowKit Go.Maps
set_option linter.unusedSimpArgs false
section
variable {α : Type} {S : SK α} {w : World} {L : List α}
theorem srow_take {g n q i : Nat} {C : List Value} (hb : Blk w g C S.Et) (hn : n = L.length) (hc : C.take (n * S.sz) = S.row L) (hi : i ≤ n) : SRow S w (.slice (some ⟨g, 0, none⟩) i q) (L.take i) := by
  have hl : (L.take i).length = i := by rw [List.length_take]; omega
  by_cases h0 : 0 < i
  · refine .inr ⟨by omega, g, 0, q, by rw [hl], fun j v hv => ?_⟩
    rw [Nat.zero_add, hb.cell]
    have e : S.row (L.take i) = C.take (i * S.sz) := by
      have h1 : S.row L = S.row (L.take i) ++ S.row (L.drop i) := by rw [← S.row_app, List.take_append_drop]
      have h2 : (S.row (L.take i)).length = i * S.sz := by rw [S.row_len, hl]
      rw [h1] at hc
      have h3 := congrArg (List.take (i * S.sz)) hc
      rw [List.take_take, Nat.min_eq_left (Nat.mul_le_mul_right _ hi), ← h2, List.take_left'] at h3
      · rw [← h2]; exact h3.symm
      · rfl
    rw [e, List.getElem?_take] at hv
    split at hv
    · exact hv
    · cases hv
  · obtain rfl : i = 0 := by omega
    exact .inl ⟨by simp, _, _, rfl⟩
theorem srow_drop {g n q i l : Nat} {C : List Value} {a : Option Addr} {k : Nat} (hb : Blk w g C S.Et) (hn : n = L.length) (hc : C.take (n * S.sz) = S.row L) (hi : i ≤ n) (hl : l = n - i) (hq : n ≤ q) (ha : i < q → a = some ⟨g, i * S.sz, none⟩) : SRow S w (.slice a l k) (L.drop i) := by
  subst hl
  by_cases h0 : i < n
  · have hd : (L.drop i).length = n - i := by rw [List.length_drop]; omega
    rw [ha (by omega)]
    refine .inr ⟨by omega, g, i * S.sz, k, by rw [hd], fun j v hv => ?_⟩
    rw [hb.cell]
    have h1 : S.row L = S.row (L.take i) ++ S.row (L.drop i) := by rw [← S.row_app, List.take_append_drop]
    have h2 : (S.row (L.take i)).length = i * S.sz := by rw [S.row_len, List.length_take, Nat.min_eq_left (by omega)]
    have hj : j < (S.row (L.drop i)).length := (List.getElem?_eq_some_iff.1 hv).1
    have h3 : (C.take (n * S.sz))[i * S.sz + j]? = some v := by
      rw [hc, h1, ← h2, List.getElem?_append_right (by omega)]
      rw [Nat.add_sub_cancel_left]; exact hv
    rw [List.getElem?_take] at h3
    split at h3
    · exact h3
    · cases h3
  · have e : n - i = 0 := by omega
    rw [e]
    exact .inl ⟨List.drop_eq_nil_of_le (by omega), _, _, rfl⟩
end
section
variable {w w' : World} {O : Nat → Prop} {Q p A T cA cT : Nat} {s : SS} {L : List Thr}
/-- The blocks of a table behind a step that may have made some. -/
def upO (O : Nat → Prop) (a b : World) (k : Nat) : Prop := O k ∨ (a.heap.size ≤ k ∧ k < b.heap.size)
theorem RTAt.mono {O' : Nat → Prop} (h : RTAt w O Q p A T cA cT s L) (h1 : ∀ k, O k → O' k) (h2 : ∀ k, O' k → k < w.heap.size) : RTAt w O' Q p A T cA cT s L := by
  obtain ⟨v, v1, v2, v3⟩ := h.ex
  exact { h with ex := ⟨v, v1, v2, fun b hb => ⟨h1 b (v3 b hb).1, (v3 b hb).2⟩⟩, lQ := h1 _ h.lQ, lp := h1 _ h.lp, lA := h1 _ h.lA, lT := h1 _ h.lT, ub := h2 }
theorem RTAt.up0 {w0 : World} (h : RTAt w O Q p A T cA cT s L) : RTAt w (upO O w0 w) Q p A T cA cT s L := h.mono (fun _ hk => .inl hk) (fun k hk => hk.elim (h.ub k) (fun h => h.2))
theorem RTAt.swap {w0 : World} (h : RTAt w0 O Q p A T cA cT s L) (hs : Still w0 w) {base : Nat} {v : Value} {L' : List Thr} (ho : w.ownsRow base 80 15 v L'.length (S66.row L')) (hb : w0.heap.size ≤ base) (hu : thrE.Up L') (hl : L'.length ≤ 100000) :
    RTAt (w.setCell ⟨Q, 1, none⟩ v) (upO O w0 w) Q p A T cA cT s L' := by
  have h1 := h.still hs
  obtain ⟨u, u1, _, _⟩ := h1.ex
  have lQ := World.block_lt_of_cell? _ _ h.f0
  have lQ' : Q < base := by have : Q < w0.heap.size := lQ; omega
  have hr := h.r
  have hf : Fr (fun k => k = Q) w (w.setCell ⟨Q, 1, none⟩ v) := Fr.setCell (F := fun k => k = Q) (p := ⟨Q, 1, none⟩) (Fr.refl _ _) (.inl rfl) v
  refine ⟨by rw [World.cell?_setCell_other _ _ _ _ (by simp)]; exact h1.f0, ⟨v, World.cell?_setCell_same' _ _ _ (by rw [u1]; rfl), ownsRow_base (ownsRow_setCell_below ho (show (⟨Q, 1, none⟩ : Addr).block < base from lQ') v) (Nat.zero_le _), fun b hb' => ?_⟩, by rw [World.frozen?_setCell]; exact h1.z1, h1.r.fr hf (fun e => h.qp e.symm) (fun e => h.qA e.symm) (fun e => h.qT e.symm), h.qp, h.qA, h.qT, .inl h.lQ, .inl h.lp, .inl h.lA, .inl h.lT, fun k hk => ?_, hu, hl⟩
  · have hge : base ≤ b ∧ b < w.heap.size := by
      obtain ⟨_, ⟨rfl, _⟩ | ⟨g, cap, cur, rfl, hg, hcur, _⟩⟩ := ho
      · cases hb'
      · have : g = b := by simpa [Value.ownBlock] using hb'
        have hgl := (Array.getElem?_eq_some_iff.1 hcur).1
        omega
    have e1 := hr.hp.lt
    have e2 := hr.hA.lt
    have e3 := hr.hT.lt
    exact ⟨.inr ⟨by omega, hge.2⟩, by omega, by omega, by omega, by omega⟩
  · refine Nat.lt_of_lt_of_le ?_ hf.size
    rcases hk with hk | hk
    · exact h1.ub k hk
    · exact hk.2
theorem RTAt.slots {s' : SS} (h : RTAt w O Q p A T cA cT s L) (hr : RAt w' p A T cA cT s') (hf : Fr (fun k => k = T) w w') : RTAt w' O Q p A T cA cT s' L := by
  obtain ⟨v, v1, v2, v3⟩ := h.ex
  refine ⟨hf.cellK h.f0 h.qT, ⟨v, hf.cellK v1 h.qT, ?_, v3⟩, ?_, hr, h.qp, h.qA, h.qT, h.lQ, h.lp, h.lA, h.lT, fun k hk => Nat.lt_of_lt_of_le (h.ub k hk) hf.size, h.up, h.len⟩
  · obtain ⟨e, ⟨rfl, h2⟩ | ⟨g, cap, cur, rfl, hg, hcur, r⟩⟩ := v2
    · exact ⟨e, .inl ⟨rfl, h2⟩⟩
    · have hgl := (Array.getElem?_eq_some_iff.1 hcur).1
      exact ⟨e, .inr ⟨g, cap, cur, rfl, hg, (hf.block g hgl (v3 g rfl).2.2.2.2).trans hcur, r⟩⟩
  · have hq := World.block_lt_of_cell? _ _ h.f0
    rw [← h.z1]; unfold World.frozen?; rw [hf.block Q hq h.qT]
theorem Value.slice_cells {w : World} {base n : Nat} {e : TypeId} {sz : Nat} {v : Value} {xs : List Value} (h : w.ownsRow base e sz v n xs) : v.cells = #[v] ∧ v.oneCell' = true := by
  obtain ⟨_, ⟨rfl, _⟩ | ⟨g, cap, cur, rfl, _⟩⟩ := h
  · exact ⟨rfl, rfl⟩
  · exact ⟨rfl, rfl⟩
theorem rtL_same (h : thrE.Up L) (k : Int) (st : Int) : rtL L k [st] st = L := by
  unfold rtL
  split
  · split
    · rename_i h1 h2
      rcases pos_cases L k with ⟨i, _, hi, e1, e2, _⟩ | ⟨_, e, _⟩
      · have h3 : (fndT L k).s = st := by simpa using h2
        have h4 : ({ fndT L k with s := st } : Thr) = L[i] := by rw [← h3, e1]
        rw [h4, thrE.ins_set h hi rfl, List.set_getElem_self]
      · rw [e] at h1; cases h1
    · rfl
  · rfl
theorem del_pos (h : thrE.Up L) {k : Int} {i : Nat} (hi : i < L.length) (hk : L[i].i = k) : thrE.del k L = L.take i ++ L.drop (i + 1) := by
  unfold El.del
  have e : L = L.take i ++ (L[i] :: L.drop (i + 1)) := by rw [List.getElem_cons_drop, List.take_append_drop]
  have hp := List.pairwise_iff_getElem.1 h
  conv => lhs; rw [e]
  rw [List.filter_append, List.filter_cons]
  have e1 : (L.take i).filter (fun x => thrE.key x != k) = L.take i := by
    rw [List.filter_eq_self]
    intro x hx
    obtain ⟨j, hj, rfl⟩ := List.getElem_of_mem hx
    rw [List.length_take] at hj
    have h1 := hp j i (by omega) hi (by omega)
    rw [List.getElem_take]
    have h2 : L[j].i < L[i].i := h1
    show (L[j].i != k) = true
    simp; omega
  have e2 : (L.drop (i + 1)).filter (fun x => thrE.key x != k) = L.drop (i + 1) := by
    rw [List.filter_eq_self]
    intro x hx
    obtain ⟨j, hj, rfl⟩ := List.getElem_of_mem hx
    rw [List.length_drop] at hj
    have h1 := hp i (i + 1 + j) hi (by omega) (by omega)
    rw [List.getElem_drop]
    have h2 : L[i].i < L[i + 1 + j].i := h1
    show (L[i + 1 + j].i != k) = true
    simp; omega
  have e3 : (thrE.key L[i] != k) = false := by show (L[i].i != k) = false; simp [hk]
  rw [e1, e2, e3]; rfl
set_option maxRecDepth 100000 in
set_option maxHeartbeats 4000000 in
theorem rend (h : RTAt w O Q p A T cA cT s L) (id : Int) (hin : inI id) : Calls Tryd.prog 93 #[.pointer (some ⟨Q, 0, none⟩), .int .i64 id] w fun e w' =>
    e = .returned (.int .i64 (rtE L id [2])) ∧ RTAt w' (upO O w w') Q p A T cA cT (endS s L id) (endL L id) ∧ Fr O w w' := by
  have H := hid h
  have HIN := hid hin
  have TU := hid (rturn (h.still ((Fr.refl _ w).alloc (.cells #[.int .i64 2] 3))) id 2 _ [2] (one_new w 2 1) (by decide))
  rw [rtL_same h.up] at TU
  clear h
  unfold endS endL
  rcases pos_cases L id with ⟨i, hp, hi, h1, h2, h3⟩ | ⟨hp, h3, h1, _⟩
  · rw [h1, h3, if_pos (show (0 : Int) = 0 from rfl), if_pos (show (0 : Int) = 0 from rfl)]
    have DP := del_pos H.out.up hi h2
    obtain ⟨x, hx⟩ : ∃ x, L[i] = x := ⟨_, rfl⟩
    have EE : Hid (rtE L id [2] = if x.s = 2 then 0 else 5) := hid (by unfold rtE; rw [h1, h3, if_pos (show (0 : Int) = 0 from rfl), hx]; simp)
    rw [hx]
    have HX := hid hx
    have HI2 := hid hi
    have HDP := hid DP
    have HP := hid hp
    clear hp h1 h2 h3 hx DP
    by_cases hs : x.s = 2
    · rw [EE.out, if_pos hs] at TU
      rw [if_pos hs, if_pos hs]
      have E0 : Hid (rtE L id [2] = 0) := hid (by rw [EE.out, if_pos hs])
      clear hs
      have hi' : (i : Int) < (L.length : Int) := by omega
      go_enter Tryd.func93, Tryd.ntmps93
      go_wp2_with fail
      refine TU.out.mono ?_
      rintro e w2 ⟨rfl, t2, f2⟩
      have T2 := hid t2
      have F2 : Hid (Fr O w w2) := hid (((Fr.refl _ _).alloc _).trans f2)
      have FD := hid (rfind t2 id)
      rw [HP.out] at FD
      clear t2 f2
      go_wp2_with fail
      refine FD.out.mono ?_
      rintro e w3 ⟨rfl, s3⟩
      have T3 := hid (T2.out.still s3)
      have F3 : Hid (Fr O w w3) := hid (F2.out.trans (s3.fr _))
      clear s3
      obtain ⟨g, cap, C, ho⟩ := T3.out.opened (by omega)
      have HO := hid ho
      have q3 := ho.v1
      have hc1 := ho.c1
      have iq : i ≤ cap := by omega
      obtain ⟨k1, hk1⟩ : ∃ k1, i + 1 = k1 := ⟨_, rfl⟩
      have kl : k1 ≤ L.length := by omega
      have iw : IntKind.i64.wrap ((i : Int) + 1) = (k1 : Int) := by rw [IntKind.wrap_i64]; have := H.out.len; omega
      have HK1 := hid hk1
      have z3 := T3.out.z1
      have R1 := hid (srow_take (S := S66) (q := cap) ho.b rfl ho.c4 (Nat.le_of_lt HI2.out))
      have R2 := hid (srow_drop (S := S66) (l := L.length - k1) (a := if cap = k1 then some ⟨g, 0, none⟩ else some ⟨g, k1 * 15, none⟩) (k := cap - k1) ho.b rfl ho.c4 kl rfl hc1 (fun h => if_neg (by omega)))
      have LL := hid T3.out.len
      clear hk1 ho
      go_wp2_with fail
      refine Held.wp_region_held_tail (S := (fun w' => w'.cell? ⟨Q, 1, none⟩ = some (.slice (some ⟨g, 0, none⟩) L.length cap))) 19 (by kernel_rfl) (by kernel_rfl) (by decide) ?hS1 (fun hHeld => ?hR1)
      case hS1 =>
        exact q3
      simp only [List.take_succ_cons, List.take_zero, List.drop_succ_cons, List.drop_zero]
      refine wpAnyH_take (i := 0) (oi := _) (v := ?v2) rfl (by kernel_rfl) (by kernel_rfl) (by kernel_rfl) (fun _ _ _ h => h) (Or.inl ⟨by rfl, ?y2⟩) (by assumption) ?r2
      case y2 => ((intro w hSw); (try dsimp only at hSw); go_simp; (try with_reducible rfl))
      (try simp only [Act.put, List.setIfInBounds_toArray, List.set_cons_zero, List.set_cons_succ])
      refine wpAnyH_take (i := 2) (oi := _) (v := ?v3) rfl (by kernel_rfl) (by kernel_rfl) (by kernel_rfl) (fun _ _ _ h => h) (Or.inl ⟨by rfl, ?y3⟩) (by assumption) ?r3
      case y3 => ((intro w hSw); (try dsimp only at hSw); go_simp; (try with_reducible rfl))
      (try simp only [Act.put, List.setIfInBounds_toArray, List.set_cons_zero, List.set_cons_succ])
      refine wpAnyH_take (i := 3) (oi := _) (v := ?v4) rfl (by kernel_rfl) (by kernel_rfl) (by kernel_rfl) (fun _ _ _ h => h) (Or.inl ⟨by rfl, ?y4⟩) (by assumption) ?r4
      case y4 => ((intro w hSw); (try dsimp only at hSw); go_simp; (try with_reducible rfl))
      (try simp only [Act.put, List.setIfInBounds_toArray, List.set_cons_zero, List.set_cons_succ])
      refine wpAnyH_take (i := 4) (oi := _) (v := ?v5) rfl (by kernel_rfl) (by kernel_rfl) (by kernel_rfl) (fun _ _ _ h => h) (Or.inl ⟨by rfl, ?y5⟩) (by assumption) ?r5
      case y5 => ((intro w hSw); (try dsimp only at hSw); go_simp; (try with_reducible rfl))
      (try simp only [Act.put, List.setIfInBounds_toArray, List.set_cons_zero, List.set_cons_succ])
      refine wpAnyH_take (i := 5) (oi := _) (v := ?v6) rfl (by kernel_rfl) (by kernel_rfl) (by kernel_rfl) (fun _ _ _ h => h) (Or.inl ⟨by rfl, ?y6⟩) (by assumption) ?r6
      case y6 => ((intro w hSw); (try dsimp only at hSw); go_simp; (try with_reducible rfl))
      (try simp only [Act.put, List.setIfInBounds_toArray, List.set_cons_zero, List.set_cons_succ])
      refine wpAnyH_take (i := 6) (oi := _) (v := ?v7) rfl (by kernel_rfl) (by kernel_rfl) (by kernel_rfl) (fun _ _ _ h => h) (Or.inl ⟨by rfl, ?y7⟩) (by assumption) ?r7
      case y7 => ((intro w hSw); (try dsimp only at hSw); go_simp; (try with_reducible rfl))
      (try simp only [Act.put, List.setIfInBounds_toArray, List.set_cons_zero, List.set_cons_succ])
      refine wpAnyH_take (i := 9) (oi := _) (v := ?v8) rfl (by kernel_rfl) (by kernel_rfl) (by kernel_rfl) (fun _ _ _ h => h) (Or.inl ⟨by rfl, ?y8⟩) (by assumption) ?r8
      case y8 => ((intro w hSw); (try dsimp only at hSw); go_simp; (try with_reducible rfl))
      (try simp only [Act.put, List.setIfInBounds_toArray, List.set_cons_zero, List.set_cons_succ])
      refine wpAnyH_take (i := 10) (oi := _) (v := ?v9) rfl (by kernel_rfl) (by kernel_rfl) (by kernel_rfl) (fun _ _ _ h => h) (Or.inl ⟨by rfl, ?y9⟩) (by assumption) ?r9
      case y9 => ((intro w hSw); (try dsimp only at hSw); go_simp; (try with_reducible rfl))
      (try simp only [Act.put, List.setIfInBounds_toArray, List.set_cons_zero, List.set_cons_succ])
      refine wpAnyH_take (i := 11) (oi := _) (v := ?v10) rfl (by kernel_rfl) (by kernel_rfl) (by kernel_rfl) (fun _ _ _ h => h) (Or.inl ⟨by rfl, ?y10⟩) (by assumption) ?r10
      case y10 => ((intro w hSw); (try dsimp only at hSw); go_simp; (try with_reducible rfl))
      (try simp only [Act.put, List.setIfInBounds_toArray, List.set_cons_zero, List.set_cons_succ])
      refine wpAnyH_take (i := 12) (oi := _) (v := ?v11) rfl (by kernel_rfl) (by kernel_rfl) (by kernel_rfl) (fun _ _ _ h => h) (Or.inl ⟨by rfl, ?y11⟩) (by assumption) ?r11
      case y11 => ((intro w hSw); (try dsimp only at hSw); go_simp; (try with_reducible rfl))
      (try simp only [Act.put, List.setIfInBounds_toArray, List.set_cons_zero, List.set_cons_succ])
      refine wpAnyH_take (i := 13) (oi := _) (v := ?v12) rfl (by kernel_rfl) (by kernel_rfl) (by kernel_rfl) (fun _ _ _ h => h) (Or.inl ⟨by rfl, ?y12⟩) (by assumption) ?r12
      case y12 => ((intro w hSw); (try dsimp only at hSw); go_simp; (try with_reducible rfl))
      (try simp only [Act.put, List.setIfInBounds_toArray, List.set_cons_zero, List.set_cons_succ])
      refine wpAnyH_take (i := 14) (oi := _) (v := ?v13) rfl (by kernel_rfl) (by kernel_rfl) (by kernel_rfl) (fun _ _ _ h => h) (Or.inl ⟨by rfl, ?y13⟩) (by assumption) ?r13
      case y13 => ((intro w hSw); (try dsimp only at hSw); go_simp; (try with_reducible rfl))
      (try simp only [Act.put, List.setIfInBounds_toArray, List.set_cons_zero, List.set_cons_succ])
      refine wpAnyH_take (i := 7) (oi := _) (v := ?v14) rfl (by kernel_rfl) (by kernel_rfl) (by kernel_rfl) (fun _ _ _ h => h) (Or.inl ⟨by rfl, ?y14⟩) (by assumption) ?r14
      case y14 => ((intro w hSw); (try dsimp only at hSw); go_simp; (try with_reducible rfl))
      (try simp only [Act.put, List.setIfInBounds_toArray, List.set_cons_zero, List.set_cons_succ])
      refine wpAnyH_take (i := 15) (oi := _) (v := ?v15) rfl (by kernel_rfl) (by kernel_rfl) (by kernel_rfl) (fun _ _ _ h => h) (Or.inl ⟨by rfl, ?y15⟩) (by assumption) ?r15
      case y15 => ((intro w hSw); (try dsimp only at hSw); go_simp; (try with_reducible rfl))
      (try simp only [Act.put, List.setIfInBounds_toArray, List.set_cons_zero, List.set_cons_succ])
      refine wpAnyH_ready (rs := [1]) (by kernel_rfl) (by simp) ?_
      refine AllReadyH.cons rfl (fun K hK => ?st16) AllReadyH.nil
      go_simp
      refine hK.out _ _ ?k16 (fun hHeld16 => ?_)
      case k16 =>
        exact Still.cell ((Fr.refl _ w3).alloc _ : Still w3 _) q3
      clear hK K
      (try simp only [Act.put, List.setIfInBounds_toArray, List.set_cons_zero, List.set_cons_succ])
      refine wpAnyH_ready (rs := [8]) (by kernel_rfl) (by simp) ?_
      refine AllReadyH.cons rfl (fun K hK => ?st17) AllReadyH.nil
      refine step_append_srow (S := S66) rfl (.tmp 18) (.tmp 24) rfl w3.heap.size 0 [] (L.take i) (.slice (some ⟨_, 0, none⟩) 0 0) _ rfl rfl ?_ ?_ ?_ ?_ ?_
      · exact (owns_newS (S := S66) w3).drew
      · exact (R1.out.alloc _).drew
      · have := LL.out; simp only [List.length_take]; omega
      · simp; try omega
      intro v10 w10 ho10 hg10 _
      have s10 := hid (Fr.of_own ((Fr.refl _ w3).alloc _).drew (owns_newS (S := S66) w3).drew hg10 (Nat.le_refl _))
      have O10 := hid ho10
      clear ho10 hg10
      refine hK.out _ _ ?k17 (fun hHeld17 => ?_)
      case k17 =>
        exact Still.cell s10.out q3
      clear hK K
      (try simp only [Act.put, List.setIfInBounds_toArray, List.set_cons_zero, List.set_cons_succ])
      refine wpAnyH_ready (rs := [16]) (by kernel_rfl) (by simp) ?_
      refine AllReadyH.cons rfl (fun K hK => ?st18) AllReadyH.nil
      refine step_append_srow (S := S66) rfl (.tmp 25) (.tmp 32) rfl w3.heap.size (0 + (L.take i).length) ([] ++ L.take i) (L.drop k1) v10 _ rfl rfl O10.out (R2.out.still s10.out) ?_ s10.out.size ?_
      · have := LL.out; simp only [List.length_take, List.length_drop]; omega
      intro v11 w11 ho11 hg11 _
      have s11 := hid (Fr.of_own s10.out O10.out hg11 (Nat.le_refl _))
      have O11 := hid ho11
      clear ho11 hg11
      refine hK.out _ _ ?k18 (fun hHeld18 => ?_)
      case k18 =>
        exact Still.cell s11.out q3
      clear hK K
      (try simp only [Act.put, List.setIfInBounds_toArray, List.set_cons_zero, List.set_cons_succ])
      refine wpAnyH_take (i := 17) (oi := _) (v := ?v19) rfl (by kernel_rfl) (by kernel_rfl) (by kernel_rfl) (fun _ _ _ h => h) (Or.inl ⟨by rfl, ?y19⟩) (by assumption) ?r19
      case y19 => ((intro w hSw); (try dsimp only at hSw); go_simp; (try with_reducible rfl))
      (try simp only [Act.put, List.setIfInBounds_toArray, List.set_cons_zero, List.set_cons_succ])
      refine wpAnyH_take (i := 18) (oi := _) (v := ?v20) rfl (by kernel_rfl) (by kernel_rfl) (by kernel_rfl) (fun _ _ _ h => h) (Or.inl ⟨by rfl, ?y20⟩) (by assumption) ?r20
      case y20 => ((intro w hSw); (try dsimp only at hSw); go_simp; (try with_reducible rfl))
      (try simp only [Act.put, List.setIfInBounds_toArray, List.set_cons_zero, List.set_cons_succ])
      refine wpAnyH_done (by kernel_rfl) (Held.tailQ_normal ?_) _
      have q11 := Still.cell s11.out q3
      have hQl : Q < w3.heap.size := World.block_lt_of_cell? _ _ q3
      have z11 : w11.frozen? ⟨Q, 1, none⟩ = false := Still.frz s11.out hQl z3
      have e11 : 0 + (L.take i).length + (L.drop k1).length = (thrE.del id L).length := by rw [HDP.out, HK1.out]; simp
      have O12 := O11.out
      rw [e11, List.nil_append, ← HK1.out, ← HDP.out] at O12
      have LD : Hid ((thrE.del id L).length ≤ 100000) := hid (by have h1 : (thrE.del id L).length ≤ L.length := List.length_filter_le _ _; have h2 := LL.out; omega)
      have T12 := hid (T3.out.swap s11.out O12 (Nat.le_refl _) (thrE.up_del id H.out.up) LD.out)
      have hv1 := Value.slice_cells O12
      refine wpList_store1 rfl (.tmp 35) (.tmp 33) 66 rfl Q 1 _ v11 (by kernel_rfl) hv1.1 hv1.2 rfl rfl q11 z11 ?_
      intro w12 hw12
      rw [← hw12] at T12
      have F12 : Hid (Fr O w w12) := hid (by rw [hw12]; exact Fr.setCell (F3.out.trans (s11.out.fr _)) (p := ⟨Q, 1, none⟩) (.inl H.out.lQ) _)
      have y0 := T12.out.f0
      have Z12 : Hid (w11.heap.size ≤ w12.heap.size) := hid (by rw [hw12]; exact (Fr.setCell (F := fun k => k = Q) (p := ⟨Q, 1, none⟩) (Fr.refl _ w11) (.inl rfl) v11).size)
      clear hw12 q11 z11 hv1 O12 e11
      go_wp2_with fail
      all_goals
        refine (rfree T12.out.r id HIN.out).mono ?_
        rintro e w13 ⟨rfl, r13, f13⟩
        have Z13 : Hid (w11.heap.size ≤ w13.heap.size) := hid (Nat.le_trans Z12.out f13.size)
        have T13 : Hid (RTAt w13 (upO O w w13) Q p A T cA cT (freeS s id) (thrE.del id L)) := hid ((T12.out.slots r13 f13).mono (fun k hk => hk.imp _root_.id fun h => ⟨Nat.le_trans F3.out.size h.1, Nat.lt_of_lt_of_le h.2 Z13.out⟩) (fun k hk => hk.elim (fun h => Nat.lt_of_lt_of_le (Nat.lt_of_lt_of_le (H.out.ub k h) F12.out.size) f13.size) (fun h => h.2)))
        have F13 : Hid (Fr O w w13) := hid (F12.out.trans (f13.mono fun k _ hk => by rw [hk]; exact H.out.lT))
        clear r13 f13
        go_wp2_with fail
        go_ret
        rw [E0.out]
        exact ⟨rfl, T13.out, F13.out⟩
    · rw [EE.out, if_neg hs] at TU
      rw [if_neg hs, if_neg hs]
      have E0 : Hid (rtE L id [2] = 5) := hid (by rw [EE.out, if_neg hs])
      clear hs
      go_enter Tryd.func93, Tryd.ntmps93
      go_wp2_with fail
      refine TU.out.mono ?_
      rintro e w2 ⟨rfl, t2, f2⟩
      have T2 := hid t2
      have F2 : Hid (Fr O w w2) := hid (((Fr.refl _ _).alloc _).trans f2)
      clear t2 f2
      go_wp2_with fail
      go_ret
      rw [E0.out]
      exact ⟨rfl, T2.out.up0, F2.out⟩
  · have E0 : Hid (rtE L id [2] = 4) := hid (by unfold rtE; rw [h3]; rfl)
    rw [E0.out] at TU
    rw [h3, if_neg (by decide), if_neg (by decide)]
    clear hp h1 h3
    go_enter Tryd.func93, Tryd.ntmps93
    go_wp2_with fail
    refine TU.out.mono ?_
    rintro e w2 ⟨rfl, t2, f2⟩
    have T2 := hid t2
    have F2 : Hid (Fr O w w2) := hid (((Fr.refl _ _).alloc _).trans f2)
    clear t2 f2
    go_wp2_with fail
    go_ret
    rw [E0.out]
    exact ⟨rfl, T2.out.up0, F2.out⟩
end
end Go.Proofs.YtffjaaolcphonaaDoor
