/- The document's activations: find, Get; plain; Same; id. -/
import Derived.Test.YtffjaaolcphonaaDoorBdLf
import Derived.Test.YtffjaaolcphonaaDoorBdCp
import Derived.Test.YtffjaaolcphonaaDoorEqT
import Derived.Shelf.SlMaps.Clone
namespace Go.Proofs.YtffjaaolcphonaaDoor
open Go.RowKit Go.Maps
set_option linter.unusedSimpArgs false
theorem I120 : (Tryd.prog.info? 120).map (·.size) = some 16 := by kernel_rfl
/-- []life.Act -/
def S108 : SK Ac := ⟨108, 111, 16, 128, (Value.agg #[.int .i64 a0.i, .int .i64 a0.s, .int .i64 a0.sp, .int .i64 a0.co, .int .i64 a0.th, .int .i64 a0.c.p, .int .i64 a0.c.q, .int .i64 a0.c.r0, .int .i64 a0.c.r1, .int .i64 a0.c.r2, .int .i64 a0.c.r3, .int .i64 a0.c.r4, .int .i64 a0.c.r5, .int .i64 a0.c.r6, .int .i64 a0.c.r7, .int .i64 a0.c.d]), fun x => [.int .i64 x.i, .int .i64 x.s, .int .i64 x.sp, .int .i64 x.co, .int .i64 x.th, .int .i64 x.c.p, .int .i64 x.c.q, .int .i64 x.c.r0, .int .i64 x.c.r1, .int .i64 x.c.r2, .int .i64 x.c.r3, .int .i64 x.c.r4, .int .i64 x.c.r5, .int .i64 x.c.r6, .int .i64 x.c.r7, .int .i64 x.c.d], Tryd.underlying108, by kernel_rfl, rfl, by decide, by decide, fun _ => rfl, onesA⟩
/-- The document's. -/
def S114 : SK Ac := ⟨114, 120, 16, 128, (Value.agg #[.int .i64 a0.i, .int .i64 a0.s, .int .i64 a0.sp, .int .i64 a0.co, .int .i64 a0.th, .int .i64 a0.c.p, .int .i64 a0.c.q, .int .i64 a0.c.r0, .int .i64 a0.c.r1, .int .i64 a0.c.r2, .int .i64 a0.c.r3, .int .i64 a0.c.r4, .int .i64 a0.c.r5, .int .i64 a0.c.r6, .int .i64 a0.c.r7, .int .i64 a0.c.d]), fun x => [.int .i64 x.i, .int .i64 x.s, .int .i64 x.sp, .int .i64 x.co, .int .i64 x.th, .int .i64 x.c.p, .int .i64 x.c.q, .int .i64 x.c.r0, .int .i64 x.c.r1, .int .i64 x.c.r2, .int .i64 x.c.r3, .int .i64 x.c.r4, .int .i64 x.c.r5, .int .i64 x.c.r6, .int .i64 x.c.r7, .int .i64 x.c.d], Tryd.underlying114, by kernel_rfl, rfl, by decide, by decide, fun _ => rfl, onesA⟩
/-- The document's table: Q itself, its slots' blocks p, A, T; all among O. -/
structure RAAt (w : World) (O : Nat → Prop) (Q p A T cA cT : Nat) (s : SS) (L : List Ac) : Prop where
  f0 : w.cell? ⟨Q, 0, none⟩ = some (.pointer (some ⟨p, 0, none⟩))
  ex : ∃ v, w.cell? ⟨Q, 1, none⟩ = some v ∧ w.ownsRow 0 120 16 v L.length (S114.row L) ∧ ∀ b, v.ownBlock = some b → O b ∧ b ≠ Q ∧ b ≠ p ∧ b ≠ A ∧ b ≠ T
  z1 : w.frozen? ⟨Q, 1, none⟩ = false
  r : RAt w p A T cA cT s
  qp : Q ≠ p
  qA : Q ≠ A
  qT : Q ≠ T
  lQ : O Q
  lp : O p
  lA : O A
  lT : O T
  ub : ∀ k, O k → k < w.heap.size
  up : actE.Up L
  len : L.length ≤ 100000
section
variable {w w' : World} {O : Nat → Prop} {Q p A T cA cT : Nat} {s : SS} {L : List Ac}
theorem RAAt.fr (h : RAAt w O Q p A T cA cT s L) {F : Nat → Prop} (hf : Fr F w w') (hF : ∀ k, O k → ¬ F k) : RAAt w' O Q p A T cA cT s L := by
  obtain ⟨v, v1, v2, v3⟩ := h.ex
  refine ⟨hf.cellK h.f0 (hF _ h.lQ), ⟨v, hf.cellK v1 (hF _ h.lQ), ?_, v3⟩, ?_, h.r.fr hf (hF _ h.lp) (hF _ h.lA) (hF _ h.lT), h.qp, h.qA, h.qT, h.lQ, h.lp, h.lA, h.lT, fun k hk => Nat.lt_of_lt_of_le (h.ub k hk) hf.size, h.up, h.len⟩
  · obtain ⟨e, ⟨rfl, h2⟩ | ⟨g, cap, cur, rfl, hg, hcur, r⟩⟩ := v2
    · exact ⟨e, .inl ⟨rfl, h2⟩⟩
    · have hgl := (Array.getElem?_eq_some_iff.1 hcur).1
      exact ⟨e, .inr ⟨g, cap, cur, rfl, hg, (hf.block g hgl (hF g (v3 g rfl).1)).trans hcur, r⟩⟩
  · have hq := World.block_lt_of_cell? _ _ h.f0
    rw [← h.z1]; unfold World.frozen?; rw [hf.block Q hq (hF _ h.lQ)]
theorem RAAt.still (h : RAAt w O Q p A T cA cT s L) (hs : Still w w') : RAAt w' O Q p A T cA cT s L := h.fr hs (fun _ _ h => h)
/-- Where the one at a key stands; below 0: there is none. -/
def posA (L : List Ac) (k : Int) : Int := match L.findIdx? (fun x => x.i == k) with | some i => (i : Int) | none => -1
theorem posA_cases (L : List Ac) (k : Int) : (∃ i : Nat, posA L k = i ∧ ∃ h : i < L.length, fndA L k = L[i] ∧ L[i].i = k ∧ fndO L k = true) ∨ (posA L k = -1 ∧ fndO L k = false ∧ fndA L k = a0 ∧ ∀ x ∈ L, x.i ≠ k) := by
  unfold posA
  cases h : L.findIdx? (fun x => x.i == k) with
  | none =>
    right
    rw [List.findIdx?_eq_none_iff] at h
    have e : actE.fnd L k = none := by
      unfold El.fnd
      rw [List.find?_eq_none]
      intro x hx; have := h x hx; simpa [actE] using this
    refine ⟨rfl, ?_, ?_, fun x hx => by simpa using h x hx⟩
    · unfold fndO; rw [e]; rfl
    · unfold fndA; rw [e]; rfl
  | some i =>
    left
    rw [List.findIdx?_eq_some_iff_getElem] at h
    obtain ⟨hi, h1, h2⟩ := h
    have e : actE.fnd L k = some L[i] := by
      unfold El.fnd
      rw [List.find?_eq_some_iff_getElem]
      exact ⟨by simpa [actE] using h1, i, hi, rfl, fun j hj => by simpa [actE] using h2 j hj⟩
    refine ⟨i, rfl, hi, ?_, by simpa using h1, ?_⟩
    · unfold fndA; rw [e]; rfl
    · unfold fndO; rw [e]; rfl
theorem posA_at {L : List Ac} {k : Int} {i : Nat} (hi : i < L.length) (h1 : L[i].i = k) (h2 : ∀ j (hj : j < i), L[j].i ≠ k) : posA L k = i := by
  unfold posA
  have : L.findIdx? (fun x => x.i == k) = some i := by
    rw [List.findIdx?_eq_some_iff_getElem]
    exact ⟨hi, by simpa using h1, fun j hj => by simpa using h2 j hj⟩
  rw [this]
theorem posA_no {L : List Ac} {k : Int} (h2 : ∀ j (hj : j < L.length), L[j].i ≠ k) : posA L k = -1 := by
  unfold posA
  have : L.findIdx? (fun x => x.i == k) = none := by
    rw [List.findIdx?_eq_none_iff]
    intro x hx
    obtain ⟨j, hj, rfl⟩ := List.getElem_of_mem hx
    simpa using h2 j hj
  rw [this]
theorem new_ra (w : World) : Blk (w.alloc (.cells #[.int .i64 0, .int .i64 0, .int .i64 0, .int .i64 0, .int .i64 0, .int .i64 0, .int .i64 0, .int .i64 0, .int .i64 0, .int .i64 0, .int .i64 0, .int .i64 0, .int .i64 0, .int .i64 0, .int .i64 0, .int .i64 0] 120)) w.heap.size [.int .i64 a0.i, .int .i64 a0.s, .int .i64 a0.sp, .int .i64 a0.co, .int .i64 a0.th, .int .i64 a0.c.p, .int .i64 a0.c.q, .int .i64 a0.c.r0, .int .i64 a0.c.r1, .int .i64 a0.c.r2, .int .i64 a0.c.r3, .int .i64 a0.c.r4, .int .i64 a0.c.r5, .int .i64 a0.c.r6, .int .i64 a0.c.r7, .int .i64 a0.c.d] 120 := Blk.new w _ 120
theorem wpList_loadRA {ops : Array Oper} {rest : List Oper} {o : Oper} {a : Act} {Q : Exit → Act → World → Prop} (hg : o.guard = none) (q : Operand) (hop : o.op = Op.load 120 q) (b off : Nat) (x : Ac) (hp : a.eval q = .pointer (some ⟨b, off, none⟩)) (hc : w.rangeAt b off [.int .i64 x.i, .int .i64 x.s, .int .i64 x.sp, .int .i64 x.co, .int .i64 x.th, .int .i64 x.c.p, .int .i64 x.c.q, .int .i64 x.c.r0, .int .i64 x.c.r1, .int .i64 x.c.r2, .int .i64 x.c.r3, .int .i64 x.c.r4, .int .i64 x.c.r5, .int .i64 x.c.r6, .int .i64 x.c.r7, .int .i64 x.c.d])
    (hK : wpList Tryd.prog ops Q rest (a.put o.dst (Value.agg #[.int .i64 x.i, .int .i64 x.s, .int .i64 x.sp, .int .i64 x.co, .int .i64 x.th, .int .i64 x.c.p, .int .i64 x.c.q, .int .i64 x.c.r0, .int .i64 x.c.r1, .int .i64 x.c.r2, .int .i64 x.c.r3, .int .i64 x.c.r4, .int .i64 x.c.r5, .int .i64 x.c.r6, .int .i64 x.c.r7, .int .i64 x.c.d])) w) : wpList Tryd.prog ops Q (o :: rest) a w :=
  wpList_load_mid hg 120 q hop b off hp [.int .i64 x.i, .int .i64 x.s, .int .i64 x.sp, .int .i64 x.co, .int .i64 x.th, .int .i64 x.c.p, .int .i64 x.c.q, .int .i64 x.c.r0, .int .i64 x.c.r1, .int .i64 x.c.r2, .int .i64 x.c.r3, .int .i64 x.c.r4, .int .i64 x.c.r5, .int .i64 x.c.r6, .int .i64 x.c.r7, .int .i64 x.c.d] _ hc Tryd.underlying120 rfl I120 hK
set_option maxRecDepth 100000 in
set_option maxHeartbeats 4000000 in
theorem xfind (h : RAAt w O Q p A T cA cT s L) (id : Int) : Calls Tryd.prog 120 #[.pointer (some ⟨Q, 0, none⟩), .int .i64 id] w fun e w' => e = .returned (.int .i64 (posA L id)) ∧ Still w w' := by
  have H := hid h
  obtain ⟨v, v1, v2, _⟩ := h.ex
  have R := hid (SRow.own (S := S114) v2 rfl)
  obtain ⟨a, c, rfl⟩ := own_shape v2 _ rfl
  have hb := h.len
  clear h v2
  go_enter Tryd.func120, Tryd.ntmps120
  go_wp2_with fail
  go_loopw [5, 6, 12] (fun s5 s6 s12 wr => ∃ j : Nat, s12 = .int .i64 j ∧ j ≤ L.length ∧ Still w wr ∧ Hid (∀ i (hi : i < L.length), i < j → L[i].i ≠ id)) (fun _ _ s12 _ => L.length - (intOf s12).toNat)
  case atStart => exact ⟨0, rfl, Nat.zero_le _, Fr.refl _ _, hid (fun i hi h0 => by omega)⟩
  case round =>
    obtain ⟨j, rfl, hj, hst, NO⟩ := hrel
    have SX := hid hst
    clear hst
    by_cases hlt : j < L.length
    · have hlt' : (j : Int) < (L.length : Int) := by omega
      obtain ⟨b, off, c2, ev, hc⟩ := (R.out.still SX.out).at hlt
      obtain ⟨rfl, rfl⟩ : a = some ⟨b, off, none⟩ ∧ c = c2 := by injection ev with e1 _ e3; exact ⟨e1, e3⟩
      obtain ⟨x, hx⟩ : ∃ x, L[j] = x := ⟨_, rfl⟩
      rw [hx] at hc
      have HX := hid hx
      have HC : Hid (wr.rangeAt b (off + j * 16) [.int .i64 x.i, .int .i64 x.s, .int .i64 x.sp, .int .i64 x.co, .int .i64 x.th, .int .i64 x.c.p, .int .i64 x.c.q, .int .i64 x.c.r0, .int .i64 x.c.r1, .int .i64 x.c.r2, .int .i64 x.c.r3, .int .i64 x.c.r4, .int .i64 x.c.r5, .int .i64 x.c.r6, .int .i64 x.c.r7, .int .i64 x.c.d]) := hid hc
      clear hx hc ev
      by_cases hid2 : x.i = id
      · have e0 : (x.i == id) = true := by simp [hid2]
        have e1 := posA_at hlt (by rw [HX.out]; exact hid2) (fun i hi => NO.out i (by omega) hi)
        have E1 := hid e1
        clear hid2 e1
        go_wp2_with (first
          | (refine wpList_loadRA rfl (.tmp 15) rfl b (off + j * 16) x rfl HC.out ?_)
          | (refine wpList_storeW rfl (.tmp 6) (.tmp 16) 120 rfl _ 120 [.int .i64 a0.i, .int .i64 a0.s, .int .i64 a0.sp, .int .i64 a0.co, .int .i64 a0.th, .int .i64 a0.c.p, .int .i64 a0.c.q, .int .i64 a0.c.r0, .int .i64 a0.c.r1, .int .i64 a0.c.r2, .int .i64 a0.c.r3, .int .i64 a0.c.r4, .int .i64 a0.c.r5, .int .i64 a0.c.r6, .int .i64 a0.c.r7, .int .i64 a0.c.d] [.int .i64 x.i, .int .i64 x.s, .int .i64 x.sp, .int .i64 x.co, .int .i64 x.th, .int .i64 x.c.p, .int .i64 x.c.q, .int .i64 x.c.r0, .int .i64 x.c.r1, .int .i64 x.c.r2, .int .i64 x.c.r3, .int .i64 x.c.r4, .int .i64 x.c.r5, .int .i64 x.c.r6, .int .i64 x.c.r7, .int .i64 x.c.d] I120 (onesA x) rfl rfl (new_ra _) rfl ?_; intro w3 b3 f3; have d0 : w3.cell? ⟨wr.heap.size, 0, none⟩ = some (.int .i64 x.i) := b3.cell 0; have S3 : Hid (Still w w3) := hid (Still.next (SX.out.alloc _) f3 (fun k hk => by rw [hk]; exact SX.out.size)); clear b3 f3))
        go_ret
        exact ⟨by rw [E1.out]; rfl, S3.out⟩
      · have e0 : (x.i == id) = false := by simp [hid2]
        have HN := hid hid2
        clear hid2
        go_wp2_with (first
          | (refine wpList_loadRA rfl (.tmp 15) rfl b (off + j * 16) x rfl HC.out ?_)
          | (refine wpList_storeW rfl (.tmp 6) (.tmp 16) 120 rfl _ 120 [.int .i64 a0.i, .int .i64 a0.s, .int .i64 a0.sp, .int .i64 a0.co, .int .i64 a0.th, .int .i64 a0.c.p, .int .i64 a0.c.q, .int .i64 a0.c.r0, .int .i64 a0.c.r1, .int .i64 a0.c.r2, .int .i64 a0.c.r3, .int .i64 a0.c.r4, .int .i64 a0.c.r5, .int .i64 a0.c.r6, .int .i64 a0.c.r7, .int .i64 a0.c.d] [.int .i64 x.i, .int .i64 x.s, .int .i64 x.sp, .int .i64 x.co, .int .i64 x.th, .int .i64 x.c.p, .int .i64 x.c.q, .int .i64 x.c.r0, .int .i64 x.c.r1, .int .i64 x.c.r2, .int .i64 x.c.r3, .int .i64 x.c.r4, .int .i64 x.c.r5, .int .i64 x.c.r6, .int .i64 x.c.r7, .int .i64 x.c.d] I120 (onesA x) rfl rfl (new_ra _) rfl ?_; intro w3 b3 f3; have d0 : w3.cell? ⟨wr.heap.size, 0, none⟩ = some (.int .i64 x.i) := b3.cell 0; have S3 : Hid (Still w w3) := hid (Still.next (SX.out.alloc _) f3 (fun k hk => by rw [hk]; exact SX.out.size)); clear b3 f3))
        go_roundw
        case rel => exact ⟨j + 1, by go_num, by omega, S3.out, hid (fun i hi h1 => by
          by_cases e : i = j
          · subst e; rw [HX.out]; exact HN.out
          · exact NO.out i hi (by omega))⟩
        case measure => simp [intOf]; omega
    · have hlt' : ¬ (j : Int) < (L.length : Int) := by omega
      have e1 := posA_no (L := L) (k := id) (fun i hi => NO.out i hi (by omega))
      have E1 := hid e1
      clear e1
      go_wp2_with fail
      go_ret
      exact ⟨by rw [E1.out]; rfl, SX.out⟩
set_option maxRecDepth 100000 in
set_option maxHeartbeats 4000000 in
theorem xget (h : RAAt w O Q p A T cA cT s L) (id : Int) : Calls Tryd.prog 79 #[.pointer (some ⟨Q, 0, none⟩), .int .i64 id] w fun e w' => e = .returned (.tuple #[(Value.agg #[.int .i64 (fndA L id).i, .int .i64 (fndA L id).s, .int .i64 (fndA L id).sp, .int .i64 (fndA L id).co, .int .i64 (fndA L id).th, .int .i64 (fndA L id).c.p, .int .i64 (fndA L id).c.q, .int .i64 (fndA L id).c.r0, .int .i64 (fndA L id).c.r1, .int .i64 (fndA L id).c.r2, .int .i64 (fndA L id).c.r3, .int .i64 (fndA L id).c.r4, .int .i64 (fndA L id).c.r5, .int .i64 (fndA L id).c.r6, .int .i64 (fndA L id).c.r7, .int .i64 (fndA L id).c.d]), .bool (fndO L id)]) ∧ Still w w' := by
  have H := hid h
  obtain ⟨v, v1, v2, _⟩ := h.ex
  have R := hid (SRow.own (S := S114) v2 rfl)
  obtain ⟨a, c, rfl⟩ := own_shape v2 _ rfl
  have FD := hid (xfind (H.out.still ((Fr.refl _ w).alloc (.cells #[.int .i64 0, .int .i64 0, .int .i64 0, .int .i64 0, .int .i64 0, .int .i64 0, .int .i64 0, .int .i64 0, .int .i64 0, .int .i64 0, .int .i64 0, .int .i64 0, .int .i64 0, .int .i64 0, .int .i64 0, .int .i64 0] 120))) id)
  clear h v2
  rcases posA_cases L id with ⟨i, hp, hi, h1, h2, h3⟩ | ⟨hp, h3, h1, _⟩
  · rw [hp] at FD
    rw [h1, h3]
    obtain ⟨x, hx⟩ : ∃ x, L[i] = x := ⟨_, rfl⟩
    rw [hx]
    have HX := hid hx
    have hi' : (i : Int) < (L.length : Int) := by omega
    clear hp h1 h2 h3 hx
    go_enter Tryd.func79, Tryd.ntmps79
    go_wp2_with fail
    refine FD.out.mono ?_
    rintro e w2 ⟨rfl, s2⟩
    have S2 := hid (((Fr.refl _ _).alloc _).trans s2)
    have B2 : Hid (Blk w2 w.heap.size [.int .i64 a0.i, .int .i64 a0.s, .int .i64 a0.sp, .int .i64 a0.co, .int .i64 a0.th, .int .i64 a0.c.p, .int .i64 a0.c.q, .int .i64 a0.c.r0, .int .i64 a0.c.r1, .int .i64 a0.c.r2, .int .i64 a0.c.r3, .int .i64 a0.c.r4, .int .i64 a0.c.r5, .int .i64 a0.c.r6, .int .i64 a0.c.r7, .int .i64 a0.c.d] 120) := hid ((new_ra w).still s2)
    have q1 := Still.cell S2.out v1
    obtain ⟨b, off, c2, ev, hc⟩ := (R.out.still S2.out).at hi
    obtain ⟨rfl, rfl⟩ : a = some ⟨b, off, none⟩ ∧ c = c2 := by injection ev with e1 _ e3; exact ⟨e1, e3⟩
    rw [HX.out] at hc
    have HC : Hid (w2.rangeAt b (off + i * 16) [.int .i64 x.i, .int .i64 x.s, .int .i64 x.sp, .int .i64 x.co, .int .i64 x.th, .int .i64 x.c.p, .int .i64 x.c.q, .int .i64 x.c.r0, .int .i64 x.c.r1, .int .i64 x.c.r2, .int .i64 x.c.r3, .int .i64 x.c.r4, .int .i64 x.c.r5, .int .i64 x.c.r6, .int .i64 x.c.r7, .int .i64 x.c.d]) := hid hc
    clear s2 hc ev v1
    go_wp2_with (first
      | (refine wpList_loadRA rfl (.tmp 17) rfl b (off + i * 16) x rfl HC.out ?_)
      | (refine wpList_storeW rfl (.tmp 4) (.tmp 18) 120 rfl _ 120 [.int .i64 a0.i, .int .i64 a0.s, .int .i64 a0.sp, .int .i64 a0.co, .int .i64 a0.th, .int .i64 a0.c.p, .int .i64 a0.c.q, .int .i64 a0.c.r0, .int .i64 a0.c.r1, .int .i64 a0.c.r2, .int .i64 a0.c.r3, .int .i64 a0.c.r4, .int .i64 a0.c.r5, .int .i64 a0.c.r6, .int .i64 a0.c.r7, .int .i64 a0.c.d] [.int .i64 x.i, .int .i64 x.s, .int .i64 x.sp, .int .i64 x.co, .int .i64 x.th, .int .i64 x.c.p, .int .i64 x.c.q, .int .i64 x.c.r0, .int .i64 x.c.r1, .int .i64 x.c.r2, .int .i64 x.c.r3, .int .i64 x.c.r4, .int .i64 x.c.r5, .int .i64 x.c.r6, .int .i64 x.c.r7, .int .i64 x.c.d] I120 (onesA x) rfl rfl B2.out rfl ?_; intro w3 b3 f3; have B3 := hid b3; have S3 : Hid (Still w w3) := hid (Still.next S2.out f3 (fun k hk => by rw [hk]; exact Nat.le_refl _)); clear b3 f3))
    (try simp only [Exit.inBlock, Exit.then]); refine bodyPost_ret (results_cell2 rfl _ _ w.heap.size 120 [.int .i64 x.i, .int .i64 x.s, .int .i64 x.sp, .int .i64 x.co, .int .i64 x.th, .int .i64 x.c.p, .int .i64 x.c.q, .int .i64 x.c.r0, .int .i64 x.c.r1, .int .i64 x.c.r2, .int .i64 x.c.r3, .int .i64 x.c.r4, .int .i64 x.c.r5, .int .i64 x.c.r6, .int .i64 x.c.r7, .int .i64 x.c.d] _ _ rfl rfl B3.out Tryd.underlying120 rfl I120) rfl ?_
    exact ⟨rfl, S3.out⟩
  · rw [hp] at FD
    rw [h1, h3]
    clear hp h1 h3
    go_enter Tryd.func79, Tryd.ntmps79
    go_wp2_with fail
    refine FD.out.mono ?_
    rintro e w2 ⟨rfl, s2⟩
    have S2 := hid (((Fr.refl _ _).alloc _).trans s2)
    have B2 : Hid (Blk w2 w.heap.size [.int .i64 a0.i, .int .i64 a0.s, .int .i64 a0.sp, .int .i64 a0.co, .int .i64 a0.th, .int .i64 a0.c.p, .int .i64 a0.c.q, .int .i64 a0.c.r0, .int .i64 a0.c.r1, .int .i64 a0.c.r2, .int .i64 a0.c.r3, .int .i64 a0.c.r4, .int .i64 a0.c.r5, .int .i64 a0.c.r6, .int .i64 a0.c.r7, .int .i64 a0.c.d] 120) := hid ((new_ra w).still s2)
    clear s2
    go_wp2_with (refine wpList_storeW rfl (.tmp 4) (.tmp 19) 120 rfl _ 120 [.int .i64 a0.i, .int .i64 a0.s, .int .i64 a0.sp, .int .i64 a0.co, .int .i64 a0.th, .int .i64 a0.c.p, .int .i64 a0.c.q, .int .i64 a0.c.r0, .int .i64 a0.c.r1, .int .i64 a0.c.r2, .int .i64 a0.c.r3, .int .i64 a0.c.r4, .int .i64 a0.c.r5, .int .i64 a0.c.r6, .int .i64 a0.c.r7, .int .i64 a0.c.d] [.int .i64 a0.i, .int .i64 a0.s, .int .i64 a0.sp, .int .i64 a0.co, .int .i64 a0.th, .int .i64 a0.c.p, .int .i64 a0.c.q, .int .i64 a0.c.r0, .int .i64 a0.c.r1, .int .i64 a0.c.r2, .int .i64 a0.c.r3, .int .i64 a0.c.r4, .int .i64 a0.c.r5, .int .i64 a0.c.r6, .int .i64 a0.c.r7, .int .i64 a0.c.d] I120 (onesA a0) rfl rfl B2.out rfl ?_; intro w3 b3 f3; have B3 := hid b3; have S3 : Hid (Still w w3) := hid (Still.next S2.out f3 (fun k hk => by rw [hk]; exact Nat.le_refl _)); clear b3 f3)
    (try simp only [Exit.inBlock, Exit.then]); refine bodyPost_ret (results_cell2 rfl _ _ w.heap.size 120 [.int .i64 a0.i, .int .i64 a0.s, .int .i64 a0.sp, .int .i64 a0.co, .int .i64 a0.th, .int .i64 a0.c.p, .int .i64 a0.c.q, .int .i64 a0.c.r0, .int .i64 a0.c.r1, .int .i64 a0.c.r2, .int .i64 a0.c.r3, .int .i64 a0.c.r4, .int .i64 a0.c.r5, .int .i64 a0.c.r6, .int .i64 a0.c.r7, .int .i64 a0.c.d] _ _ rfl rfl B3.out Tryd.underlying120 rfl I120) rfl ?_
    exact ⟨rfl, S3.out⟩
set_option maxRecDepth 100000 in
set_option maxHeartbeats 4000000 in
/-- law16.plain: the program's rows in the document's form. -/
theorem aplain (v : Value) (h : SRow S108 w v L) (hb : L.length ≤ 100000) : Calls Tryd.prog 76 #[v] w fun e w' => ∃ u, e = .returned u ∧ w'.ownsRow w.heap.size 120 16 u L.length (S114.row L) ∧ Still w w' := by
  have R := hid h
  obtain ⟨a, c, rfl⟩ := h.shape
  clear h
  go_enter Tryd.func76, Tryd.ntmps76
  go_wp2_with fail
  go_loopw [3, 5, 8] (fun s3 s5 s8 wr => ∃ j : Nat, s8 = .int .i64 j ∧ j ≤ L.length ∧ wr.ownsRow w.heap.size 120 16 s3 j (S114.row (L.take j)) ∧ Still w wr) (fun _ _ s8 _ => L.length - (intOf s8).toNat)
  case atStart => exact ⟨0, rfl, Nat.zero_le _, owns_nilS (S := S114) _ _, Fr.refl _ _⟩
  case round =>
    obtain ⟨j, rfl, hj, ho, hst⟩ := hrel
    have OX := hid ho
    have SX := hid hst
    obtain ⟨a3, c3, rfl⟩ := own_shape ho _ rfl
    clear ho hst
    by_cases hlt : j < L.length
    · have hlt' : (j : Int) < (L.length : Int) := by omega
      obtain ⟨b, off, c2, ev, hc⟩ := (R.out.still SX.out).at hlt
      obtain ⟨rfl, rfl⟩ : a = some ⟨b, off, none⟩ ∧ c = c2 := by injection ev with e1 _ e3; exact ⟨e1, e3⟩
      obtain ⟨x, hx⟩ : ∃ x, L[j] = x := ⟨_, rfl⟩
      rw [hx] at hc
      have HXX := hid hx
      have HC : Hid (wr.rangeAt b (off + j * 16) [.int .i64 x.i, .int .i64 x.s, .int .i64 x.sp, .int .i64 x.co, .int .i64 x.th, .int .i64 x.c.p, .int .i64 x.c.q, .int .i64 x.c.r0, .int .i64 x.c.r1, .int .i64 x.c.r2, .int .i64 x.c.r3, .int .i64 x.c.r4, .int .i64 x.c.r5, .int .i64 x.c.r6, .int .i64 x.c.r7, .int .i64 x.c.d]) := hid hc
      clear hx hc ev
      have zx := SX.out.size
      go_wp2_with (first
        | (refine wpList_load_mid rfl 111 (.tmp 10) rfl b (off + j * 16) rfl [.int .i64 x.i, .int .i64 x.s, .int .i64 x.sp, .int .i64 x.co, .int .i64 x.th, .int .i64 x.c.p, .int .i64 x.c.q, .int .i64 x.c.r0, .int .i64 x.c.r1, .int .i64 x.c.r2, .int .i64 x.c.r3, .int .i64 x.c.r4, .int .i64 x.c.r5, .int .i64 x.c.r6, .int .i64 x.c.r7, .int .i64 x.c.d] _ HC.out Tryd.underlying111 rfl I111 ?_)
        | (refine wpList_storeW rfl (.tmp 5) (.tmp 11) 111 rfl _ 111 [.int .i64 a0.i, .int .i64 a0.s, .int .i64 a0.sp, .int .i64 a0.co, .int .i64 a0.th, .int .i64 a0.c.p, .int .i64 a0.c.q, .int .i64 a0.c.r0, .int .i64 a0.c.r1, .int .i64 a0.c.r2, .int .i64 a0.c.r3, .int .i64 a0.c.r4, .int .i64 a0.c.r5, .int .i64 a0.c.r6, .int .i64 a0.c.r7, .int .i64 a0.c.d] [.int .i64 x.i, .int .i64 x.s, .int .i64 x.sp, .int .i64 x.co, .int .i64 x.th, .int .i64 x.c.p, .int .i64 x.c.q, .int .i64 x.c.r0, .int .i64 x.c.r1, .int .i64 x.c.r2, .int .i64 x.c.r3, .int .i64 x.c.r4, .int .i64 x.c.r5, .int .i64 x.c.r6, .int .i64 x.c.r7, .int .i64 x.c.d] I111 (onesA x) rfl rfl (new_a _) rfl ?_; intro w3 b3 f3; have B3 := hid b3; have S3 : Hid (Still w w3) := hid (Still.next (SX.out.alloc _) f3 (fun k hk => by rw [hk]; exact SX.out.size)); have O3 := hid (owns_fr OX.out (((Fr.refl _ wr).alloc _).trans f3) (fun k _ h2 h3 => by omega)); have z3 := S3.out.size; clear b3 f3)
        | (refine wpList_loadW rfl (.tmp 5) 111 rfl _ Tryd.underlying111 rfl _ 111 [.int .i64 x.i, .int .i64 x.s, .int .i64 x.sp, .int .i64 x.co, .int .i64 x.th, .int .i64 x.c.p, .int .i64 x.c.q, .int .i64 x.c.r0, .int .i64 x.c.r1, .int .i64 x.c.r2, .int .i64 x.c.r3, .int .i64 x.c.r4, .int .i64 x.c.r5, .int .i64 x.c.r6, .int .i64 x.c.r7, .int .i64 x.c.d] I111 rfl B3.out ?_)
        | (at_builtin; refine wpList_append_srow (S := S114) rfl (.tmp 12) (.tmp 14) rfl w.heap.size j (L.take j) [x] _ _ rfl rfl (O3.out.alloc _) (one_newS (S := S114) _ x _) (by simp; omega) (by simp; omega) ?_; intro v5 w5 ho5 hg5 hl5; have O5 := hid ho5; have S5 : Hid (Still w w5) := hid (Fr.of_own (S3.out.alloc _) (O3.out.alloc _) hg5 (Nat.le_refl _)); clear ho5 hg5 hl5))
      go_roundw
      case rel => exact ⟨j + 1, by go_num, by omega, by have h := O5.out; rw [← HXX.out, List.take_append_getElem hlt] at h; exact h, S5.out⟩
      case measure => simp [intOf]; omega
    · have hlt' : ¬ (j : Int) < (L.length : Int) := by omega
      have e : j = L.length := by omega
      go_wp2_with fail
      go_ret
      refine ⟨_, rfl, ?_, SX.out⟩
      have h := OX.out
      rw [e, List.take_length] at h
      exact h
end
theorem fields120 : Tryd.prog.underlying 120 = some (.struct (Tryd.prog.fieldsOf 120)) := by kernel_rfl
theorem held120 : Tryd.prog.stoodInHeld 120 = false := by kernel_rfl
set_option maxRecDepth 100000 in
theorem eq120 (x : Ac) (w : World) : (Op.equalIn 10000 120 (Value.agg #[.int .i64 x.i, .int .i64 x.s, .int .i64 x.sp, .int .i64 x.co, .int .i64 x.th, .int .i64 x.c.p, .int .i64 x.c.q, .int .i64 x.c.r0, .int .i64 x.c.r1, .int .i64 x.c.r2, .int .i64 x.c.r3, .int .i64 x.c.r4, .int .i64 x.c.r5, .int .i64 x.c.r6, .int .i64 x.c.r7, .int .i64 x.c.d]) (Value.agg #[.int .i64 x.i, .int .i64 x.s, .int .i64 x.sp, .int .i64 x.co, .int .i64 x.th, .int .i64 x.c.p, .int .i64 x.c.q, .int .i64 x.c.r0, .int .i64 x.c.r1, .int .i64 x.c.r2, .int .i64 x.c.r3, .int .i64 x.c.r4, .int .i64 x.c.r5, .int .i64 x.c.r6, .int .i64 x.c.r7, .int .i64 x.c.d])).run Tryd.prog w = .ok true w := by
  have u3 := Tryd.underlying3
  have a3 := Tryd.isAgg3
  have z3 := Tryd.sizeOf3
  have a58 := Tryd.isAgg58
  have z58 := Tryd.sizeOf58
  have ei := eqi 9998
  have e5 := eq58 9996
  rw [show (10000 : Nat) = 9999 + 1 from rfl, run_equalIn_agg w 9999 120 _ _ fields120 held120]
  simp only [Program.fieldsOf, Tryd.underlying120]
  go_simp
theorem neq120 (x : Ac) (w : World) : (binOp .neq 120 (Value.agg #[.int .i64 x.i, .int .i64 x.s, .int .i64 x.sp, .int .i64 x.co, .int .i64 x.th, .int .i64 x.c.p, .int .i64 x.c.q, .int .i64 x.c.r0, .int .i64 x.c.r1, .int .i64 x.c.r2, .int .i64 x.c.r3, .int .i64 x.c.r4, .int .i64 x.c.r5, .int .i64 x.c.r6, .int .i64 x.c.r7, .int .i64 x.c.d]) (Value.agg #[.int .i64 x.i, .int .i64 x.s, .int .i64 x.sp, .int .i64 x.co, .int .i64 x.th, .int .i64 x.c.p, .int .i64 x.c.q, .int .i64 x.c.r0, .int .i64 x.c.r1, .int .i64 x.c.r2, .int .i64 x.c.r3, .int .i64 x.c.r4, .int .i64 x.c.r5, .int .i64 x.c.r6, .int .i64 x.c.r7, .int .i64 x.c.d])).run Tryd.prog w = .ok (.bool false) w := by
  rw [run_neq_struct, eq120]; rfl
section
variable {w : World} {L : List Ac}
set_option maxRecDepth 100000 in
set_option maxHeartbeats 4000000 in
theorem asame (v u : Value) (h1 : SRow S114 w v L) (h2 : SRow S114 w u L) (hb : L.length ≤ 100000) : Calls Tryd.prog 75 #[v, u] w fun e w' => e = .returned (.bool true) ∧ Still w w' := by
  have R1 := hid h1
  have R2 := hid h2
  obtain ⟨a1, c1, rfl⟩ := h1.shape
  obtain ⟨a2, c2, rfl⟩ := h2.shape
  clear h1 h2
  go_enter Tryd.func75, Tryd.ntmps75
  go_wp2_with fail
  go_loopw [5, 13] (fun s5 s13 wr => ∃ j : Nat, s13 = .int .i64 j ∧ j ≤ L.length ∧ Still w wr) (fun _ s13 _ => L.length - (intOf s13).toNat)
  case atStart => exact ⟨0, rfl, Nat.zero_le _, Fr.refl _ _⟩
  case round =>
    obtain ⟨j, rfl, hj, hst⟩ := hrel
    have SX := hid hst
    clear hst
    by_cases hlt : j < L.length
    · have hlt' : (j : Int) < (L.length : Int) := by omega
      obtain ⟨b, off, c3, ev, hc⟩ := (R1.out.still SX.out).at hlt
      obtain ⟨rfl, rfl⟩ : a1 = some ⟨b, off, none⟩ ∧ c1 = c3 := by injection ev with e1 _ e3; exact ⟨e1, e3⟩
      obtain ⟨b2, off2, c4, ev2, hc2⟩ := (R2.out.still SX.out).at hlt
      obtain ⟨rfl, rfl⟩ : a2 = some ⟨b2, off2, none⟩ ∧ c2 = c4 := by injection ev2 with e1 _ e3; exact ⟨e1, e3⟩
      obtain ⟨x, hx⟩ : ∃ x, L[j] = x := ⟨_, rfl⟩
      rw [hx] at hc hc2
      have p0 : wr.cell? ⟨b, off + j * 16, none⟩ = some (.int .i64 x.i) := hc 0 _ rfl
      have p1 : wr.cell? ⟨b, off + j * 16 + 1, none⟩ = some (.int .i64 x.s) := hc 1 _ rfl
      have p2 : wr.cell? ⟨b, off + j * 16 + 2, none⟩ = some (.int .i64 x.sp) := hc 2 _ rfl
      have p3 : wr.cell? ⟨b, off + j * 16 + 3, none⟩ = some (.int .i64 x.co) := hc 3 _ rfl
      have p4 : wr.cell? ⟨b, off + j * 16 + 4, none⟩ = some (.int .i64 x.th) := hc 4 _ rfl
      have p5 : wr.cell? ⟨b, off + j * 16 + 5, none⟩ = some (.int .i64 x.c.p) := hc 5 _ rfl
      have p6 : wr.cell? ⟨b, off + j * 16 + 6, none⟩ = some (.int .i64 x.c.q) := hc 6 _ rfl
      have p7 : wr.cell? ⟨b, off + j * 16 + 7, none⟩ = some (.int .i64 x.c.r0) := hc 7 _ rfl
      have p8 : wr.cell? ⟨b, off + j * 16 + 8, none⟩ = some (.int .i64 x.c.r1) := hc 8 _ rfl
      have p9 : wr.cell? ⟨b, off + j * 16 + 9, none⟩ = some (.int .i64 x.c.r2) := hc 9 _ rfl
      have p10 : wr.cell? ⟨b, off + j * 16 + 10, none⟩ = some (.int .i64 x.c.r3) := hc 10 _ rfl
      have p11 : wr.cell? ⟨b, off + j * 16 + 11, none⟩ = some (.int .i64 x.c.r4) := hc 11 _ rfl
      have p12 : wr.cell? ⟨b, off + j * 16 + 12, none⟩ = some (.int .i64 x.c.r5) := hc 12 _ rfl
      have p13 : wr.cell? ⟨b, off + j * 16 + 13, none⟩ = some (.int .i64 x.c.r6) := hc 13 _ rfl
      have p14 : wr.cell? ⟨b, off + j * 16 + 14, none⟩ = some (.int .i64 x.c.r7) := hc 14 _ rfl
      have p15 : wr.cell? ⟨b, off + j * 16 + 15, none⟩ = some (.int .i64 x.c.d) := hc 15 _ rfl
      have q0 : wr.cell? ⟨b2, off2 + j * 16, none⟩ = some (.int .i64 x.i) := hc2 0 _ rfl
      have q1 : wr.cell? ⟨b2, off2 + j * 16 + 1, none⟩ = some (.int .i64 x.s) := hc2 1 _ rfl
      have q2 : wr.cell? ⟨b2, off2 + j * 16 + 2, none⟩ = some (.int .i64 x.sp) := hc2 2 _ rfl
      have q3 : wr.cell? ⟨b2, off2 + j * 16 + 3, none⟩ = some (.int .i64 x.co) := hc2 3 _ rfl
      have q4 : wr.cell? ⟨b2, off2 + j * 16 + 4, none⟩ = some (.int .i64 x.th) := hc2 4 _ rfl
      have q5 : wr.cell? ⟨b2, off2 + j * 16 + 5, none⟩ = some (.int .i64 x.c.p) := hc2 5 _ rfl
      have q6 : wr.cell? ⟨b2, off2 + j * 16 + 6, none⟩ = some (.int .i64 x.c.q) := hc2 6 _ rfl
      have q7 : wr.cell? ⟨b2, off2 + j * 16 + 7, none⟩ = some (.int .i64 x.c.r0) := hc2 7 _ rfl
      have q8 : wr.cell? ⟨b2, off2 + j * 16 + 8, none⟩ = some (.int .i64 x.c.r1) := hc2 8 _ rfl
      have q9 : wr.cell? ⟨b2, off2 + j * 16 + 9, none⟩ = some (.int .i64 x.c.r2) := hc2 9 _ rfl
      have q10 : wr.cell? ⟨b2, off2 + j * 16 + 10, none⟩ = some (.int .i64 x.c.r3) := hc2 10 _ rfl
      have q11 : wr.cell? ⟨b2, off2 + j * 16 + 11, none⟩ = some (.int .i64 x.c.r4) := hc2 11 _ rfl
      have q12 : wr.cell? ⟨b2, off2 + j * 16 + 12, none⟩ = some (.int .i64 x.c.r5) := hc2 12 _ rfl
      have q13 : wr.cell? ⟨b2, off2 + j * 16 + 13, none⟩ = some (.int .i64 x.c.r6) := hc2 13 _ rfl
      have q14 : wr.cell? ⟨b2, off2 + j * 16 + 14, none⟩ = some (.int .i64 x.c.r7) := hc2 14 _ rfl
      have q15 : wr.cell? ⟨b2, off2 + j * 16 + 15, none⟩ = some (.int .i64 x.c.d) := hc2 15 _ rfl
      have NE := neq120 x
      clear hc hc2 ev ev2 hx
      go_wp2_with fail
      go_quiet (fail)
      go_wp2_with fail
      go_roundw
      case rel => exact ⟨j + 1, by go_num, by omega, SX.out.drewN _⟩
      case measure => simp [intOf]; omega
    · have hlt' : ¬ (j : Int) < (L.length : Int) := by omega
      go_wp2_with fail
      go_ret
      exact ⟨rfl, SX.out⟩
end
section
variable {w w' : World} {O : Nat → Prop} {Q p A T cA cT : Nat} {s : SS} {L : List Ac}
/-- The row of a table that is not empty. -/
structure AOpen (w : World) (O : Nat → Prop) (Q p A T : Nat) (L : List Ac) (g cap : Nat) (C : List Value) : Prop where
  v1 : w.cell? ⟨Q, 1, none⟩ = some (.slice (some ⟨g, 0, none⟩) L.length cap)
  lg : O g
  b : Blk w g C 120
  c1 : L.length ≤ cap
  c2 : cap ≤ maxLen
  c3 : C.length = cap * 16
  c4 : C.take (L.length * 16) = S114.row L
  nQ : g ≠ Q
  np : g ≠ p
  nA : g ≠ A
  nT : g ≠ T
theorem AOpen.at {g cap : Nat} {C : List Value} (h : AOpen w O Q p A T L g cap C) {i : Nat} (hi : i < L.length) : w.rangeAt g (i * 16) (S114.cells L[i]) := by
  intro j v hv
  have hj : j < 16 := (List.getElem?_eq_some_iff.1 hv).1
  rw [h.b.cell]
  have h1 := S114.row_at hi (j := j) hj
  rw [← h.c4, List.getElem?_take, if_pos (by
    have : (i + 1) * 16 ≤ L.length * 16 := Nat.mul_le_mul_right 16 hi
    show i * 16 + j < L.length * 16
    omega)] at h1
  exact h1.trans hv
theorem RAAt.opened' (h : RAAt w O Q p A T cA cT s L) : (L = [] ∧ w.cell? ⟨Q, 1, none⟩ = some (.slice none 0 0)) ∨ ∃ g cap C, AOpen w O Q p A T L g cap C := by
  obtain ⟨v, v1, ⟨h0, ⟨rfl, h2⟩ | ⟨g, cap, cur, rfl, hg, hcur, c1, c2, c3, c4⟩⟩, v3⟩ := h.ex
  · exact .inl ⟨List.eq_nil_of_length_eq_zero h2, v1⟩
  · obtain ⟨n0, n1, n2, n3, n4⟩ := v3 g rfl
    exact .inr ⟨g, cap, cur.toList, v1, n0, hcur, c1, c2, by simpa using c3, c4, n1, n2, n3, n4⟩
theorem RAAt.mono {O' : Nat → Prop} (h : RAAt w O Q p A T cA cT s L) (h1 : ∀ k, O k → O' k) (h2 : ∀ k, O' k → k < w.heap.size) : RAAt w O' Q p A T cA cT s L := by
  obtain ⟨v, v1, v2, v3⟩ := h.ex
  exact { h with ex := ⟨v, v1, v2, fun b hb => ⟨h1 b (v3 b hb).1, (v3 b hb).2⟩⟩, lQ := h1 _ h.lQ, lp := h1 _ h.lp, lA := h1 _ h.lA, lT := h1 _ h.lT, ub := h2 }
theorem RAAt.up0 {w0 : World} (h : RAAt w O Q p A T cA cT s L) : RAAt w (upO O w0 w) Q p A T cA cT s L := h.mono (fun _ hk => .inl hk) (fun k hk => hk.elim (h.ub k) (fun h => h.2))
theorem RAAt.swap {w0 : World} (h : RAAt w0 O Q p A T cA cT s L) (hs : Still w0 w) {base : Nat} {v : Value} {L' : List Ac} (ho : w.ownsRow base 120 16 v L'.length (S114.row L')) (hb : w0.heap.size ≤ base) (hu : actE.Up L') (hl : L'.length ≤ 100000) :
    RAAt (w.setCell ⟨Q, 1, none⟩ v) (upO O w0 w) Q p A T cA cT s L' := by
  have h1 := h.still hs
  obtain ⟨u, u1, _, _⟩ := h1.ex
  have lQ := World.block_lt_of_cell? _ _ h.f0
  have lQ' : Q < base := by have : Q < w0.heap.size := lQ; omega
  have hr := h.r
  have hf : Fr (fun k => k = Q) w (w.setCell ⟨Q, 1, none⟩ v) := Fr.setCell (F := fun k => k = Q) (p := ⟨Q, 1, none⟩) (Fr.refl _ _) (.inl rfl) v
  refine ⟨by rw [World.cell?_setCell_other _ _ _ _ (by simp)]; exact h1.f0, ⟨v, World.cell?_setCell_same' _ _ _ (by rw [u1]; rfl), ownsRow_base (ownsRow_setCell_below ho (show (⟨Q, 1, none⟩ : Addr).block < base from lQ') v) (Nat.zero_le _), fun b hb' => ?_⟩, by rw [World.frozen?_setCell]; exact h1.z1, h1.r.fr hf (fun e => h.qp e.symm) (fun e => h.qA e.symm) (fun e => h.qT e.symm), h.qp, h.qA, h.qT, .inl h.lQ, .inl h.lp, .inl h.lA, .inl h.lT, fun k hk => ?_, hu, hl⟩
  · have hge : base ≤ b ∧ b < w.heap.size := by
      obtain ⟨_, ⟨rfl, _⟩ | ⟨g, cap, cur, rfl, hg, hcur, _⟩⟩ := ho
      · cases hb'
      · have : g = b := by simpa [Value.ownBlock] using hb'
        have hgl := (Array.getElem?_eq_some_iff.1 hcur).1
        omega
    have e1 := hr.hp.lt
    have e2 := hr.hA.lt
    have e3 := hr.hT.lt
    exact ⟨.inr ⟨by omega, hge.2⟩, by omega, by omega, by omega, by omega⟩
  · refine Nat.lt_of_lt_of_le ?_ hf.size
    rcases hk with hk | hk
    · exact h1.ub k hk
    · exact hk.2
theorem RAAt.slots {s' : SS} (h : RAAt w O Q p A T cA cT s L) (hr : RAt w' p A T cA cT s') (hf : Fr (fun k => k = T) w w') : RAAt w' O Q p A T cA cT s' L := by
  obtain ⟨v, v1, v2, v3⟩ := h.ex
  refine ⟨hf.cellK h.f0 h.qT, ⟨v, hf.cellK v1 h.qT, ?_, v3⟩, ?_, hr, h.qp, h.qA, h.qT, h.lQ, h.lp, h.lA, h.lT, fun k hk => Nat.lt_of_lt_of_le (h.ub k hk) hf.size, h.up, h.len⟩
  · obtain ⟨e, ⟨rfl, h2⟩ | ⟨g, cap, cur, rfl, hg, hcur, r⟩⟩ := v2
    · exact ⟨e, .inl ⟨rfl, h2⟩⟩
    · have hgl := (Array.getElem?_eq_some_iff.1 hcur).1
      exact ⟨e, .inr ⟨g, cap, cur, rfl, hg, (hf.block g hgl (v3 g rfl).2.2.2.2).trans hcur, r⟩⟩
  · have hq := World.block_lt_of_cell? _ _ h.f0
    rw [← h.z1]; unfold World.frozen?; rw [hf.block Q hq h.qT]
end
/-- The one that an act is about. -/
def idA (L : List Ac) (x : LAct) : Int := if x.re = true then (if L.length = 0 then x.i else (L.getD ((IntKind.u64.wrap x.i).tmod (L.length : Int)).toNat a0).i) else x.i
set_option maxRecDepth 100000 in
set_option maxHeartbeats 4000000 in
theorem aid {w : World} {O : Nat → Prop} {Q p A T cA cT : Nat} {s : SS} {L : List Ac} (h : RAAt w O Q p A T cA cT s L) (x : LAct) : Calls Tryd.prog 111 #[.pointer (some ⟨Q, 0, none⟩), (Value.agg #[.int .i64 x.k, .int .i64 x.i, .int .i64 x.t, .bool x.re, .int .i64 x.c.p, .int .i64 x.c.q, .int .i64 x.c.r0, .int .i64 x.c.r1, .int .i64 x.c.r2, .int .i64 x.c.r3, .int .i64 x.c.r4, .int .i64 x.c.r5, .int .i64 x.c.r6, .int .i64 x.c.r7, .int .i64 x.c.d])] w fun e w' => e = .returned (.int .i64 (idA L x)) ∧ Still w w' := by
  have H := hid h
  have hQ := World.block_lt_of_cell? _ _ h.f0
  clear h
  unfold idA
  by_cases hre : x.re = true
  · rw [if_pos hre]
    rcases H.out.opened' with ⟨hL, qn⟩ | ⟨g, cap, C, ho⟩
    · rw [if_pos (show L.length = 0 by rw [hL]; rfl)]
      go_enter Tryd.func111, Tryd.ntmps111
      go_wp2_with fail
      go_ret
      exact ⟨rfl, (Fr.refl _ _).alloc _⟩
    · have HO := hid ho
      have q2 := ho.v1
      have hb := H.out.len
      clear ho
      by_cases h0 : L.length = 0
      · rw [if_pos h0]
        have h0' : (L.length : Int) = 0 := by omega
        rw [h0] at q2
        go_enter Tryd.func111, Tryd.ntmps111
        go_wp2_with fail
        go_ret
        exact ⟨rfl, (Fr.refl _ _).alloc _⟩
      · rw [if_neg h0]
        have hn : 0 < L.length := by omega
        obtain ⟨m, hm⟩ : ∃ m, L.length = m := ⟨_, rfl⟩
        have hr := wrap_mod x.i hn
        have hrr := wrap_mod' x.i hn
        have hat := HO.out.at hr
        have d0 := hat 0 _ rfl
        have hi0 : L.getD ((IntKind.u64.wrap x.i).tmod (L.length : Int)).toNat a0 = L[((IntKind.u64.wrap x.i).tmod (L.length : Int)).toNat] := by simp only [List.getD_eq_getElem?_getD, List.getElem?_eq_getElem hr]; rfl
        rw [hi0]
        obtain ⟨y, hy⟩ : ∃ y, L[((IntKind.u64.wrap x.i).tmod (L.length : Int)).toNat] = y := ⟨_, rfl⟩
        rw [hy] at d0 ⊢
        have d1 : w.cell? ⟨g, ((IntKind.u64.wrap x.i).tmod (L.length : Int)).toNat * 16, none⟩ = some (.int .i64 y.i) := d0
        rw [hm] at d1 hrr q2 hr
        have hr0 := hrr.1
        have hr1 := hrr.2
        have m1 : (0 : Int) < (m : Int) := by omega
        have hg : g < w.heap.size := World.block_lt_of_cell? _ _ d1
        clear d0 hat hi0 hy
        go_enter Tryd.func111, Tryd.ntmps111
        go_wp2_with fail
        go_quiet (fail)
        go_wp2_with fail
        go_ret
        exact ⟨rfl, ((Fr.refl _ _).alloc _).drewN _⟩
  · rw [if_neg hre]
    have hre' : x.re = false := by simpa using hre
    go_enter Tryd.func111, Tryd.ntmps111
    go_wp2_with fail
    go_ret
    exact ⟨rfl, (Fr.refl _ _).alloc _⟩
end Go.Proofs.YtffjaaolcphonaaDoor
/- The document's activations: put, out. -/
namespace Go.Proofs.YtffjaaolcphonaaDoor
open Go.RowKit Go.Maps
set_option linter.unusedSimpArgs false
theorem ins_app1 {x : Ac} : ∀ {A B : List Ac}, (∀ z ∈ A, z.i < x.i) → actE.ins x (A ++ B) = A ++ actE.ins x B
  | [], _, _ => rfl
  | z :: r, B, h => by
    have h1 : z.i < x.i := h z (by simp)
    rw [List.cons_append, El.ins, if_neg (by show ¬ x.i < z.i; omega), if_neg (by show ¬ x.i = z.i; omega), ins_app1 (fun y hy => h y (List.mem_cons_of_mem _ hy))]
    rfl
theorem ins_app2 {x : Ac} : ∀ {A B : List Ac}, (∃ z ∈ A, x.i ≤ z.i) → actE.ins x (A ++ B) = actE.ins x A ++ B
  | [], _, h => by obtain ⟨z, hz, _⟩ := h; cases hz
  | y :: r, B, h => by
    rw [List.cons_append, El.ins, El.ins]
    by_cases h1 : actE.key x < actE.key y
    · rw [if_pos h1, if_pos h1]; rfl
    · rw [if_neg h1, if_neg h1]
      by_cases h2 : actE.key x = actE.key y
      · rw [if_pos h2, if_pos h2]; rfl
      · rw [if_neg h2, if_neg h2]
        have h1' : ¬ x.i < y.i := h1
        have h2' : ¬ x.i = y.i := h2
        rw [ins_app2 (by
          obtain ⟨z, hz, hle⟩ := h
          rcases List.mem_cons.1 hz with e | hz
          · rw [e] at hle; omega
          · exact ⟨z, hz, hle⟩)]
        rfl
theorem insA_len (x : Ac) : ∀ L : List Ac, (actE.ins x L).length ≤ L.length + 1
  | [] => by simp [El.ins]
  | y :: r => by
    rw [El.ins]
    split
    · simp
    · split
      · simp
      · have := insA_len x r
        simp; omega
def pdn (x : Ac) (L : List Ac) (j : Nat) : Bool := (L.take j).any fun z => decide (x.i ≤ z.i)
def pl (x : Ac) (L : List Ac) (j : Nat) : List Ac := if pdn x L j = true then actE.ins x (L.take j) else L.take j
section
variable {x y : Ac} {L : List Ac} {j : Nat}
theorem pdn_false (h : pdn x L j = false) : ∀ z ∈ L.take j, z.i < x.i := by
  unfold pdn at h
  rw [List.any_eq_false] at h
  intro z hz
  have := h z hz
  simp at this; exact this
theorem pdn_true (h : pdn x L j = true) : ∃ z ∈ L.take j, x.i ≤ z.i := by
  unfold pdn at h
  rw [List.any_eq_true] at h
  obtain ⟨z, hz, h1⟩ := h
  exact ⟨z, hz, by simpa using h1⟩
theorem take_next (hj : j < L.length) (hy : L[j] = y) : L.take (j + 1) = L.take j ++ [y] := by rw [← hy]; exact List.take_succ_eq_append_getElem hj
theorem pdn_next (hj : j < L.length) (hy : L[j] = y) : pdn x L (j + 1) = (pdn x L j || decide (x.i ≤ y.i)) := by
  unfold pdn; rw [take_next hj hy, List.any_append]; simp
theorem p_after (hu : actE.Up L) (hj : j < L.length) (hy : L[j] = y) (h : pdn x L j = true) : x.i < y.i := by
  obtain ⟨z, hz, h1⟩ := pdn_true h
  obtain ⟨i, hi, rfl⟩ := List.getElem_of_mem hz
  have hi' : i < j := by have := hi; simp at this; omega
  have h2 : L[i].i < L[j].i := List.pairwise_iff_getElem.1 hu i j (by omega) hj hi'
  rw [List.getElem_take] at h1
  rw [hy] at h2; omega
theorem pl_after (hj : j < L.length) (hy : L[j] = y) (h : pdn x L j = true) : pdn x L (j + 1) = true ∧ pl x L (j + 1) = pl x L j ++ [y] := by
  have h1 : pdn x L (j + 1) = true := by rw [pdn_next hj hy, h]; rfl
  refine ⟨h1, ?_⟩
  unfold pl
  rw [if_pos h1, if_pos h, take_next hj hy, ins_app2 (pdn_true h)]
theorem pl_before (hj : j < L.length) (hy : L[j] = y) (h : pdn x L j = false) (hlt : y.i < x.i) : pdn x L (j + 1) = false ∧ pl x L (j + 1) = pl x L j ++ [y] := by
  have h1 : pdn x L (j + 1) = false := by rw [pdn_next hj hy, h]; simp; exact hlt
  refine ⟨h1, ?_⟩
  unfold pl
  rw [if_neg (by rw [h1]; decide), if_neg (by rw [h]; decide), take_next hj hy]
theorem pl_at (hj : j < L.length) (hy : L[j] = y) (h : pdn x L j = false) (he : y.i = x.i) : pdn x L (j + 1) = true ∧ pl x L (j + 1) = pl x L j ++ [x] := by
  have h1 : pdn x L (j + 1) = true := by rw [pdn_next hj hy, h]; simp; omega
  refine ⟨h1, ?_⟩
  unfold pl
  rw [if_pos h1, if_neg (by rw [h]; decide), take_next hj hy, ins_app1 (pdn_false h), El.ins, if_neg (by show ¬ x.i < y.i; omega), if_pos (by show x.i = y.i; omega)]
theorem pl_in (hj : j < L.length) (hy : L[j] = y) (h : pdn x L j = false) (hlt : x.i < y.i) : pdn x L (j + 1) = true ∧ pl x L (j + 1) = pl x L j ++ [x] ++ [y] := by
  have h1 : pdn x L (j + 1) = true := by rw [pdn_next hj hy, h]; simp; omega
  refine ⟨h1, ?_⟩
  unfold pl
  rw [if_pos h1, if_neg (by rw [h]; decide), take_next hj hy, ins_app1 (pdn_false h), El.ins, if_pos (by show x.i < y.i; omega), List.append_assoc]
  rfl
theorem pl_end (h : pdn x L L.length = false) : actE.ins x L = pl x L L.length ++ [x] := by
  unfold pl
  rw [if_neg (by rw [h]; decide)]
  have h1 := pdn_false h
  rw [List.take_length] at h1 ⊢
  have := ins_app1 (x := x) (A := L) (B := []) h1
  rw [List.append_nil] at this
  rw [this]; rfl
theorem pl_done (h : pdn x L L.length = true) : actE.ins x L = pl x L L.length := by
  unfold pl; rw [if_pos h, List.take_length]
theorem pl_len (x : Ac) (L : List Ac) (j : Nat) : (pl x L j).length ≤ L.length + 1 := by
  unfold pl
  have h1 := insA_len x (L.take j)
  have h2 : (L.take j).length ≤ L.length := by simp; omega
  split <;> omega
end
section
variable {w w' : World} {O : Nat → Prop} {Q p A T cA cT : Nat} {s : SS} {L : List Ac}
theorem upO_set {O : Nat → Prop} {w w1 : World} {q : Addr} {u : Value} : upO O w (w1.setCell q u) = upO O w w1 := by
  funext k
  unfold upO
  rw [World.size_setCell]
set_option maxRecDepth 100000 in
set_option maxHeartbeats 8000000 in
theorem xput (h : RAAt w O Q p A T cA cT s L) (hl : L.length ≤ 1000) (x : Ac) : Calls Tryd.prog 128 #[.pointer (some ⟨Q, 0, none⟩), (Value.agg #[.int .i64 x.i, .int .i64 x.s, .int .i64 x.sp, .int .i64 x.co, .int .i64 x.th, .int .i64 x.c.p, .int .i64 x.c.q, .int .i64 x.c.r0, .int .i64 x.c.r1, .int .i64 x.c.r2, .int .i64 x.c.r3, .int .i64 x.c.r4, .int .i64 x.c.r5, .int .i64 x.c.r6, .int .i64 x.c.r7, .int .i64 x.c.d])] w fun e w' =>
    e = .returned (.tuple #[]) ∧ RAAt w' (upO O w w') Q p A T cA cT s (actE.ins x L) ∧ Fr (fun k => k = Q) w w' := by
  have H := hid h
  obtain ⟨v, v1, v2, _⟩ := h.ex
  have R := hid (SRow.own (S := S114) v2 rfl)
  obtain ⟨a, c, rfl⟩ := own_shape v2 _ rfl
  have hQ := World.block_lt_of_cell? _ _ h.f0
  have UP := hid h.up
  have HL := hid hl
  clear h v2 hl
  go_enter Tryd.func128, Tryd.ntmps128
  go_wp2_with fail
  obtain ⟨w1, hw1⟩ : ∃ u, w.alloc (.cells ([.int .i64 x.i, .int .i64 x.s, .int .i64 x.sp, .int .i64 x.co, .int .i64 x.th, .int .i64 x.c.p, .int .i64 x.c.q, .int .i64 x.c.r0, .int .i64 x.c.r1, .int .i64 x.c.r2, .int .i64 x.c.r3, .int .i64 x.c.r4, .int .i64 x.c.r5, .int .i64 x.c.r6, .int .i64 x.c.r7, .int .i64 x.c.d] : List Value).toArray 120) = u := ⟨_, rfl⟩
  have S1 : Hid (Still w w1) := hid (hw1 ▸ (Fr.refl _ _).alloc _)
  obtain ⟨g, hg⟩ : ∃ g, w.heap.size = g := ⟨_, rfl⟩
  have B1 : Hid (Blk w1 g [.int .i64 x.i, .int .i64 x.s, .int .i64 x.sp, .int .i64 x.co, .int .i64 x.th, .int .i64 x.c.p, .int .i64 x.c.q, .int .i64 x.c.r0, .int .i64 x.c.r1, .int .i64 x.c.r2, .int .i64 x.c.r3, .int .i64 x.c.r4, .int .i64 x.c.r5, .int .i64 x.c.r6, .int .i64 x.c.r7, .int .i64 x.c.d] 120) := hid (by rw [← hw1, ← hg]; exact Blk.new w _ 120)
  rw [hw1, hg]
  clear hw1
  have q1 := Still.cell S1.out v1
  go_wp2_with fail
  go_loopw [4, 5, 7, 13] (fun s4 s5 s7 s13 wr => ∃ j : Nat, s13 = .int .i64 j ∧ j ≤ L.length ∧ s5 = .bool (pdn x L j) ∧ wr.ownsRow w1.heap.size 120 16 s4 (pl x L j).length (S114.row (pl x L j)) ∧ Still w1 wr) (fun _ _ _ s13 _ => L.length - (intOf s13).toNat)
  case atStart => exact ⟨0, rfl, Nat.zero_le _, rfl, owns_nilS (S := S114) _ _, Fr.refl _ _⟩
  case round =>
    obtain ⟨j, rfl, hj, rfl, ho, hst⟩ := hrel
    have OX := hid ho
    have SX := hid hst
    obtain ⟨a3, c3, rfl⟩ := own_shape ho _ rfl
    have BX := hid (B1.out.still hst)
    have PL : Hid ((pl x L j).length ≤ 1001) := hid (by have := pl_len x L j; have := HL.out; omega)
    clear ho hst
    by_cases hlt : j < L.length
    · have hlt' : (j : Int) < (L.length : Int) := by omega
      obtain ⟨b, off, c2, ev, hc⟩ := (R.out.still (S1.out.trans SX.out)).at hlt
      obtain ⟨rfl, rfl⟩ : a = some ⟨b, off, none⟩ ∧ c = c2 := by injection ev with e1 _ e3; exact ⟨e1, e3⟩
      obtain ⟨y, hy⟩ : ∃ y, L[j] = y := ⟨_, rfl⟩
      rw [hy] at hc
      have HY := hid hy
      have HC : Hid (wr.rangeAt b (off + j * 16) [.int .i64 y.i, .int .i64 y.s, .int .i64 y.sp, .int .i64 y.co, .int .i64 y.th, .int .i64 y.c.p, .int .i64 y.c.q, .int .i64 y.c.r0, .int .i64 y.c.r1, .int .i64 y.c.r2, .int .i64 y.c.r3, .int .i64 y.c.r4, .int .i64 y.c.r5, .int .i64 y.c.r6, .int .i64 y.c.r7, .int .i64 y.c.d]) := hid hc
      clear hy hc ev
      have zx := SX.out.size
      have hbb := HL.out
      cases hd : pdn x L j with
      | true =>
        have hlt2 := p_after UP.out hlt HY.out hd
        have PP := hid (pl_after hlt HY.out hd)
        have e1 : (y.i != x.i) = true := by simp; omega
        clear hd hlt2
        have N2 : True := trivial
        go_wp2_with (first
          | (refine wpList_load_mid rfl 120 (.tmp 15) rfl b (off + j * 16) rfl [.int .i64 y.i, .int .i64 y.s, .int .i64 y.sp, .int .i64 y.co, .int .i64 y.th, .int .i64 y.c.p, .int .i64 y.c.q, .int .i64 y.c.r0, .int .i64 y.c.r1, .int .i64 y.c.r2, .int .i64 y.c.r3, .int .i64 y.c.r4, .int .i64 y.c.r5, .int .i64 y.c.r6, .int .i64 y.c.r7, .int .i64 y.c.d] _ HC.out Tryd.underlying120 rfl I120 ?_)
          | (clear N2; refine wpList_storeW rfl (.tmp 7) (.tmp 16) 120 rfl _ 120 [.int .i64 a0.i, .int .i64 a0.s, .int .i64 a0.sp, .int .i64 a0.co, .int .i64 a0.th, .int .i64 a0.c.p, .int .i64 a0.c.q, .int .i64 a0.c.r0, .int .i64 a0.c.r1, .int .i64 a0.c.r2, .int .i64 a0.c.r3, .int .i64 a0.c.r4, .int .i64 a0.c.r5, .int .i64 a0.c.r6, .int .i64 a0.c.r7, .int .i64 a0.c.d] [.int .i64 y.i, .int .i64 y.s, .int .i64 y.sp, .int .i64 y.co, .int .i64 y.th, .int .i64 y.c.p, .int .i64 y.c.q, .int .i64 y.c.r0, .int .i64 y.c.r1, .int .i64 y.c.r2, .int .i64 y.c.r3, .int .i64 y.c.r4, .int .i64 y.c.r5, .int .i64 y.c.r6, .int .i64 y.c.r7, .int .i64 y.c.d] I120 (onesA y) rfl rfl (new_ra _) rfl ?_; intro w3 b3 f3; have B3 := hid b3; have S3 : Hid (Still w1 w3) := hid (Still.next (SX.out.alloc _) f3 (fun k hk => by rw [hk]; exact SX.out.size)); have O3 := hid (owns_fr OX.out (((Fr.refl _ wr).alloc _).trans f3) (fun k _ h2 h3 => by omega)); have BX3 := hid (B1.out.still S3.out); have z3 := S3.out.size; have y0 : w3.cell? ⟨wr.heap.size, 0, none⟩ = some (.int .i64 y.i) := b3.cell 0; have x0 : w3.cell? ⟨g, 0, none⟩ = some (.int .i64 x.i) := BX3.out.cell 0; clear b3 f3)
          | (refine wpList_loadW rfl (.tmp 7) 120 rfl _ Tryd.underlying120 rfl _ 120 [.int .i64 y.i, .int .i64 y.s, .int .i64 y.sp, .int .i64 y.co, .int .i64 y.th, .int .i64 y.c.p, .int .i64 y.c.q, .int .i64 y.c.r0, .int .i64 y.c.r1, .int .i64 y.c.r2, .int .i64 y.c.r3, .int .i64 y.c.r4, .int .i64 y.c.r5, .int .i64 y.c.r6, .int .i64 y.c.r7, .int .i64 y.c.d] I120 rfl B3.out ?_)
          | (at_builtin; refine wpList_append_srow (S := S114) rfl (.tmp 35) (.tmp 37) rfl w1.heap.size (pl x L j).length (pl x L j) [y] _ _ rfl rfl (O3.out.alloc _) (one_newS (S := S114) _ y _) (by have := PL.out; simp only [List.length_cons, List.length_nil]; omega) (by simp; omega) ?_; intro v5 w5 ho5 hg5 hl5; have S5 : Hid (Still w1 w5) := hid (Fr.of_own (S3.out.alloc _) (O3.out.alloc _) hg5 (Nat.le_refl _)); obtain ⟨a5, c5, rfl⟩ := own_shape ho5 _ rfl; have O5 := hid ho5; clear ho5 hg5 hl5))
        go_roundw
        case rel => exact ⟨j + 1, by go_num, by omega, by rw [PP.out.1], by have h := O5.out; rw [PP.out.2]; simp only [List.length_append, List.length_cons, List.length_nil] at h ⊢; exact h, S5.out⟩
        case measure => simp [intOf]; omega
      | false =>
        rcases (show y.i < x.i ∨ y.i = x.i ∨ x.i < y.i by omega) with h1 | h1 | h1
        · have PP := hid (pl_before hlt HY.out hd h1)
          have e1 : (y.i != x.i) = true := by simp; omega
          have e2 : ¬ x.i ≤ y.i := by omega
          clear hd h1
          have N2 : True := trivial
          go_wp2_with (first
            | (refine wpList_load_mid rfl 120 (.tmp 15) rfl b (off + j * 16) rfl [.int .i64 y.i, .int .i64 y.s, .int .i64 y.sp, .int .i64 y.co, .int .i64 y.th, .int .i64 y.c.p, .int .i64 y.c.q, .int .i64 y.c.r0, .int .i64 y.c.r1, .int .i64 y.c.r2, .int .i64 y.c.r3, .int .i64 y.c.r4, .int .i64 y.c.r5, .int .i64 y.c.r6, .int .i64 y.c.r7, .int .i64 y.c.d] _ HC.out Tryd.underlying120 rfl I120 ?_)
            | (clear N2; refine wpList_storeW rfl (.tmp 7) (.tmp 16) 120 rfl _ 120 [.int .i64 a0.i, .int .i64 a0.s, .int .i64 a0.sp, .int .i64 a0.co, .int .i64 a0.th, .int .i64 a0.c.p, .int .i64 a0.c.q, .int .i64 a0.c.r0, .int .i64 a0.c.r1, .int .i64 a0.c.r2, .int .i64 a0.c.r3, .int .i64 a0.c.r4, .int .i64 a0.c.r5, .int .i64 a0.c.r6, .int .i64 a0.c.r7, .int .i64 a0.c.d] [.int .i64 y.i, .int .i64 y.s, .int .i64 y.sp, .int .i64 y.co, .int .i64 y.th, .int .i64 y.c.p, .int .i64 y.c.q, .int .i64 y.c.r0, .int .i64 y.c.r1, .int .i64 y.c.r2, .int .i64 y.c.r3, .int .i64 y.c.r4, .int .i64 y.c.r5, .int .i64 y.c.r6, .int .i64 y.c.r7, .int .i64 y.c.d] I120 (onesA y) rfl rfl (new_ra _) rfl ?_; intro w3 b3 f3; have B3 := hid b3; have S3 : Hid (Still w1 w3) := hid (Still.next (SX.out.alloc _) f3 (fun k hk => by rw [hk]; exact SX.out.size)); have O3 := hid (owns_fr OX.out (((Fr.refl _ wr).alloc _).trans f3) (fun k _ h2 h3 => by omega)); have BX3 := hid (B1.out.still S3.out); have z3 := S3.out.size; have y0 : w3.cell? ⟨wr.heap.size, 0, none⟩ = some (.int .i64 y.i) := b3.cell 0; have x0 : w3.cell? ⟨g, 0, none⟩ = some (.int .i64 x.i) := BX3.out.cell 0; clear b3 f3)
            | (refine wpList_loadW rfl (.tmp 7) 120 rfl _ Tryd.underlying120 rfl _ 120 [.int .i64 y.i, .int .i64 y.s, .int .i64 y.sp, .int .i64 y.co, .int .i64 y.th, .int .i64 y.c.p, .int .i64 y.c.q, .int .i64 y.c.r0, .int .i64 y.c.r1, .int .i64 y.c.r2, .int .i64 y.c.r3, .int .i64 y.c.r4, .int .i64 y.c.r5, .int .i64 y.c.r6, .int .i64 y.c.r7, .int .i64 y.c.d] I120 rfl B3.out ?_)
            | (at_builtin; refine wpList_append_srow (S := S114) rfl (.tmp 35) (.tmp 37) rfl w1.heap.size (pl x L j).length (pl x L j) [y] _ _ rfl rfl (O3.out.alloc _) (one_newS (S := S114) _ y _) (by have := PL.out; simp only [List.length_cons, List.length_nil]; omega) (by simp; omega) ?_; intro v5 w5 ho5 hg5 hl5; have S5 : Hid (Still w1 w5) := hid (Fr.of_own (S3.out.alloc _) (O3.out.alloc _) hg5 (Nat.le_refl _)); obtain ⟨a5, c5, rfl⟩ := own_shape ho5 _ rfl; have O5 := hid ho5; clear ho5 hg5 hl5))
          go_roundw
          case rel => exact ⟨j + 1, by go_num, by omega, by rw [PP.out.1], by have h := O5.out; rw [PP.out.2]; simp only [List.length_append, List.length_cons, List.length_nil] at h ⊢; exact h, S5.out⟩
          case measure => simp [intOf]; omega
        · have PP := hid (pl_at hlt HY.out hd h1)
          have e1 : (y.i != x.i) = false := by simp [h1]
          have e2 : x.i ≤ y.i := by omega
          clear hd h1
          have N2 : True := trivial
          go_wp2_with (first
            | (refine wpList_load_mid rfl 120 (.tmp 15) rfl b (off + j * 16) rfl [.int .i64 y.i, .int .i64 y.s, .int .i64 y.sp, .int .i64 y.co, .int .i64 y.th, .int .i64 y.c.p, .int .i64 y.c.q, .int .i64 y.c.r0, .int .i64 y.c.r1, .int .i64 y.c.r2, .int .i64 y.c.r3, .int .i64 y.c.r4, .int .i64 y.c.r5, .int .i64 y.c.r6, .int .i64 y.c.r7, .int .i64 y.c.d] _ HC.out Tryd.underlying120 rfl I120 ?_)
            | (clear N2; refine wpList_storeW rfl (.tmp 7) (.tmp 16) 120 rfl _ 120 [.int .i64 a0.i, .int .i64 a0.s, .int .i64 a0.sp, .int .i64 a0.co, .int .i64 a0.th, .int .i64 a0.c.p, .int .i64 a0.c.q, .int .i64 a0.c.r0, .int .i64 a0.c.r1, .int .i64 a0.c.r2, .int .i64 a0.c.r3, .int .i64 a0.c.r4, .int .i64 a0.c.r5, .int .i64 a0.c.r6, .int .i64 a0.c.r7, .int .i64 a0.c.d] [.int .i64 y.i, .int .i64 y.s, .int .i64 y.sp, .int .i64 y.co, .int .i64 y.th, .int .i64 y.c.p, .int .i64 y.c.q, .int .i64 y.c.r0, .int .i64 y.c.r1, .int .i64 y.c.r2, .int .i64 y.c.r3, .int .i64 y.c.r4, .int .i64 y.c.r5, .int .i64 y.c.r6, .int .i64 y.c.r7, .int .i64 y.c.d] I120 (onesA y) rfl rfl (new_ra _) rfl ?_; intro w3 b3 f3; have B3 := hid b3; have S3 : Hid (Still w1 w3) := hid (Still.next (SX.out.alloc _) f3 (fun k hk => by rw [hk]; exact SX.out.size)); have O3 := hid (owns_fr OX.out (((Fr.refl _ wr).alloc _).trans f3) (fun k _ h2 h3 => by omega)); have BX3 := hid (B1.out.still S3.out); have z3 := S3.out.size; have y0 : w3.cell? ⟨wr.heap.size, 0, none⟩ = some (.int .i64 y.i) := b3.cell 0; have x0 : w3.cell? ⟨g, 0, none⟩ = some (.int .i64 x.i) := BX3.out.cell 0; clear b3 f3)
            | (refine wpList_loadW rfl (.tmp 3) 120 rfl _ Tryd.underlying120 rfl _ 120 [.int .i64 x.i, .int .i64 x.s, .int .i64 x.sp, .int .i64 x.co, .int .i64 x.th, .int .i64 x.c.p, .int .i64 x.c.q, .int .i64 x.c.r0, .int .i64 x.c.r1, .int .i64 x.c.r2, .int .i64 x.c.r3, .int .i64 x.c.r4, .int .i64 x.c.r5, .int .i64 x.c.r6, .int .i64 x.c.r7, .int .i64 x.c.d] I120 rfl BX3.out ?_)
            | (at_builtin; refine wpList_append_srow (S := S114) rfl (.tmp 26) (.tmp 28) rfl w1.heap.size (pl x L j).length (pl x L j) [x] _ _ rfl rfl (O3.out.alloc _) (one_newS (S := S114) _ x _) (by have := PL.out; simp only [List.length_cons, List.length_nil]; omega) (by simp; omega) ?_; intro v4 w4 ho4 hg4 hl4; have S4 : Hid (Still w1 w4) := hid (Fr.of_own (S3.out.alloc _) (O3.out.alloc _) hg4 (Nat.le_refl _)); have FG : Hid (Fr (fun k => k < wr.heap.size) _ w4) := hid (Fr.of_grownBy hg4 (fun k hk _ => (own_lt2 OX.out hk).2)); obtain ⟨a4, c4, rfl⟩ := own_shape ho4 _ rfl; have O4 := hid ho4; have B4 := hid ((B3.out.alloc _).fr FG.out (Nat.lt_irrefl _)); have z4 := S4.out.size; have y4 : w4.cell? ⟨wr.heap.size, 0, none⟩ = some (.int .i64 y.i) := B4.out.cell 0; have x4 : w4.cell? ⟨g, 0, none⟩ = some (.int .i64 x.i) := (B1.out.still S4.out).cell 0; clear ho4 hg4 hl4))
          go_roundw
          case rel => exact ⟨j + 1, by go_num, by omega, by rw [PP.out.1], by have h := O4.out; rw [PP.out.2]; simp only [List.length_append, List.length_cons, List.length_nil] at h ⊢; exact h, S4.out⟩
          case measure => simp [intOf]; omega
        · have PP := hid (pl_in hlt HY.out hd h1)
          have e1 : (y.i != x.i) = true := by simp; omega
          have e2 : x.i ≤ y.i := by omega
          clear hd h1
          have N2 : True := trivial
          go_wp2_with (first
            | (refine wpList_load_mid rfl 120 (.tmp 15) rfl b (off + j * 16) rfl [.int .i64 y.i, .int .i64 y.s, .int .i64 y.sp, .int .i64 y.co, .int .i64 y.th, .int .i64 y.c.p, .int .i64 y.c.q, .int .i64 y.c.r0, .int .i64 y.c.r1, .int .i64 y.c.r2, .int .i64 y.c.r3, .int .i64 y.c.r4, .int .i64 y.c.r5, .int .i64 y.c.r6, .int .i64 y.c.r7, .int .i64 y.c.d] _ HC.out Tryd.underlying120 rfl I120 ?_)
            | (clear N2; refine wpList_storeW rfl (.tmp 7) (.tmp 16) 120 rfl _ 120 [.int .i64 a0.i, .int .i64 a0.s, .int .i64 a0.sp, .int .i64 a0.co, .int .i64 a0.th, .int .i64 a0.c.p, .int .i64 a0.c.q, .int .i64 a0.c.r0, .int .i64 a0.c.r1, .int .i64 a0.c.r2, .int .i64 a0.c.r3, .int .i64 a0.c.r4, .int .i64 a0.c.r5, .int .i64 a0.c.r6, .int .i64 a0.c.r7, .int .i64 a0.c.d] [.int .i64 y.i, .int .i64 y.s, .int .i64 y.sp, .int .i64 y.co, .int .i64 y.th, .int .i64 y.c.p, .int .i64 y.c.q, .int .i64 y.c.r0, .int .i64 y.c.r1, .int .i64 y.c.r2, .int .i64 y.c.r3, .int .i64 y.c.r4, .int .i64 y.c.r5, .int .i64 y.c.r6, .int .i64 y.c.r7, .int .i64 y.c.d] I120 (onesA y) rfl rfl (new_ra _) rfl ?_; intro w3 b3 f3; have B3 := hid b3; have S3 : Hid (Still w1 w3) := hid (Still.next (SX.out.alloc _) f3 (fun k hk => by rw [hk]; exact SX.out.size)); have O3 := hid (owns_fr OX.out (((Fr.refl _ wr).alloc _).trans f3) (fun k _ h2 h3 => by omega)); have BX3 := hid (B1.out.still S3.out); have z3 := S3.out.size; have y0 : w3.cell? ⟨wr.heap.size, 0, none⟩ = some (.int .i64 y.i) := b3.cell 0; have x0 : w3.cell? ⟨g, 0, none⟩ = some (.int .i64 x.i) := BX3.out.cell 0; clear b3 f3)
            | (refine wpList_loadW rfl (.tmp 3) 120 rfl _ Tryd.underlying120 rfl _ 120 [.int .i64 x.i, .int .i64 x.s, .int .i64 x.sp, .int .i64 x.co, .int .i64 x.th, .int .i64 x.c.p, .int .i64 x.c.q, .int .i64 x.c.r0, .int .i64 x.c.r1, .int .i64 x.c.r2, .int .i64 x.c.r3, .int .i64 x.c.r4, .int .i64 x.c.r5, .int .i64 x.c.r6, .int .i64 x.c.r7, .int .i64 x.c.d] I120 rfl BX3.out ?_)
            | (at_builtin; refine wpList_append_srow (S := S114) rfl (.tmp 26) (.tmp 28) rfl w1.heap.size (pl x L j).length (pl x L j) [x] _ _ rfl rfl (O3.out.alloc _) (one_newS (S := S114) _ x _) (by have := PL.out; simp only [List.length_cons, List.length_nil]; omega) (by simp; omega) ?_; intro v4 w4 ho4 hg4 hl4; have S4 : Hid (Still w1 w4) := hid (Fr.of_own (S3.out.alloc _) (O3.out.alloc _) hg4 (Nat.le_refl _)); have FG : Hid (Fr (fun k => k < wr.heap.size) _ w4) := hid (Fr.of_grownBy hg4 (fun k hk _ => (own_lt2 OX.out hk).2)); obtain ⟨a4, c4, rfl⟩ := own_shape ho4 _ rfl; have O4 := hid ho4; have B4 := hid ((B3.out.alloc _).fr FG.out (Nat.lt_irrefl _)); have z4 := S4.out.size; have y4 : w4.cell? ⟨wr.heap.size, 0, none⟩ = some (.int .i64 y.i) := B4.out.cell 0; have x4 : w4.cell? ⟨g, 0, none⟩ = some (.int .i64 x.i) := (B1.out.still S4.out).cell 0; clear ho4 hg4 hl4)
            | (refine wpList_loadW rfl (.tmp 7) 120 rfl _ Tryd.underlying120 rfl _ 120 [.int .i64 y.i, .int .i64 y.s, .int .i64 y.sp, .int .i64 y.co, .int .i64 y.th, .int .i64 y.c.p, .int .i64 y.c.q, .int .i64 y.c.r0, .int .i64 y.c.r1, .int .i64 y.c.r2, .int .i64 y.c.r3, .int .i64 y.c.r4, .int .i64 y.c.r5, .int .i64 y.c.r6, .int .i64 y.c.r7, .int .i64 y.c.d] I120 rfl B4.out ?_)
            | (at_builtin; refine wpList_append_srow (S := S114) rfl (.tmp 35) (.tmp 37) rfl w1.heap.size ((pl x L j).length + [x].length) (pl x L j ++ [x]) [y] _ _ rfl rfl (O4.out.alloc _) (one_newS (S := S114) _ y _) (by have := PL.out; simp only [List.length_cons, List.length_nil]; omega) (by simp; omega) ?_; intro v5 w5 ho5 hg5 hl5; have S5 : Hid (Still w1 w5) := hid (Fr.of_own (S4.out.alloc _) (O4.out.alloc _) hg5 (Nat.le_refl _)); obtain ⟨a5, c5, rfl⟩ := own_shape ho5 _ rfl; have O5 := hid ho5; clear ho5 hg5 hl5))
          go_roundw
          case rel => exact ⟨j + 1, by go_num, by omega, by rw [PP.out.1], by have h := O5.out; rw [PP.out.2]; simp only [List.length_append, List.length_cons, List.length_nil] at h ⊢; exact h, S5.out⟩
          case measure => simp [intOf]; omega
    · have hlt' : ¬ (j : Int) < (L.length : Int) := by omega
      have e : j = L.length := by omega
      subst e
      have SW := hid (S1.out.trans SX.out)
      have HS := H.out.still SW.out
      have z9 := HS.z1
      have q9 := Still.cell SW.out v1
      have LI := hid (insA_len x L)
      have hbb := HL.out
      clear HS hlt hlt' hj
      cases hd : pdn x L L.length with
      | true =>
        have PE := hid (pl_done hd)
        clear hd
        go_wp2_with fail
        go_end0
        refine ⟨rfl, ?_, Fr.setCell (F := fun k => k = Q) (p := ⟨Q, 1, none⟩) (SW.out.fr _) (.inl rfl) _⟩
        rw [upO_set]
        have h1 := OX.out
        rw [← PE.out] at h1
        have e3 : (pl x L L.length).length = (actE.ins x L).length := by rw [PE.out]
        rw [e3]
        exact H.out.swap SW.out h1 S1.out.size (actE.up_ins x L H.out.up) (by have := LI.out; omega)
      | false =>
        have PE := hid (pl_end hd)
        clear hd
        go_wp2_with (first
          | (refine wpList_loadW rfl (.tmp 3) 120 rfl _ Tryd.underlying120 rfl _ 120 [.int .i64 x.i, .int .i64 x.s, .int .i64 x.sp, .int .i64 x.co, .int .i64 x.th, .int .i64 x.c.p, .int .i64 x.c.q, .int .i64 x.c.r0, .int .i64 x.c.r1, .int .i64 x.c.r2, .int .i64 x.c.r3, .int .i64 x.c.r4, .int .i64 x.c.r5, .int .i64 x.c.r6, .int .i64 x.c.r7, .int .i64 x.c.d] I120 rfl BX.out ?_)
          | (at_builtin; refine wpList_append_srow (S := S114) rfl (.tmp 42) (.tmp 44) rfl w1.heap.size (pl x L L.length).length (pl x L L.length) [x] _ _ rfl rfl (OX.out.alloc _) (one_newS (S := S114) _ x _) (by have := PL.out; simp only [List.length_cons, List.length_nil]; omega) (by have := SX.out.size; simp; omega) ?_; intro v5 w5 ho5 hg5 hl5; have S5 : Hid (Still w1 w5) := hid (Fr.of_own (SX.out.alloc _) (OX.out.alloc _) hg5 (Nat.le_refl _)); obtain ⟨a5, c5, rfl⟩ := own_shape ho5 _ rfl; have O5 := hid ho5; have SW5 := hid (S1.out.trans S5.out); have z8 := (H.out.still SW5.out).z1; have q8 := Still.cell SW5.out v1; clear ho5 hg5 hl5))
        go_end0
        refine ⟨rfl, ?_, Fr.setCell (F := fun k => k = Q) (p := ⟨Q, 1, none⟩) (SW5.out.fr _) (.inl rfl) _⟩
        rw [upO_set]
        have h1 := O5.out
        have e2 : (pl x L L.length).length + [x].length = (actE.ins x L).length := by rw [PE.out, List.length_append]
        rw [e2, ← PE.out] at h1
        have h2 := H.out.swap SW5.out h1 S1.out.size (actE.up_ins x L H.out.up) (by have := LI.out; omega)
        have e3 : (pl x L L.length).length + 1 = (actE.ins x L).length := e2
        rw [e3]; exact h2
set_option maxRecDepth 100000 in
set_option maxHeartbeats 8000000 in
theorem xout (h : RAAt w O Q p A T cA cT s L) (hl : L.length ≤ 1000) (id : Int) (hi : inI id) : Calls Tryd.prog 130 #[.pointer (some ⟨Q, 0, none⟩), .int .i64 id] w fun e w' =>
    e = .returned (.tuple #[]) ∧ RAAt w' (upO O w w') Q p A T cA cT (freeS s id) (actE.del id L) ∧ Fr (fun k => k = Q ∨ k = T) w w' := by
  have H := hid h
  obtain ⟨v, v1, v2, _⟩ := h.ex
  have R := hid (SRow.own (S := S114) v2 rfl)
  obtain ⟨a, c, rfl⟩ := own_shape v2 _ rfl
  have HL := hid hl
  have HI := hid hi
  clear h v2 hl hi
  go_enter Tryd.func130, Tryd.ntmps130
  go_wp2_with fail
  go_loopw [4, 6, 12] (fun s4 s6 s12 wr => ∃ j : Nat, s12 = .int .i64 j ∧ j ≤ L.length ∧ wr.ownsRow w.heap.size 120 16 s4 (actE.del id (L.take j)).length (S114.row (actE.del id (L.take j))) ∧ Still w wr) (fun _ _ s12 _ => L.length - (intOf s12).toNat)
  case atStart => exact ⟨0, rfl, Nat.zero_le _, owns_nilS (S := S114) _ _, Fr.refl _ _⟩
  case round =>
    obtain ⟨j, rfl, hj, ho, hst⟩ := hrel
    have SX := hid hst
    obtain ⟨DL, hDL⟩ : ∃ M, actE.del id (L.take j) = M := ⟨_, rfl⟩
    have HD := hid hDL
    rw [hDL] at ho
    have OX := hid ho
    obtain ⟨a3, c3, rfl⟩ := own_shape ho _ rfl
    have PL : Hid (DL.length ≤ 1000) := hid (by rw [← hDL]; have h1 : (actE.del id (L.take j)).length ≤ (L.take j).length := List.length_filter_le _ _; have h2 : (L.take j).length ≤ L.length := by simp; omega
                                                have := HL.out; omega)
    clear ho hst hDL
    by_cases hlt : j < L.length
    · have hlt' : (j : Int) < (L.length : Int) := by omega
      obtain ⟨b, off, c2, ev, hc⟩ := (R.out.still SX.out).at hlt
      obtain ⟨rfl, rfl⟩ : a = some ⟨b, off, none⟩ ∧ c = c2 := by injection ev with e1 _ e3; exact ⟨e1, e3⟩
      obtain ⟨y, hy⟩ : ∃ y, L[j] = y := ⟨_, rfl⟩
      rw [hy] at hc
      have TN := hid (take_next hlt hy)
      have HC : Hid (wr.rangeAt b (off + j * 16) [.int .i64 y.i, .int .i64 y.s, .int .i64 y.sp, .int .i64 y.co, .int .i64 y.th, .int .i64 y.c.p, .int .i64 y.c.q, .int .i64 y.c.r0, .int .i64 y.c.r1, .int .i64 y.c.r2, .int .i64 y.c.r3, .int .i64 y.c.r4, .int .i64 y.c.r5, .int .i64 y.c.r6, .int .i64 y.c.r7, .int .i64 y.c.d]) := hid hc
      clear hy hc ev
      have zx := SX.out.size
      have hbb := HL.out
      by_cases he : y.i = id
      · have e1 : (y.i != id) = false := by simp [he]
        have PP : Hid (actE.del id (L.take (j + 1)) = DL) := hid (by
          rw [TN.out, ← HD.out]
          unfold El.del
          rw [List.filter_append]
          have : [y].filter (fun x => actE.key x != id) = [] := by simp [actE, he]
          rw [this, List.append_nil])
        clear he
        have N2 : True := trivial
        go_wp2_with (first
          | (refine wpList_load_mid rfl 120 (.tmp 14) rfl b (off + j * 16) rfl [.int .i64 y.i, .int .i64 y.s, .int .i64 y.sp, .int .i64 y.co, .int .i64 y.th, .int .i64 y.c.p, .int .i64 y.c.q, .int .i64 y.c.r0, .int .i64 y.c.r1, .int .i64 y.c.r2, .int .i64 y.c.r3, .int .i64 y.c.r4, .int .i64 y.c.r5, .int .i64 y.c.r6, .int .i64 y.c.r7, .int .i64 y.c.d] _ HC.out Tryd.underlying120 rfl I120 ?_)
          | (clear N2; refine wpList_storeW rfl (.tmp 6) (.tmp 15) 120 rfl _ 120 [.int .i64 a0.i, .int .i64 a0.s, .int .i64 a0.sp, .int .i64 a0.co, .int .i64 a0.th, .int .i64 a0.c.p, .int .i64 a0.c.q, .int .i64 a0.c.r0, .int .i64 a0.c.r1, .int .i64 a0.c.r2, .int .i64 a0.c.r3, .int .i64 a0.c.r4, .int .i64 a0.c.r5, .int .i64 a0.c.r6, .int .i64 a0.c.r7, .int .i64 a0.c.d] [.int .i64 y.i, .int .i64 y.s, .int .i64 y.sp, .int .i64 y.co, .int .i64 y.th, .int .i64 y.c.p, .int .i64 y.c.q, .int .i64 y.c.r0, .int .i64 y.c.r1, .int .i64 y.c.r2, .int .i64 y.c.r3, .int .i64 y.c.r4, .int .i64 y.c.r5, .int .i64 y.c.r6, .int .i64 y.c.r7, .int .i64 y.c.d] I120 (onesA y) rfl rfl (new_ra _) rfl ?_; intro w3 b3 f3; have S3 : Hid (Still w w3) := hid (Still.next (SX.out.alloc _) f3 (fun k hk => by rw [hk]; exact SX.out.size)); have O3 := hid (owns_fr OX.out (((Fr.refl _ wr).alloc _).trans f3) (fun k _ h2 h3 => by omega)); have y0 : w3.cell? ⟨wr.heap.size, 0, none⟩ = some (.int .i64 y.i) := b3.cell 0; clear b3 f3))
        go_roundw
        case rel => exact ⟨j + 1, by go_num, by omega, by rw [PP.out]; exact O3.out, S3.out⟩
        case measure => simp [intOf]; omega
      · have e1 : (y.i != id) = true := by simp [he]
        have PP : Hid (actE.del id (L.take (j + 1)) = DL ++ [y]) := hid (by
          rw [TN.out, ← HD.out]
          unfold El.del
          rw [List.filter_append]
          have : [y].filter (fun x => actE.key x != id) = [y] := by simp [actE, he]
          rw [this])
        clear he
        have N2 : True := trivial
        go_wp2_with (first
          | (refine wpList_load_mid rfl 120 (.tmp 14) rfl b (off + j * 16) rfl [.int .i64 y.i, .int .i64 y.s, .int .i64 y.sp, .int .i64 y.co, .int .i64 y.th, .int .i64 y.c.p, .int .i64 y.c.q, .int .i64 y.c.r0, .int .i64 y.c.r1, .int .i64 y.c.r2, .int .i64 y.c.r3, .int .i64 y.c.r4, .int .i64 y.c.r5, .int .i64 y.c.r6, .int .i64 y.c.r7, .int .i64 y.c.d] _ HC.out Tryd.underlying120 rfl I120 ?_)
          | (clear N2; refine wpList_storeW rfl (.tmp 6) (.tmp 15) 120 rfl _ 120 [.int .i64 a0.i, .int .i64 a0.s, .int .i64 a0.sp, .int .i64 a0.co, .int .i64 a0.th, .int .i64 a0.c.p, .int .i64 a0.c.q, .int .i64 a0.c.r0, .int .i64 a0.c.r1, .int .i64 a0.c.r2, .int .i64 a0.c.r3, .int .i64 a0.c.r4, .int .i64 a0.c.r5, .int .i64 a0.c.r6, .int .i64 a0.c.r7, .int .i64 a0.c.d] [.int .i64 y.i, .int .i64 y.s, .int .i64 y.sp, .int .i64 y.co, .int .i64 y.th, .int .i64 y.c.p, .int .i64 y.c.q, .int .i64 y.c.r0, .int .i64 y.c.r1, .int .i64 y.c.r2, .int .i64 y.c.r3, .int .i64 y.c.r4, .int .i64 y.c.r5, .int .i64 y.c.r6, .int .i64 y.c.r7, .int .i64 y.c.d] I120 (onesA y) rfl rfl (new_ra _) rfl ?_; intro w3 b3 f3; have B3 := hid b3; have S3 : Hid (Still w w3) := hid (Still.next (SX.out.alloc _) f3 (fun k hk => by rw [hk]; exact SX.out.size)); have O3 := hid (owns_fr OX.out (((Fr.refl _ wr).alloc _).trans f3) (fun k _ h2 h3 => by omega)); have z3 := S3.out.size; have y0 : w3.cell? ⟨wr.heap.size, 0, none⟩ = some (.int .i64 y.i) := b3.cell 0; clear b3 f3)
          | (refine wpList_loadW rfl (.tmp 6) 120 rfl _ Tryd.underlying120 rfl _ 120 [.int .i64 y.i, .int .i64 y.s, .int .i64 y.sp, .int .i64 y.co, .int .i64 y.th, .int .i64 y.c.p, .int .i64 y.c.q, .int .i64 y.c.r0, .int .i64 y.c.r1, .int .i64 y.c.r2, .int .i64 y.c.r3, .int .i64 y.c.r4, .int .i64 y.c.r5, .int .i64 y.c.r6, .int .i64 y.c.r7, .int .i64 y.c.d] I120 rfl B3.out ?_)
          | (at_builtin; refine wpList_append_srow (S := S114) rfl (.tmp 20) (.tmp 22) rfl w.heap.size DL.length DL [y] _ _ rfl rfl (O3.out.alloc _) (one_newS (S := S114) _ y _) (by have := PL.out; simp only [List.length_cons, List.length_nil]; omega) (by simp; omega) ?_; intro v5 w5 ho5 hg5 hl5; have S5 : Hid (Still w w5) := hid (Fr.of_own (S3.out.alloc _) (O3.out.alloc _) hg5 (Nat.le_refl _)); obtain ⟨a5, c5, rfl⟩ := own_shape ho5 _ rfl; have O5 := hid ho5; clear ho5 hg5 hl5))
        go_roundw
        case rel => exact ⟨j + 1, by go_num, by omega, by have h := O5.out; rw [PP.out]; simp only [List.length_append, List.length_cons, List.length_nil] at h ⊢; exact h, S5.out⟩
        case measure => simp [intOf]; omega
    · have hlt' : ¬ (j : Int) < (L.length : Int) := by omega
      have e : j = L.length := by omega
      have ED : Hid (DL = actE.del id L) := hid (by rw [← HD.out, e, List.take_length])
      have z9 := (H.out.still SX.out).z1
      have q9 := Still.cell SX.out v1
      clear hlt hj e
      have T4 := hid (H.out.swap SX.out (by have h1 := OX.out; rw [ED.out] at h1; exact h1) (Nat.le_refl _) (actE.up_del id H.out.up) (by have := PL.out; rw [← ED.out]; omega))
      have N2 : True := trivial
      go_wp2_with (clear N2; refine wpList_store1 rfl (.tmp 28) (.tmp 26) 114 rfl Q 1 _ (.slice a3 DL.length c3) (by kernel_rfl) rfl rfl rfl rfl q9 z9 ?_; intro w4 hw4; have T5 : Hid (RAAt w4 (upO O w wr) Q p A T cA cT s (actE.del id L)) := hid (by have h := T4.out; rw [← ED.out, ← hw4] at h; rw [← ED.out]; exact h); have F4 : Hid (Fr (fun k => k = Q ∨ k = T) w w4) := hid (by rw [hw4]; exact Fr.setCell (F := fun k => k = Q ∨ k = T) (p := ⟨Q, 1, none⟩) (SX.out.fr _) (.inl (.inl rfl)) _); have Z4 : Hid (wr.heap.size = w4.heap.size) := hid (by rw [hw4, World.size_setCell]); have y0 := T5.out.f0; clear hw4)
      refine (rfree T5.out.r id HI.out).mono ?_
      rintro e w5 ⟨rfl, r5, f5⟩
      have T6 : Hid (RAAt w5 (upO O w w5) Q p A T cA cT (freeS s id) (actE.del id L)) := hid ((T5.out.slots r5 f5).mono (fun k hk => hk.imp _root_.id fun h => ⟨h.1, by have := f5.size; have := Z4.out; omega⟩) (fun k hk => hk.elim (fun h => by have := H.out.ub k h; have := F4.out.size; have := f5.size; omega) (fun h => h.2)))
      have F5 : Hid (Fr (fun k => k = Q ∨ k = T) w w5) := hid (F4.out.trans (f5.mono fun k _ hk => .inr hk))
      clear r5 f5
      go_wp2_with fail
      go_end0
      exact ⟨rfl, T6.out, F5.out⟩
end
end Go.Proofs.YtffjaaolcphonaaDoor
/- The document's activations: in, Count, New. -/
namespace Go.Proofs.YtffjaaolcphonaaDoor
open Go.RowKit Go.Maps
set_option linter.unusedSimpArgs false
def inE (L : List Ac) (k : Int) (fs : List Int) : Int := if fndO L k = true then (if fs.contains (fndA L k).s = true then 0 else 5) else 4
section
variable {w w' : World} {O : Nat → Prop} {Q p A T cA cT : Nat} {s : SS} {L : List Ac}
set_option maxRecDepth 100000 in
set_option maxHeartbeats 8000000 in
theorem xin (h : RAAt w O Q p A T cA cT s L) (id : Int) (v : Value) (fs : List Int) (hv : IRow w v fs) (hfl : fs.length ≤ 100) : Calls Tryd.prog 129 #[.pointer (some ⟨Q, 0, none⟩), .int .i64 id, v] w fun e w' => e = .returned (.tuple #[(Value.agg #[.int .i64 (fndA L id).i, .int .i64 (fndA L id).s, .int .i64 (fndA L id).sp, .int .i64 (fndA L id).co, .int .i64 (fndA L id).th, .int .i64 (fndA L id).c.p, .int .i64 (fndA L id).c.q, .int .i64 (fndA L id).c.r0, .int .i64 (fndA L id).c.r1, .int .i64 (fndA L id).c.r2, .int .i64 (fndA L id).c.r3, .int .i64 (fndA L id).c.r4, .int .i64 (fndA L id).c.r5, .int .i64 (fndA L id).c.r6, .int .i64 (fndA L id).c.r7, .int .i64 (fndA L id).c.d]), .int .i64 (inE L id fs)]) ∧ Still w w' := by
  have H := hid h
  have HV := hid hv
  obtain ⟨a, c, rfl⟩ := hv.len
  have HFL := hid hfl
  clear h hv hfl
  obtain ⟨y, hy⟩ : ∃ y, fndA L id = y := ⟨_, rfl⟩
  obtain ⟨f, hf⟩ : ∃ f, fndO L id = f := ⟨_, rfl⟩
  have FD := fun (u : World) (hu : Still w u) => xget (H.out.still hu) id
  have E4 : Hid (f = false → inE L id fs = 4) := hid (fun h => by unfold inE; rw [hf, h]; rfl)
  have E0 : Hid (f = true → fs.contains y.s = true → inE L id fs = 0) := hid (fun h h2 => by unfold inE; rw [hf, h, hy, h2]; rfl)
  have E5 : Hid (f = true → fs.contains y.s = false → inE L id fs = 5) := hid (fun h h2 => by unfold inE; rw [hf, h, hy, h2]; rfl)
  rw [hy, hf] at FD
  rw [hy]
  have FDx := hid FD
  clear FD hy hf
  go_enter Tryd.func129, Tryd.ntmps129
  go_wp2_with fail
  refine (FDx.out _ ((Fr.refl _ _).alloc _)).mono ?_
  rintro e w2 ⟨rfl, s2⟩
  have S2 := hid (((Fr.refl _ _).alloc _).trans s2)
  have B2 : Hid (Blk w2 w.heap.size [.int .i64 a0.i, .int .i64 a0.s, .int .i64 a0.sp, .int .i64 a0.co, .int .i64 a0.th, .int .i64 a0.c.p, .int .i64 a0.c.q, .int .i64 a0.c.r0, .int .i64 a0.c.r1, .int .i64 a0.c.r2, .int .i64 a0.c.r3, .int .i64 a0.c.r4, .int .i64 a0.c.r5, .int .i64 a0.c.r6, .int .i64 a0.c.r7, .int .i64 a0.c.d] 120) := hid ((new_ra w).still s2)
  clear s2
  cases f with
  | false =>
    have EE := hid (E4.out rfl)
    go_wp2_with (first
      | (refine wpList_storeW rfl (.tmp 8) (.tmp 16) 120 rfl _ 120 [.int .i64 a0.i, .int .i64 a0.s, .int .i64 a0.sp, .int .i64 a0.co, .int .i64 a0.th, .int .i64 a0.c.p, .int .i64 a0.c.q, .int .i64 a0.c.r0, .int .i64 a0.c.r1, .int .i64 a0.c.r2, .int .i64 a0.c.r3, .int .i64 a0.c.r4, .int .i64 a0.c.r5, .int .i64 a0.c.r6, .int .i64 a0.c.r7, .int .i64 a0.c.d] [.int .i64 y.i, .int .i64 y.s, .int .i64 y.sp, .int .i64 y.co, .int .i64 y.th, .int .i64 y.c.p, .int .i64 y.c.q, .int .i64 y.c.r0, .int .i64 y.c.r1, .int .i64 y.c.r2, .int .i64 y.c.r3, .int .i64 y.c.r4, .int .i64 y.c.r5, .int .i64 y.c.r6, .int .i64 y.c.r7, .int .i64 y.c.d] I120 (onesA y) rfl rfl (new_ra _) rfl ?_; intro w3 b3 f3; have B3 := hid b3; have F3 := hid f3; clear b3 f3)
      | (refine wpList_loadW rfl (.tmp 8) 120 rfl _ Tryd.underlying120 rfl _ 120 [.int .i64 y.i, .int .i64 y.s, .int .i64 y.sp, .int .i64 y.co, .int .i64 y.th, .int .i64 y.c.p, .int .i64 y.c.q, .int .i64 y.c.r0, .int .i64 y.c.r1, .int .i64 y.c.r2, .int .i64 y.c.r3, .int .i64 y.c.r4, .int .i64 y.c.r5, .int .i64 y.c.r6, .int .i64 y.c.r7, .int .i64 y.c.d] I120 rfl B3.out ?_)
      | (refine wpList_storeW rfl (.tmp 6) (.tmp 20) 120 rfl _ 120 [.int .i64 a0.i, .int .i64 a0.s, .int .i64 a0.sp, .int .i64 a0.co, .int .i64 a0.th, .int .i64 a0.c.p, .int .i64 a0.c.q, .int .i64 a0.c.r0, .int .i64 a0.c.r1, .int .i64 a0.c.r2, .int .i64 a0.c.r3, .int .i64 a0.c.r4, .int .i64 a0.c.r5, .int .i64 a0.c.r6, .int .i64 a0.c.r7, .int .i64 a0.c.d] [.int .i64 y.i, .int .i64 y.s, .int .i64 y.sp, .int .i64 y.co, .int .i64 y.th, .int .i64 y.c.p, .int .i64 y.c.q, .int .i64 y.c.r0, .int .i64 y.c.r1, .int .i64 y.c.r2, .int .i64 y.c.r3, .int .i64 y.c.r4, .int .i64 y.c.r5, .int .i64 y.c.r6, .int .i64 y.c.r7, .int .i64 y.c.d] I120 (onesA y) rfl rfl ((B2.out.alloc _).fr F3.out (by have := B2.out.lt; omega)) rfl ?_; intro w4 b4 f4; have B4 := hid b4; have F4 := hid f4; clear b4 f4))
    have S4 : Hid (Still w w4) := hid (Still.next (Still.next (S2.out.trans ((Fr.refl _ _).alloc _)) F3.out (fun k hk => by rw [hk]; exact S2.out.size)) F4.out (fun k hk => by rw [hk]; exact Nat.le_refl _))
    rw [EE.out]
    (try simp only [Exit.inBlock, Exit.then]); refine bodyPost_ret (results_cell2 rfl _ _ w.heap.size 120 [.int .i64 y.i, .int .i64 y.s, .int .i64 y.sp, .int .i64 y.co, .int .i64 y.th, .int .i64 y.c.p, .int .i64 y.c.q, .int .i64 y.c.r0, .int .i64 y.c.r1, .int .i64 y.c.r2, .int .i64 y.c.r3, .int .i64 y.c.r4, .int .i64 y.c.r5, .int .i64 y.c.r6, .int .i64 y.c.r7, .int .i64 y.c.d] _ _ rfl rfl B4.out Tryd.underlying120 rfl I120) rfl ?_
    exact ⟨rfl, S4.out⟩
  | true =>
    have N2 : True := trivial
    go_wp2_with (clear N2; refine wpList_storeW rfl (.tmp 8) (.tmp 16) 120 rfl _ 120 [.int .i64 a0.i, .int .i64 a0.s, .int .i64 a0.sp, .int .i64 a0.co, .int .i64 a0.th, .int .i64 a0.c.p, .int .i64 a0.c.q, .int .i64 a0.c.r0, .int .i64 a0.c.r1, .int .i64 a0.c.r2, .int .i64 a0.c.r3, .int .i64 a0.c.r4, .int .i64 a0.c.r5, .int .i64 a0.c.r6, .int .i64 a0.c.r7, .int .i64 a0.c.d] [.int .i64 y.i, .int .i64 y.s, .int .i64 y.sp, .int .i64 y.co, .int .i64 y.th, .int .i64 y.c.p, .int .i64 y.c.q, .int .i64 y.c.r0, .int .i64 y.c.r1, .int .i64 y.c.r2, .int .i64 y.c.r3, .int .i64 y.c.r4, .int .i64 y.c.r5, .int .i64 y.c.r6, .int .i64 y.c.r7, .int .i64 y.c.d] I120 (onesA y) rfl rfl (new_ra _) rfl ?_; intro w3 b3 f3; have B3 := hid b3; have C3 := hid ((B2.out.alloc (.cells (#[.int .i64 0, .int .i64 0, .int .i64 0, .int .i64 0, .int .i64 0, .int .i64 0, .int .i64 0, .int .i64 0, .int .i64 0, .int .i64 0, .int .i64 0, .int .i64 0, .int .i64 0, .int .i64 0, .int .i64 0, .int .i64 0]) 120)).fr f3 (by have := B2.out.lt; omega)); have S3 : Hid (Still w w3) := hid (Still.next (S2.out.trans ((Fr.refl _ _).alloc _)) f3 (fun k hk => by rw [hk]; exact S2.out.size)); clear b3 f3)
    go_loopw [11, 23] (fun s11 s23 wr => ∃ j : Nat, s23 = .int .i64 j ∧ j ≤ fs.length ∧ Hid (∀ i (hi : i < fs.length), i < j → fs.getD i 0 ≠ y.s) ∧ Hid (Still w3 wr)) (fun _ s23 _ => fs.length - (intOf s23).toNat)
    case atStart => exact ⟨0, rfl, Nat.zero_le _, hid (fun i hi h0 => by omega), hid (Fr.refl _ _)⟩
    case round =>
      obtain ⟨j, rfl, hj, NO, SX⟩ := hrel
      have hbb := HFL.out
      by_cases hlt : j < fs.length
      · have hlt' : (j : Int) < (fs.length : Int) := by omega
        obtain ⟨b, off, c2, ev, hc⟩ := HV.out.at hlt
        obtain ⟨rfl, rfl⟩ : a = some ⟨b, off, none⟩ ∧ c = c2 := by injection ev with e1 _ e3; exact ⟨e1, e3⟩
        obtain ⟨x, hx⟩ : ∃ x, fs.getD j 0 = x := ⟨_, rfl⟩
        rw [hx] at hc
        have HX := hid hx
        have cx := Still.cell (S3.out.trans SX.out) hc
        have d1 : wr.cell? ⟨w2.heap.size, 1, none⟩ = some (.int .i64 y.s) := (B3.out.still SX.out).cell 1
        have BX := hid (B3.out.still SX.out)
        have CX := hid (C3.out.still SX.out)
        clear hx hc ev
        by_cases he : y.s = x
        · have e1 : (y.s == x) = true := by simp [he]
          have EE := hid (E0.out trivial (by
            rw [List.contains_iff_mem, he, ← HX.out]
            simp only [List.getD_eq_getElem?_getD, List.getElem?_eq_getElem hlt, Option.getD_some]
            exact List.getElem_mem hlt))
          clear he
          go_wp2_with (first
            | (refine wpList_loadW rfl (.tmp 8) 120 rfl _ Tryd.underlying120 rfl _ 120 [.int .i64 y.i, .int .i64 y.s, .int .i64 y.sp, .int .i64 y.co, .int .i64 y.th, .int .i64 y.c.p, .int .i64 y.c.q, .int .i64 y.c.r0, .int .i64 y.c.r1, .int .i64 y.c.r2, .int .i64 y.c.r3, .int .i64 y.c.r4, .int .i64 y.c.r5, .int .i64 y.c.r6, .int .i64 y.c.r7, .int .i64 y.c.d] I120 rfl BX.out ?_)
            | (refine wpList_storeW rfl (.tmp 6) (.tmp 31) 120 rfl _ 120 [.int .i64 a0.i, .int .i64 a0.s, .int .i64 a0.sp, .int .i64 a0.co, .int .i64 a0.th, .int .i64 a0.c.p, .int .i64 a0.c.q, .int .i64 a0.c.r0, .int .i64 a0.c.r1, .int .i64 a0.c.r2, .int .i64 a0.c.r3, .int .i64 a0.c.r4, .int .i64 a0.c.r5, .int .i64 a0.c.r6, .int .i64 a0.c.r7, .int .i64 a0.c.d] [.int .i64 y.i, .int .i64 y.s, .int .i64 y.sp, .int .i64 y.co, .int .i64 y.th, .int .i64 y.c.p, .int .i64 y.c.q, .int .i64 y.c.r0, .int .i64 y.c.r1, .int .i64 y.c.r2, .int .i64 y.c.r3, .int .i64 y.c.r4, .int .i64 y.c.r5, .int .i64 y.c.r6, .int .i64 y.c.r7, .int .i64 y.c.d] I120 (onesA y) rfl rfl CX.out rfl ?_; intro w4 b4 f4; have B4 := hid b4; have F4 := hid f4; clear b4 f4))
          have S4 : Hid (Still w w4) := hid (Still.next (S3.out.trans SX.out) F4.out (fun k hk => by rw [hk]; exact Nat.le_refl _))
          rw [EE.out]
          (try simp only [Exit.inBlock, Exit.then]); refine bodyPost_ret (results_cell2 rfl _ _ w.heap.size 120 [.int .i64 y.i, .int .i64 y.s, .int .i64 y.sp, .int .i64 y.co, .int .i64 y.th, .int .i64 y.c.p, .int .i64 y.c.q, .int .i64 y.c.r0, .int .i64 y.c.r1, .int .i64 y.c.r2, .int .i64 y.c.r3, .int .i64 y.c.r4, .int .i64 y.c.r5, .int .i64 y.c.r6, .int .i64 y.c.r7, .int .i64 y.c.d] _ _ rfl rfl B4.out Tryd.underlying120 rfl I120) rfl ?_
          exact ⟨rfl, S4.out⟩
        · have e1 : (y.s == x) = false := by simp [he]
          have HN := hid he
          clear he
          go_wp2_with fail
          go_roundw
          case rel => exact ⟨j + 1, by go_num, by omega, hid (fun i hi h1 => by
            by_cases e : i = j
            · subst e; rw [HX.out]; exact fun h => HN.out h.symm
            · exact NO.out i hi (by omega)), SX⟩
          case measure => simp [intOf]; omega
      · have hlt' : ¬ (j : Int) < (fs.length : Int) := by omega
        have EE := hid (E5.out trivial (by
          rw [← Bool.not_eq_true, List.contains_iff_mem]
          intro hm
          obtain ⟨i, hi, e⟩ := List.getElem_of_mem hm
          have := NO.out i hi (by omega)
          simp only [List.getD_eq_getElem?_getD, List.getElem?_eq_getElem hi, Option.getD_some] at this
          exact this e))
        have BX := hid (B3.out.still SX.out)
        have CX := hid (C3.out.still SX.out)
        go_wp2_with (first
          | (refine wpList_loadW rfl (.tmp 8) 120 rfl _ Tryd.underlying120 rfl _ 120 [.int .i64 y.i, .int .i64 y.s, .int .i64 y.sp, .int .i64 y.co, .int .i64 y.th, .int .i64 y.c.p, .int .i64 y.c.q, .int .i64 y.c.r0, .int .i64 y.c.r1, .int .i64 y.c.r2, .int .i64 y.c.r3, .int .i64 y.c.r4, .int .i64 y.c.r5, .int .i64 y.c.r6, .int .i64 y.c.r7, .int .i64 y.c.d] I120 rfl BX.out ?_)
          | (refine wpList_storeW rfl (.tmp 6) (.tmp 33) 120 rfl _ 120 [.int .i64 a0.i, .int .i64 a0.s, .int .i64 a0.sp, .int .i64 a0.co, .int .i64 a0.th, .int .i64 a0.c.p, .int .i64 a0.c.q, .int .i64 a0.c.r0, .int .i64 a0.c.r1, .int .i64 a0.c.r2, .int .i64 a0.c.r3, .int .i64 a0.c.r4, .int .i64 a0.c.r5, .int .i64 a0.c.r6, .int .i64 a0.c.r7, .int .i64 a0.c.d] [.int .i64 y.i, .int .i64 y.s, .int .i64 y.sp, .int .i64 y.co, .int .i64 y.th, .int .i64 y.c.p, .int .i64 y.c.q, .int .i64 y.c.r0, .int .i64 y.c.r1, .int .i64 y.c.r2, .int .i64 y.c.r3, .int .i64 y.c.r4, .int .i64 y.c.r5, .int .i64 y.c.r6, .int .i64 y.c.r7, .int .i64 y.c.d] I120 (onesA y) rfl rfl CX.out rfl ?_; intro w4 b4 f4; have B4 := hid b4; have F4 := hid f4; clear b4 f4))
        have S4 : Hid (Still w w4) := hid (Still.next (S3.out.trans SX.out) F4.out (fun k hk => by rw [hk]; exact Nat.le_refl _))
        rw [EE.out]
        (try simp only [Exit.inBlock, Exit.then]); refine bodyPost_ret (results_cell2 rfl _ _ w.heap.size 120 [.int .i64 y.i, .int .i64 y.s, .int .i64 y.sp, .int .i64 y.co, .int .i64 y.th, .int .i64 y.c.p, .int .i64 y.c.q, .int .i64 y.c.r0, .int .i64 y.c.r1, .int .i64 y.c.r2, .int .i64 y.c.r3, .int .i64 y.c.r4, .int .i64 y.c.r5, .int .i64 y.c.r6, .int .i64 y.c.r7, .int .i64 y.c.d] _ _ rfl rfl B4.out Tryd.underlying120 rfl I120) rfl ?_
        exact ⟨rfl, S4.out⟩
theorem cntA_next {sp st : Int} {j : Nat} {x : Ac} (hj : j < L.length) (hx : L[j] = x) : cntA (L.take (j + 1)) sp st = cntA (L.take j) sp st + if (x.sp == sp && x.s == st) = true then 1 else 0 := by
  unfold cntA
  rw [take_next hj hx, List.countP_append]
  simp [List.countP_cons]
set_option maxRecDepth 100000 in
set_option maxHeartbeats 8000000 in
theorem xcount (h : RAAt w O Q p A T cA cT s L) (sp st : Int) : Calls Tryd.prog 77 #[.pointer (some ⟨Q, 0, none⟩), .int .i64 sp, .int .i64 st] w fun e w' => e = .returned (.int .i64 (cntA L sp st)) ∧ Still w w' := by
  have H := hid h
  obtain ⟨v, v1, v2, _⟩ := h.ex
  have R := hid (SRow.own (S := S114) v2 rfl)
  obtain ⟨a, c, rfl⟩ := own_shape v2 _ rfl
  have hb := h.len
  clear h v2
  go_enter Tryd.func77, Tryd.ntmps77
  go_wp2_with fail
  go_loopw [7, 9, 15] (fun s7 s9 s15 wr => ∃ j : Nat, s15 = .int .i64 j ∧ j ≤ L.length ∧ s7 = .int .i64 (cntA (L.take j) sp st) ∧ Hid (Still w wr)) (fun _ _ s15 _ => L.length - (intOf s15).toNat)
  case atStart => exact ⟨0, rfl, Nat.zero_le _, rfl, hid (Fr.refl _ _)⟩
  case round =>
    obtain ⟨j, rfl, hj, rfl, SX⟩ := hrel
    have CL : Hid (cntA (L.take j) sp st ≤ 100000) := hid (by have h1 : cntA (L.take j) sp st ≤ (L.take j).length := List.countP_le_length; have h2 : (L.take j).length ≤ L.length := by simp; omega
                                                              omega)
    by_cases hlt : j < L.length
    · have hlt' : (j : Int) < (L.length : Int) := by omega
      obtain ⟨b, off, c2, ev, hc⟩ := (R.out.still SX.out).at hlt
      obtain ⟨rfl, rfl⟩ : a = some ⟨b, off, none⟩ ∧ c = c2 := by injection ev with e1 _ e3; exact ⟨e1, e3⟩
      obtain ⟨x, hx⟩ : ∃ x, L[j] = x := ⟨_, rfl⟩
      rw [hx] at hc
      have CN := hid (cntA_next (sp := sp) (st := st) hlt hx)
      have HC : Hid (wr.rangeAt b (off + j * 16) [.int .i64 x.i, .int .i64 x.s, .int .i64 x.sp, .int .i64 x.co, .int .i64 x.th, .int .i64 x.c.p, .int .i64 x.c.q, .int .i64 x.c.r0, .int .i64 x.c.r1, .int .i64 x.c.r2, .int .i64 x.c.r3, .int .i64 x.c.r4, .int .i64 x.c.r5, .int .i64 x.c.r6, .int .i64 x.c.r7, .int .i64 x.c.d]) := hid hc
      clear hx hc ev
      obtain ⟨n, hn⟩ : ∃ n, cntA (L.take j) sp st = n := ⟨_, rfl⟩
      rw [hn] at CL CN
      rw [hn]
      clear hn
      by_cases h1 : x.sp = sp
      · have e0 : (x.sp == sp) = true := by simp [h1]
        by_cases h2 : x.s = st
        · have e1 : (x.s == st) = true := by simp [h2]
          have CM : Hid (cntA (L.take (j + 1)) sp st = n + 1) := hid (by rw [CN.out, e0, e1]; rfl)
          clear h1 h2
          have N2 : True := trivial
          go_wp2_with (first
            | (refine wpList_loadRA rfl (.tmp 17) rfl b (off + j * 16) x rfl HC.out ?_)
            | (clear N2; refine wpList_storeW rfl (.tmp 9) (.tmp 18) 120 rfl _ 120 [.int .i64 a0.i, .int .i64 a0.s, .int .i64 a0.sp, .int .i64 a0.co, .int .i64 a0.th, .int .i64 a0.c.p, .int .i64 a0.c.q, .int .i64 a0.c.r0, .int .i64 a0.c.r1, .int .i64 a0.c.r2, .int .i64 a0.c.r3, .int .i64 a0.c.r4, .int .i64 a0.c.r5, .int .i64 a0.c.r6, .int .i64 a0.c.r7, .int .i64 a0.c.d] [.int .i64 x.i, .int .i64 x.s, .int .i64 x.sp, .int .i64 x.co, .int .i64 x.th, .int .i64 x.c.p, .int .i64 x.c.q, .int .i64 x.c.r0, .int .i64 x.c.r1, .int .i64 x.c.r2, .int .i64 x.c.r3, .int .i64 x.c.r4, .int .i64 x.c.r5, .int .i64 x.c.r6, .int .i64 x.c.r7, .int .i64 x.c.d] I120 (onesA x) rfl rfl (new_ra _) rfl ?_; intro w3 b3 f3; have d1 : w3.cell? ⟨wr.heap.size, 1, none⟩ = some (.int .i64 x.s) := b3.cell 1; have d2 : w3.cell? ⟨wr.heap.size, 2, none⟩ = some (.int .i64 x.sp) := b3.cell 2; have S3 : Hid (Still w w3) := hid (Still.next (SX.out.alloc _) f3 (fun k hk => by rw [hk]; exact SX.out.size)); clear b3 f3))
          go_roundw
          case rel => exact ⟨j + 1, by go_num, by omega, by have c2 := CL.out; have hw : wrap64 ((n : Int) + 1) = ((n + 1 : Nat) : Int) := by { unfold wrap64; omega }; rw [CM.out, hw], S3⟩
          case measure => simp [intOf]; omega
        · have e1 : (x.s == st) = false := by simp [h2]
          have CM : Hid (cntA (L.take (j + 1)) sp st = n) := hid (by rw [CN.out, e0, e1]; rfl)
          clear h1 h2
          have N2 : True := trivial
          go_wp2_with (first
            | (refine wpList_loadRA rfl (.tmp 17) rfl b (off + j * 16) x rfl HC.out ?_)
            | (clear N2; refine wpList_storeW rfl (.tmp 9) (.tmp 18) 120 rfl _ 120 [.int .i64 a0.i, .int .i64 a0.s, .int .i64 a0.sp, .int .i64 a0.co, .int .i64 a0.th, .int .i64 a0.c.p, .int .i64 a0.c.q, .int .i64 a0.c.r0, .int .i64 a0.c.r1, .int .i64 a0.c.r2, .int .i64 a0.c.r3, .int .i64 a0.c.r4, .int .i64 a0.c.r5, .int .i64 a0.c.r6, .int .i64 a0.c.r7, .int .i64 a0.c.d] [.int .i64 x.i, .int .i64 x.s, .int .i64 x.sp, .int .i64 x.co, .int .i64 x.th, .int .i64 x.c.p, .int .i64 x.c.q, .int .i64 x.c.r0, .int .i64 x.c.r1, .int .i64 x.c.r2, .int .i64 x.c.r3, .int .i64 x.c.r4, .int .i64 x.c.r5, .int .i64 x.c.r6, .int .i64 x.c.r7, .int .i64 x.c.d] I120 (onesA x) rfl rfl (new_ra _) rfl ?_; intro w3 b3 f3; have d1 : w3.cell? ⟨wr.heap.size, 1, none⟩ = some (.int .i64 x.s) := b3.cell 1; have d2 : w3.cell? ⟨wr.heap.size, 2, none⟩ = some (.int .i64 x.sp) := b3.cell 2; have S3 : Hid (Still w w3) := hid (Still.next (SX.out.alloc _) f3 (fun k hk => by rw [hk]; exact SX.out.size)); clear b3 f3))
          go_roundw
          case rel => exact ⟨j + 1, by go_num, by omega, by rw [CM.out], S3⟩
          case measure => simp [intOf]; omega
      · have e0 : (x.sp == sp) = false := by simp [h1]
        have CM : Hid (cntA (L.take (j + 1)) sp st = n) := hid (by rw [CN.out, e0]; rfl)
        clear h1
        have N2 : True := trivial
        go_wp2_with (first
          | (refine wpList_loadRA rfl (.tmp 17) rfl b (off + j * 16) x rfl HC.out ?_)
          | (clear N2; refine wpList_storeW rfl (.tmp 9) (.tmp 18) 120 rfl _ 120 [.int .i64 a0.i, .int .i64 a0.s, .int .i64 a0.sp, .int .i64 a0.co, .int .i64 a0.th, .int .i64 a0.c.p, .int .i64 a0.c.q, .int .i64 a0.c.r0, .int .i64 a0.c.r1, .int .i64 a0.c.r2, .int .i64 a0.c.r3, .int .i64 a0.c.r4, .int .i64 a0.c.r5, .int .i64 a0.c.r6, .int .i64 a0.c.r7, .int .i64 a0.c.d] [.int .i64 x.i, .int .i64 x.s, .int .i64 x.sp, .int .i64 x.co, .int .i64 x.th, .int .i64 x.c.p, .int .i64 x.c.q, .int .i64 x.c.r0, .int .i64 x.c.r1, .int .i64 x.c.r2, .int .i64 x.c.r3, .int .i64 x.c.r4, .int .i64 x.c.r5, .int .i64 x.c.r6, .int .i64 x.c.r7, .int .i64 x.c.d] I120 (onesA x) rfl rfl (new_ra _) rfl ?_; intro w3 b3 f3; have d2 : w3.cell? ⟨wr.heap.size, 2, none⟩ = some (.int .i64 x.sp) := b3.cell 2; have S3 : Hid (Still w w3) := hid (Still.next (SX.out.alloc _) f3 (fun k hk => by rw [hk]; exact SX.out.size)); clear b3 f3))
        go_roundw
        case rel => exact ⟨j + 1, by go_num, by omega, by rw [CM.out], S3⟩
        case measure => simp [intOf]; omega
    · have hlt' : ¬ (j : Int) < (L.length : Int) := by omega
      have e : cntA (L.take j) sp st = cntA L sp st := by rw [show j = L.length by omega, List.take_length]
      have HE := hid e
      clear e
      go_wp2_with fail
      go_ret
      exact ⟨by rw [← HE.out]; rfl, SX.out⟩
end
theorem xnew_no (w : World) (x : Int) (hx : x < 1 ∨ 4096 < x) : Calls Tryd.prog 72 #[.int .i64 x] w fun e w' => e = .returned (.pointer none) ∧ w = w' := by
  have HN := hid (rnew_no w x hx)
  go_enter Tryd.func72, Tryd.ntmps72
  go_wp2_with (go_at_call 26; refine HN.out.mono ?_; rintro e w' ⟨rfl, rfl⟩)
  go_ret
  exact ⟨rfl, rfl⟩
theorem anew_no (w : World) (x : Int) (hx : x < 1 ∨ 4096 < x) : Calls Tryd.prog 62 #[.int .i64 x] w fun e w' => e = .returned (.pointer none) ∧ w = w' := by
  have HN := hid (snew_no w x hx)
  go_enter Tryd.func62, Tryd.ntmps62
  go_wp2_with (go_at_call 25; refine HN.out.mono ?_; rintro e w' ⟨rfl, rfl⟩)
  go_ret
  exact ⟨rfl, rfl⟩
set_option maxRecDepth 100000 in
set_option maxHeartbeats 4000000 in
theorem xnew (w : World) (x : Nat) (x0 : 1 ≤ x) (x1 : x ≤ 4096) : Calls Tryd.prog 72 #[.int .i64 (x : Int)] w fun e w' => ∃ Q p A T cA cT, e = .returned (.pointer (some ⟨Q, 0, none⟩)) ∧ RAAt w' (fun k => w.heap.size ≤ k ∧ k < w'.heap.size) Q p A T cA cT (zeroS x x) [] ∧ Still w w' := by
  have HN := hid (rnew w x x0 x1)
  go_enter Tryd.func72, Tryd.ntmps72
  go_wp2_with fail
  refine HN.out.mono ?_
  rintro e w1 ⟨p, A, T, cA, cT, rfl, hR, hs, p0, A0, T0⟩
  have R1 := hid hR
  have S1 := hid hs
  have l1 := hR.hp.lt
  have l2 := hR.hA.lt
  have l3 := hR.hT.lt
  clear hR hs HN
  go_wp2_with fail
  go_ret
  have S1s := S1.out.size
  have hB := Blk.new w1 [.pointer (some ⟨p, 0, none⟩), .slice none 0 0] 117
  have zz : (w1.alloc (.cells #[.pointer (some ⟨p, 0, none⟩), .slice none 0 0] 117)).heap.size = w1.heap.size + 1 := by simp
  refine ⟨w1.heap.size, p, A, T, cA, cT, rfl, ⟨hB.cell 0, ⟨_, hB.cell 1, owns_nilS (S := S114) _ _, fun b hb => by cases hb⟩, hB.frozen 1, R1.out.still ((Fr.refl _ _).alloc _), by omega, by omega, by omega, ⟨S1s, by omega⟩, ⟨p0, by omega⟩, ⟨A0, by omega⟩, ⟨T0, by omega⟩, fun k hk => hk.2, List.Pairwise.nil, by simp⟩, S1.out.alloc _⟩
end Go.Proofs.YtffjaaolcphonaaDoor
/- The document's activations: its changes. -/
namespace Go.Proofs.YtffjaaolcphonaaDoor
open Go.RowKit Go.Maps
set_option linter.unusedSimpArgs false
theorem in_is {fr : Int} {fs : List Int} (hd : ∀ st : Int, 1 ≤ st → st ≤ 5 → turnN fr st = !fs.contains st) {L : List Ac} (hs : ∀ x ∈ L, 1 ≤ x.s ∧ x.s ≤ 5) (k : Int) : inE L k fs = tE L k fr 0 := by
  unfold inE tE
  by_cases h : fndO L k = true
  · have h1 := hs _ (fndA_some h).2
    rw [if_pos h, if_pos h, hd _ h1.1 h1.2]
    cases fs.contains (fndA L k).s <;> rfl
  · rw [if_neg h, if_neg h]
theorem in_cases (L : List Ac) (k : Int) (fs : List Int) : inE L k fs = 0 ∨ inE L k fs = 4 ∨ inE L k fs = 5 := by
  unfold inE; split
  · split <;> simp
  · simp
theorem t_bad {L : List Ac} {k fr st ce e : Int} {cz : Ac} (h : tE L k fr 0 = e) (h0 : e ≠ 0) : tE L k fr ce = e ∧ tL L k fr st ce cz = L := by
  have e1 : tE L k fr ce = e := by
    rw [← h]; unfold tE at h ⊢
    by_cases h1 : fndO L k = true
    · rw [if_pos h1] at h ⊢
      rw [if_pos h1]
      by_cases h2 : turnN fr (fndA L k).s = true
      · rw [if_pos h2, if_pos h2]
      · rw [if_neg h2] at h; exact absurd h.symm h0
    · rw [if_neg h1, if_neg h1]
  exact ⟨e1, by unfold tL; rw [if_neg (by rw [e1]; exact h0)]⟩
theorem t_good {L : List Ac} {k fr ce : Int} (h : tE L k fr 0 = 0) : fndO L k = true ∧ tE L k fr ce = ce := by
  unfold tE at h ⊢
  by_cases h1 : fndO L k = true
  · rw [if_pos h1] at h ⊢
    by_cases h2 : turnN fr (fndA L k).s = true
    · rw [if_pos h2] at h; exact absurd h (by decide)
    · rw [if_neg h2]; exact ⟨h1, rfl⟩
  · rw [if_neg h1] at h; exact absurd h (by decide)
theorem t_do {L : List Ac} {k fr st ce : Int} {cz : Ac} (h : tE L k fr ce = 0) : tL L k fr st ce cz = actE.ins { cz with s := st } L := by unfold tL; rw [if_pos h]
theorem t_not {L : List Ac} {k fr st ce : Int} {cz : Ac} (h : tE L k fr ce ≠ 0) : tL L k fr st ce cz = L := by unfold tL; rw [if_neg h]
theorem dd (P : Int → Bool) (h : P 1 = true ∧ P 2 = true ∧ P 3 = true ∧ P 4 = true ∧ P 5 = true) : ∀ st : Int, 1 ≤ st → st ≤ 5 → P st = true := by
  intro st h1 h2
  rcases (show st = 1 ∨ st = 2 ∨ st = 3 ∨ st = 4 ∨ st = 5 by omega) with rfl | rfl | rfl | rfl | rfl
  · exact h.1
  · exact h.2.1
  · exact h.2.2.1
  · exact h.2.2.2.1
  · exact h.2.2.2.2
theorem dd2 (fr : Int) (fs : List Int) (h : ([1, 2, 3, 4, 5] : List Int).all (fun st => turnN fr st == !fs.contains st) = true) : ∀ st : Int, 1 ≤ st → st ≤ 5 → turnN fr st = !fs.contains st := by
  simp only [List.all_cons, List.all_nil, Bool.and_true, Bool.and_eq_true, beq_iff_eq] at h
  intro st h1 h2
  rcases (show st = 1 ∨ st = 2 ∨ st = 3 ∨ st = 4 ∨ st = 5 by omega) with rfl | rfl | rfl | rfl | rfl
  · exact h.1
  · exact h.2.1
  · exact h.2.2.1
  · exact h.2.2.2.1
  · exact h.2.2.2.2
section
variable {w w' : World} {O : Nat → Prop} {Q p A T cA cT : Nat} {s s' : SS} {L L' : List Ac}
theorem RAAt.back {w4 w5 : World} (H : RAAt w O Q p A T cA cT s L) (hs : w.heap.size ≤ w4.heap.size) (h5 : RAAt w5 (upO O w4 w5) Q p A T cA cT s' L') (hz : w4.heap.size ≤ w5.heap.size) : RAAt w5 (upO O w w5) Q p A T cA cT s' L' :=
  h5.mono (fun k hk => hk.imp _root_.id fun h => ⟨Nat.le_trans hs h.1, h.2⟩) (fun k hk => hk.elim (fun h => by have := H.ub k h; omega) (fun h => h.2))
set_option maxRecDepth 100000 in
set_option maxHeartbeats 8000000 in
theorem xblock (h : RAAt w O Q p A T cA cT s L) (hl : L.length ≤ 1000) (hs : ∀ x ∈ L, 1 ≤ x.s ∧ x.s ≤ 5) (id : Int) : Calls Tryd.prog 115 #[.pointer (some ⟨Q, 0, none⟩), .int .i64 id] w fun e w' =>
    e = .returned (.int .i64 (tE L id 4 (blkC L id))) ∧ RAAt w' (upO O w w') Q p A T cA cT s (tL L id 4 3 (blkC L id) { fndA L id with co := -1 }) ∧ Fr O w w' := by
  have H := hid h
  have HL := hid hl
  have HX := hid (fun (u : World) (hu : Still w u) (b : Nat) (hb : Blk u b [.int .i64 2] 3) => xin (h.still hu) id (.slice (some ⟨b, 0, none⟩) 1 1) [2] (IRow.of_blk (xs := [2]) hb (by decide)) (by decide))
  have EI := in_is (dd2 4 [2] (by decide)) hs id
  have EC := in_cases L id [2]
  clear h hl hs
  obtain ⟨y, hy⟩ : ∃ y, fndA L id = y := ⟨_, rfl⟩
  obtain ⟨ei, hei⟩ : ∃ ei, inE L id [2] = ei := ⟨_, rfl⟩
  rw [hei] at EC EI
  rw [hy, hei] at HX
  have HY := hid hy
  have HEI := hid EI.symm
  clear hei EI hy
  go_enter Tryd.func115, Tryd.ntmps115
  go_wp2_with fail
  refine (HX.out _ ((Fr.refl _ _).alloc _) _ (Blk.new w [.int .i64 2] 3)).mono ?_
  rintro e w2 ⟨rfl, s2⟩
  have S2 : Hid (Still w w2) := hid (((Fr.refl _ _).alloc _).trans s2)
  clear s2
  have N2 : True := trivial
  rcases EC with rfl | rfl | rfl
  · by_cases hth : y.th = 0
    · have e0 : (y.th == 0) = true := by simp [hth]
      have EE : Hid (tE L id 4 (blkC L id) = 5 ∧ tL L id 4 3 (blkC L id) { fndA L id with co := -1 } = L) := hid (by
        have e1 : blkC L id = 5 := by unfold blkC; rw [HY.out, if_pos hth]
        have e2 := (t_good (ce := blkC L id) HEI.out).2
        rw [e1] at e2 ⊢
        exact ⟨e2, t_not (by rw [e2]; decide)⟩)
      clear hth
      go_wp2_with (clear N2; refine wpList_storeW rfl (.tmp 5) (.tmp 12) 120 rfl _ 120 [.int .i64 a0.i, .int .i64 a0.s, .int .i64 a0.sp, .int .i64 a0.co, .int .i64 a0.th, .int .i64 a0.c.p, .int .i64 a0.c.q, .int .i64 a0.c.r0, .int .i64 a0.c.r1, .int .i64 a0.c.r2, .int .i64 a0.c.r3, .int .i64 a0.c.r4, .int .i64 a0.c.r5, .int .i64 a0.c.r6, .int .i64 a0.c.r7, .int .i64 a0.c.d] [.int .i64 y.i, .int .i64 y.s, .int .i64 y.sp, .int .i64 y.co, .int .i64 y.th, .int .i64 y.c.p, .int .i64 y.c.q, .int .i64 y.c.r0, .int .i64 y.c.r1, .int .i64 y.c.r2, .int .i64 y.c.r3, .int .i64 y.c.r4, .int .i64 y.c.r5, .int .i64 y.c.r6, .int .i64 y.c.r7, .int .i64 y.c.d] I120 (onesA y) rfl rfl (new_ra _) rfl ?_; intro w3 b3 f3; have B3 := hid b3; have S3 : Hid (Still w w3) := hid (Still.next (S2.out.trans ((Fr.refl _ _).alloc _)) f3 (fun k hk => by rw [hk]; exact S2.out.size)); have d4 : w3.cell? ⟨w2.heap.size, 4, none⟩ = some (.int .i64 y.th) := b3.cell 4; clear b3 f3)
      go_ret
      exact ⟨by rw [EE.out.1]; rfl, by rw [EE.out.2]; exact (H.out.still S3.out).up0, S3.out.fr _⟩
    · have e0 : (y.th == 0) = false := by simp [hth]
      obtain ⟨z, hz⟩ : ∃ z : Ac, { fndA L id with co := -1, s := 3 } = z := ⟨_, rfl⟩
      have HZ := hid hz
      have EE : Hid (tE L id 4 (blkC L id) = 0 ∧ tL L id 4 3 (blkC L id) { fndA L id with co := -1 } = actE.ins { fndA L id with co := -1, s := 3 } L) := hid (by
        have e1 : blkC L id = 0 := by unfold blkC; rw [HY.out, if_neg hth]
        have e2 := (t_good (ce := blkC L id) HEI.out).2
        rw [e1] at e2 ⊢
        exact ⟨e2, t_do e2⟩)
      clear hth hz
      go_wp2_with (first
        | (clear N2; refine wpList_storeW rfl (.tmp 5) (.tmp 12) 120 rfl _ 120 [.int .i64 a0.i, .int .i64 a0.s, .int .i64 a0.sp, .int .i64 a0.co, .int .i64 a0.th, .int .i64 a0.c.p, .int .i64 a0.c.q, .int .i64 a0.c.r0, .int .i64 a0.c.r1, .int .i64 a0.c.r2, .int .i64 a0.c.r3, .int .i64 a0.c.r4, .int .i64 a0.c.r5, .int .i64 a0.c.r6, .int .i64 a0.c.r7, .int .i64 a0.c.d] [.int .i64 y.i, .int .i64 y.s, .int .i64 y.sp, .int .i64 y.co, .int .i64 y.th, .int .i64 y.c.p, .int .i64 y.c.q, .int .i64 y.c.r0, .int .i64 y.c.r1, .int .i64 y.c.r2, .int .i64 y.c.r3, .int .i64 y.c.r4, .int .i64 y.c.r5, .int .i64 y.c.r6, .int .i64 y.c.r7, .int .i64 y.c.d] I120 (onesA y) rfl rfl (new_ra _) rfl ?_; intro w3 b3 f3; have B3 := hid b3; have S3 : Hid (Still w w3) := hid (Still.next (S2.out.trans ((Fr.refl _ _).alloc _)) f3 (fun k hk => by rw [hk]; exact S2.out.size)); have d4 : w3.cell? ⟨w2.heap.size, 4, none⟩ = some (.int .i64 y.th) := b3.cell 4; have d1 : w3.cell? ⟨w2.heap.size, 1, none⟩ = some (.int .i64 y.s) := b3.cell 1; have d3 : w3.cell? ⟨w2.heap.size, 3, none⟩ = some (.int .i64 y.co) := b3.cell 3; have z1 := b3.frozen 1; have z3 := b3.frozen 3; have B4 : Hid (Blk ((w3.setCell ⟨w2.heap.size, 1, none⟩ (.int .i64 3)).setCell ⟨w2.heap.size, 3, none⟩ (.int .i64 (-1))) w2.heap.size [.int .i64 z.i, .int .i64 z.s, .int .i64 z.sp, .int .i64 z.co, .int .i64 z.th, .int .i64 z.c.p, .int .i64 z.c.q, .int .i64 z.c.r0, .int .i64 z.c.r1, .int .i64 z.c.r2, .int .i64 z.c.r3, .int .i64 z.c.r4, .int .i64 z.c.r5, .int .i64 z.c.r6, .int .i64 z.c.r7, .int .i64 z.c.d] 120) := hid (by rw [← HZ.out, HY.out]; exact (b3.put 1 _).put 3 _); have S4 : Hid (Still w ((w3.setCell ⟨w2.heap.size, 1, none⟩ (.int .i64 3)).setCell ⟨w2.heap.size, 3, none⟩ (.int .i64 (-1)))) := hid (Fr.setCell (Fr.setCell S3.out (.inr S2.out.size) _) (.inr S2.out.size) _); clear b3 f3)
        | (refine wpList_loadW rfl (.tmp 5) 120 rfl _ Tryd.underlying120 rfl _ 120 [.int .i64 z.i, .int .i64 z.s, .int .i64 z.sp, .int .i64 z.co, .int .i64 z.th, .int .i64 z.c.p, .int .i64 z.c.q, .int .i64 z.c.r0, .int .i64 z.c.r1, .int .i64 z.c.r2, .int .i64 z.c.r3, .int .i64 z.c.r4, .int .i64 z.c.r5, .int .i64 z.c.r6, .int .i64 z.c.r7, .int .i64 z.c.d] I120 rfl B4.out ?_))
      refine (xput (H.out.still S4.out) HL.out z).mono ?_
      rintro e w5 ⟨rfl, h5, f5⟩
      have H5 := hid (H.out.back S4.out.size h5 f5.size)
      have F5 : Hid (Fr O w w5) := hid ((S4.out.fr O).trans (f5.mono fun k _ hk => by rw [hk]; exact H.out.lQ))
      clear h5 f5
      go_wp2_with fail
      go_ret
      exact ⟨by rw [EE.out.1]; rfl, by rw [EE.out.2, HZ.out]; exact H5.out, F5.out⟩
  · have EE := hid (t_bad (st := 3) (ce := blkC L id) (cz := { fndA L id with co := -1 }) HEI.out (by decide))
    go_wp2_with (clear N2; refine wpList_storeW rfl (.tmp 5) (.tmp 12) 120 rfl _ 120 [.int .i64 a0.i, .int .i64 a0.s, .int .i64 a0.sp, .int .i64 a0.co, .int .i64 a0.th, .int .i64 a0.c.p, .int .i64 a0.c.q, .int .i64 a0.c.r0, .int .i64 a0.c.r1, .int .i64 a0.c.r2, .int .i64 a0.c.r3, .int .i64 a0.c.r4, .int .i64 a0.c.r5, .int .i64 a0.c.r6, .int .i64 a0.c.r7, .int .i64 a0.c.d] [.int .i64 y.i, .int .i64 y.s, .int .i64 y.sp, .int .i64 y.co, .int .i64 y.th, .int .i64 y.c.p, .int .i64 y.c.q, .int .i64 y.c.r0, .int .i64 y.c.r1, .int .i64 y.c.r2, .int .i64 y.c.r3, .int .i64 y.c.r4, .int .i64 y.c.r5, .int .i64 y.c.r6, .int .i64 y.c.r7, .int .i64 y.c.d] I120 (onesA y) rfl rfl (new_ra _) rfl ?_; intro w3 b3 f3; have B3 := hid b3; have S3 : Hid (Still w w3) := hid (Still.next (S2.out.trans ((Fr.refl _ _).alloc _)) f3 (fun k hk => by rw [hk]; exact S2.out.size)); clear b3 f3)
    go_ret
    exact ⟨by rw [EE.out.1]; rfl, by rw [EE.out.2]; exact (H.out.still S3.out).up0, S3.out.fr _⟩
  · have EE := hid (t_bad (st := 3) (ce := blkC L id) (cz := { fndA L id with co := -1 }) HEI.out (by decide))
    go_wp2_with (clear N2; refine wpList_storeW rfl (.tmp 5) (.tmp 12) 120 rfl _ 120 [.int .i64 a0.i, .int .i64 a0.s, .int .i64 a0.sp, .int .i64 a0.co, .int .i64 a0.th, .int .i64 a0.c.p, .int .i64 a0.c.q, .int .i64 a0.c.r0, .int .i64 a0.c.r1, .int .i64 a0.c.r2, .int .i64 a0.c.r3, .int .i64 a0.c.r4, .int .i64 a0.c.r5, .int .i64 a0.c.r6, .int .i64 a0.c.r7, .int .i64 a0.c.d] [.int .i64 y.i, .int .i64 y.s, .int .i64 y.sp, .int .i64 y.co, .int .i64 y.th, .int .i64 y.c.p, .int .i64 y.c.q, .int .i64 y.c.r0, .int .i64 y.c.r1, .int .i64 y.c.r2, .int .i64 y.c.r3, .int .i64 y.c.r4, .int .i64 y.c.r5, .int .i64 y.c.r6, .int .i64 y.c.r7, .int .i64 y.c.d] I120 (onesA y) rfl rfl (new_ra _) rfl ?_; intro w3 b3 f3; have B3 := hid b3; have S3 : Hid (Still w w3) := hid (Still.next (S2.out.trans ((Fr.refl _ _).alloc _)) f3 (fun k hk => by rw [hk]; exact S2.out.size)); clear b3 f3)
    go_ret
    exact ⟨by rw [EE.out.1]; rfl, by rw [EE.out.2]; exact (H.out.still S3.out).up0, S3.out.fr _⟩
set_option maxRecDepth 100000 in
set_option maxHeartbeats 8000000 in
theorem xcache (h : RAAt w O Q p A T cA cT s L) (hl : L.length ≤ 1000) (hs : ∀ x ∈ L, 1 ≤ x.s ∧ x.s ≤ 5) (id : Int) : Calls Tryd.prog 117 #[.pointer (some ⟨Q, 0, none⟩), .int .i64 id] w fun e w' =>
    e = .returned (.int .i64 (tE L id 28 0)) ∧ RAAt w' (upO O w w') Q p A T cA cT s (tL L id 28 5 0 ⟨(fndA L id).i, 0, (fndA L id).sp, -1, 0, c0⟩) ∧ Fr O w w' := by
  have H := hid h
  have HL := hid hl
  have HX := hid (fun (u : World) (hu : Still w u) (b : Nat) (hb : Blk u b [.int .i64 2, .int .i64 3, .int .i64 4] 3) => xin (h.still hu) id (.slice (some ⟨b, 0, none⟩) 3 3) [2, 3, 4] (IRow.of_blk (xs := [2, 3, 4]) hb (by decide)) (by decide))
  have EI := in_is (dd2 28 [2, 3, 4] (by decide)) hs id
  have EC := in_cases L id [2, 3, 4]
  clear h hl hs
  obtain ⟨y, hy⟩ : ∃ y, fndA L id = y := ⟨_, rfl⟩
  obtain ⟨ei, hei⟩ : ∃ ei, inE L id [2, 3, 4] = ei := ⟨_, rfl⟩
  rw [hei] at EC EI
  rw [hy, hei] at HX
  have HY := hid hy
  have HEI := hid EI.symm
  clear hei EI hy
  go_enter Tryd.func117, Tryd.ntmps117
  go_wp2_with fail
  refine (HX.out _ ((Fr.refl _ _).alloc _) _ (Blk.new w [.int .i64 2, .int .i64 3, .int .i64 4] 3)).mono ?_
  rintro e w2 ⟨rfl, s2⟩
  have S2 : Hid (Still w w2) := hid (((Fr.refl _ _).alloc _).trans s2)
  clear s2
  have N2 : True := trivial
  rcases EC with rfl | rfl | rfl
  · obtain ⟨z, hz⟩ : ∃ z : Ac, ⟨(fndA L id).i, 5, (fndA L id).sp, -1, 0, c0⟩ = z := ⟨_, rfl⟩
    have HZ := hid hz
    have EE : Hid (tE L id 28 0 = 0 ∧ tL L id 28 5 0 ⟨(fndA L id).i, 0, (fndA L id).sp, -1, 0, c0⟩ = actE.ins ⟨(fndA L id).i, 5, (fndA L id).sp, -1, 0, c0⟩ L) := hid ⟨HEI.out, t_do HEI.out⟩
    rw [HY.out] at hz
    go_wp2_with (clear N2; refine wpList_storeW rfl (.tmp 5) (.tmp 12) 120 rfl _ 120 [.int .i64 a0.i, .int .i64 a0.s, .int .i64 a0.sp, .int .i64 a0.co, .int .i64 a0.th, .int .i64 a0.c.p, .int .i64 a0.c.q, .int .i64 a0.c.r0, .int .i64 a0.c.r1, .int .i64 a0.c.r2, .int .i64 a0.c.r3, .int .i64 a0.c.r4, .int .i64 a0.c.r5, .int .i64 a0.c.r6, .int .i64 a0.c.r7, .int .i64 a0.c.d] [.int .i64 y.i, .int .i64 y.s, .int .i64 y.sp, .int .i64 y.co, .int .i64 y.th, .int .i64 y.c.p, .int .i64 y.c.q, .int .i64 y.c.r0, .int .i64 y.c.r1, .int .i64 y.c.r2, .int .i64 y.c.r3, .int .i64 y.c.r4, .int .i64 y.c.r5, .int .i64 y.c.r6, .int .i64 y.c.r7, .int .i64 y.c.d] I120 (onesA y) rfl rfl (new_ra _) rfl ?_; intro w3 b3 f3; have B3 := hid b3; have S3 : Hid (Still w w3) := hid (Still.next (S2.out.trans ((Fr.refl _ _).alloc _)) f3 (fun k hk => by rw [hk]; exact S2.out.size)); have d0 : w3.cell? ⟨w2.heap.size, 0, none⟩ = some (.int .i64 y.i) := b3.cell 0; have d2 : w3.cell? ⟨w2.heap.size, 2, none⟩ = some (.int .i64 y.sp) := b3.cell 2; clear b3 f3)
    rw [show (Value.agg #[.int .i64 y.i, .int .i64 5, .int .i64 y.sp, .int .i64 (-1), .int .i64 0, .int .i64 0, .int .i64 0, .int .i64 0, .int .i64 0, .int .i64 0, .int .i64 0, .int .i64 0, .int .i64 0, .int .i64 0, .int .i64 0, .int .i64 0]) = (Value.agg #[.int .i64 z.i, .int .i64 z.s, .int .i64 z.sp, .int .i64 z.co, .int .i64 z.th, .int .i64 z.c.p, .int .i64 z.c.q, .int .i64 z.c.r0, .int .i64 z.c.r1, .int .i64 z.c.r2, .int .i64 z.c.r3, .int .i64 z.c.r4, .int .i64 z.c.r5, .int .i64 z.c.r6, .int .i64 z.c.r7, .int .i64 z.c.d]) by rw [← hz]; rfl]
    clear hz
    have S4 := S3
    refine (xput (H.out.still S4.out) HL.out z).mono ?_
    rintro e w5 ⟨rfl, h5, f5⟩
    have H5 := hid (H.out.back S4.out.size h5 f5.size)
    have F5 : Hid (Fr O w w5) := hid ((S4.out.fr O).trans (f5.mono fun k _ hk => by rw [hk]; exact H.out.lQ))
    clear h5 f5
    go_wp2_with fail
    go_ret
    exact ⟨by rw [EE.out.1]; rfl, by rw [EE.out.2, HZ.out]; exact H5.out, F5.out⟩
  · have EE := hid (t_bad (st := 5) (ce := 0) (cz := ⟨(fndA L id).i, 0, (fndA L id).sp, -1, 0, c0⟩) HEI.out (by decide))
    go_wp2_with (clear N2; refine wpList_storeW rfl (.tmp 5) (.tmp 12) 120 rfl _ 120 [.int .i64 a0.i, .int .i64 a0.s, .int .i64 a0.sp, .int .i64 a0.co, .int .i64 a0.th, .int .i64 a0.c.p, .int .i64 a0.c.q, .int .i64 a0.c.r0, .int .i64 a0.c.r1, .int .i64 a0.c.r2, .int .i64 a0.c.r3, .int .i64 a0.c.r4, .int .i64 a0.c.r5, .int .i64 a0.c.r6, .int .i64 a0.c.r7, .int .i64 a0.c.d] [.int .i64 y.i, .int .i64 y.s, .int .i64 y.sp, .int .i64 y.co, .int .i64 y.th, .int .i64 y.c.p, .int .i64 y.c.q, .int .i64 y.c.r0, .int .i64 y.c.r1, .int .i64 y.c.r2, .int .i64 y.c.r3, .int .i64 y.c.r4, .int .i64 y.c.r5, .int .i64 y.c.r6, .int .i64 y.c.r7, .int .i64 y.c.d] I120 (onesA y) rfl rfl (new_ra _) rfl ?_; intro w3 b3 f3; have B3 := hid b3; have S3 : Hid (Still w w3) := hid (Still.next (S2.out.trans ((Fr.refl _ _).alloc _)) f3 (fun k hk => by rw [hk]; exact S2.out.size)); clear b3 f3)
    go_ret
    exact ⟨by rw [EE.out.1]; rfl, by rw [EE.out.2]; exact (H.out.still S3.out).up0, S3.out.fr _⟩
  · have EE := hid (t_bad (st := 5) (ce := 0) (cz := ⟨(fndA L id).i, 0, (fndA L id).sp, -1, 0, c0⟩) HEI.out (by decide))
    go_wp2_with (clear N2; refine wpList_storeW rfl (.tmp 5) (.tmp 12) 120 rfl _ 120 [.int .i64 a0.i, .int .i64 a0.s, .int .i64 a0.sp, .int .i64 a0.co, .int .i64 a0.th, .int .i64 a0.c.p, .int .i64 a0.c.q, .int .i64 a0.c.r0, .int .i64 a0.c.r1, .int .i64 a0.c.r2, .int .i64 a0.c.r3, .int .i64 a0.c.r4, .int .i64 a0.c.r5, .int .i64 a0.c.r6, .int .i64 a0.c.r7, .int .i64 a0.c.d] [.int .i64 y.i, .int .i64 y.s, .int .i64 y.sp, .int .i64 y.co, .int .i64 y.th, .int .i64 y.c.p, .int .i64 y.c.q, .int .i64 y.c.r0, .int .i64 y.c.r1, .int .i64 y.c.r2, .int .i64 y.c.r3, .int .i64 y.c.r4, .int .i64 y.c.r5, .int .i64 y.c.r6, .int .i64 y.c.r7, .int .i64 y.c.d] I120 (onesA y) rfl rfl (new_ra _) rfl ?_; intro w3 b3 f3; have B3 := hid b3; have S3 : Hid (Still w w3) := hid (Still.next (S2.out.trans ((Fr.refl _ _).alloc _)) f3 (fun k hk => by rw [hk]; exact S2.out.size)); clear b3 f3)
    go_ret
    exact ⟨by rw [EE.out.1]; rfl, by rw [EE.out.2]; exact (H.out.still S3.out).up0, S3.out.fr _⟩
set_option maxRecDepth 100000 in
set_option maxHeartbeats 8000000 in
theorem xpre (h : RAAt w O Q p A T cA cT s L) (hl : L.length ≤ 1000) (hs : ∀ x ∈ L, 1 ≤ x.s ∧ x.s ≤ 5) (id : Int) (c : Ctx) : Calls Tryd.prog 116 #[.pointer (some ⟨Q, 0, none⟩), .int .i64 id, (Value.agg #[.int .i64 c.p, .int .i64 c.q, .int .i64 c.r0, .int .i64 c.r1, .int .i64 c.r2, .int .i64 c.r3, .int .i64 c.r4, .int .i64 c.r5, .int .i64 c.r6, .int .i64 c.r7, .int .i64 c.d])] w fun e w' =>
    e = .returned (.int .i64 (tE L id 4 0)) ∧ RAAt w' (upO O w w') Q p A T cA cT s (tL L id 4 4 0 { fndA L id with co := -1, c := c }) ∧ Fr O w w' := by
  have H := hid h
  have HL := hid hl
  have HX := hid (fun (u : World) (hu : Still w u) (b : Nat) (hb : Blk u b [.int .i64 2] 3) => xin (h.still hu) id (.slice (some ⟨b, 0, none⟩) 1 1) [2] (IRow.of_blk (xs := [2]) hb (by decide)) (by decide))
  have EI := in_is (dd2 4 [2] (by decide)) hs id
  have EC := in_cases L id [2]
  clear h hl hs
  obtain ⟨y, hy⟩ : ∃ y, fndA L id = y := ⟨_, rfl⟩
  obtain ⟨ei, hei⟩ : ∃ ei, inE L id [2] = ei := ⟨_, rfl⟩
  rw [hei] at EC EI
  rw [hy, hei] at HX
  have HY := hid hy
  have HEI := hid EI.symm
  clear hei EI hy
  go_enter Tryd.func116, Tryd.ntmps116
  go_wp2_with fail
  refine (HX.out _ (((Fr.refl _ _).alloc _).alloc _) _ (blk_new1 w _ [.int .i64 2] 3)).mono ?_
  rintro e w2 ⟨rfl, s2⟩
  have S2 : Hid (Still w w2) := hid ((((Fr.refl _ _).alloc _).alloc _).trans s2)
  have C2 : Hid (Blk w2 w.heap.size [.int .i64 c.p, .int .i64 c.q, .int .i64 c.r0, .int .i64 c.r1, .int .i64 c.r2, .int .i64 c.r3, .int .i64 c.r4, .int .i64 c.r5, .int .i64 c.r6, .int .i64 c.r7, .int .i64 c.d] 58) := hid (((Blk.new w _ 58).alloc _).still s2)
  clear s2
  have N2 : True := trivial
  rcases EC with rfl | rfl | rfl
  · obtain ⟨z, hz⟩ : ∃ z : Ac, { fndA L id with co := -1, c := c, s := 4 } = z := ⟨_, rfl⟩
    have HZ := hid hz
    have EE : Hid (tE L id 4 0 = 0 ∧ tL L id 4 4 0 { fndA L id with co := -1, c := c } = actE.ins { fndA L id with co := -1, c := c, s := 4 } L) := hid ⟨HEI.out, t_do HEI.out⟩
    clear hz
    go_wp2_with (clear N2; refine wpList_storeW rfl (.tmp 7) (.tmp 14) 120 rfl _ 120 [.int .i64 a0.i, .int .i64 a0.s, .int .i64 a0.sp, .int .i64 a0.co, .int .i64 a0.th, .int .i64 a0.c.p, .int .i64 a0.c.q, .int .i64 a0.c.r0, .int .i64 a0.c.r1, .int .i64 a0.c.r2, .int .i64 a0.c.r3, .int .i64 a0.c.r4, .int .i64 a0.c.r5, .int .i64 a0.c.r6, .int .i64 a0.c.r7, .int .i64 a0.c.d] [.int .i64 y.i, .int .i64 y.s, .int .i64 y.sp, .int .i64 y.co, .int .i64 y.th, .int .i64 y.c.p, .int .i64 y.c.q, .int .i64 y.c.r0, .int .i64 y.c.r1, .int .i64 y.c.r2, .int .i64 y.c.r3, .int .i64 y.c.r4, .int .i64 y.c.r5, .int .i64 y.c.r6, .int .i64 y.c.r7, .int .i64 y.c.d] I120 (onesA y) rfl rfl (new_ra _) rfl ?_; intro w3 b3 f3; have B3 := hid b3; have S3 : Hid (Still w w3) := hid (Still.next (S2.out.trans ((Fr.refl _ _).alloc _)) f3 (fun k hk => by rw [hk]; exact S2.out.size)); have d1 : w3.cell? ⟨w2.heap.size, 1, none⟩ = some (.int .i64 y.s) := b3.cell 1; have d3 : w3.cell? ⟨w2.heap.size, 3, none⟩ = some (.int .i64 y.co) := b3.cell 3; have z1 := b3.frozen 1; have z3 := b3.frozen 3; have C3 := hid ((C2.out.alloc (.cells (#[.int .i64 0, .int .i64 0, .int .i64 0, .int .i64 0, .int .i64 0, .int .i64 0, .int .i64 0, .int .i64 0, .int .i64 0, .int .i64 0, .int .i64 0, .int .i64 0, .int .i64 0, .int .i64 0, .int .i64 0, .int .i64 0]) 120)).fr f3 (by have := C2.out.lt; omega)); clear b3 f3)
    have hcl := C2.out.lt
    have R3 : w3.rangeAt w.heap.size 0 [.int .i64 c.p, .int .i64 c.q, .int .i64 c.r0, .int .i64 c.r1, .int .i64 c.r2, .int .i64 c.r3, .int .i64 c.r4, .int .i64 c.r5, .int .i64 c.r6, .int .i64 c.r7, .int .i64 c.d] := fun j v hv => by rw [Nat.zero_add, C3.out.cell j]; exact hv
    refine Held.wp_region_held_tail (S := (fun w' => w'.rangeAt w.heap.size 0 [.int .i64 c.p, .int .i64 c.q, .int .i64 c.r0, .int .i64 c.r1, .int .i64 c.r2, .int .i64 c.r3, .int .i64 c.r4, .int .i64 c.r5, .int .i64 c.r6, .int .i64 c.r7, .int .i64 c.d])) 6 (by kernel_rfl) (by kernel_rfl) (by decide) ?hS1 (fun hHeld => ?hR1)
    case hS1 =>
      exact R3
    simp only [List.take_succ_cons, List.take_zero, List.drop_succ_cons, List.drop_zero]
    refine wpAnyH_take (i := 0) (oi := _) (v := (Value.agg #[.int .i64 c.p, .int .i64 c.q, .int .i64 c.r0, .int .i64 c.r1, .int .i64 c.r2, .int .i64 c.r3, .int .i64 c.r4, .int .i64 c.r5, .int .i64 c.r6, .int .i64 c.r7, .int .i64 c.d])) rfl (by kernel_rfl) (by kernel_rfl) (by kernel_rfl) (fun _ _ _ h => h) (yieldsIf_load_mid rfl 58 _ rfl w.heap.size 0 rfl [.int .i64 c.p, .int .i64 c.q, .int .i64 c.r0, .int .i64 c.r1, .int .i64 c.r2, .int .i64 c.r3, .int .i64 c.r4, .int .i64 c.r5, .int .i64 c.r6, .int .i64 c.r7, .int .i64 c.d] _ (fun w h => h) Tryd.underlying58 rfl I58) (by assumption) ?rM
    (try simp only [Act.put, List.getElem_toArray, List.getElem_cons_zero, List.getElem_cons_succ, List.setIfInBounds_toArray, List.set_cons_zero, List.set_cons_succ])
    refine wpAnyH_take (i := 1) (oi := _) (v := ?v2) rfl (by kernel_rfl) (by kernel_rfl) (by kernel_rfl) (fun _ _ _ h => h) (Or.inl ⟨by rfl, ?y2⟩) (by assumption) ?r2
    case y2 => ((intro w hSw); (try dsimp only at hSw); go_simp; (try with_reducible rfl))
    (try simp only [Act.put, List.setIfInBounds_toArray, List.set_cons_zero, List.set_cons_succ])
    refine wpAnyH_ready (rs := [2]) (by kernel_rfl) (by simp) ?_
    refine AllReadyH.cons rfl (fun K hK => ?st3) AllReadyH.nil
    go_simp
    refine hK.out _ _ ?k3 (fun hHeld3 => ?_)
    case k3 =>
      exact fun j v hv => put_far (R3 j v hv) (by omega)
    clear hK K
    (try simp only [Act.put, List.setIfInBounds_toArray, List.set_cons_zero, List.set_cons_succ])
    (try simp only [Act.put, List.getElem_toArray, List.getElem_cons_zero, List.getElem_cons_succ, List.setIfInBounds_toArray, List.set_cons_zero, List.set_cons_succ])
    refine wpAnyH_take (i := 3) (oi := _) (v := ?v4) rfl (by kernel_rfl) (by kernel_rfl) (by kernel_rfl) (fun _ _ _ h => h) (Or.inl ⟨by rfl, ?y4⟩) (by assumption) ?r4
    case y4 => ((intro w hSw); (try dsimp only at hSw); go_simp; (try with_reducible rfl))
    (try simp only [Act.put, List.setIfInBounds_toArray, List.set_cons_zero, List.set_cons_succ])
    refine wpAnyH_ready (rs := [4]) (by kernel_rfl) (by simp) ?_
    refine AllReadyH.cons rfl (fun K hK => ?st5) AllReadyH.nil
    go_simp
    refine hK.out _ _ ?k5 (fun hHeld5 => ?_)
    case k5 =>
      exact fun j v hv => put_far (put_far (R3 j v hv) (by omega)) (by omega)
    clear hK K
    (try simp only [Act.put, List.setIfInBounds_toArray, List.set_cons_zero, List.set_cons_succ])
    (try simp only [Act.put, List.getElem_toArray, List.getElem_cons_zero, List.getElem_cons_succ, List.setIfInBounds_toArray, List.set_cons_zero, List.set_cons_succ])
    refine wpAnyH_take (i := 5) (oi := _) (v := ?v6) rfl (by kernel_rfl) (by kernel_rfl) (by kernel_rfl) (fun _ _ _ h => h) (Or.inl ⟨by rfl, ?y6⟩) (by assumption) ?r6
    case y6 => ((intro w hSw); (try dsimp only at hSw); go_simp; (try with_reducible rfl))
    (try simp only [Act.put, List.setIfInBounds_toArray, List.set_cons_zero, List.set_cons_succ])
    refine wpAnyH_done (by kernel_rfl) (Held.tailQ_normal ?_) _
    (try simp only [Act.put, List.getElem_toArray, List.getElem_cons_zero, List.getElem_cons_succ, List.setIfInBounds_toArray, List.set_cons_zero, List.set_cons_succ])
    have BD : Hid (Blk ((w3.setCell ⟨w2.heap.size, 1, none⟩ (.int .i64 4)).setCell ⟨w2.heap.size, 3, none⟩ (.int .i64 (-1))).drew w2.heap.size [.int .i64 { y with s := 4, co := -1 }.i, .int .i64 { y with s := 4, co := -1 }.s, .int .i64 { y with s := 4, co := -1 }.sp, .int .i64 { y with s := 4, co := -1 }.co, .int .i64 { y with s := 4, co := -1 }.th, .int .i64 { y with s := 4, co := -1 }.c.p, .int .i64 { y with s := 4, co := -1 }.c.q, .int .i64 { y with s := 4, co := -1 }.c.r0, .int .i64 { y with s := 4, co := -1 }.c.r1, .int .i64 { y with s := 4, co := -1 }.c.r2, .int .i64 { y with s := 4, co := -1 }.c.r3, .int .i64 { y with s := 4, co := -1 }.c.r4, .int .i64 { y with s := 4, co := -1 }.c.r5, .int .i64 { y with s := 4, co := -1 }.c.r6, .int .i64 { y with s := 4, co := -1 }.c.r7, .int .i64 { y with s := 4, co := -1 }.c.d] 120) := hid (((B3.out.put 1 (.int .i64 4)).put 3 (.int .i64 (-1))).still (Fr.refl _ _).drew)
    have SD : Hid (Still w ((w3.setCell ⟨w2.heap.size, 1, none⟩ (.int .i64 4)).setCell ⟨w2.heap.size, 3, none⟩ (.int .i64 (-1))).drew) := hid (Fr.setCell (Fr.setCell S3.out (.inr S2.out.size) _) (.inr S2.out.size) _).drew
    go_wp2_with (first
      | (refine wpList_storeB rfl (.tmp 22) (.tmp 19) 58 rfl _ 5 120 [.int .i64 { y with s := 4, co := -1 }.i, .int .i64 { y with s := 4, co := -1 }.s, .int .i64 { y with s := 4, co := -1 }.sp, .int .i64 { y with s := 4, co := -1 }.co, .int .i64 { y with s := 4, co := -1 }.th, .int .i64 { y with s := 4, co := -1 }.c.p, .int .i64 { y with s := 4, co := -1 }.c.q, .int .i64 { y with s := 4, co := -1 }.c.r0, .int .i64 { y with s := 4, co := -1 }.c.r1, .int .i64 { y with s := 4, co := -1 }.c.r2, .int .i64 { y with s := 4, co := -1 }.c.r3, .int .i64 { y with s := 4, co := -1 }.c.r4, .int .i64 { y with s := 4, co := -1 }.c.r5, .int .i64 { y with s := 4, co := -1 }.c.r6, .int .i64 { y with s := 4, co := -1 }.c.r7, .int .i64 { y with s := 4, co := -1 }.c.d] [.int .i64 c.p, .int .i64 c.q, .int .i64 c.r0, .int .i64 c.r1, .int .i64 c.r2, .int .i64 c.r3, .int .i64 c.r4, .int .i64 c.r5, .int .i64 c.r6, .int .i64 c.r7, .int .i64 c.d] I58 (onesC c) rfl rfl BD.out (by simp) ?_; intro w4 b4 f4; have B4 : Hid (Blk w4 w2.heap.size [.int .i64 z.i, .int .i64 z.s, .int .i64 z.sp, .int .i64 z.co, .int .i64 z.th, .int .i64 z.c.p, .int .i64 z.c.q, .int .i64 z.c.r0, .int .i64 z.c.r1, .int .i64 z.c.r2, .int .i64 z.c.r3, .int .i64 z.c.r4, .int .i64 z.c.r5, .int .i64 z.c.r6, .int .i64 z.c.r7, .int .i64 z.c.d] 120) := hid (by rw [← HZ.out, HY.out]; exact b4); have S4 : Hid (Still w w4) := hid (Still.next SD.out f4 (fun k hk => by rw [hk]; exact S2.out.size)); clear b4 f4)
      | (refine wpList_loadW rfl (.tmp 7) 120 rfl _ Tryd.underlying120 rfl _ 120 [.int .i64 z.i, .int .i64 z.s, .int .i64 z.sp, .int .i64 z.co, .int .i64 z.th, .int .i64 z.c.p, .int .i64 z.c.q, .int .i64 z.c.r0, .int .i64 z.c.r1, .int .i64 z.c.r2, .int .i64 z.c.r3, .int .i64 z.c.r4, .int .i64 z.c.r5, .int .i64 z.c.r6, .int .i64 z.c.r7, .int .i64 z.c.d] I120 rfl B4.out ?_))
    refine (xput (H.out.still S4.out) HL.out z).mono ?_
    rintro e w5 ⟨rfl, h5, f5⟩
    have H5 := hid (H.out.back S4.out.size h5 f5.size)
    have F5 : Hid (Fr O w w5) := hid ((S4.out.fr O).trans (f5.mono fun k _ hk => by rw [hk]; exact H.out.lQ))
    clear h5 f5
    go_wp2_with fail
    go_ret
    exact ⟨by rw [EE.out.1]; rfl, by rw [EE.out.2, HZ.out]; exact H5.out, F5.out⟩
  · have EE := hid (t_bad (st := 4) (ce := 0) (cz := { fndA L id with co := -1, c := c }) HEI.out (by decide))
    go_wp2_with (clear N2; refine wpList_storeW rfl (.tmp 7) (.tmp 14) 120 rfl _ 120 [.int .i64 a0.i, .int .i64 a0.s, .int .i64 a0.sp, .int .i64 a0.co, .int .i64 a0.th, .int .i64 a0.c.p, .int .i64 a0.c.q, .int .i64 a0.c.r0, .int .i64 a0.c.r1, .int .i64 a0.c.r2, .int .i64 a0.c.r3, .int .i64 a0.c.r4, .int .i64 a0.c.r5, .int .i64 a0.c.r6, .int .i64 a0.c.r7, .int .i64 a0.c.d] [.int .i64 y.i, .int .i64 y.s, .int .i64 y.sp, .int .i64 y.co, .int .i64 y.th, .int .i64 y.c.p, .int .i64 y.c.q, .int .i64 y.c.r0, .int .i64 y.c.r1, .int .i64 y.c.r2, .int .i64 y.c.r3, .int .i64 y.c.r4, .int .i64 y.c.r5, .int .i64 y.c.r6, .int .i64 y.c.r7, .int .i64 y.c.d] I120 (onesA y) rfl rfl (new_ra _) rfl ?_; intro w3 b3 f3; have B3 := hid b3; have S3 : Hid (Still w w3) := hid (Still.next (S2.out.trans ((Fr.refl _ _).alloc _)) f3 (fun k hk => by rw [hk]; exact S2.out.size)); clear b3 f3)
    go_ret
    exact ⟨by rw [EE.out.1]; rfl, by rw [EE.out.2]; exact (H.out.still S3.out).up0, S3.out.fr _⟩
  · have EE := hid (t_bad (st := 4) (ce := 0) (cz := { fndA L id with co := -1, c := c }) HEI.out (by decide))
    go_wp2_with (clear N2; refine wpList_storeW rfl (.tmp 7) (.tmp 14) 120 rfl _ 120 [.int .i64 a0.i, .int .i64 a0.s, .int .i64 a0.sp, .int .i64 a0.co, .int .i64 a0.th, .int .i64 a0.c.p, .int .i64 a0.c.q, .int .i64 a0.c.r0, .int .i64 a0.c.r1, .int .i64 a0.c.r2, .int .i64 a0.c.r3, .int .i64 a0.c.r4, .int .i64 a0.c.r5, .int .i64 a0.c.r6, .int .i64 a0.c.r7, .int .i64 a0.c.d] [.int .i64 y.i, .int .i64 y.s, .int .i64 y.sp, .int .i64 y.co, .int .i64 y.th, .int .i64 y.c.p, .int .i64 y.c.q, .int .i64 y.c.r0, .int .i64 y.c.r1, .int .i64 y.c.r2, .int .i64 y.c.r3, .int .i64 y.c.r4, .int .i64 y.c.r5, .int .i64 y.c.r6, .int .i64 y.c.r7, .int .i64 y.c.d] I120 (onesA y) rfl rfl (new_ra _) rfl ?_; intro w3 b3 f3; have B3 := hid b3; have S3 : Hid (Still w w3) := hid (Still.next (S2.out.trans ((Fr.refl _ _).alloc _)) f3 (fun k hk => by rw [hk]; exact S2.out.size)); clear b3 f3)
    go_ret
    exact ⟨by rw [EE.out.1]; rfl, by rw [EE.out.2]; exact (H.out.still S3.out).up0, S3.out.fr _⟩
end
end Go.Proofs.YtffjaaolcphonaaDoor
/- The document's activations: Load, Discard, Run, Make. -/
namespace Go.Proofs.YtffjaaolcphonaaDoor
open Go.RowKit Go.Maps
set_option linter.unusedSimpArgs false
theorem in0 {L : List Ac} {k : Int} {fs : List Int} (h : inE L k fs = 0) : fndO L k = true ∧ fs.contains (fndA L k).s = true := by
  unfold inE at h
  split at h
  · split at h
    · exact ⟨by assumption, by assumption⟩
    · exact absurd h (by decide)
  · exact absurd h (by decide)
theorem in5 {L : List Ac} {k : Int} {fs : List Int} (h : inE L k fs = 5) : fndO L k = true ∧ fs.contains (fndA L k).s = false := by
  unfold inE at h
  split at h
  · split at h
    · exact absurd h (by decide)
    · rename_i h2; exact ⟨by assumption, by simpa using h2⟩
  · exact absurd h (by decide)
theorem in4 {L : List Ac} {k : Int} {fs : List Int} (h : inE L k fs = 4) : fndO L k = false := by
  unfold inE at h
  split at h
  · split at h
    · exact absurd h (by decide)
    · exact absurd h (by decide)
  · rename_i h2; simpa using h2
theorem load4 {L : List Ac} {k th : Int} (h : inE L k [2] = 4) : loadE L k th = 4 ∧ loadL L k th = L := load_at (by unfold loadE; rw [if_neg (by rw [in4 h]; decide)]) (by decide)
theorem load5 {L : List Ac} {k th : Int} (h : inE L k [2] = 5) : loadE L k th = 5 ∧ loadL L k th = L := load_at (by
  have h1 := in5 h
  have h2 : ¬ (fndA L k).s = 2 := fun e => by rw [e] at h1; exact absurd h1.2 (by decide)
  unfold loadE; rw [if_pos h1.1, if_neg h2]) (by decide)
theorem load0 {L : List Ac} {k th : Int} (h : inE L k [2] = 0) : loadE L k th = if th < 0 then 2 else 0 := by
  have h1 := in0 h
  have h2 : (fndA L k).s = 2 := by simpa using h1.2
  unfold loadE; rw [if_pos h1.1, if_pos h2]
theorem disc4 {s : SS} {L : List Ac} {k : Int} (h : inE L k [1, 5] = 4) : discE L k = 4 ∧ discS s L k = s ∧ discL L k = L := disc_none (in4 h)
theorem disc5 {s : SS} {L : List Ac} {k : Int} (h : inE L k [1, 5] = 5) : discE L k = 5 ∧ discS s L k = s ∧ discL L k = L := by
  have h1 := in5 h
  exact disc_no h1.1 (fun e => by rcases e with e | e <;> (rw [e] at h1; exact absurd h1.2 (by decide)))
theorem disc0 {s : SS} {L : List Ac} {k : Int} (h : inE L k [1, 5] = 0) : discE L k = 0 ∧ discS s L k = freeS s k ∧ discL L k = actE.del k L := by
  have h1 := in0 h
  exact disc_yes h1.1 (by simpa using h1.2)
section
variable {w w' : World} {O : Nat → Prop} {Q p A T cA cT : Nat} {s s' : SS} {L L' : List Ac}
set_option maxRecDepth 100000 in
set_option maxHeartbeats 8000000 in
theorem xload (h : RAAt w O Q p A T cA cT s L) (hl : L.length ≤ 1000) (id : Int) (th : Int) : Calls Tryd.prog 114 #[.pointer (some ⟨Q, 0, none⟩), .int .i64 id, .int .i64 th] w fun e w' =>
    e = .returned (.int .i64 (loadE L id th)) ∧ RAAt w' (upO O w w') Q p A T cA cT (s) (loadL L id th) ∧ Fr O w w' := by
  have H := hid h
  have HL := hid hl
  have HX := hid (fun (u : World) (hu : Still w u) (b : Nat) (hb : Blk u b [.int .i64 2] 3) => xin (h.still hu) id (.slice (some ⟨b, 0, none⟩) 1 1) [2] (IRow.of_blk (xs := [2]) hb (by decide)) (by decide))
  have EC := in_cases L id [2]
  clear h hl
  obtain ⟨y, hy⟩ : ∃ y, fndA L id = y := ⟨_, rfl⟩
  obtain ⟨ei, hei⟩ : ∃ ei, inE L id [2] = ei := ⟨_, rfl⟩
  rw [hei] at EC
  rw [hy, hei] at HX
  have HY := hid hy
  have HEI := hid hei
  clear hei hy
  go_enter Tryd.func114, Tryd.ntmps114
  go_wp2_with fail
  refine (HX.out _ ((Fr.refl _ _).alloc _) _ (Blk.new w [.int .i64 2] 3)).mono ?_
  rintro e w2 ⟨rfl, s2⟩
  have S2 : Hid (Still w w2) := hid (((Fr.refl _ _).alloc _).trans s2)
  clear s2
  have N2 : True := trivial
  rcases EC with rfl | rfl | rfl
  · by_cases hth : th < 0
    · have EE := hid (load_at (L := L) (k := id) (th := th) (e := 2) (by rw [load0 HEI.out, if_pos hth]) (by decide))
      go_wp2_with (clear N2; refine wpList_storeW rfl (.tmp 7) (.tmp 14) 120 rfl _ 120 [.int .i64 a0.i, .int .i64 a0.s, .int .i64 a0.sp, .int .i64 a0.co, .int .i64 a0.th, .int .i64 a0.c.p, .int .i64 a0.c.q, .int .i64 a0.c.r0, .int .i64 a0.c.r1, .int .i64 a0.c.r2, .int .i64 a0.c.r3, .int .i64 a0.c.r4, .int .i64 a0.c.r5, .int .i64 a0.c.r6, .int .i64 a0.c.r7, .int .i64 a0.c.d] [.int .i64 y.i, .int .i64 y.s, .int .i64 y.sp, .int .i64 y.co, .int .i64 y.th, .int .i64 y.c.p, .int .i64 y.c.q, .int .i64 y.c.r0, .int .i64 y.c.r1, .int .i64 y.c.r2, .int .i64 y.c.r3, .int .i64 y.c.r4, .int .i64 y.c.r5, .int .i64 y.c.r6, .int .i64 y.c.r7, .int .i64 y.c.d] I120 (onesA y) rfl rfl (new_ra _) rfl ?_; intro w3 b3 f3; have B3 := hid b3; have S3 : Hid (Still w w3) := hid (Still.next (S2.out.trans ((Fr.refl _ _).alloc _)) f3 (fun k hk => by rw [hk]; exact S2.out.size)); clear b3 f3)
      go_ret
      exact ⟨by rw [EE.out.1]; rfl, by rw [EE.out.2]; exact (H.out.still S3.out).up0, S3.out.fr _⟩
    · have EE := hid (load_ok (L := L) (k := id) (th := th) (by rw [load0 HEI.out, if_neg hth]))
      obtain ⟨z, hz⟩ : ∃ z : Ac, { fndA L id with th := th } = z := ⟨_, rfl⟩
      have HZ := hid hz
      clear hz
      go_wp2_with (first
        | (clear N2; refine wpList_storeW rfl (.tmp 7) (.tmp 14) 120 rfl _ 120 [.int .i64 a0.i, .int .i64 a0.s, .int .i64 a0.sp, .int .i64 a0.co, .int .i64 a0.th, .int .i64 a0.c.p, .int .i64 a0.c.q, .int .i64 a0.c.r0, .int .i64 a0.c.r1, .int .i64 a0.c.r2, .int .i64 a0.c.r3, .int .i64 a0.c.r4, .int .i64 a0.c.r5, .int .i64 a0.c.r6, .int .i64 a0.c.r7, .int .i64 a0.c.d] [.int .i64 y.i, .int .i64 y.s, .int .i64 y.sp, .int .i64 y.co, .int .i64 y.th, .int .i64 y.c.p, .int .i64 y.c.q, .int .i64 y.c.r0, .int .i64 y.c.r1, .int .i64 y.c.r2, .int .i64 y.c.r3, .int .i64 y.c.r4, .int .i64 y.c.r5, .int .i64 y.c.r6, .int .i64 y.c.r7, .int .i64 y.c.d] I120 (onesA y) rfl rfl (new_ra _) rfl ?_; intro w3 b3 f3; have B3 := hid b3; have S3 : Hid (Still w w3) := hid (Still.next (S2.out.trans ((Fr.refl _ _).alloc _)) f3 (fun k hk => by rw [hk]; exact S2.out.size)); have d4 : w3.cell? ⟨w2.heap.size, 4, none⟩ = some (.int .i64 y.th) := b3.cell 4; have z4 := b3.frozen 4; have B4 : Hid (Blk (w3.setCell ⟨w2.heap.size, 4, none⟩ (.int .i64 th)) w2.heap.size [.int .i64 z.i, .int .i64 z.s, .int .i64 z.sp, .int .i64 z.co, .int .i64 z.th, .int .i64 z.c.p, .int .i64 z.c.q, .int .i64 z.c.r0, .int .i64 z.c.r1, .int .i64 z.c.r2, .int .i64 z.c.r3, .int .i64 z.c.r4, .int .i64 z.c.r5, .int .i64 z.c.r6, .int .i64 z.c.r7, .int .i64 z.c.d] 120) := hid (by rw [← HZ.out, HY.out]; exact b3.put 4 _); have S4 : Hid (Still w (w3.setCell ⟨w2.heap.size, 4, none⟩ (.int .i64 th))) := hid (Fr.setCell S3.out (.inr S2.out.size) _); clear b3 f3)
        | (refine wpList_loadW rfl (.tmp 7) 120 rfl _ Tryd.underlying120 rfl _ 120 [.int .i64 z.i, .int .i64 z.s, .int .i64 z.sp, .int .i64 z.co, .int .i64 z.th, .int .i64 z.c.p, .int .i64 z.c.q, .int .i64 z.c.r0, .int .i64 z.c.r1, .int .i64 z.c.r2, .int .i64 z.c.r3, .int .i64 z.c.r4, .int .i64 z.c.r5, .int .i64 z.c.r6, .int .i64 z.c.r7, .int .i64 z.c.d] I120 rfl B4.out ?_))
      refine (xput (H.out.still S4.out) HL.out z).mono ?_
      rintro e w5 ⟨rfl, h5, f5⟩
      have H5 := hid (H.out.back S4.out.size h5 f5.size)
      have F5 : Hid (Fr O w w5) := hid ((S4.out.fr O).trans (f5.mono fun k _ hk => by rw [hk]; exact H.out.lQ))
      clear h5 f5
      go_wp2_with fail
      go_ret
      exact ⟨by rw [EE.out.1]; rfl, by rw [EE.out.2, HZ.out]; exact H5.out, F5.out⟩
  · have EE := hid (load4 (th := th) HEI.out)
    go_wp2_with (clear N2; refine wpList_storeW rfl (.tmp 7) (.tmp 14) 120 rfl _ 120 [.int .i64 a0.i, .int .i64 a0.s, .int .i64 a0.sp, .int .i64 a0.co, .int .i64 a0.th, .int .i64 a0.c.p, .int .i64 a0.c.q, .int .i64 a0.c.r0, .int .i64 a0.c.r1, .int .i64 a0.c.r2, .int .i64 a0.c.r3, .int .i64 a0.c.r4, .int .i64 a0.c.r5, .int .i64 a0.c.r6, .int .i64 a0.c.r7, .int .i64 a0.c.d] [.int .i64 y.i, .int .i64 y.s, .int .i64 y.sp, .int .i64 y.co, .int .i64 y.th, .int .i64 y.c.p, .int .i64 y.c.q, .int .i64 y.c.r0, .int .i64 y.c.r1, .int .i64 y.c.r2, .int .i64 y.c.r3, .int .i64 y.c.r4, .int .i64 y.c.r5, .int .i64 y.c.r6, .int .i64 y.c.r7, .int .i64 y.c.d] I120 (onesA y) rfl rfl (new_ra _) rfl ?_; intro w3 b3 f3; have B3 := hid b3; have S3 : Hid (Still w w3) := hid (Still.next (S2.out.trans ((Fr.refl _ _).alloc _)) f3 (fun k hk => by rw [hk]; exact S2.out.size)); clear b3 f3)
    go_ret
    exact ⟨by rw [EE.out.1]; rfl, by rw [EE.out.2]; exact (H.out.still S3.out).up0, S3.out.fr _⟩
  · have EE := hid (load5 (th := th) HEI.out)
    go_wp2_with (clear N2; refine wpList_storeW rfl (.tmp 7) (.tmp 14) 120 rfl _ 120 [.int .i64 a0.i, .int .i64 a0.s, .int .i64 a0.sp, .int .i64 a0.co, .int .i64 a0.th, .int .i64 a0.c.p, .int .i64 a0.c.q, .int .i64 a0.c.r0, .int .i64 a0.c.r1, .int .i64 a0.c.r2, .int .i64 a0.c.r3, .int .i64 a0.c.r4, .int .i64 a0.c.r5, .int .i64 a0.c.r6, .int .i64 a0.c.r7, .int .i64 a0.c.d] [.int .i64 y.i, .int .i64 y.s, .int .i64 y.sp, .int .i64 y.co, .int .i64 y.th, .int .i64 y.c.p, .int .i64 y.c.q, .int .i64 y.c.r0, .int .i64 y.c.r1, .int .i64 y.c.r2, .int .i64 y.c.r3, .int .i64 y.c.r4, .int .i64 y.c.r5, .int .i64 y.c.r6, .int .i64 y.c.r7, .int .i64 y.c.d] I120 (onesA y) rfl rfl (new_ra _) rfl ?_; intro w3 b3 f3; have B3 := hid b3; have S3 : Hid (Still w w3) := hid (Still.next (S2.out.trans ((Fr.refl _ _).alloc _)) f3 (fun k hk => by rw [hk]; exact S2.out.size)); clear b3 f3)
    go_ret
    exact ⟨by rw [EE.out.1]; rfl, by rw [EE.out.2]; exact (H.out.still S3.out).up0, S3.out.fr _⟩
set_option maxRecDepth 100000 in
set_option maxHeartbeats 8000000 in
theorem xdisc (h : RAAt w O Q p A T cA cT s L) (hl : L.length ≤ 1000) (id : Int) (hi : inI id) : Calls Tryd.prog 118 #[.pointer (some ⟨Q, 0, none⟩), .int .i64 id] w fun e w' =>
    e = .returned (.int .i64 (discE L id)) ∧ RAAt w' (upO O w w') Q p A T cA cT (discS s L id) (discL L id) ∧ Fr O w w' := by
  have H := hid h
  have HL := hid hl
  have HI := hid hi
  have HX := hid (fun (u : World) (hu : Still w u) (b : Nat) (hb : Blk u b [.int .i64 1, .int .i64 5] 3) => xin (h.still hu) id (.slice (some ⟨b, 0, none⟩) 2 2) [1, 5] (IRow.of_blk (xs := [1, 5]) hb (by decide)) (by decide))
  have EC := in_cases L id [1, 5]
  clear h hl
  obtain ⟨y, hy⟩ : ∃ y, fndA L id = y := ⟨_, rfl⟩
  obtain ⟨ei, hei⟩ : ∃ ei, inE L id [1, 5] = ei := ⟨_, rfl⟩
  rw [hei] at EC
  rw [hy, hei] at HX
  have HY := hid hy
  have HEI := hid hei
  clear hei hy
  go_enter Tryd.func118, Tryd.ntmps118
  go_wp2_with fail
  refine (HX.out _ ((Fr.refl _ _).alloc _) _ (Blk.new w [.int .i64 1, .int .i64 5] 3)).mono ?_
  rintro e w2 ⟨rfl, s2⟩
  have S2 : Hid (Still w w2) := hid (((Fr.refl _ _).alloc _).trans s2)
  clear s2
  have N2 : True := trivial
  rcases EC with rfl | rfl | rfl
  · have EE := hid (disc0 (s := s) HEI.out)
    go_wp2_with (clear N2; refine wpList_storeW rfl (.tmp 5) (.tmp 12) 120 rfl _ 120 [.int .i64 a0.i, .int .i64 a0.s, .int .i64 a0.sp, .int .i64 a0.co, .int .i64 a0.th, .int .i64 a0.c.p, .int .i64 a0.c.q, .int .i64 a0.c.r0, .int .i64 a0.c.r1, .int .i64 a0.c.r2, .int .i64 a0.c.r3, .int .i64 a0.c.r4, .int .i64 a0.c.r5, .int .i64 a0.c.r6, .int .i64 a0.c.r7, .int .i64 a0.c.d] [.int .i64 y.i, .int .i64 y.s, .int .i64 y.sp, .int .i64 y.co, .int .i64 y.th, .int .i64 y.c.p, .int .i64 y.c.q, .int .i64 y.c.r0, .int .i64 y.c.r1, .int .i64 y.c.r2, .int .i64 y.c.r3, .int .i64 y.c.r4, .int .i64 y.c.r5, .int .i64 y.c.r6, .int .i64 y.c.r7, .int .i64 y.c.d] I120 (onesA y) rfl rfl (new_ra _) rfl ?_; intro w3 b3 f3; have B3 := hid b3; have S3 : Hid (Still w w3) := hid (Still.next (S2.out.trans ((Fr.refl _ _).alloc _)) f3 (fun k hk => by rw [hk]; exact S2.out.size)); clear b3 f3)
    refine (xout (H.out.still S3.out) HL.out id HI.out).mono ?_
    rintro e w5 ⟨rfl, h5, f5⟩
    have H5 := hid (H.out.back S3.out.size h5 f5.size)
    have F5 : Hid (Fr O w w5) := hid ((S3.out.fr O).trans (f5.mono fun k _ hk => hk.elim (fun h => h ▸ H.out.lQ) (fun h => h ▸ H.out.lT)))
    clear h5 f5
    go_wp2_with fail
    go_ret
    exact ⟨by rw [EE.out.1]; rfl, by rw [EE.out.2.1, EE.out.2.2]; exact H5.out, F5.out⟩
  · have EE := hid (disc4 (s := s) HEI.out)
    go_wp2_with (clear N2; refine wpList_storeW rfl (.tmp 5) (.tmp 12) 120 rfl _ 120 [.int .i64 a0.i, .int .i64 a0.s, .int .i64 a0.sp, .int .i64 a0.co, .int .i64 a0.th, .int .i64 a0.c.p, .int .i64 a0.c.q, .int .i64 a0.c.r0, .int .i64 a0.c.r1, .int .i64 a0.c.r2, .int .i64 a0.c.r3, .int .i64 a0.c.r4, .int .i64 a0.c.r5, .int .i64 a0.c.r6, .int .i64 a0.c.r7, .int .i64 a0.c.d] [.int .i64 y.i, .int .i64 y.s, .int .i64 y.sp, .int .i64 y.co, .int .i64 y.th, .int .i64 y.c.p, .int .i64 y.c.q, .int .i64 y.c.r0, .int .i64 y.c.r1, .int .i64 y.c.r2, .int .i64 y.c.r3, .int .i64 y.c.r4, .int .i64 y.c.r5, .int .i64 y.c.r6, .int .i64 y.c.r7, .int .i64 y.c.d] I120 (onesA y) rfl rfl (new_ra _) rfl ?_; intro w3 b3 f3; have B3 := hid b3; have S3 : Hid (Still w w3) := hid (Still.next (S2.out.trans ((Fr.refl _ _).alloc _)) f3 (fun k hk => by rw [hk]; exact S2.out.size)); clear b3 f3)
    go_ret
    exact ⟨by rw [EE.out.1]; rfl, by rw [EE.out.2.1, EE.out.2.2]; exact (H.out.still S3.out).up0, S3.out.fr _⟩
  · have EE := hid (disc5 (s := s) HEI.out)
    go_wp2_with (clear N2; refine wpList_storeW rfl (.tmp 5) (.tmp 12) 120 rfl _ 120 [.int .i64 a0.i, .int .i64 a0.s, .int .i64 a0.sp, .int .i64 a0.co, .int .i64 a0.th, .int .i64 a0.c.p, .int .i64 a0.c.q, .int .i64 a0.c.r0, .int .i64 a0.c.r1, .int .i64 a0.c.r2, .int .i64 a0.c.r3, .int .i64 a0.c.r4, .int .i64 a0.c.r5, .int .i64 a0.c.r6, .int .i64 a0.c.r7, .int .i64 a0.c.d] [.int .i64 y.i, .int .i64 y.s, .int .i64 y.sp, .int .i64 y.co, .int .i64 y.th, .int .i64 y.c.p, .int .i64 y.c.q, .int .i64 y.c.r0, .int .i64 y.c.r1, .int .i64 y.c.r2, .int .i64 y.c.r3, .int .i64 y.c.r4, .int .i64 y.c.r5, .int .i64 y.c.r6, .int .i64 y.c.r7, .int .i64 y.c.d] I120 (onesA y) rfl rfl (new_ra _) rfl ?_; intro w3 b3 f3; have B3 := hid b3; have S3 : Hid (Still w w3) := hid (Still.next (S2.out.trans ((Fr.refl _ _).alloc _)) f3 (fun k hk => by rw [hk]; exact S2.out.size)); clear b3 f3)
    go_ret
    exact ⟨by rw [EE.out.1]; rfl, by rw [EE.out.2.1, EE.out.2.2]; exact (H.out.still S3.out).up0, S3.out.fr _⟩
end
end Go.Proofs.YtffjaaolcphonaaDoor
/- The document's activations: Run, Make. -/
namespace Go.Proofs.YtffjaaolcphonaaDoor
open Go.RowKit Go.Maps
set_option linter.unusedSimpArgs false
theorem busy_no {L : List Ac} {core : Int} (h1 : ∀ i (hi : i < L.length), (L[i].s == 2 && L[i].co == core) = false) : busyL L core = false := by
  unfold busyL
  rw [List.any_eq_false]
  intro x hx
  obtain ⟨i, hi, rfl⟩ := List.getElem_of_mem hx
  rw [h1 i hi]; decide
theorem busy_at {L : List Ac} {core : Int} {j : Nat} (hj : j < L.length) (h : (L[j].s == 2 && L[j].co == core) = true) : busyL L core = true := by
  unfold busyL
  rw [List.any_eq_true]
  exact ⟨L[j], List.getElem_mem hj, h⟩
section
variable {w w' : World} {O : Nat → Prop} {Q p A T cA cT : Nat} {s s' : SS} {L L' : List Ac}
set_option maxRecDepth 100000 in
set_option maxHeartbeats 8000000 in
theorem xrun (h : RAAt w O Q p A T cA cT s L) (hl : L.length ≤ 1000) (hs : ∀ x ∈ L, 1 ≤ x.s ∧ x.s ≤ 5) (id : Int) (core : Int) : Calls Tryd.prog 113 #[.pointer (some ⟨Q, 0, none⟩), .int .i64 id, .int .i64 core] w fun e w' =>
    e = .returned (.int .i64 (tE L id 2 (runC L core))) ∧ RAAt w' (upO O w w') Q p A T cA cT s (tL L id 2 2 (runC L core) { fndA L id with co := core }) ∧ Fr O w w' := by
  have H := hid h
  have HL := hid hl
  obtain ⟨v, v1, v2, _⟩ := h.ex
  have R := hid (SRow.own (S := S114) v2 rfl)
  obtain ⟨a, c, rfl⟩ := own_shape v2 _ rfl
  have V1 := hid v1
  clear v2 v1
  have HX := hid (fun (u : World) (hu : Still w u) (b : Nat) (hb : Blk u b [.int .i64 1] 3) => xin (h.still hu) id (.slice (some ⟨b, 0, none⟩) 1 1) [1] (IRow.of_blk (xs := [1]) hb (by decide)) (by decide))
  have EI := in_is (dd2 2 [1] (by decide)) hs id
  have EC := in_cases L id [1]
  clear h hl hs
  obtain ⟨y, hy⟩ : ∃ y, fndA L id = y := ⟨_, rfl⟩
  obtain ⟨ei, hei⟩ : ∃ ei, inE L id [1] = ei := ⟨_, rfl⟩
  rw [hei] at EC EI
  rw [hy, hei] at HX
  have HY := hid hy
  have HEI := hid EI.symm
  clear hei EI hy
  go_enter Tryd.func113, Tryd.ntmps113
  go_wp2_with fail
  refine (HX.out _ ((Fr.refl _ _).alloc _) _ (Blk.new w [.int .i64 1] 3)).mono ?_
  rintro e w2 ⟨rfl, s2⟩
  have S2 : Hid (Still w w2) := hid (((Fr.refl _ _).alloc _).trans s2)
  clear s2
  have N2 : True := trivial
  rcases EC with rfl | rfl | rfl
  · have GD := hid (t_good (L := L) (k := id) (fr := 2) (ce := runC L core) HEI.out)
    by_cases hc0 : core < 0
    · have EE : Hid (tE L id 2 (runC L core) = 2 ∧ tL L id 2 2 (runC L core) { fndA L id with co := core } = L) := hid (by
        have e1 : runC L core = 2 := by unfold runC; rw [if_pos (.inl hc0)]
        have e2 := GD.out.2
        rw [e1] at e2 ⊢
        exact ⟨e2, t_not (by rw [e2]; decide)⟩)
      go_wp2_with (clear N2; refine wpList_storeW rfl (.tmp 7) (.tmp 16) 120 rfl _ 120 [.int .i64 a0.i, .int .i64 a0.s, .int .i64 a0.sp, .int .i64 a0.co, .int .i64 a0.th, .int .i64 a0.c.p, .int .i64 a0.c.q, .int .i64 a0.c.r0, .int .i64 a0.c.r1, .int .i64 a0.c.r2, .int .i64 a0.c.r3, .int .i64 a0.c.r4, .int .i64 a0.c.r5, .int .i64 a0.c.r6, .int .i64 a0.c.r7, .int .i64 a0.c.d] [.int .i64 y.i, .int .i64 y.s, .int .i64 y.sp, .int .i64 y.co, .int .i64 y.th, .int .i64 y.c.p, .int .i64 y.c.q, .int .i64 y.c.r0, .int .i64 y.c.r1, .int .i64 y.c.r2, .int .i64 y.c.r3, .int .i64 y.c.r4, .int .i64 y.c.r5, .int .i64 y.c.r6, .int .i64 y.c.r7, .int .i64 y.c.d] I120 (onesA y) rfl rfl (new_ra _) rfl ?_; intro w3 b3 f3; have B3 := hid b3; have S3 : Hid (Still w w3) := hid (Still.next (S2.out.trans ((Fr.refl _ _).alloc _)) f3 (fun k hk => by rw [hk]; exact S2.out.size)); clear b3 f3)
      go_ret
      exact ⟨by rw [EE.out.1]; rfl, by rw [EE.out.2]; exact (H.out.still S3.out).up0, S3.out.fr _⟩
    by_cases hc6 : (63 : Int) < core
    · have EE : Hid (tE L id 2 (runC L core) = 2 ∧ tL L id 2 2 (runC L core) { fndA L id with co := core } = L) := hid (by
        have e1 : runC L core = 2 := by unfold runC; rw [if_pos (.inr (by omega))]
        have e2 := GD.out.2
        rw [e1] at e2 ⊢
        exact ⟨e2, t_not (by rw [e2]; decide)⟩)
      go_wp2_with (clear N2; refine wpList_storeW rfl (.tmp 7) (.tmp 16) 120 rfl _ 120 [.int .i64 a0.i, .int .i64 a0.s, .int .i64 a0.sp, .int .i64 a0.co, .int .i64 a0.th, .int .i64 a0.c.p, .int .i64 a0.c.q, .int .i64 a0.c.r0, .int .i64 a0.c.r1, .int .i64 a0.c.r2, .int .i64 a0.c.r3, .int .i64 a0.c.r4, .int .i64 a0.c.r5, .int .i64 a0.c.r6, .int .i64 a0.c.r7, .int .i64 a0.c.d] [.int .i64 y.i, .int .i64 y.s, .int .i64 y.sp, .int .i64 y.co, .int .i64 y.th, .int .i64 y.c.p, .int .i64 y.c.q, .int .i64 y.c.r0, .int .i64 y.c.r1, .int .i64 y.c.r2, .int .i64 y.c.r3, .int .i64 y.c.r4, .int .i64 y.c.r5, .int .i64 y.c.r6, .int .i64 y.c.r7, .int .i64 y.c.d] I120 (onesA y) rfl rfl (new_ra _) rfl ?_; intro w3 b3 f3; have B3 := hid b3; have S3 : Hid (Still w w3) := hid (Still.next (S2.out.trans ((Fr.refl _ _).alloc _)) f3 (fun k hk => by rw [hk]; exact S2.out.size)); clear b3 f3)
      go_ret
      exact ⟨by rw [EE.out.1]; rfl, by rw [EE.out.2]; exact (H.out.still S3.out).up0, S3.out.fr _⟩
    have CO : Hid (¬ (core < 0 ∨ 64 ≤ core)) := hid (by omega)
    go_wp2_with (clear N2; refine wpList_storeW rfl (.tmp 7) (.tmp 16) 120 rfl _ 120 [.int .i64 a0.i, .int .i64 a0.s, .int .i64 a0.sp, .int .i64 a0.co, .int .i64 a0.th, .int .i64 a0.c.p, .int .i64 a0.c.q, .int .i64 a0.c.r0, .int .i64 a0.c.r1, .int .i64 a0.c.r2, .int .i64 a0.c.r3, .int .i64 a0.c.r4, .int .i64 a0.c.r5, .int .i64 a0.c.r6, .int .i64 a0.c.r7, .int .i64 a0.c.d] [.int .i64 y.i, .int .i64 y.s, .int .i64 y.sp, .int .i64 y.co, .int .i64 y.th, .int .i64 y.c.p, .int .i64 y.c.q, .int .i64 y.c.r0, .int .i64 y.c.r1, .int .i64 y.c.r2, .int .i64 y.c.r3, .int .i64 y.c.r4, .int .i64 y.c.r5, .int .i64 y.c.r6, .int .i64 y.c.r7, .int .i64 y.c.d] I120 (onesA y) rfl rfl (new_ra _) rfl ?_; intro w3 b3 f3; have B3 := hid b3; have S3 : Hid (Still w w3) := hid (Still.next (S2.out.trans ((Fr.refl _ _).alloc _)) f3 (fun k hk => by rw [hk]; exact S2.out.size)); have V3 : w3.cell? ⟨Q, 1, none⟩ = some (.slice a L.length c) := Still.cell S3.out V1.out; clear b3 f3)
    go_loopw [10, 32] (fun s10 s32 wr => ∃ j : Nat, s32 = .int .i64 j ∧ j ≤ L.length ∧ Hid (∀ i (hi : i < L.length), i < j → (L[i].s == 2 && L[i].co == core) = false) ∧ Hid (Still w3 wr)) (fun _ s32 _ => L.length - (intOf s32).toNat)
    case atStart => exact ⟨0, rfl, Nat.zero_le _, hid (fun i hi h0 => by omega), hid (Fr.refl _ _)⟩
    case round =>
      obtain ⟨j, rfl, hj, NO, SX⟩ := hrel
      have hbb := HL.out
      by_cases hlt : j < L.length
      · have hlt' : (j : Int) < (L.length : Int) := by omega
        obtain ⟨b, off, c2, ev, hc⟩ := (R.out.still (S3.out.trans SX.out)).at hlt
        obtain ⟨rfl, rfl⟩ : a = some ⟨b, off, none⟩ ∧ c = c2 := by injection ev with e1 _ e3; exact ⟨e1, e3⟩
        obtain ⟨x, hx⟩ : ∃ x, L[j] = x := ⟨_, rfl⟩
        rw [hx] at hc
        have HXX := hid hx
        have HC : Hid (wr.rangeAt b (off + j * 16) [.int .i64 x.i, .int .i64 x.s, .int .i64 x.sp, .int .i64 x.co, .int .i64 x.th, .int .i64 x.c.p, .int .i64 x.c.q, .int .i64 x.c.r0, .int .i64 x.c.r1, .int .i64 x.c.r2, .int .i64 x.c.r3, .int .i64 x.c.r4, .int .i64 x.c.r5, .int .i64 x.c.r6, .int .i64 x.c.r7, .int .i64 x.c.d]) := hid hc
        clear hx hc ev
        by_cases h1 : x.s = 2
        · have e0 : (x.s == 2) = true := by simp [h1]
          by_cases h2 : x.co = core
          · have e1 : (x.co == core) = true := by simp [h2]
            have EE : Hid (tE L id 2 (runC L core) = 3 ∧ tL L id 2 2 (runC L core) { fndA L id with co := core } = L) := hid (by
              have hb := busy_at (core := core) hlt (by rw [HXX.out, e0, e1]; rfl)
              have e1 : runC L core = 3 := by unfold runC; rw [if_neg CO.out, if_pos hb]
              have e2 := GD.out.2
              rw [e1] at e2 ⊢
              exact ⟨e2, t_not (by rw [e2]; decide)⟩)
            clear h1 h2
            have N3 : True := trivial
            go_wp2_with (first
              | (refine wpList_loadRA rfl (.tmp 34) rfl b (off + j * 16) x rfl HC.out ?_)
              | (clear N3; refine wpList_storeW rfl (.tmp 10) (.tmp 35) 120 rfl _ 120 [.int .i64 a0.i, .int .i64 a0.s, .int .i64 a0.sp, .int .i64 a0.co, .int .i64 a0.th, .int .i64 a0.c.p, .int .i64 a0.c.q, .int .i64 a0.c.r0, .int .i64 a0.c.r1, .int .i64 a0.c.r2, .int .i64 a0.c.r3, .int .i64 a0.c.r4, .int .i64 a0.c.r5, .int .i64 a0.c.r6, .int .i64 a0.c.r7, .int .i64 a0.c.d] [.int .i64 x.i, .int .i64 x.s, .int .i64 x.sp, .int .i64 x.co, .int .i64 x.th, .int .i64 x.c.p, .int .i64 x.c.q, .int .i64 x.c.r0, .int .i64 x.c.r1, .int .i64 x.c.r2, .int .i64 x.c.r3, .int .i64 x.c.r4, .int .i64 x.c.r5, .int .i64 x.c.r6, .int .i64 x.c.r7, .int .i64 x.c.d] I120 (onesA x) rfl rfl (new_ra _) rfl ?_; intro w6 b6 f6; have B6 := hid b6; have d1 : w6.cell? ⟨wr.heap.size, 1, none⟩ = some (.int .i64 x.s) := b6.cell 1; have d3 : w6.cell? ⟨wr.heap.size, 3, none⟩ = some (.int .i64 x.co) := b6.cell 3; have S6 : Hid (Still w3 w6) := hid (Still.next (SX.out.alloc _) f6 (fun k hk => by rw [hk]; exact SX.out.size)); clear b6 f6))
            go_ret
            exact ⟨by rw [EE.out.1]; rfl, by rw [EE.out.2]; exact (H.out.still (S3.out.trans S6.out)).up0, (S3.out.trans S6.out).fr _⟩
          · have e1 : (x.co == core) = false := by simp [h2]
            have NP : Hid ((L[j].s == 2 && L[j].co == core) = false) := hid (by rw [HXX.out, e0, e1]; rfl)
            clear h1 h2
            have N3 : True := trivial
            go_wp2_with (first
              | (refine wpList_loadRA rfl (.tmp 34) rfl b (off + j * 16) x rfl HC.out ?_)
              | (clear N3; refine wpList_storeW rfl (.tmp 10) (.tmp 35) 120 rfl _ 120 [.int .i64 a0.i, .int .i64 a0.s, .int .i64 a0.sp, .int .i64 a0.co, .int .i64 a0.th, .int .i64 a0.c.p, .int .i64 a0.c.q, .int .i64 a0.c.r0, .int .i64 a0.c.r1, .int .i64 a0.c.r2, .int .i64 a0.c.r3, .int .i64 a0.c.r4, .int .i64 a0.c.r5, .int .i64 a0.c.r6, .int .i64 a0.c.r7, .int .i64 a0.c.d] [.int .i64 x.i, .int .i64 x.s, .int .i64 x.sp, .int .i64 x.co, .int .i64 x.th, .int .i64 x.c.p, .int .i64 x.c.q, .int .i64 x.c.r0, .int .i64 x.c.r1, .int .i64 x.c.r2, .int .i64 x.c.r3, .int .i64 x.c.r4, .int .i64 x.c.r5, .int .i64 x.c.r6, .int .i64 x.c.r7, .int .i64 x.c.d] I120 (onesA x) rfl rfl (new_ra _) rfl ?_; intro w6 b6 f6; have B6 := hid b6; have d1 : w6.cell? ⟨wr.heap.size, 1, none⟩ = some (.int .i64 x.s) := b6.cell 1; have d3 : w6.cell? ⟨wr.heap.size, 3, none⟩ = some (.int .i64 x.co) := b6.cell 3; have S6 : Hid (Still w3 w6) := hid (Still.next (SX.out.alloc _) f6 (fun k hk => by rw [hk]; exact SX.out.size)); clear b6 f6))
            go_roundw
            case rel => exact ⟨j + 1, by go_num, by omega, hid (fun i hi h1 => by
              by_cases e : i = j
              · subst e; exact NP.out
              · exact NO.out i hi (by omega)), S6⟩
            case measure => simp [intOf]; omega
        · have e0 : (x.s == 2) = false := by simp [h1]
          have NP : Hid ((L[j].s == 2 && L[j].co == core) = false) := hid (by rw [HXX.out, e0]; rfl)
          clear h1
          have N3 : True := trivial
          go_wp2_with (first
            | (refine wpList_loadRA rfl (.tmp 34) rfl b (off + j * 16) x rfl HC.out ?_)
            | (clear N3; refine wpList_storeW rfl (.tmp 10) (.tmp 35) 120 rfl _ 120 [.int .i64 a0.i, .int .i64 a0.s, .int .i64 a0.sp, .int .i64 a0.co, .int .i64 a0.th, .int .i64 a0.c.p, .int .i64 a0.c.q, .int .i64 a0.c.r0, .int .i64 a0.c.r1, .int .i64 a0.c.r2, .int .i64 a0.c.r3, .int .i64 a0.c.r4, .int .i64 a0.c.r5, .int .i64 a0.c.r6, .int .i64 a0.c.r7, .int .i64 a0.c.d] [.int .i64 x.i, .int .i64 x.s, .int .i64 x.sp, .int .i64 x.co, .int .i64 x.th, .int .i64 x.c.p, .int .i64 x.c.q, .int .i64 x.c.r0, .int .i64 x.c.r1, .int .i64 x.c.r2, .int .i64 x.c.r3, .int .i64 x.c.r4, .int .i64 x.c.r5, .int .i64 x.c.r6, .int .i64 x.c.r7, .int .i64 x.c.d] I120 (onesA x) rfl rfl (new_ra _) rfl ?_; intro w6 b6 f6; have B6 := hid b6; have d1 : w6.cell? ⟨wr.heap.size, 1, none⟩ = some (.int .i64 x.s) := b6.cell 1; have S6 : Hid (Still w3 w6) := hid (Still.next (SX.out.alloc _) f6 (fun k hk => by rw [hk]; exact SX.out.size)); clear b6 f6))
          go_roundw
          case rel => exact ⟨j + 1, by go_num, by omega, hid (fun i hi h1 => by
            by_cases e : i = j
            · subst e; exact NP.out
            · exact NO.out i hi (by omega)), S6⟩
          case measure => simp [intOf]; omega
      · have hlt' : ¬ (j : Int) < (L.length : Int) := by omega
        obtain ⟨z, hz⟩ : ∃ z : Ac, { fndA L id with co := core, s := 2 } = z := ⟨_, rfl⟩
        have HZ := hid hz
        have EE : Hid (tE L id 2 (runC L core) = 0 ∧ tL L id 2 2 (runC L core) { fndA L id with co := core } = actE.ins { fndA L id with co := core, s := 2 } L) := hid (by
          have hb := busy_no (L := L) (core := core) (fun i hi => NO.out i hi (by omega))
          have e1 : runC L core = 0 := by unfold runC; rw [if_neg CO.out, if_neg (by rw [hb]; decide)]
          have e2 := GD.out.2
          rw [e1] at e2 ⊢
          exact ⟨e2, t_do e2⟩)
        have BX := B3.out.still SX.out
        have d1 : wr.cell? ⟨w2.heap.size, 1, none⟩ = some (.int .i64 y.s) := BX.cell 1
        have d3 : wr.cell? ⟨w2.heap.size, 3, none⟩ = some (.int .i64 y.co) := BX.cell 3
        have z1 := BX.frozen 1
        have z3 := BX.frozen 3
        have SW := hid (S3.out.trans SX.out)
        have B4 : Hid (Blk ((wr.setCell ⟨w2.heap.size, 1, none⟩ (.int .i64 2)).setCell ⟨w2.heap.size, 3, none⟩ (.int .i64 core)) w2.heap.size [.int .i64 z.i, .int .i64 z.s, .int .i64 z.sp, .int .i64 z.co, .int .i64 z.th, .int .i64 z.c.p, .int .i64 z.c.q, .int .i64 z.c.r0, .int .i64 z.c.r1, .int .i64 z.c.r2, .int .i64 z.c.r3, .int .i64 z.c.r4, .int .i64 z.c.r5, .int .i64 z.c.r6, .int .i64 z.c.r7, .int .i64 z.c.d] 120) := hid (by rw [← hz, HY.out]; exact (BX.put 1 _).put 3 _)
        have S4 : Hid (Still w ((wr.setCell ⟨w2.heap.size, 1, none⟩ (.int .i64 2)).setCell ⟨w2.heap.size, 3, none⟩ (.int .i64 core))) := hid (Fr.setCell (Fr.setCell SW.out (.inr S2.out.size) _) (.inr S2.out.size) _)
        clear hz BX
        go_wp2_with (refine wpList_loadW rfl (.tmp 7) 120 rfl _ Tryd.underlying120 rfl _ 120 [.int .i64 z.i, .int .i64 z.s, .int .i64 z.sp, .int .i64 z.co, .int .i64 z.th, .int .i64 z.c.p, .int .i64 z.c.q, .int .i64 z.c.r0, .int .i64 z.c.r1, .int .i64 z.c.r2, .int .i64 z.c.r3, .int .i64 z.c.r4, .int .i64 z.c.r5, .int .i64 z.c.r6, .int .i64 z.c.r7, .int .i64 z.c.d] I120 rfl B4.out ?_)
        refine (xput (H.out.still S4.out) HL.out z).mono ?_
        rintro e w5 ⟨rfl, h5, f5⟩
        have H5 := hid (H.out.back S4.out.size h5 f5.size)
        have F5 : Hid (Fr O w w5) := hid ((S4.out.fr O).trans (f5.mono fun k _ hk => by rw [hk]; exact H.out.lQ))
        clear h5 f5
        go_wp2_with fail
        go_ret
        exact ⟨by rw [EE.out.1]; rfl, by rw [EE.out.2, HZ.out]; exact H5.out, F5.out⟩
  · have EE := hid (t_bad (st := 2) (ce := runC L core) (cz := { fndA L id with co := core }) HEI.out (by decide))
    go_wp2_with (clear N2; refine wpList_storeW rfl (.tmp 7) (.tmp 16) 120 rfl _ 120 [.int .i64 a0.i, .int .i64 a0.s, .int .i64 a0.sp, .int .i64 a0.co, .int .i64 a0.th, .int .i64 a0.c.p, .int .i64 a0.c.q, .int .i64 a0.c.r0, .int .i64 a0.c.r1, .int .i64 a0.c.r2, .int .i64 a0.c.r3, .int .i64 a0.c.r4, .int .i64 a0.c.r5, .int .i64 a0.c.r6, .int .i64 a0.c.r7, .int .i64 a0.c.d] [.int .i64 y.i, .int .i64 y.s, .int .i64 y.sp, .int .i64 y.co, .int .i64 y.th, .int .i64 y.c.p, .int .i64 y.c.q, .int .i64 y.c.r0, .int .i64 y.c.r1, .int .i64 y.c.r2, .int .i64 y.c.r3, .int .i64 y.c.r4, .int .i64 y.c.r5, .int .i64 y.c.r6, .int .i64 y.c.r7, .int .i64 y.c.d] I120 (onesA y) rfl rfl (new_ra _) rfl ?_; intro w3 b3 f3; have B3 := hid b3; have S3 : Hid (Still w w3) := hid (Still.next (S2.out.trans ((Fr.refl _ _).alloc _)) f3 (fun k hk => by rw [hk]; exact S2.out.size)); clear b3 f3)
    go_ret
    exact ⟨by rw [EE.out.1]; rfl, by rw [EE.out.2]; exact (H.out.still S3.out).up0, S3.out.fr _⟩
  · have EE := hid (t_bad (st := 2) (ce := runC L core) (cz := { fndA L id with co := core }) HEI.out (by decide))
    go_wp2_with (clear N2; refine wpList_storeW rfl (.tmp 7) (.tmp 16) 120 rfl _ 120 [.int .i64 a0.i, .int .i64 a0.s, .int .i64 a0.sp, .int .i64 a0.co, .int .i64 a0.th, .int .i64 a0.c.p, .int .i64 a0.c.q, .int .i64 a0.c.r0, .int .i64 a0.c.r1, .int .i64 a0.c.r2, .int .i64 a0.c.r3, .int .i64 a0.c.r4, .int .i64 a0.c.r5, .int .i64 a0.c.r6, .int .i64 a0.c.r7, .int .i64 a0.c.d] [.int .i64 y.i, .int .i64 y.s, .int .i64 y.sp, .int .i64 y.co, .int .i64 y.th, .int .i64 y.c.p, .int .i64 y.c.q, .int .i64 y.c.r0, .int .i64 y.c.r1, .int .i64 y.c.r2, .int .i64 y.c.r3, .int .i64 y.c.r4, .int .i64 y.c.r5, .int .i64 y.c.r6, .int .i64 y.c.r7, .int .i64 y.c.d] I120 (onesA y) rfl rfl (new_ra _) rfl ?_; intro w3 b3 f3; have B3 := hid b3; have S3 : Hid (Still w w3) := hid (Still.next (S2.out.trans ((Fr.refl _ _).alloc _)) f3 (fun k hk => by rw [hk]; exact S2.out.size)); clear b3 f3)
    go_ret
    exact ⟨by rw [EE.out.1]; rfl, by rw [EE.out.2]; exact (H.out.still S3.out).up0, S3.out.fr _⟩
end
end Go.Proofs.YtffjaaolcphonaaDoor
/- The document's activations: Make. -/
namespace Go.Proofs.YtffjaaolcphonaaDoor
open Go.RowKit Go.Maps
set_option linter.unusedSimpArgs false
theorem takeV_no3 {s : SS} (h : takeE s = 3) : takeV s = 0 := by
  unfold takeE at h
  unfold takeV
  cases hl : leastS s with
  | none => rfl
  | some i => rw [hl] at h; cases h
section
variable {w w' : World} {O : Nat → Prop} {Q p A T cA cT : Nat} {s s' : SS} {L L' : List Ac}
theorem RAAt.frAT {s' : SS} (h : RAAt w O Q p A T cA cT s L) (hr : RAt w' p A T cA cT s') (hf : Fr (fun k => k = A ∨ k = T) w w') : RAAt w' O Q p A T cA cT s' L := by
  obtain ⟨v, v1, v2, v3⟩ := h.ex
  have nQ : ¬ (Q = A ∨ Q = T) := fun e => e.elim h.qA h.qT
  refine ⟨hf.cellK h.f0 nQ, ⟨v, hf.cellK v1 nQ, ?_, v3⟩, ?_, hr, h.qp, h.qA, h.qT, h.lQ, h.lp, h.lA, h.lT, fun k hk => Nat.lt_of_lt_of_le (h.ub k hk) hf.size, h.up, h.len⟩
  · obtain ⟨e, ⟨rfl, h2⟩ | ⟨g, cap, cur, rfl, hg, hcur, r⟩⟩ := v2
    · exact ⟨e, .inl ⟨rfl, h2⟩⟩
    · have hgl := (Array.getElem?_eq_some_iff.1 hcur).1
      obtain ⟨_, _, _, n3, n4⟩ := v3 g rfl
      exact ⟨e, .inr ⟨g, cap, cur, rfl, hg, (hf.block g hgl (fun e => e.elim n3 n4)).trans hcur, r⟩⟩
  · have hq := World.block_lt_of_cell? _ _ h.f0
    rw [← h.z1]; unfold World.frozen?; rw [hf.block Q hq nQ]

set_option maxRecDepth 100000 in
set_option maxHeartbeats 8000000 in
theorem xmake (h : RAAt w O Q p A T cA cT s L) (hl : L.length ≤ 1000) (hI : SI s) (sp : Int) : Calls Tryd.prog 112 #[.pointer (some ⟨Q, 0, none⟩), .int .i64 sp] w fun e w' =>
    e = .returned (.tuple #[.int .i64 (mkV s L sp), .int .i64 (mkE s L sp)]) ∧ RAAt w' (upO O w w') Q p A T cA cT (mkS s L sp) (mkL s L sp) ∧ Fr O w w' := by
  have H := hid h
  have HL := hid hl
  have HI := hid hI
  obtain ⟨v, v1, v2, _⟩ := h.ex
  have R := hid (SRow.own (S := S114) v2 rfl)
  obtain ⟨a, c, rfl⟩ := own_shape v2 _ rfl
  have F0 := h.f0
  clear h hl v2 hI
  by_cases hb : mkB sp = true
  · have EE := hid (mk_bad (s := s) (L := L) hb)
    have e1 : (decide (sp < 1) || decide (16 < sp)) = true := hb
    clear hb
    by_cases h1 : sp < 1
    · go_enter Tryd.func112, Tryd.ntmps112
      go_wp2_with fail
      go_ret2
      exact ⟨by rw [EE.out.1, EE.out.2.1]; rfl, by rw [EE.out.2.2.1, EE.out.2.2.2]; exact (H.out.still (Fr.refl _ _)).up0, Fr.refl _ _⟩
    · have h2 : 16 < sp := by simpa [h1] using e1
      go_enter Tryd.func112, Tryd.ntmps112
      go_wp2_with fail
      go_ret2
      exact ⟨by rw [EE.out.1, EE.out.2.1]; rfl, by rw [EE.out.2.2.1, EE.out.2.2.2]; exact (H.out.still (Fr.refl _ _)).up0, Fr.refl _ _⟩
  · have h1 : ¬ sp < 1 := fun h => hb (by simp [mkB, h])
    have h2 : ¬ 16 < sp := fun h => hb (by simp [mkB, h])
    have HB0 : Hid (mkB sp = false) := hid (by simpa using hb)
    have hQ := World.block_lt_of_cell? _ _ F0
    clear hb
    go_enter Tryd.func112, Tryd.ntmps112
    go_wp2_with fail
    go_loopw [7, 21] (fun s7 s21 wr => ∃ j : Nat, s21 = .int .i64 j ∧ j ≤ L.length ∧ Hid (∀ i (hi : i < L.length), i < j → (L[i].sp == sp && L[i].s == 5) = false) ∧ Hid (Still w wr)) (fun _ s21 _ => L.length - (intOf s21).toNat)
    case atStart => exact ⟨0, rfl, Nat.zero_le _, hid (fun i hi h0 => by omega), hid (Fr.refl _ _)⟩
    case round =>
      obtain ⟨j, rfl, hj, NO, SX⟩ := hrel
      have hbb := HL.out
      by_cases hlt : j < L.length
      · have hlt' : (j : Int) < (L.length : Int) := by omega
        obtain ⟨b, off, c2, ev, hc⟩ := (R.out.still SX.out).at hlt
        obtain ⟨rfl, rfl⟩ : a = some ⟨b, off, none⟩ ∧ c = c2 := by injection ev with e1 _ e3; exact ⟨e1, e3⟩
        obtain ⟨x, hx⟩ : ∃ x, L[j] = x := ⟨_, rfl⟩
        rw [hx] at hc
        have HXX := hid hx
        have HC : Hid (wr.rangeAt b (off + j * 16) [.int .i64 x.i, .int .i64 x.s, .int .i64 x.sp, .int .i64 x.co, .int .i64 x.th, .int .i64 x.c.p, .int .i64 x.c.q, .int .i64 x.c.r0, .int .i64 x.c.r1, .int .i64 x.c.r2, .int .i64 x.c.r3, .int .i64 x.c.r4, .int .i64 x.c.r5, .int .i64 x.c.r6, .int .i64 x.c.r7, .int .i64 x.c.d]) := hid hc
        have zx := SX.out.size
        clear hx hc ev
        by_cases hsp : x.sp = sp
        · have e1 : (x.sp == sp) = true := by simp [hsp]
          by_cases hs5 : x.s = 5
          · have e5 : (x.s == 5) = true := by simp [hs5]
            have EE := hid (mk_old (s := s) (L := L) (x := x) HB0.out (by rw [← HXX.out]; exact mkF_at hlt (fun i hi => NO.out i (by omega) hi) (by rw [HXX.out, e1, e5]; rfl)))
            obtain ⟨z, hz⟩ : ∃ z : Ac, { x with s := 1 } = z := ⟨_, rfl⟩
            have HZ := hid hz
            have ZI : Hid (z.i = x.i) := hid (by rw [← hz])
            clear hsp hs5 hz
            have N3 : True := trivial
            go_wp2_with (first
              | (refine wpList_loadRA rfl (.tmp 23) rfl b (off + j * 16) x rfl HC.out ?_)
              | (clear N3; refine wpList_storeW rfl (.tmp 7) (.tmp 24) 120 rfl _ 120 [.int .i64 a0.i, .int .i64 a0.s, .int .i64 a0.sp, .int .i64 a0.co, .int .i64 a0.th, .int .i64 a0.c.p, .int .i64 a0.c.q, .int .i64 a0.c.r0, .int .i64 a0.c.r1, .int .i64 a0.c.r2, .int .i64 a0.c.r3, .int .i64 a0.c.r4, .int .i64 a0.c.r5, .int .i64 a0.c.r6, .int .i64 a0.c.r7, .int .i64 a0.c.d] [.int .i64 x.i, .int .i64 x.s, .int .i64 x.sp, .int .i64 x.co, .int .i64 x.th, .int .i64 x.c.p, .int .i64 x.c.q, .int .i64 x.c.r0, .int .i64 x.c.r1, .int .i64 x.c.r2, .int .i64 x.c.r3, .int .i64 x.c.r4, .int .i64 x.c.r5, .int .i64 x.c.r6, .int .i64 x.c.r7, .int .i64 x.c.d] I120 (onesA x) rfl rfl (new_ra _) rfl ?_; intro w6 b6 f6; have B6 := hid b6; have S6 : Hid (Still w w6) := hid (Still.next (SX.out.alloc _) f6 (fun k hk => by rw [hk]; exact SX.out.size)); have d1 : w6.cell? ⟨wr.heap.size, 1, none⟩ = some (.int .i64 x.s) := b6.cell 1; have d2 : w6.cell? ⟨wr.heap.size, 2, none⟩ = some (.int .i64 x.sp) := b6.cell 2; have z1 := b6.frozen 1; have B4 : Hid (Blk (w6.setCell ⟨wr.heap.size, 1, none⟩ (.int .i64 1)) wr.heap.size [.int .i64 z.i, .int .i64 z.s, .int .i64 z.sp, .int .i64 z.co, .int .i64 z.th, .int .i64 z.c.p, .int .i64 z.c.q, .int .i64 z.c.r0, .int .i64 z.c.r1, .int .i64 z.c.r2, .int .i64 z.c.r3, .int .i64 z.c.r4, .int .i64 z.c.r5, .int .i64 z.c.r6, .int .i64 z.c.r7, .int .i64 z.c.d] 120) := hid (by rw [← HZ.out]; exact b6.put 1 _); have S4 : Hid (Still w (w6.setCell ⟨wr.heap.size, 1, none⟩ (.int .i64 1))) := hid (Fr.setCell S6.out (.inr SX.out.size) _); clear b6 f6)
              | (refine wpList_loadW rfl (.tmp 7) 120 rfl _ Tryd.underlying120 rfl _ 120 [.int .i64 z.i, .int .i64 z.s, .int .i64 z.sp, .int .i64 z.co, .int .i64 z.th, .int .i64 z.c.p, .int .i64 z.c.q, .int .i64 z.c.r0, .int .i64 z.c.r1, .int .i64 z.c.r2, .int .i64 z.c.r3, .int .i64 z.c.r4, .int .i64 z.c.r5, .int .i64 z.c.r6, .int .i64 z.c.r7, .int .i64 z.c.d] I120 rfl B4.out ?_))
            refine (xput (H.out.still S4.out) HL.out z).mono ?_
            rintro e w5 ⟨rfl, h5, f5⟩
            have d9 : w5.cell? ⟨wr.heap.size, 0, none⟩ = some (.int .i64 z.i) := (B4.out.fr f5 (by omega)).cell 0
            rw [ZI.out] at d9
            have H5 := hid (H.out.back S4.out.size h5 f5.size)
            have F5 : Hid (Fr O w w5) := hid ((S4.out.fr O).trans (f5.mono fun k _ hk => by rw [hk]; exact H.out.lQ))
            clear h5 f5
            go_wp2_with fail
            go_ret2
            exact ⟨by rw [EE.out.1, EE.out.2.1]; rfl, by rw [EE.out.2.2.1, EE.out.2.2.2, HZ.out]; exact H5.out, F5.out⟩
          · have e5 : (x.s == 5) = false := by simp [hs5]
            have NP : Hid ((L[j].sp == sp && L[j].s == 5) = false) := hid (by rw [HXX.out, e5]; simp)
            clear hsp hs5
            have N3 : True := trivial
            go_wp2_with (first
              | (refine wpList_loadRA rfl (.tmp 23) rfl b (off + j * 16) x rfl HC.out ?_)
              | (clear N3; refine wpList_storeW rfl (.tmp 7) (.tmp 24) 120 rfl _ 120 [.int .i64 a0.i, .int .i64 a0.s, .int .i64 a0.sp, .int .i64 a0.co, .int .i64 a0.th, .int .i64 a0.c.p, .int .i64 a0.c.q, .int .i64 a0.c.r0, .int .i64 a0.c.r1, .int .i64 a0.c.r2, .int .i64 a0.c.r3, .int .i64 a0.c.r4, .int .i64 a0.c.r5, .int .i64 a0.c.r6, .int .i64 a0.c.r7, .int .i64 a0.c.d] [.int .i64 x.i, .int .i64 x.s, .int .i64 x.sp, .int .i64 x.co, .int .i64 x.th, .int .i64 x.c.p, .int .i64 x.c.q, .int .i64 x.c.r0, .int .i64 x.c.r1, .int .i64 x.c.r2, .int .i64 x.c.r3, .int .i64 x.c.r4, .int .i64 x.c.r5, .int .i64 x.c.r6, .int .i64 x.c.r7, .int .i64 x.c.d] I120 (onesA x) rfl rfl (new_ra _) rfl ?_; intro w6 b6 f6; have B6 := hid b6; have S6 : Hid (Still w w6) := hid (Still.next (SX.out.alloc _) f6 (fun k hk => by rw [hk]; exact SX.out.size)); have d1 : w6.cell? ⟨wr.heap.size, 1, none⟩ = some (.int .i64 x.s) := b6.cell 1; have d2 : w6.cell? ⟨wr.heap.size, 2, none⟩ = some (.int .i64 x.sp) := b6.cell 2; clear b6 f6))
            go_roundw
            case rel => exact ⟨j + 1, by go_num, by omega, hid (fun i hi h1 => by
              by_cases e : i = j
              · subst e; exact NP.out
              · exact NO.out i hi (by omega)), S6⟩
            case measure => simp [intOf]; omega
        · have e1 : (x.sp == sp) = false := by simp [hsp]
          have NP : Hid ((L[j].sp == sp && L[j].s == 5) = false) := hid (by rw [HXX.out, e1]; rfl)
          clear hsp
          have N3 : True := trivial
          go_wp2_with (first
            | (refine wpList_loadRA rfl (.tmp 23) rfl b (off + j * 16) x rfl HC.out ?_)
            | (clear N3; refine wpList_storeW rfl (.tmp 7) (.tmp 24) 120 rfl _ 120 [.int .i64 a0.i, .int .i64 a0.s, .int .i64 a0.sp, .int .i64 a0.co, .int .i64 a0.th, .int .i64 a0.c.p, .int .i64 a0.c.q, .int .i64 a0.c.r0, .int .i64 a0.c.r1, .int .i64 a0.c.r2, .int .i64 a0.c.r3, .int .i64 a0.c.r4, .int .i64 a0.c.r5, .int .i64 a0.c.r6, .int .i64 a0.c.r7, .int .i64 a0.c.d] [.int .i64 x.i, .int .i64 x.s, .int .i64 x.sp, .int .i64 x.co, .int .i64 x.th, .int .i64 x.c.p, .int .i64 x.c.q, .int .i64 x.c.r0, .int .i64 x.c.r1, .int .i64 x.c.r2, .int .i64 x.c.r3, .int .i64 x.c.r4, .int .i64 x.c.r5, .int .i64 x.c.r6, .int .i64 x.c.r7, .int .i64 x.c.d] I120 (onesA x) rfl rfl (new_ra _) rfl ?_; intro w6 b6 f6; have B6 := hid b6; have S6 : Hid (Still w w6) := hid (Still.next (SX.out.alloc _) f6 (fun k hk => by rw [hk]; exact SX.out.size)); have d2 : w6.cell? ⟨wr.heap.size, 2, none⟩ = some (.int .i64 x.sp) := b6.cell 2; clear b6 f6))
          go_roundw
          case rel => exact ⟨j + 1, by go_num, by omega, hid (fun i hi h1 => by
            by_cases e : i = j
            · subst e; exact NP.out
            · exact NO.out i hi (by omega)), S6⟩
          case measure => simp [intOf]; omega
      · have hlt' : ¬ (j : Int) < (L.length : Int) := by omega
        have EE := hid (mk_new (s := s) HB0.out (mkF_no (L := L) (sp := sp) (fun i hi => NO.out i hi (by omega))))
        have G0 := Still.cell SX.out F0
        have HX := hid (H.out.still SX.out)
        obtain ⟨tv, htv⟩ : ∃ tv, takeV s = tv := ⟨_, rfl⟩
        obtain ⟨te, hte⟩ : ∃ te, takeE s = te := ⟨_, rfl⟩
        have TEC := takeE_cases s
        rw [hte] at TEC
        have HTV := hid htv
        have HTE := hid hte
        clear htv hte
        go_wp2_with fail
        refine (rtake HX.out.r HI.out.age).mono ?_
        rintro e w5 ⟨he, r5, f5⟩
        rw [HTV.out, HTE.out] at he
        subst he
        have H5 := hid (HX.out.frAT r5 f5)
        have F5 : Hid (Fr O w w5) := hid ((SX.out.fr O).trans (f5.mono fun k _ hk => hk.elim (fun h => h ▸ H.out.lA) (fun h => h ▸ H.out.lT)))
        clear r5 f5 G0
        rcases TEC with rfl | rfl
        · obtain ⟨z, hz⟩ : ∃ z : Ac, ⟨tv, 1, sp, -1, 0, c0⟩ = z := ⟨_, rfl⟩
          have HZ := hid hz
          go_wp2_with fail
          rw [show (Value.agg #[.int .i64 tv, .int .i64 1, .int .i64 sp, .int .i64 (-1), .int .i64 0, .int .i64 0, .int .i64 0, .int .i64 0, .int .i64 0, .int .i64 0, .int .i64 0, .int .i64 0, .int .i64 0, .int .i64 0, .int .i64 0, .int .i64 0]) = (Value.agg #[.int .i64 z.i, .int .i64 z.s, .int .i64 z.sp, .int .i64 z.co, .int .i64 z.th, .int .i64 z.c.p, .int .i64 z.c.q, .int .i64 z.c.r0, .int .i64 z.c.r1, .int .i64 z.c.r2, .int .i64 z.c.r3, .int .i64 z.c.r4, .int .i64 z.c.r5, .int .i64 z.c.r6, .int .i64 z.c.r7, .int .i64 z.c.d]) by rw [← hz]; rfl]
          clear hz
          refine (xput H5.out HL.out z).mono ?_
          rintro e w7 ⟨rfl, h7, f7⟩
          have H7 : Hid (RAAt w7 (upO O w w7) Q p A T cA cT (takeS s) (actE.ins z L)) := hid (H5.out.back (Nat.le_refl _) h7 f7.size |>.mono (fun k hk => hk.imp _root_.id fun h => ⟨Nat.le_trans F5.out.size h.1, h.2⟩) (fun k hk => hk.elim (fun h => by have := H.out.ub k h; have := F5.out.size; have := f7.size; omega) (fun h => h.2)))
          have F7 : Hid (Fr O w w7) := hid (F5.out.trans (f7.mono fun k _ hk => by rw [hk]; exact H.out.lQ))
          clear h7 f7
          go_wp2_with fail
          go_ret2
          exact ⟨by rw [EE.out.1, EE.out.2.1, HTV.out, HTE.out]; rfl, by rw [EE.out.2.2.1, EE.out.2.2.2, HTV.out, if_pos HTE.out, HZ.out]; exact H7.out, F7.out⟩
        · have TZ : Hid (tv = 0) := hid (by rw [← HTV.out]; exact takeV_no3 HTE.out)
          go_wp2_with fail
          go_ret2
          exact ⟨by rw [EE.out.1, EE.out.2.1, HTV.out, HTE.out, TZ.out]; rfl, by rw [EE.out.2.2.1, EE.out.2.2.2, if_neg (by rw [HTE.out]; decide)]; exact H5.out.mono (fun k hk => .inl hk) (fun k hk => hk.elim (fun h => by have := H.out.ub k h; have := F5.out.size; omega) (fun h => h.2)), F5.out⟩
end
end Go.Proofs.YtffjaaolcphonaaDoor
/- Life: All, the copies. -/
namespace Go.Proofs.YtffjaaolcphonaaDoor
open Go.RowKit Go.Maps Go.Shelf
set_option linter.unusedSimpArgs false
section
variable {w w' : World} {P : Nat} {B : SB} {M : Nat} {s : SS} {L : List Ac}
theorem cloneMapA {b : Nat} (h : MapL actE Tryd.prog w b L) : Calls Tryd.prog 121 #[.map (some b)] w fun e w' => ∃ b', e = .returned (.map (some b')) ∧ MapL actE Tryd.prog w' b' L ∧ Still w w' ∧ w.heap.size ≤ b' := by
  have hc := AnyW.maps_Clone_owns Tryd.cloneL 3 actE.R b L.length (actE.D L) w h.1
  change Calls Tryd.prog 121 _ _ _ at hc
  refine hc.mono ?_
  rintro e w' ⟨rfl, h1, _, h3⟩
  exact ⟨_, rfl, ⟨h1, h.2⟩, Fr.of_below0 h3 _, Nat.le_refl _⟩
set_option maxRecDepth 100000 in
set_option maxHeartbeats 4000000 in
theorem acopy (h : AAt w P B M s L) : Calls Tryd.prog 80 #[.pointer (some ⟨P, 0, none⟩)] w fun e w' => ∃ P' B' M', e = .returned (.pointer (some ⟨P', 0, none⟩)) ∧ AAt w' P' B' M' s L ∧ Still w w' ∧ TNew w P' B' M' := by
  have H := hid h
  have F0 := h.f0
  have F1 := h.f1
  clear h
  go_enter Tryd.func80, Tryd.ntmps80
  go_wp2_with (go_at_call 102; refine (amade H.out).mono ?_; rintro e w1 ⟨rfl, rfl⟩)
  refine Held.wp_region_held_tail (S := (fun w' => w'.cell? ⟨P, 0, none⟩ = some (.pointer (some ⟨B.P, 0, none⟩)) ∧ w'.cell? ⟨P, 1, none⟩ = some (.map (some M)))) 12 (by kernel_rfl) (by kernel_rfl) (by decide) ?hS1 (fun hHeld => ?hR1)
  case hS1 =>
    exact ⟨F0, F1⟩
  simp only [List.take_succ_cons, List.take_zero, List.drop_succ_cons, List.drop_zero]
  refine wpAnyH_take (i := 0) (oi := _) (v := ?v2) rfl (by kernel_rfl) (by kernel_rfl) (by kernel_rfl) (fun _ _ _ h => h) (Or.inl ⟨by rfl, ?y2⟩) (by assumption) ?r2
  case y2 => ((intro w hSw); (try dsimp only at hSw); go_simp; (try with_reducible rfl))
  (try simp only [Act.put, List.setIfInBounds_toArray, List.set_cons_zero, List.set_cons_succ])
  refine wpAnyH_take (i := 1) (oi := _) (v := ?v3) rfl (by kernel_rfl) (by kernel_rfl) (by kernel_rfl) (fun _ _ _ h => h) (Or.inl ⟨by rfl, ?y3⟩) (by assumption) ?r3
  case y3 => ((intro w hSw); (try dsimp only at hSw); go_simp; (try with_reducible rfl))
  (try simp only [Act.put, List.setIfInBounds_toArray, List.set_cons_zero, List.set_cons_succ])
  refine wpAnyH_take (i := 2) (oi := _) (v := ?v4) rfl (by kernel_rfl) (by kernel_rfl) (by kernel_rfl) (fun _ _ _ h => h) (Or.inl ⟨by rfl, ?y4⟩) (by assumption) ?r4
  case y4 => ((intro w hSw); (try dsimp only at hSw); go_simp; (try with_reducible rfl))
  (try simp only [Act.put, List.setIfInBounds_toArray, List.set_cons_zero, List.set_cons_succ])
  refine wpAnyH_take (i := 3) (oi := _) (v := ?v5) rfl (by kernel_rfl) (by kernel_rfl) (by kernel_rfl) (fun _ _ _ h => h) (Or.inl ⟨by rfl, ?y5⟩) (by assumption) ?r5
  case y5 => ((intro w hSw); (try dsimp only at hSw); go_simp; (try with_reducible rfl))
  (try simp only [Act.put, List.setIfInBounds_toArray, List.set_cons_zero, List.set_cons_succ])
  refine wpAnyH_take (i := 5) (oi := _) (v := ?v6) rfl (by kernel_rfl) (by kernel_rfl) (by kernel_rfl) (fun _ _ _ h => h) (Or.inl ⟨by rfl, ?y6⟩) (by assumption) ?r6
  case y6 => ((intro w hSw); (try dsimp only at hSw); go_simp; (try with_reducible rfl))
  (try simp only [Act.put, List.setIfInBounds_toArray, List.set_cons_zero, List.set_cons_succ])
  refine wpAnyH_take (i := 6) (oi := _) (v := ?v7) rfl (by kernel_rfl) (by kernel_rfl) (by kernel_rfl) (fun _ _ _ h => h) (Or.inl ⟨by rfl, ?y7⟩) (by assumption) ?r7
  case y7 => ((intro w hSw); (try dsimp only at hSw); go_simp; (try with_reducible rfl))
  (try simp only [Act.put, List.setIfInBounds_toArray, List.set_cons_zero, List.set_cons_succ])
  refine wpAnyH_take (i := 7) (oi := _) (v := ?v8) rfl (by kernel_rfl) (by kernel_rfl) (by kernel_rfl) (fun _ _ _ h => h) (Or.inl ⟨by rfl, ?y8⟩) (by assumption) ?r8
  case y8 => ((intro w hSw); (try dsimp only at hSw); go_simp; (try with_reducible rfl))
  (try simp only [Act.put, List.setIfInBounds_toArray, List.set_cons_zero, List.set_cons_succ])
  refine wpAnyH_take (i := 8) (oi := _) (v := ?v9) rfl (by kernel_rfl) (by kernel_rfl) (by kernel_rfl) (fun _ _ _ h => h) (Or.inl ⟨by rfl, ?y9⟩) (by assumption) ?r9
  case y9 => ((intro w hSw); (try dsimp only at hSw); go_simp; (try with_reducible rfl))
  (try simp only [Act.put, List.setIfInBounds_toArray, List.set_cons_zero, List.set_cons_succ])
  refine wpAnyH_ready (rs := [4]) (by kernel_rfl) (by simp) ?_
  refine AllReadyH.cons rfl (fun K hK => ?st10) AllReadyH.nil
  go_simp
  go_at_call 37
  refine (scopy _ B s (H.out.sl.still (by exact (Fr.refl _ _).drew))).mono ?_
  rintro e w1 ⟨C, rfl, hC, s1, n1⟩
  have HC := hid hC
  have S1 : Hid (Still w w1) := hid (Still.trans (Fr.refl _ _).drew s1)
  have N1 := hid n1
  clear hC s1 n1
  refine hK.out _ _ ?k10 (fun hHeld10 => ?_)
  case k10 =>
    exact ⟨Still.cell S1.out F0, Still.cell S1.out F1⟩
  clear hK K
  (try simp only [Act.put, List.setIfInBounds_toArray, List.set_cons_zero, List.set_cons_succ])
  refine wpAnyH_ready (rs := [9]) (by kernel_rfl) (by simp) ?_
  refine AllReadyH.cons rfl (fun K hK => ?st11) AllReadyH.nil
  go_simp
  go_at_call 121
  refine (cloneMapA (H.out.m.still S1.out)).mono ?_
  rintro e w2 ⟨b2, rfl, h2, s2, n2⟩
  have H2 := hid h2
  have S2 := hid (S1.out.trans s2)
  have N2 := hid (Nat.le_trans S1.out.size n2)
  have HC2 := hid (HC.out.still s2)
  have N3 : Hid (∀ k, C.foot k → k < w1.heap.size) := hid fun k hk => HC.out.lt hk
  have N4 := hid n2
  have N5 : Hid (b2 < w2.heap.size) := hid h2.lt
  clear h2 s2 n2
  refine hK.out _ _ ?k11 (fun hHeld11 => ?_)
  case k11 =>
    exact ⟨Still.cell S2.out F0, Still.cell S2.out F1⟩
  clear hK K
  (try simp only [Act.put, List.setIfInBounds_toArray, List.set_cons_zero, List.set_cons_succ])
  refine wpAnyH_take (i := 10) (oi := _) (v := ?v12) rfl (by kernel_rfl) (by kernel_rfl) (by kernel_rfl) (fun _ _ _ h => h) (Or.inl ⟨by rfl, ?y12⟩) (by assumption) ?r12
  case y12 => ((intro w hSw); (try dsimp only at hSw); go_simp; (try with_reducible rfl))
  (try simp only [Act.put, List.setIfInBounds_toArray, List.set_cons_zero, List.set_cons_succ])
  refine wpAnyH_ready (rs := [11]) (by kernel_rfl) (by simp) ?_
  refine AllReadyH.cons rfl (fun K hK => ?st13) AllReadyH.nil
  go_simp
  refine hK.out _ _ ?k13 (fun hHeld13 => ?_)
  case k13 =>
    exact ⟨Still.cell (S2.out.alloc _) F0, Still.cell (S2.out.alloc _) F1⟩
  clear hK K
  (try simp only [Act.put, List.setIfInBounds_toArray, List.set_cons_zero, List.set_cons_succ])
  refine wpAnyH_done (by kernel_rfl) (Held.tailQ_normal ?_) _
  go_wp2_with fail
  go_ret
  have z2 := S2.out.size
  refine ⟨w2.heap.size, C, b2, rfl, ⟨?_, ?_, HC2.out.still ((Fr.refl _ _).alloc _), H2.out.alloc _, by have := N5.out; omega, fun h => by have := HC2.out.lt h; omega, fun h => by have := N3.out _ h; have := N4.out; omega⟩, S2.out.alloc _, ⟨z2, N2.out, fun k hk => N1.out k hk⟩⟩
  · exact (Blk.new w2 [.pointer (some ⟨C.P, 0, none⟩), .map (some b2)] 129).cell 0
  · exact (Blk.new w2 [.pointer (some ⟨C.P, 0, none⟩), .map (some b2)] 129).cell 1
set_option maxRecDepth 100000 in
set_option maxHeartbeats 8000000 in
theorem aall (h : AAt w P B M s L) (hl : L.length ≤ 100000) (hw : ∀ x ∈ L, (Lit.int .i64 x.i).wf = true) : Calls Tryd.prog 74 #[.pointer (some ⟨P, 0, none⟩)] w fun e w' => ∃ v, e = .returned v ∧ w'.ownsRow w.heap.size 111 16 v L.length (S108.row L) ∧ Still w w' := by
  have H := hid h
  have HL := hid hl
  have HW := hid hw
  have UP := hid h.m.2
  clear h hl hw
  go_enter Tryd.func74, Tryd.ntmps74
  go_wp2_with fail
  refine (amade H.out).mono ?_
  rintro e w1 ⟨rfl, rfl⟩
  go_wp2_with fail
  refine (aids H.out HL.out).mono ?_
  rintro e w2 ⟨v2, rfl, o2, s2⟩
  obtain ⟨a13, c13, rfl⟩ := own_shape o2 _ rfl
  have O2 := hid o2
  have S2 := hid s2
  clear o2 s2
  go_wp2_with fail
  go_loopw [3, 6, 7, 8, 16] (fun s3 s6 s7 s8 s16 wr => ∃ j : Nat, s16 = .int .i64 j ∧ j ≤ L.length ∧ wr.ownsRow w2.heap.size 111 16 s3 j (S108.row (L.take j)) ∧ Still w2 wr) (fun _ _ _ _ s16 _ => L.length - (intOf s16).toNat)
  case atStart => exact ⟨0, rfl, Nat.zero_le _, owns_nilS (S := S108) _ _, Fr.refl _ _⟩
  case round =>
    obtain ⟨j, rfl, hj, ho, hst⟩ := hrel
    have OX := hid ho
    have SX := hid hst
    obtain ⟨a3, c3, rfl⟩ := own_shape ho _ rfl
    have hbb := HL.out
    clear ho hst
    by_cases hlt : j < L.length
    · have hlt' : (j : Int) < (L.length : Int) := by omega
      rcases own_cells O2.out (by simp) with ⟨_, _, _, m0⟩ | ⟨b2, q2, ev, m0, _, _, hc2⟩
      · omega
      obtain ⟨rfl, rfl⟩ : a13 = some ⟨b2, 0, none⟩ ∧ c13 = q2 := by injection ev with e1 _ e3; exact ⟨e1, e3⟩
      have c2 := Still.cell SX.out (hc2 j hlt)
      have hx : L[j] ∈ L := List.getElem_mem hlt
      obtain ⟨x, hxx⟩ : ∃ x, L[j] = x := ⟨_, rfl⟩
      rw [show (L.map actE.key).getD j 0 = x.i by simp [List.getD_eq_getElem?_getD, hlt, hxx, actE]] at c2
      rw [hxx] at hx
      have HX := hid hx
      have HXX := hid hxx
      have SW := hid (S2.out.trans SX.out)
      have GA := fndA_mem UP.out hx
      have GT := aget (H.out.still SW.out) x.i (HW.out x hx)
      rw [GA.1, GA.2] at GT
      have GG := hid GT
      clear hc2 ev hx hxx GA GT
      have zx := SX.out.size
      go_wp2_with fail
      refine GG.out.mono ?_
      rintro e w3 ⟨rfl, s3⟩
      have S3 := hid (SX.out.trans s3)
      have O3 := hid (own_still OX.out s3)
      clear s3
      have N2 : True := trivial
      go_wp2_with (first
        | (clear N2; refine wpList_storeW rfl (.tmp 7) (.tmp 24) 111 rfl _ 111 [.int .i64 a0.i, .int .i64 a0.s, .int .i64 a0.sp, .int .i64 a0.co, .int .i64 a0.th, .int .i64 a0.c.p, .int .i64 a0.c.q, .int .i64 a0.c.r0, .int .i64 a0.c.r1, .int .i64 a0.c.r2, .int .i64 a0.c.r3, .int .i64 a0.c.r4, .int .i64 a0.c.r5, .int .i64 a0.c.r6, .int .i64 a0.c.r7, .int .i64 a0.c.d] [.int .i64 x.i, .int .i64 x.s, .int .i64 x.sp, .int .i64 x.co, .int .i64 x.th, .int .i64 x.c.p, .int .i64 x.c.q, .int .i64 x.c.r0, .int .i64 x.c.r1, .int .i64 x.c.r2, .int .i64 x.c.r3, .int .i64 x.c.r4, .int .i64 x.c.r5, .int .i64 x.c.r6, .int .i64 x.c.r7, .int .i64 x.c.d] I111 (onesA x) rfl rfl (new_a _) rfl ?_; intro w4 b4 f4; have B4 := hid b4; have S4 : Hid (Still w2 w4) := hid (Still.next (S3.out.alloc _) f4 (fun k hk => by rw [hk]; exact S3.out.size)); have O4 := hid (own_fr (own_still O3.out ((Fr.refl _ w3).alloc _)) f4 (fun b hb e => by have := (own_lt2 O3.out hb).2; omega)); have z4 := S4.out.size; clear b4 f4)
        | (refine wpList_loadW rfl (.tmp 7) 111 rfl _ Tryd.underlying111 rfl _ 111 [.int .i64 x.i, .int .i64 x.s, .int .i64 x.sp, .int .i64 x.co, .int .i64 x.th, .int .i64 x.c.p, .int .i64 x.c.q, .int .i64 x.c.r0, .int .i64 x.c.r1, .int .i64 x.c.r2, .int .i64 x.c.r3, .int .i64 x.c.r4, .int .i64 x.c.r5, .int .i64 x.c.r6, .int .i64 x.c.r7, .int .i64 x.c.d] I111 rfl B4.out ?_)
        | (at_builtin; refine wpList_append_srow (S := S108) rfl (.tmp 26) (.tmp 28) rfl w2.heap.size j (L.take j) [x] _ _ rfl rfl (O4.out.alloc _) (one_newS (S := S108) _ x _) (by simp; omega) (by simp; omega) ?_; intro v5 w5 ho5 hg5 hl5; have O5 := hid ho5; have S5 : Hid (Still w2 w5) := hid (Fr.of_own (S4.out.alloc _) (O4.out.alloc _) hg5 (Nat.le_refl _)); clear ho5 hg5 hl5))
      go_roundw
      case rel => exact ⟨j + 1, by go_num, by omega, by have h := O5.out; rw [← HXX.out, List.take_append_getElem hlt] at h; exact h, S5.out⟩
      case measure => simp [intOf]; omega
    · have hlt' : ¬ (j : Int) < (L.length : Int) := by omega
      have e : j = L.length := by omega
      go_wp2_with fail
      go_ret
      refine ⟨_, rfl, ?_, S2.out.trans SX.out⟩
      have h := ownsRow_base OX.out (show w.heap.size ≤ w2.heap.size from S2.out.size)
      rw [e, List.take_length] at h
      exact h
end
theorem step_new114 {ops : Array Oper} {o : Oper} {a : Act} {w : World} {K : Act → World → Prop} {Q : Exit → Act → World → Prop} {E : Prop} (hgd : Region.wanted o (yielded ops a.tmps) = true) (ho : o.op = .buildSlice 114 0 #[])
    (h : ∀ g w', Blk w' g [] 120 → Still w w' → w.heap.size ≤ g → K (a.put o.dst (.slice (some ⟨g, 0, none⟩) 0 0)) w') : if Region.wanted o (yielded ops a.tmps) = true then Oper.wp Tryd.prog o a w K Q else E := by
  rw [if_pos hgd]
  have hrun : (Instr.buildSlice 114 0 #[]).run Tryd.prog w = .ok (.slice (some ⟨w.heap.size, 0, none⟩) 0 0) (w.alloc (.cells #[] 120)) := by kernel_rfl
  unfold Oper.wp execOp
  simp only [ho, Sem.run_bind, Sem.run_pure, Result.andThen_ok, List.map_toArray, List.map_nil, hrun]
  exact h _ _ (Blk.new w [] 120) ((Fr.refl _ _).alloc _) (Nat.le_refl _)
section
variable {w : World} {O : Nat → Prop} {Q p A T cA cT : Nat} {s : SS} {L : List Ac}
/-- The copy stands. -/
theorem xcopy_at {u : World} (hu : actE.Up L) (hl : L.length ≤ 100000) {p' A' T' cA' cT' : Nat} {v : Value} (hR : RAt u p' A' T' cA' cT' s) (oX : u.ownsRow w.heap.size 120 16 v L.length (S114.row L)) (hd : ∀ b, v.ownBlock = some b → b ≠ p' ∧ b ≠ A' ∧ b ≠ T') (hs : Still w u) (h1 : w.heap.size ≤ p') (h2 : w.heap.size ≤ A') (h3 : w.heap.size ≤ T') :
    RAAt (u.alloc (.cells #[.pointer (some ⟨p', 0, none⟩), v] 117)) (fun k => w.heap.size ≤ k ∧ k < (u.alloc (.cells #[.pointer (some ⟨p', 0, none⟩), v] 117)).heap.size) u.heap.size p' A' T' cA' cT' s L := by
  have hB := Blk.new u [.pointer (some ⟨p', 0, none⟩), v] 117
  have hz := hs.size
  have l1 := hR.hp.lt
  have l2 := hR.hA.lt
  have l3 := hR.hT.lt
  have zz : (u.alloc (.cells #[.pointer (some ⟨p', 0, none⟩), v] 117)).heap.size = u.heap.size + 1 := by simp
  rw [zz]
  refine ⟨hB.cell 0, ⟨v, hB.cell 1, own_still (ownsRow_base oX (Nat.zero_le _)) ((Fr.refl _ _).alloc _), fun b hb => ?_⟩, hB.frozen 1, hR.still ((Fr.refl _ _).alloc _), by omega, by omega, by omega, ⟨hz, by omega⟩, ⟨h1, by omega⟩, ⟨h2, by omega⟩, ⟨h3, by omega⟩, fun k hk => by rw [zz]; exact hk.2, hu, hl⟩
  have h4 := own_lt2 oX hb
  have h5 := hd b hb
  exact ⟨⟨h4.1, by omega⟩, by omega, h5.1, h5.2.1, h5.2.2⟩
set_option maxRecDepth 100000 in
set_option maxHeartbeats 4000000 in
theorem xcopy (h : RAAt w O Q p A T cA cT s L) : Calls Tryd.prog 81 #[.pointer (some ⟨Q, 0, none⟩)] w fun e w' =>
    ∃ Q' p' A' T' cA' cT', e = .returned (.pointer (some ⟨Q', 0, none⟩)) ∧ RAAt w' (fun k => w.heap.size ≤ k ∧ k < w'.heap.size) Q' p' A' T' cA' cT' s L ∧ Still w w' := by
  have F0 := h.f0
  obtain ⟨v, F1, v2, _⟩ := h.ex
  have RX := hid (SRow.own (S := S114) v2 rfl)
  obtain ⟨a, c, rfl⟩ := own_shape v2 _ rfl
  have HU := hid h.up
  have HL := hid h.len
  have HR := hid (fun (u : World) (hu : Still w u) => rcopy04 (h.r.still hu))
  clear h v2
  go_enter Tryd.func81, Tryd.ntmps81
  go_wp2_with fail
  refine Held.wp_region_held_tail (S := (fun w' => w'.cell? ⟨Q, 0, none⟩ = some (.pointer (some ⟨p, 0, none⟩)) ∧ w'.cell? ⟨Q, 1, none⟩ = some (.slice a L.length c))) 13 (by kernel_rfl) (by kernel_rfl) (by decide) ?hS14 (fun hHeld => ?hR14)
  case hS14 =>
    exact ⟨F0, F1⟩
  simp only [List.take_succ_cons, List.take_zero, List.drop_succ_cons, List.drop_zero]
  refine wpAnyH_take (i := 0) (oi := _) (v := ?v15) rfl (by kernel_rfl) (by kernel_rfl) (by kernel_rfl) (fun _ _ _ h => h) (Or.inl ⟨by rfl, ?y15⟩) (by assumption) ?r15
  case y15 => ((intro w hSw); (try dsimp only at hSw); go_simp; (try with_reducible rfl))
  (try simp only [Act.put, List.setIfInBounds_toArray, List.set_cons_zero, List.set_cons_succ])
  refine wpAnyH_take (i := 1) (oi := _) (v := ?v16) rfl (by kernel_rfl) (by kernel_rfl) (by kernel_rfl) (fun _ _ _ h => h) (Or.inl ⟨by rfl, ?y16⟩) (by assumption) ?r16
  case y16 => ((intro w hSw); (try dsimp only at hSw); go_simp; (try with_reducible rfl))
  (try simp only [Act.put, List.setIfInBounds_toArray, List.set_cons_zero, List.set_cons_succ])
  refine wpAnyH_take (i := 2) (oi := _) (v := ?v17) rfl (by kernel_rfl) (by kernel_rfl) (by kernel_rfl) (fun _ _ _ h => h) (Or.inl ⟨by rfl, ?y17⟩) (by assumption) ?r17
  case y17 => ((intro w hSw); (try dsimp only at hSw); go_simp; (try with_reducible rfl))
  (try simp only [Act.put, List.setIfInBounds_toArray, List.set_cons_zero, List.set_cons_succ])
  refine wpAnyH_take (i := 3) (oi := _) (v := ?v18) rfl (by kernel_rfl) (by kernel_rfl) (by kernel_rfl) (fun _ _ _ h => h) (Or.inl ⟨by rfl, ?y18⟩) (by assumption) ?r18
  case y18 => ((intro w hSw); (try dsimp only at hSw); go_simp; (try with_reducible rfl))
  (try simp only [Act.put, List.setIfInBounds_toArray, List.set_cons_zero, List.set_cons_succ])
  simp only [Act.put, List.getElem_toArray, List.getElem_cons_zero, List.getElem_cons_succ, List.setIfInBounds_toArray, List.set_cons_zero, List.set_cons_succ]
  refine wpAnyH_take (i := 6) (oi := _) (v := ?v19) rfl (by kernel_rfl) (by kernel_rfl) (by kernel_rfl) (fun _ _ _ h => h) (Or.inl ⟨by rfl, ?y19⟩) (by assumption) ?r19
  case y19 => ((intro w hSw); (try dsimp only at hSw); go_simp; (try with_reducible rfl))
  (try simp only [Act.put, List.setIfInBounds_toArray, List.set_cons_zero, List.set_cons_succ])
  refine wpAnyH_take (i := 7) (oi := _) (v := ?v20) rfl (by kernel_rfl) (by kernel_rfl) (by kernel_rfl) (fun _ _ _ h => h) (Or.inl ⟨by rfl, ?y20⟩) (by assumption) ?r20
  case y20 => ((intro w hSw); (try dsimp only at hSw); go_simp; (try with_reducible rfl))
  (try simp only [Act.put, List.setIfInBounds_toArray, List.set_cons_zero, List.set_cons_succ])
  refine wpAnyH_take (i := 8) (oi := _) (v := ?v21) rfl (by kernel_rfl) (by kernel_rfl) (by kernel_rfl) (fun _ _ _ h => h) (Or.inl ⟨by rfl, ?y21⟩) (by assumption) ?r21
  case y21 => ((intro w hSw); (try dsimp only at hSw); go_simp; (try with_reducible rfl))
  (try simp only [Act.put, List.setIfInBounds_toArray, List.set_cons_zero, List.set_cons_succ])
  refine wpAnyH_take (i := 9) (oi := _) (v := ?v22) rfl (by kernel_rfl) (by kernel_rfl) (by kernel_rfl) (fun _ _ _ h => h) (Or.inl ⟨by rfl, ?y22⟩) (by assumption) ?r22
  case y22 => ((intro w hSw); (try dsimp only at hSw); go_simp; (try with_reducible rfl))
  (try simp only [Act.put, List.setIfInBounds_toArray, List.set_cons_zero, List.set_cons_succ])
  simp only [Act.put, List.getElem_toArray, List.getElem_cons_zero, List.getElem_cons_succ, List.setIfInBounds_toArray, List.set_cons_zero, List.set_cons_succ]
  refine wpAnyH_ready (rs := [4, 5]) (by kernel_rfl) (by simp) ?_
  refine AllReadyH.cons rfl (fun K hK => ?_) (AllReadyH.cons rfl (fun K hK => ?_) AllReadyH.nil)
  · skip
    go_simp
    go_at_call 101
    refine (HR.out _ (by exact (Fr.refl _ _).drew)).mono ?_
    rintro e u1 ⟨p', A', T', cA', cT', rfl, r0, f0, l1, l2, l3⟩
    have RC := hid r0
    have V1 : Hid (Still w u1) := hid (Still.trans (Fr.refl _ _).drew f0)
    have L1 : Hid (w.heap.size ≤ p') := hid l1
    have L2 : Hid (w.heap.size ≤ A') := hid l2
    have L3 : Hid (w.heap.size ≤ T') := hid l3
    clear r0 f0 l1 l2 l3
    refine hK.out _ _ ?k23 (fun hHeld23 => ?_)
    case k23 =>
      exact ⟨Still.cell V1.out F0, Still.cell V1.out F1⟩
    clear hK K
    (try simp only [Act.put, List.setIfInBounds_toArray, List.set_cons_zero, List.set_cons_succ])
    refine wpAnyH_ready (rs := [5]) (by kernel_rfl) (by simp) ?_
    refine AllReadyH.cons rfl (fun K hK => ?st24) AllReadyH.nil
    refine step_new114 rfl rfl ?_
    intro gX u2 b1 f1 z1
    have NX := hid b1
    have V2 : Hid (Still w u2) := hid (V1.out.trans f1)
    have WX : Hid (w.heap.size ≤ gX) := hid (Nat.le_trans V1.out.size z1)
    have DN : Hid (gX ≠ p' ∧ gX ≠ A' ∧ gX ≠ T') := hid (by have h1 := RC.out.hp.lt; have h2 := RC.out.hA.lt; have h3 := RC.out.hT.lt; refine ⟨?_, ?_, ?_⟩ <;> omega)
    have RC := hid (RC.out.still f1)
    clear b1 f1 z1
    refine hK.out _ _ ?k24 (fun hHeld24 => ?_)
    case k24 =>
      exact ⟨Still.cell V2.out F0, Still.cell V2.out F1⟩
    clear hK K
    (try simp only [Act.put, List.setIfInBounds_toArray, List.set_cons_zero, List.set_cons_succ])
    refine wpAnyH_ready (rs := [10]) (by kernel_rfl) (by simp) ?_
    refine AllReadyH.cons rfl (fun K hK => ?st25) AllReadyH.nil
    refine step_app0 (S := S114) rfl (.tmp 8) (.tmp 12) rfl w.heap.size gX L _ rfl rfl NX.out WX.out (RX.out.still V2.out) (by have := HL.out; omega) ?_
    intro vX u3 o2 f2 q2
    obtain ⟨aX, kX, rfl⟩ := own_shape o2 _ rfl
    have OX := hid o2
    have V3 : Hid (Still w u3) := hid (Still.next V2.out f2 (fun k hk => by rw [hk]; exact WX.out))
    have DX : Hid (∀ b, (Value.slice aX L.length kX).ownBlock = some b → b ≠ p' ∧ b ≠ A' ∧ b ≠ T') := hid (fun b hb => by have h1 := RC.out.hp.lt; have h2 := RC.out.hA.lt; have h3 := RC.out.hT.lt; have h4 := DN.out; rcases q2 b hb with e | e <;> (refine ⟨?_, ?_, ?_⟩ <;> omega))
    have RC := hid (RC.out.fr f2 (fun e => DN.out.1 e.symm) (fun e => DN.out.2.1 e.symm) (fun e => DN.out.2.2 e.symm))
    clear o2 f2 q2
    refine hK.out _ _ ?k25 (fun hHeld25 => ?_)
    case k25 =>
      exact ⟨Still.cell V3.out F0, Still.cell V3.out F1⟩
    clear hK K
    (try simp only [Act.put, List.setIfInBounds_toArray, List.set_cons_zero, List.set_cons_succ])
    refine wpAnyH_take (i := 11) (oi := _) (v := ?v26) rfl (by kernel_rfl) (by kernel_rfl) (by kernel_rfl) (fun _ _ _ h => h) (Or.inl ⟨by rfl, ?y26⟩) (by assumption) ?r26
    case y26 => ((intro w hSw); (try dsimp only at hSw); go_simp; (try with_reducible rfl))
    (try simp only [Act.put, List.setIfInBounds_toArray, List.set_cons_zero, List.set_cons_succ])
    refine wpAnyH_ready (rs := [12]) (by kernel_rfl) (by simp) ?_
    refine AllReadyH.cons rfl (fun K hK => ?st27) AllReadyH.nil
    go_simp
    refine hK.out _ _ ?k27 (fun hHeld27 => ?_)
    case k27 =>
      exact ⟨Still.cell (V3.out.alloc _) F0, Still.cell (V3.out.alloc _) F1⟩
    clear hK K
    (try simp only [Act.put, List.setIfInBounds_toArray, List.set_cons_zero, List.set_cons_succ])
    refine wpAnyH_done (by kernel_rfl) (Held.tailQ_normal ?_) _
    go_wp2_with fail
    go_ret
    exact ⟨_, p', A', T', cA', cT', rfl, xcopy_at HU.out HL.out RC.out OX.out DX.out V3.out L1.out L2.out L3.out, V3.out.alloc _⟩
  · skip
    refine step_new114 rfl rfl ?_
    intro gX u1 b0 f0 z0
    have NX := hid b0
    have V1 : Hid (Still w u1) := hid (Still.trans (Fr.refl _ _).drew f0)
    have WX : Hid (w.heap.size ≤ gX) := hid (z0)
    clear b0 f0 z0
    refine hK.out _ _ ?k28 (fun hHeld28 => ?_)
    case k28 =>
      exact ⟨Still.cell V1.out F0, Still.cell V1.out F1⟩
    clear hK K
    (try simp only [Act.put, List.setIfInBounds_toArray, List.set_cons_zero, List.set_cons_succ])
    refine wpAnyH_ready (rs := [4]) (by kernel_rfl) (by simp) ?_
    refine AllReadyH.cons rfl (fun K hK => ?st29) AllReadyH.nil
    go_simp
    go_at_call 101
    refine (HR.out _ V1.out).mono ?_
    rintro e u2 ⟨p', A', T', cA', cT', rfl, r1, f1, l1, l2, l3⟩
    have RC := hid r1
    have V2 : Hid (Still w u2) := hid (V1.out.trans f1)
    have DN : Hid (gX ≠ p' ∧ gX ≠ A' ∧ gX ≠ T') := hid (by have := NX.out.lt; refine ⟨?_, ?_, ?_⟩ <;> omega)
    have L1 : Hid (w.heap.size ≤ p') := hid (Nat.le_trans V1.out.size l1)
    have L2 : Hid (w.heap.size ≤ A') := hid (Nat.le_trans V1.out.size l2)
    have L3 : Hid (w.heap.size ≤ T') := hid (Nat.le_trans V1.out.size l3)
    have NX := hid (NX.out.still f1)
    clear r1 f1 l1 l2 l3
    refine hK.out _ _ ?k29 (fun hHeld29 => ?_)
    case k29 =>
      exact ⟨Still.cell V2.out F0, Still.cell V2.out F1⟩
    clear hK K
    (try simp only [Act.put, List.setIfInBounds_toArray, List.set_cons_zero, List.set_cons_succ])
    refine wpAnyH_ready (rs := [10]) (by kernel_rfl) (by simp) ?_
    refine AllReadyH.cons rfl (fun K hK => ?st30) AllReadyH.nil
    refine step_app0 (S := S114) rfl (.tmp 8) (.tmp 12) rfl w.heap.size gX L _ rfl rfl NX.out WX.out (RX.out.still V2.out) (by have := HL.out; omega) ?_
    intro vX u3 o2 f2 q2
    obtain ⟨aX, kX, rfl⟩ := own_shape o2 _ rfl
    have OX := hid o2
    have V3 : Hid (Still w u3) := hid (Still.next V2.out f2 (fun k hk => by rw [hk]; exact WX.out))
    have DX : Hid (∀ b, (Value.slice aX L.length kX).ownBlock = some b → b ≠ p' ∧ b ≠ A' ∧ b ≠ T') := hid (fun b hb => by have h1 := RC.out.hp.lt; have h2 := RC.out.hA.lt; have h3 := RC.out.hT.lt; have h4 := DN.out; rcases q2 b hb with e | e <;> (refine ⟨?_, ?_, ?_⟩ <;> omega))
    have RC := hid (RC.out.fr f2 (fun e => DN.out.1 e.symm) (fun e => DN.out.2.1 e.symm) (fun e => DN.out.2.2 e.symm))
    clear o2 f2 q2
    refine hK.out _ _ ?k30 (fun hHeld30 => ?_)
    case k30 =>
      exact ⟨Still.cell V3.out F0, Still.cell V3.out F1⟩
    clear hK K
    (try simp only [Act.put, List.setIfInBounds_toArray, List.set_cons_zero, List.set_cons_succ])
    refine wpAnyH_take (i := 11) (oi := _) (v := ?v31) rfl (by kernel_rfl) (by kernel_rfl) (by kernel_rfl) (fun _ _ _ h => h) (Or.inl ⟨by rfl, ?y31⟩) (by assumption) ?r31
    case y31 => ((intro w hSw); (try dsimp only at hSw); go_simp; (try with_reducible rfl))
    (try simp only [Act.put, List.setIfInBounds_toArray, List.set_cons_zero, List.set_cons_succ])
    refine wpAnyH_ready (rs := [12]) (by kernel_rfl) (by simp) ?_
    refine AllReadyH.cons rfl (fun K hK => ?st32) AllReadyH.nil
    go_simp
    refine hK.out _ _ ?k32 (fun hHeld32 => ?_)
    case k32 =>
      exact ⟨Still.cell (V3.out.alloc _) F0, Still.cell (V3.out.alloc _) F1⟩
    clear hK K
    (try simp only [Act.put, List.setIfInBounds_toArray, List.set_cons_zero, List.set_cons_succ])
    refine wpAnyH_done (by kernel_rfl) (Held.tailQ_normal ?_) _
    go_wp2_with fail
    go_ret
    exact ⟨_, p', A', T', cA', cT', rfl, xcopy_at HU.out HL.out RC.out OX.out DX.out V3.out L1.out L2.out L3.out, V3.out.alloc _⟩
end
end Go.Proofs.YtffjaaolcphonaaDoor
/- Life: Drop, on both sides. -/
namespace Go.Proofs.YtffjaaolcphonaaDoor
open Go.RowKit Go.Maps
set_option linter.unusedSimpArgs false
def drS (s : SS) (sp : Int) (L : List Ac) : SS := L.foldl (fun s x => if x.sp = sp then freeS s x.i else s) s
def drL (L : List Ac) (sp : Int) : List Ac := L.filter fun x => x.sp != sp
def drN (L : List Ac) (sp : Int) : Nat := L.countP fun x => x.sp == sp
def drJ (L : List Ac) (sp : Int) (j : Nat) : List Ac := drL (L.take j) sp ++ L.drop j
section
variable {s : SS} {L : List Ac} {sp : Int} {j : Nat} {y : Ac}
theorem dr_drop (hj : j < L.length) (hy : L[j] = y) : L.drop j = y :: L.drop (j + 1) := by rw [← hy]; exact (List.getElem_cons_drop hj).symm
theorem drJ_sub : (drJ L sp j).Sublist L := by
  have h : (drJ L sp j).Sublist (L.take j ++ L.drop j) := List.Sublist.append List.filter_sublist (List.Sublist.refl _)
  rwa [List.take_append_drop] at h
theorem drJ_up (hu : actE.Up L) : actE.Up (drJ L sp j) := hu.sublist drJ_sub
theorem drJ_mem (hj : j < L.length) (hy : L[j] = y) : y ∈ drJ L sp j := by
  unfold drJ; rw [dr_drop hj hy]; simp
theorem drJ_len : (drJ L sp j).length ≤ L.length := drJ_sub.length_le
theorem dr_yes (hu : actE.Up L) (hj : j < L.length) (hy : L[j] = y) (h : y.sp = sp) : actE.del y.i (drJ L sp j) = drJ L sp (j + 1) ∧ drS s sp (L.take (j + 1)) = freeS (drS s sp (L.take j)) y.i ∧ drN (L.take (j + 1)) sp = drN (L.take j) sp + 1 := by
  have hp := List.pairwise_iff_getElem.1 hu
  refine ⟨?_, ?_, ?_⟩
  · unfold drJ drL
    rw [take_next hj hy, dr_drop hj hy]
    unfold El.del
    rw [List.filter_append, List.filter_append]
    have e1 : ((L.take j).filter fun x => x.sp != sp).filter (fun x => actE.key x != y.i) = (L.take j).filter fun x => x.sp != sp := by
      rw [List.filter_eq_self]
      intro x hx
      obtain ⟨i, hi, rfl⟩ := List.getElem_of_mem (List.mem_filter.1 hx).1
      have hi' : i < j := by have := hi; simp at this; omega
      have h2 : L[i].i < L[j].i := hp i j (by omega) hj hi'
      rw [List.getElem_take]
      show (L[i].i != y.i) = true
      rw [hy] at h2; simp; omega
    have e2 : (y :: L.drop (j + 1)).filter (fun x => actE.key x != y.i) = L.drop (j + 1) := by
      rw [List.filter_cons]
      have : (actE.key y != y.i) = false := by simp [actE]
      rw [this]
      simp only [Bool.false_eq_true, if_false]
      rw [List.filter_eq_self]
      intro x hx
      obtain ⟨i, hi, rfl⟩ := List.getElem_of_mem hx
      have hi' : j + 1 + i < L.length := by have := hi; simp at this; omega
      have h2 : L[j].i < L[j + 1 + i].i := hp j (j + 1 + i) hj hi' (by omega)
      rw [List.getElem_drop]
      show (L[j + 1 + i].i != y.i) = true
      rw [hy] at h2; simp; omega
    have e3 : [y].filter (fun x => x.sp != sp) = [] := by simp [h]
    rw [e1, e2, e3, List.append_nil]
  · unfold drS
    rw [take_next hj hy, List.foldl_append]
    simp [h]
  · unfold drN
    rw [take_next hj hy, List.countP_append]
    simp [h]
theorem dr_not (hj : j < L.length) (hy : L[j] = y) (h : ¬ y.sp = sp) : drJ L sp (j + 1) = drJ L sp j ∧ drS s sp (L.take (j + 1)) = drS s sp (L.take j) ∧ drN (L.take (j + 1)) sp = drN (L.take j) sp := by
  refine ⟨?_, ?_, ?_⟩
  · unfold drJ drL
    rw [take_next hj hy, dr_drop hj hy, List.filter_append]
    have e3 : [y].filter (fun x => x.sp != sp) = [y] := by simp [h]
    rw [e3, List.append_assoc]; rfl
  · unfold drS
    rw [take_next hj hy, List.foldl_append]
    simp [h]
  · unfold drN
    rw [take_next hj hy, List.countP_append]
    simp [h]
theorem dr_end (h : j = L.length) : drJ L sp j = drL L sp ∧ drS s sp (L.take j) = drS s sp L ∧ drN (L.take j) sp = drN L sp := by
  subst h
  unfold drJ
  rw [List.take_length, List.drop_length, List.append_nil]
  exact ⟨rfl, rfl, rfl⟩
theorem drN_le : drN (L.take j) sp ≤ L.length := by
  have h1 : drN (L.take j) sp ≤ (L.take j).length := List.countP_le_length
  have h2 : (L.take j).length ≤ L.length := by simp; omega
  omega
theorem field2 (x : Ac) : ∀ u : World, (Instr.field 111 (Value.agg #[.int .i64 x.i, .int .i64 x.s, .int .i64 x.sp, .int .i64 x.co, .int .i64 x.th, .int .i64 x.c.p, .int .i64 x.c.q, .int .i64 x.c.r0, .int .i64 x.c.r1, .int .i64 x.c.r2, .int .i64 x.c.r3, .int .i64 x.c.r4, .int .i64 x.c.r5, .int .i64 x.c.r6, .int .i64 x.c.r7, .int .i64 x.c.d]) 2).run Tryd.prog u = .ok (.int .i64 x.sp) u := fun _ => by kernel_rfl
theorem SI.drop {s : SS} (h : SI s) (sp : Int) : ∀ L : List Ac, SI (drS s sp L) := by
  intro L
  induction L generalizing s with
  | nil => exact h
  | cons x r ih =>
    unfold drS at ih ⊢
    rw [List.foldl_cons]
    apply ih
    split
    · exact h.free _
    · exact h
end
section
variable {w w' : World} {P : Nat} {B : SB} {M : Nat} {s : SS} {L : List Ac}
set_option maxRecDepth 100000 in
set_option maxHeartbeats 8000000 in
theorem adrop (h : AAt w P B M s L) (hl : L.length ≤ 1000) (hI : SI s) (hw : ∀ x ∈ L, (Lit.int .i64 x.i).wf = true) (sp : Int) : Calls Tryd.prog 82 #[.pointer (some ⟨P, 0, none⟩), .int .i64 sp] w fun e w' =>
    e = .returned (.int .i64 (drN L sp)) ∧ AAt w' P B M (drS s sp L) (drL L sp) ∧ Fr (fun k => k = M ∨ k = B.P) w w' := by
  have H := hid h
  have HL := hid hl
  have HW := hid hw
  have HI := hid hI
  have UP := hid h.m.2
  have LM := hid h.m.lt
  have LB : Hid (B.P < w.heap.size) := hid (h.sl.lt (.inl rfl))
  clear h hl hw hI
  go_enter Tryd.func82, Tryd.ntmps82
  go_wp2_with fail
  refine (amade H.out).mono ?_
  rintro e w1 ⟨rfl, rfl⟩
  go_wp2_with fail
  refine (aids H.out (by have := HL.out; omega)).mono ?_
  rintro e w2 ⟨v2, rfl, o2, s2⟩
  obtain ⟨a13, c13, rfl⟩ := own_shape o2 _ rfl
  have O2 := hid o2
  have S2 := hid s2
  have T2 : Hid (AAt w2 P B M (drS s sp (L.take 0)) (drJ L sp 0)) := hid (H.out.still s2)
  clear o2 s2
  go_wp2_with fail
  go_loopw [5, 7, 13] (fun s5 s7 s13 wr => ∃ j : Nat, s13 = .int .i64 j ∧ j ≤ L.length ∧ s5 = .int .i64 (drN (L.take j) sp) ∧ Hid (AAt wr P B M (drS s sp (L.take j)) (drJ L sp j)) ∧ Hid (Fr (fun k => k = M ∨ k = B.P) w2 wr)) (fun _ _ s13 _ => L.length - (intOf s13).toNat)
  case atStart => exact ⟨0, rfl, Nat.zero_le _, rfl, T2, hid (Fr.refl _ _)⟩
  case round =>
    obtain ⟨j, rfl, hj, rfl, TX, FX⟩ := hrel
    have hbb := HL.out
    have NL := hid (drN_le (L := L) (j := j) (sp := sp))
    by_cases hlt : j < L.length
    · have hlt' : (j : Int) < (L.length : Int) := by omega
      rcases own_cells O2.out (by simp) with ⟨_, _, _, m0⟩ | ⟨b2, q2, ev, m0, hb2, _, hc2⟩
      · omega
      obtain ⟨rfl, rfl⟩ : a13 = some ⟨b2, 0, none⟩ ∧ c13 = q2 := by injection ev with e1 _ e3; exact ⟨e1, e3⟩
      have hbl : w.heap.size ≤ b2 := (own_lt2 O2.out (b := b2) rfl).1
      have c2 := FX.out.cellK (hc2 j hlt) (fun e => by have h1 := LM.out; have h2 := LB.out; rcases e with e | e <;> omega)
      have hx : L[j] ∈ L := List.getElem_mem hlt
      obtain ⟨x, hxx⟩ : ∃ x, L[j] = x := ⟨_, rfl⟩
      rw [show (L.map actE.key).getD j 0 = x.i by simp [List.getD_eq_getElem?_getD, hlt, hxx, actE]] at c2
      rw [hxx] at hx
      have WX := hid (HW.out x hx)
      have MX := hid (drJ_mem (sp := sp) hlt hxx)
      have G1 := TX.out.f1
      obtain ⟨n, hn⟩ : ∃ n, drN (L.take j) sp = n := ⟨_, rfl⟩
      have HN := hid hn
      by_cases hsp : x.sp = sp
      · have e1 : (x.sp == sp) = true := by simp [hsp]
        have DY := hid (dr_yes (s := s) UP.out hlt hxx hsp)
        have FL := field2 x
        rw [hn]
        clear hc2 ev hx hxx hsp hn
        go_wp2_with (at_lookup; refine wpList_lookA2 rfl (.tmp 20) (.tmp 21) rfl TX.out.m rfl x MX.out WX.out rfl ?_)
        refine (aout TX.out (HI.out.drop sp _) x.i WX.out).mono ?_
        rintro e w5 ⟨rfl, h5, f5⟩
        rw [DY.out.1, ← DY.out.2.1] at h5
        have H5 := hid h5
        have F5 := hid (FX.out.trans f5)
        clear h5 f5
        go_wp2_with fail
        go_roundw
        case rel => exact ⟨j + 1, by go_num, by omega, by have c2 := NL.out; rw [HN.out] at c2; have hw : wrap64 ((n : Int) + 1) = ((n + 1 : Nat) : Int) := by { unfold wrap64; omega }; rw [DY.out.2.2, HN.out, hw], H5, F5⟩
        case measure => simp [intOf]; omega
      · have e1 : (x.sp == sp) = false := by simp [hsp]
        have DN := hid (dr_not (s := s) hlt hxx hsp)
        have FL := field2 x
        rw [hn]
        clear hc2 ev hx hxx hsp hn
        go_wp2_with (at_lookup; refine wpList_lookA2 rfl (.tmp 20) (.tmp 21) rfl TX.out.m rfl x MX.out WX.out rfl ?_)
        go_roundw
        case rel => exact ⟨j + 1, by go_num, by omega, by rw [DN.out.2.2, HN.out], hid (by rw [DN.out.1, DN.out.2.1]; exact TX.out), FX⟩
        case measure => simp [intOf]; omega
    · have hlt' : ¬ (j : Int) < (L.length : Int) := by omega
      have DE := hid (dr_end (s := s) (sp := sp) (show j = L.length by omega))
      go_wp2_with fail
      go_ret
      exact ⟨by rw [← DE.out.2.2]; rfl, by rw [← DE.out.1, ← DE.out.2.1]; exact TX.out, (S2.out.fr _).trans FX.out⟩
end
section
variable {w w' : World} {O : Nat → Prop} {Q p A T cA cT : Nat} {s : SS} {L : List Ac}
set_option maxRecDepth 100000 in
set_option maxHeartbeats 8000000 in
theorem xdrop (h : RAAt w O Q p A T cA cT s L) (hl : L.length ≤ 1000) (hw : ∀ x ∈ L, (Lit.int .i64 x.i).wf = true) (sp : Int) : Calls Tryd.prog 119 #[.pointer (some ⟨Q, 0, none⟩), .int .i64 sp] w fun e w' =>
    e = .returned (.int .i64 (drN L sp)) ∧ RAAt w' (upO O w w') Q p A T cA cT (drS s sp L) (drL L sp) ∧ Fr O w w' := by
  have H := hid h
  have HL := hid hl
  have HW := hid hw
  have UP := hid h.up
  obtain ⟨v, v1, v2, v3⟩ := h.ex
  have R := hid (SRow.own (S := S114) v2 rfl)
  obtain ⟨a, c, rfl⟩ := own_shape v2 _ rfl
  have V3 : Hid (∀ b off c' n, Value.slice a L.length c = .slice (some ⟨b, off, none⟩) n c' → ¬ (b = Q ∨ b = T)) := hid (fun b off c' n e => by
    have h1 := v3 b (by rw [e]; rfl)
    exact fun h => h.elim h1.2.1 h1.2.2.2.2)
  have T0 : Hid (RAAt w (upO O w w) Q p A T cA cT (drS s sp (L.take 0)) (drJ L sp 0)) := hid h.up0
  clear h hl hw v2 v3
  go_enter Tryd.func119, Tryd.ntmps119
  go_wp2_with fail
  go_loopw [5, 7, 13] (fun s5 s7 s13 wr => ∃ j : Nat, s13 = .int .i64 j ∧ j ≤ L.length ∧ s5 = .int .i64 (drN (L.take j) sp) ∧ Hid (RAAt wr (upO O w wr) Q p A T cA cT (drS s sp (L.take j)) (drJ L sp j)) ∧ Hid (SRow S114 wr (.slice a L.length c) L) ∧ Hid (Fr O w wr)) (fun _ _ s13 _ => L.length - (intOf s13).toNat)
  case atStart => exact ⟨0, rfl, Nat.zero_le _, rfl, T0, R, hid (Fr.refl _ _)⟩
  case round =>
    clear R T0
    obtain ⟨j, rfl, hj, rfl, TX, R, FX⟩ := hrel
    have hbb := HL.out
    have NL := hid (drN_le (L := L) (j := j) (sp := sp))
    by_cases hlt : j < L.length
    · have hlt' : (j : Int) < (L.length : Int) := by omega
      obtain ⟨b, off, c2, ev, hc⟩ := R.out.at hlt
      obtain ⟨rfl, rfl⟩ : a = some ⟨b, off, none⟩ ∧ c = c2 := by injection ev with e1 _ e3; exact ⟨e1, e3⟩
      have hx : L[j] ∈ L := List.getElem_mem hlt
      obtain ⟨x, hxx⟩ : ∃ x, L[j] = x := ⟨_, rfl⟩
      rw [hxx] at hc hx
      have WX := hid (HW.out x hx)
      have HC : Hid (wr.rangeAt b (off + j * 16) [.int .i64 x.i, .int .i64 x.s, .int .i64 x.sp, .int .i64 x.co, .int .i64 x.th, .int .i64 x.c.p, .int .i64 x.c.q, .int .i64 x.c.r0, .int .i64 x.c.r1, .int .i64 x.c.r2, .int .i64 x.c.r3, .int .i64 x.c.r4, .int .i64 x.c.r5, .int .i64 x.c.r6, .int .i64 x.c.r7, .int .i64 x.c.d]) := hid hc
      obtain ⟨n, hn⟩ : ∃ n, drN (L.take j) sp = n := ⟨_, rfl⟩
      have HN := hid hn
      by_cases hsp : x.sp = sp
      · have e1 : (x.sp == sp) = true := by simp [hsp]
        have DY := hid (dr_yes (s := s) UP.out hlt hxx hsp)
        rw [hn]
        clear hc ev hx hxx hsp hn
        have N2 : True := trivial
        go_wp2_with (first
          | (refine wpList_loadRA rfl (.tmp 15) rfl b (off + j * 16) x rfl HC.out ?_)
          | (clear N2; refine wpList_storeW rfl (.tmp 7) (.tmp 16) 120 rfl _ 120 [.int .i64 a0.i, .int .i64 a0.s, .int .i64 a0.sp, .int .i64 a0.co, .int .i64 a0.th, .int .i64 a0.c.p, .int .i64 a0.c.q, .int .i64 a0.c.r0, .int .i64 a0.c.r1, .int .i64 a0.c.r2, .int .i64 a0.c.r3, .int .i64 a0.c.r4, .int .i64 a0.c.r5, .int .i64 a0.c.r6, .int .i64 a0.c.r7, .int .i64 a0.c.d] [.int .i64 x.i, .int .i64 x.s, .int .i64 x.sp, .int .i64 x.co, .int .i64 x.th, .int .i64 x.c.p, .int .i64 x.c.q, .int .i64 x.c.r0, .int .i64 x.c.r1, .int .i64 x.c.r2, .int .i64 x.c.r3, .int .i64 x.c.r4, .int .i64 x.c.r5, .int .i64 x.c.r6, .int .i64 x.c.r7, .int .i64 x.c.d] I120 (onesA x) rfl rfl (new_ra _) rfl ?_; intro w3 b3 f3; have d0 : w3.cell? ⟨wr.heap.size, 0, none⟩ = some (.int .i64 x.i) := b3.cell 0; have d2 : w3.cell? ⟨wr.heap.size, 2, none⟩ = some (.int .i64 x.sp) := b3.cell 2; have S3 : Hid (Still wr w3) := hid (Still.next ((Fr.refl _ _).alloc _) f3 (fun k hk => by rw [hk]; exact Nat.le_refl _)); clear b3 f3))
        refine (xout (TX.out.still S3.out) (by have := drJ_len (L := L) (sp := sp) (j := j); have := HL.out; omega) x.i (wf_in WX.out)).mono ?_
        rintro e w5 ⟨rfl, h5, f5⟩
        rw [DY.out.1, ← DY.out.2.1] at h5
        have H5 : Hid (RAAt w5 (upO O w w5) Q p A T cA cT (drS s sp (L.take (j + 1))) (drJ L sp (j + 1))) := hid (h5.mono (fun k hk => by
          have z1 := FX.out.size; have z2 := S3.out.size; have z3 := f5.size
          rcases hk with (hk | hk) | hk
          · exact .inl hk
          · exact .inr ⟨hk.1, by omega⟩
          · exact .inr ⟨by omega, hk.2⟩) (fun k hk => hk.elim (fun h => by have := H.out.ub k h; have z1 := FX.out.size; have z2 := S3.out.size; have z3 := f5.size; omega) (fun h => h.2)))
        have R5 := hid ((R.out.still S3.out).fr f5 V3.out)
        have F5 : Hid (Fr O w w5) := hid ((FX.out.trans (S3.out.fr O)).trans (f5.mono fun k _ hk => hk.elim (fun h => h ▸ H.out.lQ) (fun h => h ▸ H.out.lT)))
        clear h5 f5
        go_wp2_with fail
        go_roundw
        case rel => exact ⟨j + 1, by go_num, by omega, by have c2 := NL.out; rw [HN.out] at c2; have hw : wrap64 ((n : Int) + 1) = ((n + 1 : Nat) : Int) := by { unfold wrap64; omega }; rw [DY.out.2.2, HN.out, hw], H5, R5, F5⟩
        case measure => simp [intOf]; omega
      · have e1 : (x.sp == sp) = false := by simp [hsp]
        have DN := hid (dr_not (s := s) hlt hxx hsp)
        rw [hn]
        clear hc ev hx hxx hsp hn
        have N2 : True := trivial
        go_wp2_with (first
          | (refine wpList_loadRA rfl (.tmp 15) rfl b (off + j * 16) x rfl HC.out ?_)
          | (clear N2; refine wpList_storeW rfl (.tmp 7) (.tmp 16) 120 rfl _ 120 [.int .i64 a0.i, .int .i64 a0.s, .int .i64 a0.sp, .int .i64 a0.co, .int .i64 a0.th, .int .i64 a0.c.p, .int .i64 a0.c.q, .int .i64 a0.c.r0, .int .i64 a0.c.r1, .int .i64 a0.c.r2, .int .i64 a0.c.r3, .int .i64 a0.c.r4, .int .i64 a0.c.r5, .int .i64 a0.c.r6, .int .i64 a0.c.r7, .int .i64 a0.c.d] [.int .i64 x.i, .int .i64 x.s, .int .i64 x.sp, .int .i64 x.co, .int .i64 x.th, .int .i64 x.c.p, .int .i64 x.c.q, .int .i64 x.c.r0, .int .i64 x.c.r1, .int .i64 x.c.r2, .int .i64 x.c.r3, .int .i64 x.c.r4, .int .i64 x.c.r5, .int .i64 x.c.r6, .int .i64 x.c.r7, .int .i64 x.c.d] I120 (onesA x) rfl rfl (new_ra _) rfl ?_; intro w3 b3 f3; have d2 : w3.cell? ⟨wr.heap.size, 2, none⟩ = some (.int .i64 x.sp) := b3.cell 2; have S3 : Hid (Still wr w3) := hid (Still.next ((Fr.refl _ _).alloc _) f3 (fun k hk => by rw [hk]; exact Nat.le_refl _)); clear b3 f3))
        go_roundw
        case rel => exact ⟨j + 1, by go_num, by omega, by rw [DN.out.2.2, HN.out], hid (by rw [DN.out.1, DN.out.2.1]; exact (TX.out.still S3.out).mono (fun k hk => hk.imp _root_.id fun h => ⟨h.1, Nat.lt_of_lt_of_le h.2 S3.out.size⟩) (fun k hk => hk.elim (fun h => by have := H.out.ub k h; have z1 := FX.out.size; have z2 := S3.out.size; omega) (fun h => h.2))), hid (R.out.still S3.out), hid (FX.out.trans (S3.out.fr O))⟩
        case measure => simp [intOf]; omega
    · have hlt' : ¬ (j : Int) < (L.length : Int) := by omega
      have DE := hid (dr_end (s := s) (sp := sp) (show j = L.length by omega))
      go_wp2_with fail
      go_ret
      exact ⟨by rw [← DE.out.2.2]; rfl, by rw [← DE.out.1, ← DE.out.2.1]; exact TX.out, FX.out⟩
end
end Go.Proofs.YtffjaaolcphonaaDoor
