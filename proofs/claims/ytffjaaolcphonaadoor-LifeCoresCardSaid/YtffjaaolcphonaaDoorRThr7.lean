/- The document's threads: Spawn. -/
import Derived.Test.YtffjaaolcphonaaDoorBdRThr
namespace Go.Proofs.YtffjaaolcphonaaDoor
open Go.RowKit Go.Maps
set_option linter.unusedSimpArgs false
section
variable {w w' : World} {O : Nat → Prop} {Q p A T cA cT : Nat} {s : SS} {L : List Thr}
theorem ins_pos {L : List Thr} {x : Thr} (h : thrE.Up L) {i : Nat} (hi : i ≤ L.length) (h1 : ∀ j (hj : j < L.length), j < i → L[j].i < x.i) (h2 : ∀ (hj : i < L.length), x.i < L[i].i) : thrE.ins x L = L.take i ++ [x] ++ L.drop i := by
  induction L generalizing i with
  | nil => simp [El.ins]
  | cons y r ih =>
    obtain ⟨hy, hr⟩ := List.pairwise_cons.1 h
    rw [El.ins]
    cases i with
    | zero =>
      have h3 : x.i < y.i := h2 (by simp)
      rw [if_pos (show thrE.key x < thrE.key y from h3)]; rfl
    | succ i =>
      have h3 : y.i < x.i := h1 0 (by simp) (by omega)
      rw [if_neg (show ¬ thrE.key x < thrE.key y by show ¬ x.i < y.i; omega), if_neg (show ¬ thrE.key x = thrE.key y by show ¬ x.i = y.i; omega), ih hr (by simpa using hi) (fun j hj hji => h1 (j + 1) (by simpa using hj) (by omega)) (fun hj => h2 (by simpa using hj))]
      rfl
theorem takeV_no {s : SS} (h : takeE s = 3) : takeV s = 0 := by
  unfold takeE at h
  unfold takeV
  split at h
  · rfl
  · cases h
theorem RTAt.opened' (h : RTAt w O Q p A T cA cT s L) : (L = [] ∧ w.cell? ⟨Q, 1, none⟩ = some (.slice none 0 0)) ∨ ∃ g cap C, ROpen w O Q p A T L g cap C := by
  obtain ⟨v, v1, ⟨h0, ⟨rfl, h2⟩ | ⟨g, cap, cur, rfl, hg, hcur, c1, c2, c3, c4⟩⟩, v3⟩ := h.ex
  · exact .inl ⟨List.eq_nil_of_length_eq_zero h2, v1⟩
  · obtain ⟨n0, n1, n2, n3, n4⟩ := v3 g rfl
    exact .inr ⟨g, cap, cur.toList, v1, n0, hcur, c1, c2, by simpa using c3, c4, n1, n2, n3, n4⟩
theorem RTAt.frAT {s' : SS} (h : RTAt w O Q p A T cA cT s L) (hr : RAt w' p A T cA cT s') (hf : Fr (fun k => k = A ∨ k = T) w w') : RTAt w' O Q p A T cA cT s' L := by
  obtain ⟨v, v1, v2, v3⟩ := h.ex
  have nQ : ¬ (Q = A ∨ Q = T) := fun e => e.elim h.qA h.qT
  refine ⟨hf.cellK h.f0 nQ, ⟨v, hf.cellK v1 nQ, ?_, v3⟩, ?_, hr, h.qp, h.qA, h.qT, h.lQ, h.lp, h.lA, h.lT, fun k hk => Nat.lt_of_lt_of_le (h.ub k hk) hf.size, h.up, h.len⟩
  · obtain ⟨e, ⟨rfl, h2⟩ | ⟨g, cap, cur, rfl, hg, hcur, r⟩⟩ := v2
    · exact ⟨e, .inl ⟨rfl, h2⟩⟩
    · have hgl := (Array.getElem?_eq_some_iff.1 hcur).1
      obtain ⟨_, _, _, n3, n4⟩ := v3 g rfl
      exact ⟨e, .inr ⟨g, cap, cur, rfl, hg, (hf.block g hgl (fun e => e.elim n3 n4)).trans hcur, r⟩⟩
  · have hq := World.block_lt_of_cell? _ _ h.f0
    rw [← h.z1]; unfold World.frozen?; rw [hf.block Q hq nQ]
theorem owns_newS1 {α : Type} {S : SK α} (w : World) (o : Obj) : ((w.alloc o).alloc (.cells #[] S.Et)).ownsRow w.heap.size S.Et S.sz (.slice (some ⟨w.heap.size + 1, 0, none⟩) 0 0) 0 (S.row []) := by
  have h := ownsRow_base (owns_newS (S := S) (w.alloc o)) (show w.heap.size ≤ (w.alloc o).heap.size by simp)
  simpa using h
theorem one_newS1 {α : Type} {S : SK α} (w : World) (o : Obj) (x : α) (c : Nat) : SRow S ((w.alloc o).alloc (.cells (S.cells x).toArray S.Et)) (.slice (some ⟨w.heap.size + 1, 0, none⟩) 1 c) [x] := by
  have h := one_newS (S := S) (w.alloc o) x c
  simpa using h
theorem ins_len (x : Thr) : ∀ L : List Thr, (thrE.ins x L).length ≤ L.length + 1
  | [] => by simp [El.ins]
  | y :: r => by
    rw [El.ins]
    split
    · simp
    · split
      · simp
      · simp only [List.length_cons]; have := ins_len x r; omega
set_option maxRecDepth 100000 in
set_option maxHeartbeats 8000000 in
theorem rspawn (h : RTAt w O Q p A T cA cT s L) (hI : SI s) (hl : L.length < 100000) (hnew : takeE s = 0 → ∀ y ∈ L, y.i ≠ takeV s) (c : Ctx) (tk : Int) : Calls Tryd.prog 89 #[.pointer (some ⟨Q, 0, none⟩), (Value.agg #[.int .i64 c.p, .int .i64 c.q, .int .i64 c.r0, .int .i64 c.r1, .int .i64 c.r2, .int .i64 c.r3, .int .i64 c.r4, .int .i64 c.r5, .int .i64 c.r6, .int .i64 c.r7, .int .i64 c.d]), .int .i64 tk] w fun e w' =>
    e = .returned (.tuple #[.int .i64 (spV s tk), .int .i64 (spE s tk)]) ∧ RTAt w' (upO O w w') Q p A T cA cT (spS s tk) (spL s L c tk) ∧ Fr O w w' := by
  have H := hid h
  have HI := hid hI
  have HLL := hid hl
  have HNEW := hid hnew
  have F0 := h.f0
  have hQw : Q < w.heap.size := World.block_lt_of_cell? _ _ F0
  clear h hI hl hnew
  by_cases htk : tkB tk = true
  · have EV : Hid (spV s tk = 0 ∧ spE s tk = 2 ∧ spS s tk = s ∧ spL s L c tk = L) := hid ⟨by unfold spV; rw [if_pos htk], by unfold spE; rw [if_pos htk], by unfold spS; rw [if_pos htk], by unfold spL; rw [if_pos htk]⟩
    have e1 : (decide (tk < 1) || decide (65536 < tk)) = true := htk
    clear htk
    rw [EV.out.1, EV.out.2.1, EV.out.2.2.1, EV.out.2.2.2]
    go_enter Tryd.func89, Tryd.ntmps89
    by_cases h1 : tk < 1
    · go_wp2_with fail
      go_ret2
      exact ⟨rfl, (H.out.still ((Fr.refl _ _).alloc _)).up0, ((Fr.refl _ _).alloc _)⟩
    · have h2 : 65536 < tk := by simpa [h1] using e1
      go_wp2_with fail
      go_ret2
      exact ⟨rfl, (H.out.still ((Fr.refl _ _).alloc _)).up0, ((Fr.refl _ _).alloc _)⟩
  · have h1 : ¬ tk < 1 := fun h => htk (by simp [tkB, h])
    have h2 : ¬ 65536 < tk := fun h => htk (by simp [tkB, h])
    have EV : Hid (spV s tk = takeV s ∧ spE s tk = takeE s ∧ spS s tk = takeS s ∧ spL s L c tk = if takeE s = 0 then thrE.ins ⟨takeV s, 1, tk, c, 0⟩ L else L) := hid ⟨by unfold spV; rw [if_neg htk], by unfold spE; rw [if_neg htk], by unfold spS; rw [if_neg htk], by unfold spL; rw [if_neg htk]⟩
    clear htk
    rw [EV.out.1, EV.out.2.1, EV.out.2.2.1]
    obtain ⟨tv, htv⟩ : ∃ tv, takeV s = tv := ⟨_, rfl⟩
    obtain ⟨te, hte⟩ : ∃ te, takeE s = te := ⟨_, rfl⟩
    have TEC := takeE_cases s
    rw [hte] at TEC
    rw [htv, hte]
    have HTV := hid htv
    have HTE := hid hte
    clear htv hte
    go_enter Tryd.func89, Tryd.ntmps89
    go_wp2_with fail
    refine (rtake (H.out.r.still ((Fr.refl _ _).alloc _)) HI.out.age).mono ?_
    rintro e w2 ⟨he, r2, f2⟩
    rw [HTV.out, HTE.out] at he
    subst he
    have T2 := hid ((H.out.still ((Fr.refl _ _).alloc _)).frAT r2 f2)
    have F2 : Hid (Fr O w w2) := hid (((Fr.refl _ _).alloc _).trans (f2.mono fun k _ hk => by rcases hk with rfl | rfl; exact H.out.lA; exact H.out.lT))
    have B2 : Hid (Blk w2 w.heap.size [.int .i64 c.p, .int .i64 c.q, .int .i64 c.r0, .int .i64 c.r1, .int .i64 c.r2, .int .i64 c.r3, .int .i64 c.r4, .int .i64 c.r5, .int .i64 c.r6, .int .i64 c.r7, .int .i64 c.d] 58) := hid ((Blk.new w _ 58).fr f2 (fun hf => by have h1 := H.out.r.hA.lt; have h2 := H.out.r.hT.lt; rcases hf with h | h <;> omega))
    clear r2 f2
    rcases TEC with rfl | rfl
    · have SL : Hid (spL s L c tk = thrE.ins ⟨tv, 1, tk, c, 0⟩ L) := hid (by rw [EV.out.2.2.2, HTE.out, if_pos rfl, HTV.out])
      obtain ⟨x, hx⟩ : ∃ x : Thr, ⟨tv, 1, tk, c, 0⟩ = x := ⟨_, rfl⟩
      rw [hx] at SL
      have HX := hid hx
      have LI : Hid ((thrE.ins x L).length ≤ 100000) := hid (by have h1 := ins_len x L; have h2 := HLL.out; omega)
      have LL := hid H.out.len
      rcases T2.out.opened' with ⟨hL, qn⟩ | ⟨g, cap, C, ho⟩
      · skip
        have q2 := qn
        go_wp2_with fail
        go_loopw [10] (fun s10 wx => s10 = .int .i64 0 ∧ wx = w2) (fun _ _ => 0)
        case atStart => exact ⟨rfl, rfl⟩
        case round =>
          obtain ⟨rfl, hw⟩ := hrel
          subst hw
          have INS : Hid (thrE.ins x L = L.take 0 ++ [x] ++ L.drop 0) := hid (by rw [hL]; rfl)
          have EL : Hid (0 + (L.take 0).length + [x].length + (L.drop 0).length = (thrE.ins x L).length) := hid (by rw [INS.out]; simp only [List.length_append]; omega)
          go_wp2_with (first
            | (refine wpList_loadW rfl (.tmp 4) 58 rfl _ Tryd.underlying58 rfl _ 58 [.int .i64 c.p, .int .i64 c.q, .int .i64 c.r0, .int .i64 c.r1, .int .i64 c.r2, .int .i64 c.r3, .int .i64 c.r4, .int .i64 c.r5, .int .i64 c.r6, .int .i64 c.r7, .int .i64 c.d] I58 rfl B2.out ?_)
            | (refine wpList_storeW rfl (.tmp 11) (.tmp 53) 80 rfl _ 80 [.int .i64 t0.i, .int .i64 t0.s, .int .i64 t0.t, .int .i64 t0.c.p, .int .i64 t0.c.q, .int .i64 t0.c.r0, .int .i64 t0.c.r1, .int .i64 t0.c.r2, .int .i64 t0.c.r3, .int .i64 t0.c.r4, .int .i64 t0.c.r5, .int .i64 t0.c.r6, .int .i64 t0.c.r7, .int .i64 t0.c.d, .int .i64 t0.d] [.int .i64 x.i, .int .i64 x.s, .int .i64 x.t, .int .i64 x.c.p, .int .i64 x.c.q, .int .i64 x.c.r0, .int .i64 x.c.r1, .int .i64 x.c.r2, .int .i64 x.c.r3, .int .i64 x.c.r4, .int .i64 x.c.r5, .int .i64 x.c.r6, .int .i64 x.c.r7, .int .i64 x.c.d, .int .i64 x.d] I80 (ones x) rfl (by rw [← HX.out]; rfl) (new_r _) rfl ?_; intro w3 b3 f3; have B3 := hid b3; have S3 : Hid (Still wr w3) := hid (Still.next ((Fr.refl _ _).alloc _) f3 (fun k hk => by rw [hk]; exact Nat.le_refl _)); clear b3 f3))
          have T3 := hid (T2.out.still S3.out)
          have F3 : Hid (Fr O w w3) := hid (F2.out.trans (S3.out.fr _))
          have z3 := T3.out.z1
          obtain ⟨xb, hxb⟩ : ∃ xb, wr.heap.size = xb := ⟨_, rfl⟩
          rw [hxb] at B3 ⊢
          have RX : w3.rangeAt xb 0 [.int .i64 x.i, .int .i64 x.s, .int .i64 x.t, .int .i64 x.c.p, .int .i64 x.c.q, .int .i64 x.c.r0, .int .i64 x.c.r1, .int .i64 x.c.r2, .int .i64 x.c.r3, .int .i64 x.c.r4, .int .i64 x.c.r5, .int .i64 x.c.r6, .int .i64 x.c.r7, .int .i64 x.c.d, .int .i64 x.d] := fun j v hv => by rw [Nat.zero_add, B3.out.cell j]; exact hv
          clear hxb
          have q3 := Still.cell S3.out q2
          have hQl : Q < w3.heap.size := World.block_lt_of_cell? _ _ q3
          have R1 : Hid (SRow S66 w3 (.slice none 0 0) (L.take 0)) := hid (.inl ⟨by simp, none, 0, rfl⟩)
          have R2 : Hid (SRow S66 w3 (.slice none 0 0) (L.drop 0)) := hid (.inl ⟨by rw [hL]; rfl, none, 0, rfl⟩)
          refine Held.wp_region_held_tail (S := (fun w' => w'.cell? ⟨Q, 1, none⟩ = some (.slice none 0 0) ∧ w'.rangeAt xb 0 [.int .i64 x.i, .int .i64 x.s, .int .i64 x.t, .int .i64 x.c.p, .int .i64 x.c.q, .int .i64 x.c.r0, .int .i64 x.c.r1, .int .i64 x.c.r2, .int .i64 x.c.r3, .int .i64 x.c.r4, .int .i64 x.c.r5, .int .i64 x.c.r6, .int .i64 x.c.r7, .int .i64 x.c.d, .int .i64 x.d])) 21 (by kernel_rfl) (by kernel_rfl) (by decide) ?hS1 (fun hHeld => ?hR1)
          case hS1 =>
            exact ⟨q3, RX⟩
          simp only [List.take_succ_cons, List.take_zero, List.drop_succ_cons, List.drop_zero]
          refine wpAnyH_take (i := 0) (oi := _) (v := ?v2) rfl (by kernel_rfl) (by kernel_rfl) (by kernel_rfl) (fun _ _ _ h => h) (Or.inl ⟨by rfl, ?y2⟩) (by assumption) ?r2
          case y2 => ((intro w hSw); (try dsimp only at hSw); go_simp; (try with_reducible rfl))
          (try simp only [Act.put, List.setIfInBounds_toArray, List.set_cons_zero, List.set_cons_succ])
          refine wpAnyH_take (i := 9) (oi := _) (v := (Value.agg #[.int .i64 x.i, .int .i64 x.s, .int .i64 x.t, .int .i64 x.c.p, .int .i64 x.c.q, .int .i64 x.c.r0, .int .i64 x.c.r1, .int .i64 x.c.r2, .int .i64 x.c.r3, .int .i64 x.c.r4, .int .i64 x.c.r5, .int .i64 x.c.r6, .int .i64 x.c.r7, .int .i64 x.c.d, .int .i64 x.d])) rfl (by kernel_rfl) (by kernel_rfl) (by kernel_rfl) (fun _ _ _ h => h) (yieldsIf_load_mid rfl 80 _ rfl xb 0 rfl [.int .i64 x.i, .int .i64 x.s, .int .i64 x.t, .int .i64 x.c.p, .int .i64 x.c.q, .int .i64 x.c.r0, .int .i64 x.c.r1, .int .i64 x.c.r2, .int .i64 x.c.r3, .int .i64 x.c.r4, .int .i64 x.c.r5, .int .i64 x.c.r6, .int .i64 x.c.r7, .int .i64 x.c.d, .int .i64 x.d] _ (fun w h => h.2) Tryd.underlying80 rfl I80) (by assumption) ?rM3
          simp only [Act.put, List.getElem_toArray, List.getElem_cons_zero, List.getElem_cons_succ, List.setIfInBounds_toArray, List.set_cons_zero, List.set_cons_succ]
          refine wpAnyH_take (i := 2) (oi := _) (v := ?v3) rfl (by kernel_rfl) (by kernel_rfl) (by kernel_rfl) (fun _ _ _ h => h) (Or.inl ⟨by rfl, ?y3⟩) (by assumption) ?r3
          case y3 => ((intro w hSw); (try dsimp only at hSw); go_simp; (try with_reducible rfl))
          (try simp only [Act.put, List.setIfInBounds_toArray, List.set_cons_zero, List.set_cons_succ])
          refine wpAnyH_take (i := 3) (oi := _) (v := ?v4) rfl (by kernel_rfl) (by kernel_rfl) (by kernel_rfl) (fun _ _ _ h => h) (Or.inl ⟨by rfl, ?y4⟩) (by assumption) ?r4
          case y4 => ((intro w hSw); (try dsimp only at hSw); go_simp; (try with_reducible rfl))
          (try simp only [Act.put, List.setIfInBounds_toArray, List.set_cons_zero, List.set_cons_succ])
          refine wpAnyH_take (i := 4) (oi := _) (v := ?v5) rfl (by kernel_rfl) (by kernel_rfl) (by kernel_rfl) (fun _ _ _ h => h) (Or.inl ⟨by rfl, ?y5⟩) (by assumption) ?r5
          case y5 => ((intro w hSw); (try dsimp only at hSw); go_simp; (try with_reducible rfl))
          (try simp only [Act.put, List.setIfInBounds_toArray, List.set_cons_zero, List.set_cons_succ])
          refine wpAnyH_take (i := 5) (oi := _) (v := ?v6) rfl (by kernel_rfl) (by kernel_rfl) (by kernel_rfl) (fun _ _ _ h => h) (Or.inl ⟨by rfl, ?y6⟩) (by assumption) ?r6
          case y6 => ((intro w hSw); (try dsimp only at hSw); go_simp; (try with_reducible rfl))
          (try simp only [Act.put, List.setIfInBounds_toArray, List.set_cons_zero, List.set_cons_succ])
          refine wpAnyH_take (i := 6) (oi := _) (v := ?v7) rfl (by kernel_rfl) (by kernel_rfl) (by kernel_rfl) (fun _ _ _ h => h) (Or.inl ⟨by rfl, ?y7⟩) (by assumption) ?r7
          case y7 => ((intro w hSw); (try dsimp only at hSw); go_simp; (try with_reducible rfl))
          (try simp only [Act.put, List.setIfInBounds_toArray, List.set_cons_zero, List.set_cons_succ])
          refine wpAnyH_take (i := 12) (oi := _) (v := ?v8) rfl (by kernel_rfl) (by kernel_rfl) (by kernel_rfl) (fun _ _ _ h => h) (Or.inl ⟨by rfl, ?y8⟩) (by assumption) ?r8
          case y8 => ((intro w hSw); (try dsimp only at hSw); go_simp; (try with_reducible rfl))
          (try simp only [Act.put, List.setIfInBounds_toArray, List.set_cons_zero, List.set_cons_succ])
          refine wpAnyH_take (i := 13) (oi := _) (v := ?v9) rfl (by kernel_rfl) (by kernel_rfl) (by kernel_rfl) (fun _ _ _ h => h) (Or.inl ⟨by rfl, ?y9⟩) (by assumption) ?r9
          case y9 => ((intro w hSw); (try dsimp only at hSw); go_simp; (try with_reducible rfl))
          (try simp only [Act.put, List.setIfInBounds_toArray, List.set_cons_zero, List.set_cons_succ])
          refine wpAnyH_take (i := 14) (oi := _) (v := ?v10) rfl (by kernel_rfl) (by kernel_rfl) (by kernel_rfl) (fun _ _ _ h => h) (Or.inl ⟨by rfl, ?y10⟩) (by assumption) ?r10
          case y10 => ((intro w hSw); (try dsimp only at hSw); go_simp; (try with_reducible rfl))
          (try simp only [Act.put, List.setIfInBounds_toArray, List.set_cons_zero, List.set_cons_succ])
          refine wpAnyH_take (i := 15) (oi := _) (v := ?v11) rfl (by kernel_rfl) (by kernel_rfl) (by kernel_rfl) (fun _ _ _ h => h) (Or.inl ⟨by rfl, ?y11⟩) (by assumption) ?r11
          case y11 => ((intro w hSw); (try dsimp only at hSw); go_simp; (try with_reducible rfl))
          (try simp only [Act.put, List.setIfInBounds_toArray, List.set_cons_zero, List.set_cons_succ])
          refine wpAnyH_take (i := 16) (oi := _) (v := ?v12) rfl (by kernel_rfl) (by kernel_rfl) (by kernel_rfl) (fun _ _ _ h => h) (Or.inl ⟨by rfl, ?y12⟩) (by assumption) ?r12
          case y12 => ((intro w hSw); (try dsimp only at hSw); go_simp; (try with_reducible rfl))
          (try simp only [Act.put, List.setIfInBounds_toArray, List.set_cons_zero, List.set_cons_succ])
          refine wpAnyH_take (i := 7) (oi := _) (v := ?v13) rfl (by kernel_rfl) (by kernel_rfl) (by kernel_rfl) (fun _ _ _ h => h) (Or.inl ⟨by rfl, ?y13⟩) (by assumption) ?r13
          case y13 => ((intro w hSw); (try dsimp only at hSw); go_simp; (try with_reducible rfl))
          (try simp only [Act.put, List.setIfInBounds_toArray, List.set_cons_zero, List.set_cons_succ])
          refine wpAnyH_take (i := 17) (oi := _) (v := ?v14) rfl (by kernel_rfl) (by kernel_rfl) (by kernel_rfl) (fun _ _ _ h => h) (Or.inl ⟨by rfl, ?y14⟩) (by assumption) ?r14
          case y14 => ((intro w hSw); (try dsimp only at hSw); go_simp; (try with_reducible rfl))
          (try simp only [Act.put, List.setIfInBounds_toArray, List.set_cons_zero, List.set_cons_succ])
          refine wpAnyH_ready (rs := [1, 10]) (by kernel_rfl) (by simp) ?_
          refine AllReadyH.cons rfl (fun K hK => ?_) (AllReadyH.cons rfl (fun K hK => ?_) AllReadyH.nil)
          · skip
            go_simp
            refine hK.out _ _ ?k15 (fun hHeld15 => ?_)
            case k15 =>
              exact ⟨Still.cell ((Fr.refl _ w3).alloc _ : Still w3 _) q3, fun j v hv => Still.cell ((Fr.refl _ w3).alloc _ : Still w3 _) (RX j v hv)⟩
            clear hK K
            (try simp only [Act.put, List.setIfInBounds_toArray, List.set_cons_zero, List.set_cons_succ])
            refine wpAnyH_ready (rs := [8, 10]) (by kernel_rfl) (by simp) ?_
            refine AllReadyH.cons rfl (fun K hK => ?_) (AllReadyH.cons rfl (fun K hK => ?_) AllReadyH.nil)
            · skip
              refine step_append_srow (S := S66) rfl (.tmp 55) (.tmp 61) rfl w3.heap.size 0 [] (L.take 0) (.slice (some ⟨_, 0, none⟩) 0 0) _ rfl rfl ?_ ?_ ?_ ?_ ?_
              · exact (owns_newS (S := S66) w3).drew
              · exact (R1.out.alloc _).drew
              · have := LL.out; simp only [List.length_take]; omega
              · simp; try omega
              intro v10 w10 ho10 hg10 _
              have s10 : Hid (Still w3 w10) := hid (Fr.of_own ((Fr.refl _ w3).alloc _).drew (owns_newS (S := S66) w3).drew hg10 (Nat.le_refl _))
              have O10 := hid ho10
              clear ho10 hg10
              refine hK.out _ _ ?k16 (fun hHeld16 => ?_)
              case k16 =>
                exact ⟨Still.cell s10.out q3, fun j v hv => Still.cell s10.out (RX j v hv)⟩
              clear hK K
              (try simp only [Act.put, List.setIfInBounds_toArray, List.set_cons_zero, List.set_cons_succ])
              refine wpAnyH_ready (rs := [10]) (by kernel_rfl) (by simp) ?_
              refine AllReadyH.cons rfl (fun K hK => ?st17) AllReadyH.nil
              go_simp
              refine hK.out _ _ ?k17 (fun hHeld17 => ?_)
              case k17 =>
                exact ⟨Still.cell (s10.out.alloc _ : Still w3 _) q3, fun j v hv => Still.cell (s10.out.alloc _ : Still w3 _) (RX j v hv)⟩
              clear hK K
              (try simp only [Act.put, List.setIfInBounds_toArray, List.set_cons_zero, List.set_cons_succ])
              have OW11 := O10.out.alloc (.cells (S66.cells x).toArray 80)
              have ONE11 := one_newS (S := S66) w10 x 1
              have SW11 : Still w3 (w10.alloc (.cells (S66.cells x).toArray 80)) := s10.out.alloc _
              refine wpAnyH_ready (rs := [11]) (by kernel_rfl) (by simp) ?_
              refine AllReadyH.cons rfl (fun K hK => ?st18) AllReadyH.nil
              refine step_append_srow (S := S66) rfl (.tmp 62) (.tmp 64) rfl w3.heap.size (0 + (L.take 0).length) ([] ++ L.take 0) [x] v10 _ rfl rfl OW11 ONE11 ?_ SW11.size ?_
              · have := LL.out; simp only [List.length_take, List.length_cons, List.length_nil]; omega
              intro v12 w12 ho12 hg12 _
              have s12 : Hid (Still w3 w12) := hid (Fr.of_own SW11 OW11 hg12 (Nat.le_refl _))
              have O12 := hid ho12
              clear ho12 hg12
              refine hK.out _ _ ?k18 (fun hHeld18 => ?_)
              case k18 =>
                exact ⟨Still.cell s12.out q3, fun j v hv => Still.cell s12.out (RX j v hv)⟩
              clear hK K
              (try simp only [Act.put, List.setIfInBounds_toArray, List.set_cons_zero, List.set_cons_succ])
              refine wpAnyH_ready (rs := [18]) (by kernel_rfl) (by simp) ?_
              refine AllReadyH.cons rfl (fun K hK => ?st19) AllReadyH.nil
              refine step_append_srow (S := S66) rfl (.tmp 65) (.tmp 71) rfl w3.heap.size (0 + (L.take 0).length + [x].length) ([] ++ L.take 0 ++ [x]) (L.drop 0) v12 _ rfl rfl O12.out (R2.out.still s12.out) ?_ s12.out.size ?_
              · have := LL.out; simp only [List.length_take, List.length_drop, List.length_cons, List.length_nil]; omega
              intro v13 w13 ho13 hg13 _
              have s13 : Hid (Still w3 w13) := hid (Fr.of_own s12.out O12.out hg13 (Nat.le_refl _))
              have O13 := hid ho13
              clear ho13 hg13
              refine hK.out _ _ ?k19 (fun hHeld19 => ?_)
              case k19 =>
                exact ⟨Still.cell s13.out q3, fun j v hv => Still.cell s13.out (RX j v hv)⟩
              clear hK K
              (try simp only [Act.put, List.setIfInBounds_toArray, List.set_cons_zero, List.set_cons_succ])
              refine wpAnyH_take (i := 19) (oi := _) (v := ?v20) rfl (by kernel_rfl) (by kernel_rfl) (by kernel_rfl) (fun _ _ _ h => h) (Or.inl ⟨by rfl, ?y20⟩) (by assumption) ?r20
              case y20 => ((intro w hSw); (try dsimp only at hSw); go_simp; (try with_reducible rfl))
              (try simp only [Act.put, List.setIfInBounds_toArray, List.set_cons_zero, List.set_cons_succ])
              refine wpAnyH_take (i := 20) (oi := _) (v := ?v21) rfl (by kernel_rfl) (by kernel_rfl) (by kernel_rfl) (fun _ _ _ h => h) (Or.inl ⟨by rfl, ?y21⟩) (by assumption) ?r21
              case y21 => ((intro w hSw); (try dsimp only at hSw); go_simp; (try with_reducible rfl))
              (try simp only [Act.put, List.setIfInBounds_toArray, List.set_cons_zero, List.set_cons_succ])
              refine wpAnyH_done (by kernel_rfl) (Held.tailQ_normal ?_) _
              have q13 := Still.cell s13.out q3
              have z13 : w13.frozen? ⟨Q, 1, none⟩ = false := Still.frz s13.out hQl z3
              have O14 := O13.out
              rw [EL.out, List.nil_append, ← INS.out] at O14
              have T14 := hid (T3.out.swap s13.out O14 (Nat.le_refl _) (thrE.up_ins x L H.out.up) LI.out)
              have hv1 := Value.slice_cells O14
              refine wpList_store1 rfl (.tmp 74) (.tmp 72) 66 rfl Q 1 _ v13 (by kernel_rfl) hv1.1 hv1.2 rfl rfl q13 z13 ?_
              intro w14 hw14
              rw [← hw14] at T14
              have Z14 : Hid (w13.heap.size ≤ w14.heap.size) := hid (by rw [hw14]; exact (Fr.setCell (F := fun k => k = Q) (p := ⟨Q, 1, none⟩) (Fr.refl _ w13) (.inl rfl) v13).size)
              have F14 : Hid (Fr O w w14) := hid (by rw [hw14]; exact Fr.setCell (F3.out.trans (s13.out.fr _)) (p := ⟨Q, 1, none⟩) (.inl H.out.lQ) _)
              clear hw14 q13 z13 hv1 O14
              go_wp2_with fail
              all_goals
                go_ret2
                exact ⟨rfl, by rw [SL.out]; exact T14.out.mono (fun k hk => hk.imp _root_.id fun h => ⟨Nat.le_trans F3.out.size h.1, Nat.lt_of_lt_of_le h.2 Z14.out⟩) (fun k hk => hk.elim (fun h => Nat.lt_of_lt_of_le (H.out.ub k h) F14.out.size) (fun h => h.2)), F14.out⟩
            · skip
              go_simp
              refine hK.out _ _ ?k22 (fun hHeld22 => ?_)
              case k22 =>
                exact ⟨Still.cell ((((Fr.refl _ w3).alloc _).drew).alloc _ : Still w3 _) q3, fun j v hv => Still.cell ((((Fr.refl _ w3).alloc _).drew).alloc _ : Still w3 _) (RX j v hv)⟩
              clear hK K
              (try simp only [Act.put, List.setIfInBounds_toArray, List.set_cons_zero, List.set_cons_succ])
              refine wpAnyH_ready (rs := [8]) (by kernel_rfl) (by simp) ?_
              refine AllReadyH.cons rfl (fun K hK => ?st23) AllReadyH.nil
              refine step_append_srow (S := S66) rfl (.tmp 55) (.tmp 61) rfl w3.heap.size 0 [] (L.take 0) (.slice (some ⟨_, 0, none⟩) 0 0) _ rfl rfl ?_ ?_ ?_ ?_ ?_
              · exact ((owns_newS (S := S66) w3).drew.alloc _)
              · exact (((R1.out.alloc _).drew).alloc _)
              · have := LL.out; simp only [List.length_take]; omega
              · simp; try omega
              intro v10 w10 ho10 hg10 _
              have s10 : Hid (Still w3 w10) := hid (Fr.of_own ((((Fr.refl _ w3).alloc _).drew).alloc _) ((owns_newS (S := S66) w3).drew.alloc _) hg10 (Nat.le_refl _))
              have ONE11 : SRow S66 w10 _ [x] := ((one_newS1 (S := S66) w3 (.cells #[] 80) x 1).drew).fr (F := fun k => k = w3.heap.size) (Fr.of_grownBy hg10 (F := fun k => k = w3.heap.size) (fun j ej _ => by injection ej with ej; exact ej.symm)) (fun b off c n e hb => by injection e with e1 _ _; injection e1 with e1; injection e1 with e1 _ _; have hbx : b = w3.heap.size := hb; omega)
              have O10 := hid ho10
              clear ho10 hg10
              refine hK.out _ _ ?k23 (fun hHeld23 => ?_)
              case k23 =>
                exact ⟨Still.cell s10.out q3, fun j v hv => Still.cell s10.out (RX j v hv)⟩
              clear hK K
              (try simp only [Act.put, List.setIfInBounds_toArray, List.set_cons_zero, List.set_cons_succ])
              have OW11 := O10.out
              have SW11 := s10.out
              refine wpAnyH_ready (rs := [11]) (by kernel_rfl) (by simp) ?_
              refine AllReadyH.cons rfl (fun K hK => ?st24) AllReadyH.nil
              refine step_append_srow (S := S66) rfl (.tmp 62) (.tmp 64) rfl w3.heap.size (0 + (L.take 0).length) ([] ++ L.take 0) [x] v10 _ rfl rfl OW11 ONE11 ?_ SW11.size ?_
              · have := LL.out; simp only [List.length_take, List.length_cons, List.length_nil]; omega
              intro v12 w12 ho12 hg12 _
              have s12 : Hid (Still w3 w12) := hid (Fr.of_own SW11 OW11 hg12 (Nat.le_refl _))
              have O12 := hid ho12
              clear ho12 hg12
              refine hK.out _ _ ?k24 (fun hHeld24 => ?_)
              case k24 =>
                exact ⟨Still.cell s12.out q3, fun j v hv => Still.cell s12.out (RX j v hv)⟩
              clear hK K
              (try simp only [Act.put, List.setIfInBounds_toArray, List.set_cons_zero, List.set_cons_succ])
              refine wpAnyH_ready (rs := [18]) (by kernel_rfl) (by simp) ?_
              refine AllReadyH.cons rfl (fun K hK => ?st25) AllReadyH.nil
              refine step_append_srow (S := S66) rfl (.tmp 65) (.tmp 71) rfl w3.heap.size (0 + (L.take 0).length + [x].length) ([] ++ L.take 0 ++ [x]) (L.drop 0) v12 _ rfl rfl O12.out (R2.out.still s12.out) ?_ s12.out.size ?_
              · have := LL.out; simp only [List.length_take, List.length_drop, List.length_cons, List.length_nil]; omega
              intro v13 w13 ho13 hg13 _
              have s13 : Hid (Still w3 w13) := hid (Fr.of_own s12.out O12.out hg13 (Nat.le_refl _))
              have O13 := hid ho13
              clear ho13 hg13
              refine hK.out _ _ ?k25 (fun hHeld25 => ?_)
              case k25 =>
                exact ⟨Still.cell s13.out q3, fun j v hv => Still.cell s13.out (RX j v hv)⟩
              clear hK K
              (try simp only [Act.put, List.setIfInBounds_toArray, List.set_cons_zero, List.set_cons_succ])
              refine wpAnyH_take (i := 19) (oi := _) (v := ?v26) rfl (by kernel_rfl) (by kernel_rfl) (by kernel_rfl) (fun _ _ _ h => h) (Or.inl ⟨by rfl, ?y26⟩) (by assumption) ?r26
              case y26 => ((intro w hSw); (try dsimp only at hSw); go_simp; (try with_reducible rfl))
              (try simp only [Act.put, List.setIfInBounds_toArray, List.set_cons_zero, List.set_cons_succ])
              refine wpAnyH_take (i := 20) (oi := _) (v := ?v27) rfl (by kernel_rfl) (by kernel_rfl) (by kernel_rfl) (fun _ _ _ h => h) (Or.inl ⟨by rfl, ?y27⟩) (by assumption) ?r27
              case y27 => ((intro w hSw); (try dsimp only at hSw); go_simp; (try with_reducible rfl))
              (try simp only [Act.put, List.setIfInBounds_toArray, List.set_cons_zero, List.set_cons_succ])
              refine wpAnyH_done (by kernel_rfl) (Held.tailQ_normal ?_) _
              have q13 := Still.cell s13.out q3
              have z13 : w13.frozen? ⟨Q, 1, none⟩ = false := Still.frz s13.out hQl z3
              have O14 := O13.out
              rw [EL.out, List.nil_append, ← INS.out] at O14
              have T14 := hid (T3.out.swap s13.out O14 (Nat.le_refl _) (thrE.up_ins x L H.out.up) LI.out)
              have hv1 := Value.slice_cells O14
              refine wpList_store1 rfl (.tmp 74) (.tmp 72) 66 rfl Q 1 _ v13 (by kernel_rfl) hv1.1 hv1.2 rfl rfl q13 z13 ?_
              intro w14 hw14
              rw [← hw14] at T14
              have Z14 : Hid (w13.heap.size ≤ w14.heap.size) := hid (by rw [hw14]; exact (Fr.setCell (F := fun k => k = Q) (p := ⟨Q, 1, none⟩) (Fr.refl _ w13) (.inl rfl) v13).size)
              have F14 : Hid (Fr O w w14) := hid (by rw [hw14]; exact Fr.setCell (F3.out.trans (s13.out.fr _)) (p := ⟨Q, 1, none⟩) (.inl H.out.lQ) _)
              clear hw14 q13 z13 hv1 O14
              go_wp2_with fail
              all_goals
                go_ret2
                exact ⟨rfl, by rw [SL.out]; exact T14.out.mono (fun k hk => hk.imp _root_.id fun h => ⟨Nat.le_trans F3.out.size h.1, Nat.lt_of_lt_of_le h.2 Z14.out⟩) (fun k hk => hk.elim (fun h => Nat.lt_of_lt_of_le (H.out.ub k h) F14.out.size) (fun h => h.2)), F14.out⟩
          · skip
            go_simp
            refine hK.out _ _ ?k28 (fun hHeld28 => ?_)
            case k28 =>
              exact ⟨Still.cell ((Fr.refl _ w3).alloc _ : Still w3 _) q3, fun j v hv => Still.cell ((Fr.refl _ w3).alloc _ : Still w3 _) (RX j v hv)⟩
            clear hK K
            (try simp only [Act.put, List.setIfInBounds_toArray, List.set_cons_zero, List.set_cons_succ])
            refine wpAnyH_ready (rs := [1]) (by kernel_rfl) (by simp) ?_
            refine AllReadyH.cons rfl (fun K hK => ?st29) AllReadyH.nil
            go_simp
            refine hK.out _ _ ?k29 (fun hHeld29 => ?_)
            case k29 =>
              exact ⟨Still.cell ((((Fr.refl _ w3).alloc _).drew).alloc _ : Still w3 _) q3, fun j v hv => Still.cell ((((Fr.refl _ w3).alloc _).drew).alloc _ : Still w3 _) (RX j v hv)⟩
            clear hK K
            (try simp only [Act.put, List.setIfInBounds_toArray, List.set_cons_zero, List.set_cons_succ])
            refine wpAnyH_ready (rs := [8]) (by kernel_rfl) (by simp) ?_
            refine AllReadyH.cons rfl (fun K hK => ?st30) AllReadyH.nil
            refine step_append_srow (S := S66) rfl (.tmp 55) (.tmp 61) rfl w3.heap.size 0 [] (L.take 0) (.slice (some ⟨_, 0, none⟩) 0 0) _ rfl rfl ?_ ?_ ?_ ?_ ?_
            · exact (owns_newS1 (S := S66) w3 _)
            · exact (((R1.out.alloc _).drew).alloc _)
            · have := LL.out; simp only [List.length_take]; omega
            · simp; try omega
            intro v10 w10 ho10 hg10 _
            have s10 : Hid (Still w3 w10) := hid (Fr.of_own ((((Fr.refl _ w3).alloc _).drew).alloc _) (owns_newS1 (S := S66) w3 _) hg10 (Nat.le_refl _))
            have ONE11 : SRow S66 w10 _ [x] := (((one_newS (S := S66) w3 x 1).alloc _).drew).fr (F := fun k => k = w3.heap.size + 1) (Fr.of_grownBy hg10 (F := fun k => k = w3.heap.size + 1) (fun j ej _ => by injection ej with ej; exact ej.symm)) (fun b off c n e hb => by injection e with e1 _ _; injection e1 with e1; injection e1 with e1 _ _; have hbx : b = w3.heap.size + 1 := hb; omega)
            have O10 := hid ho10
            clear ho10 hg10
            refine hK.out _ _ ?k30 (fun hHeld30 => ?_)
            case k30 =>
              exact ⟨Still.cell s10.out q3, fun j v hv => Still.cell s10.out (RX j v hv)⟩
            clear hK K
            (try simp only [Act.put, List.setIfInBounds_toArray, List.set_cons_zero, List.set_cons_succ])
            have OW11 := O10.out
            have SW11 := s10.out
            refine wpAnyH_ready (rs := [11]) (by kernel_rfl) (by simp) ?_
            refine AllReadyH.cons rfl (fun K hK => ?st31) AllReadyH.nil
            refine step_append_srow (S := S66) rfl (.tmp 62) (.tmp 64) rfl w3.heap.size (0 + (L.take 0).length) ([] ++ L.take 0) [x] v10 _ rfl rfl OW11 ONE11 ?_ SW11.size ?_
            · have := LL.out; simp only [List.length_take, List.length_cons, List.length_nil]; omega
            intro v12 w12 ho12 hg12 _
            have s12 : Hid (Still w3 w12) := hid (Fr.of_own SW11 OW11 hg12 (Nat.le_refl _))
            have O12 := hid ho12
            clear ho12 hg12
            refine hK.out _ _ ?k31 (fun hHeld31 => ?_)
            case k31 =>
              exact ⟨Still.cell s12.out q3, fun j v hv => Still.cell s12.out (RX j v hv)⟩
            clear hK K
            (try simp only [Act.put, List.setIfInBounds_toArray, List.set_cons_zero, List.set_cons_succ])
            refine wpAnyH_ready (rs := [18]) (by kernel_rfl) (by simp) ?_
            refine AllReadyH.cons rfl (fun K hK => ?st32) AllReadyH.nil
            refine step_append_srow (S := S66) rfl (.tmp 65) (.tmp 71) rfl w3.heap.size (0 + (L.take 0).length + [x].length) ([] ++ L.take 0 ++ [x]) (L.drop 0) v12 _ rfl rfl O12.out (R2.out.still s12.out) ?_ s12.out.size ?_
            · have := LL.out; simp only [List.length_take, List.length_drop, List.length_cons, List.length_nil]; omega
            intro v13 w13 ho13 hg13 _
            have s13 : Hid (Still w3 w13) := hid (Fr.of_own s12.out O12.out hg13 (Nat.le_refl _))
            have O13 := hid ho13
            clear ho13 hg13
            refine hK.out _ _ ?k32 (fun hHeld32 => ?_)
            case k32 =>
              exact ⟨Still.cell s13.out q3, fun j v hv => Still.cell s13.out (RX j v hv)⟩
            clear hK K
            (try simp only [Act.put, List.setIfInBounds_toArray, List.set_cons_zero, List.set_cons_succ])
            refine wpAnyH_take (i := 19) (oi := _) (v := ?v33) rfl (by kernel_rfl) (by kernel_rfl) (by kernel_rfl) (fun _ _ _ h => h) (Or.inl ⟨by rfl, ?y33⟩) (by assumption) ?r33
            case y33 => ((intro w hSw); (try dsimp only at hSw); go_simp; (try with_reducible rfl))
            (try simp only [Act.put, List.setIfInBounds_toArray, List.set_cons_zero, List.set_cons_succ])
            refine wpAnyH_take (i := 20) (oi := _) (v := ?v34) rfl (by kernel_rfl) (by kernel_rfl) (by kernel_rfl) (fun _ _ _ h => h) (Or.inl ⟨by rfl, ?y34⟩) (by assumption) ?r34
            case y34 => ((intro w hSw); (try dsimp only at hSw); go_simp; (try with_reducible rfl))
            (try simp only [Act.put, List.setIfInBounds_toArray, List.set_cons_zero, List.set_cons_succ])
            refine wpAnyH_done (by kernel_rfl) (Held.tailQ_normal ?_) _
            have q13 := Still.cell s13.out q3
            have z13 : w13.frozen? ⟨Q, 1, none⟩ = false := Still.frz s13.out hQl z3
            have O14 := O13.out
            rw [EL.out, List.nil_append, ← INS.out] at O14
            have T14 := hid (T3.out.swap s13.out O14 (Nat.le_refl _) (thrE.up_ins x L H.out.up) LI.out)
            have hv1 := Value.slice_cells O14
            refine wpList_store1 rfl (.tmp 74) (.tmp 72) 66 rfl Q 1 _ v13 (by kernel_rfl) hv1.1 hv1.2 rfl rfl q13 z13 ?_
            intro w14 hw14
            rw [← hw14] at T14
            have Z14 : Hid (w13.heap.size ≤ w14.heap.size) := hid (by rw [hw14]; exact (Fr.setCell (F := fun k => k = Q) (p := ⟨Q, 1, none⟩) (Fr.refl _ w13) (.inl rfl) v13).size)
            have F14 : Hid (Fr O w w14) := hid (by rw [hw14]; exact Fr.setCell (F3.out.trans (s13.out.fr _)) (p := ⟨Q, 1, none⟩) (.inl H.out.lQ) _)
            clear hw14 q13 z13 hv1 O14
            go_wp2_with fail
            all_goals
              go_ret2
              exact ⟨rfl, by rw [SL.out]; exact T14.out.mono (fun k hk => hk.imp _root_.id fun h => ⟨Nat.le_trans F3.out.size h.1, Nat.lt_of_lt_of_le h.2 Z14.out⟩) (fun k hk => hk.elim (fun h => Nat.lt_of_lt_of_le (H.out.ub k h) F14.out.size) (fun h => h.2)), F14.out⟩
      · skip
        have HO := hid ho
        have q2 := ho.v1
        have hb := LL.out
        clear ho
        go_wp2_with fail
        go_loopw [10] (fun s10 wx => ∃ i : Nat, s10 = .int .i64 i ∧ i ≤ L.length ∧ wx = w2 ∧ Hid (∀ j (hj : j < L.length), j < i → L[j].i < tv)) (fun s10 _ => L.length - (intOf s10).toNat)
        case atStart => exact ⟨0, rfl, Nat.zero_le _, rfl, hid (fun j hj h0 => by omega)⟩
        case round =>
          obtain ⟨i, rfl, hi, hw, LO⟩ := hrel
          subst hw
          by_cases hlt : i < L.length
          · have hlt' : (i : Int) < (L.length : Int) := by omega
            have r2 := HO.out.at hlt
            obtain ⟨y, hy⟩ : ∃ y, L[i] = y := ⟨_, rfl⟩
            rw [hy] at r2
            have d0 : wr.cell? ⟨g, i * 15, none⟩ = some (.int .i64 y.i) := r2 0 _ rfl
            have HY := hid hy
            clear r2 hy
            by_cases hlty : y.i < tv
            · have hly : decide (y.i < tv) = true := decide_eq_true hlty
              have HLY := hid hlty
              go_wp2_with fail
              go_roundw
              case rel => exact ⟨i + 1, by go_num, by omega, trivial, hid (fun j hj h0 => by
                by_cases e : j = i
                · subst e; rw [HY.out]; exact HLY.out
                · exact LO.out j hj (by omega))⟩
              case measure => simp [intOf]; omega
            · have HLY := hid hlty
              have INS : Hid (thrE.ins x L = L.take i ++ [x] ++ L.drop i) := hid (ins_pos H.out.up (Nat.le_of_lt hlt) (fun j hj h0 => by rw [← HX.out]; exact LO.out j hj h0) (fun hj => by
                have h1 := HNEW.out HTE.out L[i] (List.getElem_mem hj)
                rw [HTV.out, HY.out] at h1
                have h2 := HLY.out
                rw [HY.out, ← HX.out]
                show tv < y.i
                omega))
              have HI2 := hid (Nat.le_of_lt hlt)
              have EL : Hid (0 + (L.take i).length + [x].length + (L.drop i).length = (thrE.ins x L).length) := hid (by rw [INS.out]; simp only [List.length_append]; omega)
              go_wp2_with (first
                | (refine wpList_loadW rfl (.tmp 4) 58 rfl _ Tryd.underlying58 rfl _ 58 [.int .i64 c.p, .int .i64 c.q, .int .i64 c.r0, .int .i64 c.r1, .int .i64 c.r2, .int .i64 c.r3, .int .i64 c.r4, .int .i64 c.r5, .int .i64 c.r6, .int .i64 c.r7, .int .i64 c.d] I58 rfl B2.out ?_)
                | (refine wpList_storeW rfl (.tmp 11) (.tmp 53) 80 rfl _ 80 [.int .i64 t0.i, .int .i64 t0.s, .int .i64 t0.t, .int .i64 t0.c.p, .int .i64 t0.c.q, .int .i64 t0.c.r0, .int .i64 t0.c.r1, .int .i64 t0.c.r2, .int .i64 t0.c.r3, .int .i64 t0.c.r4, .int .i64 t0.c.r5, .int .i64 t0.c.r6, .int .i64 t0.c.r7, .int .i64 t0.c.d, .int .i64 t0.d] [.int .i64 x.i, .int .i64 x.s, .int .i64 x.t, .int .i64 x.c.p, .int .i64 x.c.q, .int .i64 x.c.r0, .int .i64 x.c.r1, .int .i64 x.c.r2, .int .i64 x.c.r3, .int .i64 x.c.r4, .int .i64 x.c.r5, .int .i64 x.c.r6, .int .i64 x.c.r7, .int .i64 x.c.d, .int .i64 x.d] I80 (ones x) rfl (by rw [← HX.out]; rfl) (new_r _) rfl ?_; intro w3 b3 f3; have B3 := hid b3; have S3 : Hid (Still wr w3) := hid (Still.next ((Fr.refl _ _).alloc _) f3 (fun k hk => by rw [hk]; exact Nat.le_refl _)); clear b3 f3))
              have T3 := hid (T2.out.still S3.out)
              have F3 : Hid (Fr O w w3) := hid (F2.out.trans (S3.out.fr _))
              have z3 := T3.out.z1
              obtain ⟨xb, hxb⟩ : ∃ xb, wr.heap.size = xb := ⟨_, rfl⟩
              rw [hxb] at B3 ⊢
              have RX : w3.rangeAt xb 0 [.int .i64 x.i, .int .i64 x.s, .int .i64 x.t, .int .i64 x.c.p, .int .i64 x.c.q, .int .i64 x.c.r0, .int .i64 x.c.r1, .int .i64 x.c.r2, .int .i64 x.c.r3, .int .i64 x.c.r4, .int .i64 x.c.r5, .int .i64 x.c.r6, .int .i64 x.c.r7, .int .i64 x.c.d, .int .i64 x.d] := fun j v hv => by rw [Nat.zero_add, B3.out.cell j]; exact hv
              clear hxb
              have O3 := HO.out.fr S3.out
              have q3 := O3.v1
              have hQl : Q < w3.heap.size := World.block_lt_of_cell? _ _ q3
              have hc1 := O3.c1
              have hi3 := HI2.out
              have iq : i ≤ cap := by omega
              have R1 := hid (srow_take (S := S66) (q := cap) O3.b rfl O3.c4 HI2.out)
              have R2 := hid (srow_drop (S := S66) (l := L.length - i) (a := if cap = i then some ⟨g, 0, none⟩ else some ⟨g, i * 15, none⟩) (k := cap - i) O3.b rfl O3.c4 HI2.out rfl hc1 (fun h => if_neg (by omega)))
              clear O3
              refine Held.wp_region_held_tail (S := (fun w' => w'.cell? ⟨Q, 1, none⟩ = some (.slice (some ⟨g, 0, none⟩) L.length cap) ∧ w'.rangeAt xb 0 [.int .i64 x.i, .int .i64 x.s, .int .i64 x.t, .int .i64 x.c.p, .int .i64 x.c.q, .int .i64 x.c.r0, .int .i64 x.c.r1, .int .i64 x.c.r2, .int .i64 x.c.r3, .int .i64 x.c.r4, .int .i64 x.c.r5, .int .i64 x.c.r6, .int .i64 x.c.r7, .int .i64 x.c.d, .int .i64 x.d])) 21 (by kernel_rfl) (by kernel_rfl) (by decide) ?hS35 (fun hHeld => ?hR35)
              case hS35 =>
                exact ⟨q3, RX⟩
              simp only [List.take_succ_cons, List.take_zero, List.drop_succ_cons, List.drop_zero]
              refine wpAnyH_take (i := 0) (oi := _) (v := ?v36) rfl (by kernel_rfl) (by kernel_rfl) (by kernel_rfl) (fun _ _ _ h => h) (Or.inl ⟨by rfl, ?y36⟩) (by assumption) ?r36
              case y36 => ((intro w hSw); (try dsimp only at hSw); go_simp; (try with_reducible rfl))
              (try simp only [Act.put, List.setIfInBounds_toArray, List.set_cons_zero, List.set_cons_succ])
              refine wpAnyH_take (i := 9) (oi := _) (v := (Value.agg #[.int .i64 x.i, .int .i64 x.s, .int .i64 x.t, .int .i64 x.c.p, .int .i64 x.c.q, .int .i64 x.c.r0, .int .i64 x.c.r1, .int .i64 x.c.r2, .int .i64 x.c.r3, .int .i64 x.c.r4, .int .i64 x.c.r5, .int .i64 x.c.r6, .int .i64 x.c.r7, .int .i64 x.c.d, .int .i64 x.d])) rfl (by kernel_rfl) (by kernel_rfl) (by kernel_rfl) (fun _ _ _ h => h) (yieldsIf_load_mid rfl 80 _ rfl xb 0 rfl [.int .i64 x.i, .int .i64 x.s, .int .i64 x.t, .int .i64 x.c.p, .int .i64 x.c.q, .int .i64 x.c.r0, .int .i64 x.c.r1, .int .i64 x.c.r2, .int .i64 x.c.r3, .int .i64 x.c.r4, .int .i64 x.c.r5, .int .i64 x.c.r6, .int .i64 x.c.r7, .int .i64 x.c.d, .int .i64 x.d] _ (fun w h => h.2) Tryd.underlying80 rfl I80) (by assumption) ?rM
              simp only [Act.put, List.getElem_toArray, List.getElem_cons_zero, List.getElem_cons_succ, List.setIfInBounds_toArray, List.set_cons_zero, List.set_cons_succ]
              refine wpAnyH_take (i := 2) (oi := _) (v := ?v37) rfl (by kernel_rfl) (by kernel_rfl) (by kernel_rfl) (fun _ _ _ h => h) (Or.inl ⟨by rfl, ?y37⟩) (by assumption) ?r37
              case y37 => ((intro w hSw); (try dsimp only at hSw); go_simp; (try with_reducible rfl))
              (try simp only [Act.put, List.setIfInBounds_toArray, List.set_cons_zero, List.set_cons_succ])
              refine wpAnyH_take (i := 3) (oi := _) (v := ?v38) rfl (by kernel_rfl) (by kernel_rfl) (by kernel_rfl) (fun _ _ _ h => h) (Or.inl ⟨by rfl, ?y38⟩) (by assumption) ?r38
              case y38 => ((intro w hSw); (try dsimp only at hSw); go_simp; (try with_reducible rfl))
              (try simp only [Act.put, List.setIfInBounds_toArray, List.set_cons_zero, List.set_cons_succ])
              refine wpAnyH_take (i := 4) (oi := _) (v := ?v39) rfl (by kernel_rfl) (by kernel_rfl) (by kernel_rfl) (fun _ _ _ h => h) (Or.inl ⟨by rfl, ?y39⟩) (by assumption) ?r39
              case y39 => ((intro w hSw); (try dsimp only at hSw); go_simp; (try with_reducible rfl))
              (try simp only [Act.put, List.setIfInBounds_toArray, List.set_cons_zero, List.set_cons_succ])
              refine wpAnyH_take (i := 5) (oi := _) (v := ?v40) rfl (by kernel_rfl) (by kernel_rfl) (by kernel_rfl) (fun _ _ _ h => h) (Or.inl ⟨by rfl, ?y40⟩) (by assumption) ?r40
              case y40 => ((intro w hSw); (try dsimp only at hSw); go_simp; (try with_reducible rfl))
              (try simp only [Act.put, List.setIfInBounds_toArray, List.set_cons_zero, List.set_cons_succ])
              refine wpAnyH_take (i := 6) (oi := _) (v := ?v41) rfl (by kernel_rfl) (by kernel_rfl) (by kernel_rfl) (fun _ _ _ h => h) (Or.inl ⟨by rfl, ?y41⟩) (by assumption) ?r41
              case y41 => ((intro w hSw); (try dsimp only at hSw); go_simp; (try with_reducible rfl))
              (try simp only [Act.put, List.setIfInBounds_toArray, List.set_cons_zero, List.set_cons_succ])
              refine wpAnyH_take (i := 12) (oi := _) (v := ?v42) rfl (by kernel_rfl) (by kernel_rfl) (by kernel_rfl) (fun _ _ _ h => h) (Or.inl ⟨by rfl, ?y42⟩) (by assumption) ?r42
              case y42 => ((intro w hSw); (try dsimp only at hSw); go_simp; (try with_reducible rfl))
              (try simp only [Act.put, List.setIfInBounds_toArray, List.set_cons_zero, List.set_cons_succ])
              refine wpAnyH_take (i := 13) (oi := _) (v := ?v43) rfl (by kernel_rfl) (by kernel_rfl) (by kernel_rfl) (fun _ _ _ h => h) (Or.inl ⟨by rfl, ?y43⟩) (by assumption) ?r43
              case y43 => ((intro w hSw); (try dsimp only at hSw); go_simp; (try with_reducible rfl))
              (try simp only [Act.put, List.setIfInBounds_toArray, List.set_cons_zero, List.set_cons_succ])
              refine wpAnyH_take (i := 14) (oi := _) (v := ?v44) rfl (by kernel_rfl) (by kernel_rfl) (by kernel_rfl) (fun _ _ _ h => h) (Or.inl ⟨by rfl, ?y44⟩) (by assumption) ?r44
              case y44 => ((intro w hSw); (try dsimp only at hSw); go_simp; (try with_reducible rfl))
              (try simp only [Act.put, List.setIfInBounds_toArray, List.set_cons_zero, List.set_cons_succ])
              refine wpAnyH_take (i := 15) (oi := _) (v := ?v45) rfl (by kernel_rfl) (by kernel_rfl) (by kernel_rfl) (fun _ _ _ h => h) (Or.inl ⟨by rfl, ?y45⟩) (by assumption) ?r45
              case y45 => ((intro w hSw); (try dsimp only at hSw); go_simp; (try with_reducible rfl))
              (try simp only [Act.put, List.setIfInBounds_toArray, List.set_cons_zero, List.set_cons_succ])
              refine wpAnyH_take (i := 16) (oi := _) (v := ?v46) rfl (by kernel_rfl) (by kernel_rfl) (by kernel_rfl) (fun _ _ _ h => h) (Or.inl ⟨by rfl, ?y46⟩) (by assumption) ?r46
              case y46 => ((intro w hSw); (try dsimp only at hSw); go_simp; (try with_reducible rfl))
              (try simp only [Act.put, List.setIfInBounds_toArray, List.set_cons_zero, List.set_cons_succ])
              refine wpAnyH_take (i := 7) (oi := _) (v := ?v47) rfl (by kernel_rfl) (by kernel_rfl) (by kernel_rfl) (fun _ _ _ h => h) (Or.inl ⟨by rfl, ?y47⟩) (by assumption) ?r47
              case y47 => ((intro w hSw); (try dsimp only at hSw); go_simp; (try with_reducible rfl))
              (try simp only [Act.put, List.setIfInBounds_toArray, List.set_cons_zero, List.set_cons_succ])
              refine wpAnyH_take (i := 17) (oi := _) (v := ?v48) rfl (by kernel_rfl) (by kernel_rfl) (by kernel_rfl) (fun _ _ _ h => h) (Or.inl ⟨by rfl, ?y48⟩) (by assumption) ?r48
              case y48 => ((intro w hSw); (try dsimp only at hSw); go_simp; (try with_reducible rfl))
              (try simp only [Act.put, List.setIfInBounds_toArray, List.set_cons_zero, List.set_cons_succ])
              refine wpAnyH_ready (rs := [1, 10]) (by kernel_rfl) (by simp) ?_
              refine AllReadyH.cons rfl (fun K hK => ?_) (AllReadyH.cons rfl (fun K hK => ?_) AllReadyH.nil)
              · skip
                go_simp
                refine hK.out _ _ ?k49 (fun hHeld49 => ?_)
                case k49 =>
                  exact ⟨Still.cell ((Fr.refl _ w3).alloc _ : Still w3 _) q3, fun j v hv => Still.cell ((Fr.refl _ w3).alloc _ : Still w3 _) (RX j v hv)⟩
                clear hK K
                (try simp only [Act.put, List.setIfInBounds_toArray, List.set_cons_zero, List.set_cons_succ])
                refine wpAnyH_ready (rs := [8, 10]) (by kernel_rfl) (by simp) ?_
                refine AllReadyH.cons rfl (fun K hK => ?_) (AllReadyH.cons rfl (fun K hK => ?_) AllReadyH.nil)
                · skip
                  refine step_append_srow (S := S66) rfl (.tmp 55) (.tmp 61) rfl w3.heap.size 0 [] (L.take i) (.slice (some ⟨_, 0, none⟩) 0 0) _ rfl rfl ?_ ?_ ?_ ?_ ?_
                  · exact (owns_newS (S := S66) w3).drew
                  · exact (R1.out.alloc _).drew
                  · have := LL.out; simp only [List.length_take]; omega
                  · simp; try omega
                  intro v10 w10 ho10 hg10 _
                  have s10 : Hid (Still w3 w10) := hid (Fr.of_own ((Fr.refl _ w3).alloc _).drew (owns_newS (S := S66) w3).drew hg10 (Nat.le_refl _))
                  have O10 := hid ho10
                  clear ho10 hg10
                  refine hK.out _ _ ?k50 (fun hHeld50 => ?_)
                  case k50 =>
                    exact ⟨Still.cell s10.out q3, fun j v hv => Still.cell s10.out (RX j v hv)⟩
                  clear hK K
                  (try simp only [Act.put, List.setIfInBounds_toArray, List.set_cons_zero, List.set_cons_succ])
                  refine wpAnyH_ready (rs := [10]) (by kernel_rfl) (by simp) ?_
                  refine AllReadyH.cons rfl (fun K hK => ?st51) AllReadyH.nil
                  go_simp
                  refine hK.out _ _ ?k51 (fun hHeld51 => ?_)
                  case k51 =>
                    exact ⟨Still.cell (s10.out.alloc _ : Still w3 _) q3, fun j v hv => Still.cell (s10.out.alloc _ : Still w3 _) (RX j v hv)⟩
                  clear hK K
                  (try simp only [Act.put, List.setIfInBounds_toArray, List.set_cons_zero, List.set_cons_succ])
                  have OW11 := O10.out.alloc (.cells (S66.cells x).toArray 80)
                  have ONE11 := one_newS (S := S66) w10 x 1
                  have SW11 : Still w3 (w10.alloc (.cells (S66.cells x).toArray 80)) := s10.out.alloc _
                  refine wpAnyH_ready (rs := [11]) (by kernel_rfl) (by simp) ?_
                  refine AllReadyH.cons rfl (fun K hK => ?st52) AllReadyH.nil
                  refine step_append_srow (S := S66) rfl (.tmp 62) (.tmp 64) rfl w3.heap.size (0 + (L.take i).length) ([] ++ L.take i) [x] v10 _ rfl rfl OW11 ONE11 ?_ SW11.size ?_
                  · have := LL.out; simp only [List.length_take, List.length_cons, List.length_nil]; omega
                  intro v12 w12 ho12 hg12 _
                  have s12 : Hid (Still w3 w12) := hid (Fr.of_own SW11 OW11 hg12 (Nat.le_refl _))
                  have O12 := hid ho12
                  clear ho12 hg12
                  refine hK.out _ _ ?k52 (fun hHeld52 => ?_)
                  case k52 =>
                    exact ⟨Still.cell s12.out q3, fun j v hv => Still.cell s12.out (RX j v hv)⟩
                  clear hK K
                  (try simp only [Act.put, List.setIfInBounds_toArray, List.set_cons_zero, List.set_cons_succ])
                  refine wpAnyH_ready (rs := [18]) (by kernel_rfl) (by simp) ?_
                  refine AllReadyH.cons rfl (fun K hK => ?st53) AllReadyH.nil
                  refine step_append_srow (S := S66) rfl (.tmp 65) (.tmp 71) rfl w3.heap.size (0 + (L.take i).length + [x].length) ([] ++ L.take i ++ [x]) (L.drop i) v12 _ rfl rfl O12.out (R2.out.still s12.out) ?_ s12.out.size ?_
                  · have := LL.out; simp only [List.length_take, List.length_drop, List.length_cons, List.length_nil]; omega
                  intro v13 w13 ho13 hg13 _
                  have s13 : Hid (Still w3 w13) := hid (Fr.of_own s12.out O12.out hg13 (Nat.le_refl _))
                  have O13 := hid ho13
                  clear ho13 hg13
                  refine hK.out _ _ ?k53 (fun hHeld53 => ?_)
                  case k53 =>
                    exact ⟨Still.cell s13.out q3, fun j v hv => Still.cell s13.out (RX j v hv)⟩
                  clear hK K
                  (try simp only [Act.put, List.setIfInBounds_toArray, List.set_cons_zero, List.set_cons_succ])
                  refine wpAnyH_take (i := 19) (oi := _) (v := ?v54) rfl (by kernel_rfl) (by kernel_rfl) (by kernel_rfl) (fun _ _ _ h => h) (Or.inl ⟨by rfl, ?y54⟩) (by assumption) ?r54
                  case y54 => ((intro w hSw); (try dsimp only at hSw); go_simp; (try with_reducible rfl))
                  (try simp only [Act.put, List.setIfInBounds_toArray, List.set_cons_zero, List.set_cons_succ])
                  refine wpAnyH_take (i := 20) (oi := _) (v := ?v55) rfl (by kernel_rfl) (by kernel_rfl) (by kernel_rfl) (fun _ _ _ h => h) (Or.inl ⟨by rfl, ?y55⟩) (by assumption) ?r55
                  case y55 => ((intro w hSw); (try dsimp only at hSw); go_simp; (try with_reducible rfl))
                  (try simp only [Act.put, List.setIfInBounds_toArray, List.set_cons_zero, List.set_cons_succ])
                  refine wpAnyH_done (by kernel_rfl) (Held.tailQ_normal ?_) _
                  have q13 := Still.cell s13.out q3
                  have z13 : w13.frozen? ⟨Q, 1, none⟩ = false := Still.frz s13.out hQl z3
                  have O14 := O13.out
                  rw [EL.out, List.nil_append, ← INS.out] at O14
                  have T14 := hid (T3.out.swap s13.out O14 (Nat.le_refl _) (thrE.up_ins x L H.out.up) LI.out)
                  have hv1 := Value.slice_cells O14
                  refine wpList_store1 rfl (.tmp 74) (.tmp 72) 66 rfl Q 1 _ v13 (by kernel_rfl) hv1.1 hv1.2 rfl rfl q13 z13 ?_
                  intro w14 hw14
                  rw [← hw14] at T14
                  have Z14 : Hid (w13.heap.size ≤ w14.heap.size) := hid (by rw [hw14]; exact (Fr.setCell (F := fun k => k = Q) (p := ⟨Q, 1, none⟩) (Fr.refl _ w13) (.inl rfl) v13).size)
                  have F14 : Hid (Fr O w w14) := hid (by rw [hw14]; exact Fr.setCell (F3.out.trans (s13.out.fr _)) (p := ⟨Q, 1, none⟩) (.inl H.out.lQ) _)
                  clear hw14 q13 z13 hv1 O14
                  go_wp2_with fail
                  all_goals
                    go_ret2
                    exact ⟨rfl, by rw [SL.out]; exact T14.out.mono (fun k hk => hk.imp _root_.id fun h => ⟨Nat.le_trans F3.out.size h.1, Nat.lt_of_lt_of_le h.2 Z14.out⟩) (fun k hk => hk.elim (fun h => Nat.lt_of_lt_of_le (H.out.ub k h) F14.out.size) (fun h => h.2)), F14.out⟩
                · skip
                  go_simp
                  refine hK.out _ _ ?k56 (fun hHeld56 => ?_)
                  case k56 =>
                    exact ⟨Still.cell ((((Fr.refl _ w3).alloc _).drew).alloc _ : Still w3 _) q3, fun j v hv => Still.cell ((((Fr.refl _ w3).alloc _).drew).alloc _ : Still w3 _) (RX j v hv)⟩
                  clear hK K
                  (try simp only [Act.put, List.setIfInBounds_toArray, List.set_cons_zero, List.set_cons_succ])
                  refine wpAnyH_ready (rs := [8]) (by kernel_rfl) (by simp) ?_
                  refine AllReadyH.cons rfl (fun K hK => ?st57) AllReadyH.nil
                  refine step_append_srow (S := S66) rfl (.tmp 55) (.tmp 61) rfl w3.heap.size 0 [] (L.take i) (.slice (some ⟨_, 0, none⟩) 0 0) _ rfl rfl ?_ ?_ ?_ ?_ ?_
                  · exact ((owns_newS (S := S66) w3).drew.alloc _)
                  · exact (((R1.out.alloc _).drew).alloc _)
                  · have := LL.out; simp only [List.length_take]; omega
                  · simp; try omega
                  intro v10 w10 ho10 hg10 _
                  have s10 : Hid (Still w3 w10) := hid (Fr.of_own ((((Fr.refl _ w3).alloc _).drew).alloc _) ((owns_newS (S := S66) w3).drew.alloc _) hg10 (Nat.le_refl _))
                  have ONE11 : SRow S66 w10 _ [x] := ((one_newS1 (S := S66) w3 (.cells #[] 80) x 1).drew).fr (F := fun k => k = w3.heap.size) (Fr.of_grownBy hg10 (F := fun k => k = w3.heap.size) (fun j ej _ => by injection ej with ej; exact ej.symm)) (fun b off c n e hb => by injection e with e1 _ _; injection e1 with e1; injection e1 with e1 _ _; have hbx : b = w3.heap.size := hb; omega)
                  have O10 := hid ho10
                  clear ho10 hg10
                  refine hK.out _ _ ?k57 (fun hHeld57 => ?_)
                  case k57 =>
                    exact ⟨Still.cell s10.out q3, fun j v hv => Still.cell s10.out (RX j v hv)⟩
                  clear hK K
                  (try simp only [Act.put, List.setIfInBounds_toArray, List.set_cons_zero, List.set_cons_succ])
                  have OW11 := O10.out
                  have SW11 := s10.out
                  refine wpAnyH_ready (rs := [11]) (by kernel_rfl) (by simp) ?_
                  refine AllReadyH.cons rfl (fun K hK => ?st58) AllReadyH.nil
                  refine step_append_srow (S := S66) rfl (.tmp 62) (.tmp 64) rfl w3.heap.size (0 + (L.take i).length) ([] ++ L.take i) [x] v10 _ rfl rfl OW11 ONE11 ?_ SW11.size ?_
                  · have := LL.out; simp only [List.length_take, List.length_cons, List.length_nil]; omega
                  intro v12 w12 ho12 hg12 _
                  have s12 : Hid (Still w3 w12) := hid (Fr.of_own SW11 OW11 hg12 (Nat.le_refl _))
                  have O12 := hid ho12
                  clear ho12 hg12
                  refine hK.out _ _ ?k58 (fun hHeld58 => ?_)
                  case k58 =>
                    exact ⟨Still.cell s12.out q3, fun j v hv => Still.cell s12.out (RX j v hv)⟩
                  clear hK K
                  (try simp only [Act.put, List.setIfInBounds_toArray, List.set_cons_zero, List.set_cons_succ])
                  refine wpAnyH_ready (rs := [18]) (by kernel_rfl) (by simp) ?_
                  refine AllReadyH.cons rfl (fun K hK => ?st59) AllReadyH.nil
                  refine step_append_srow (S := S66) rfl (.tmp 65) (.tmp 71) rfl w3.heap.size (0 + (L.take i).length + [x].length) ([] ++ L.take i ++ [x]) (L.drop i) v12 _ rfl rfl O12.out (R2.out.still s12.out) ?_ s12.out.size ?_
                  · have := LL.out; simp only [List.length_take, List.length_drop, List.length_cons, List.length_nil]; omega
                  intro v13 w13 ho13 hg13 _
                  have s13 : Hid (Still w3 w13) := hid (Fr.of_own s12.out O12.out hg13 (Nat.le_refl _))
                  have O13 := hid ho13
                  clear ho13 hg13
                  refine hK.out _ _ ?k59 (fun hHeld59 => ?_)
                  case k59 =>
                    exact ⟨Still.cell s13.out q3, fun j v hv => Still.cell s13.out (RX j v hv)⟩
                  clear hK K
                  (try simp only [Act.put, List.setIfInBounds_toArray, List.set_cons_zero, List.set_cons_succ])
                  refine wpAnyH_take (i := 19) (oi := _) (v := ?v60) rfl (by kernel_rfl) (by kernel_rfl) (by kernel_rfl) (fun _ _ _ h => h) (Or.inl ⟨by rfl, ?y60⟩) (by assumption) ?r60
                  case y60 => ((intro w hSw); (try dsimp only at hSw); go_simp; (try with_reducible rfl))
                  (try simp only [Act.put, List.setIfInBounds_toArray, List.set_cons_zero, List.set_cons_succ])
                  refine wpAnyH_take (i := 20) (oi := _) (v := ?v61) rfl (by kernel_rfl) (by kernel_rfl) (by kernel_rfl) (fun _ _ _ h => h) (Or.inl ⟨by rfl, ?y61⟩) (by assumption) ?r61
                  case y61 => ((intro w hSw); (try dsimp only at hSw); go_simp; (try with_reducible rfl))
                  (try simp only [Act.put, List.setIfInBounds_toArray, List.set_cons_zero, List.set_cons_succ])
                  refine wpAnyH_done (by kernel_rfl) (Held.tailQ_normal ?_) _
                  have q13 := Still.cell s13.out q3
                  have z13 : w13.frozen? ⟨Q, 1, none⟩ = false := Still.frz s13.out hQl z3
                  have O14 := O13.out
                  rw [EL.out, List.nil_append, ← INS.out] at O14
                  have T14 := hid (T3.out.swap s13.out O14 (Nat.le_refl _) (thrE.up_ins x L H.out.up) LI.out)
                  have hv1 := Value.slice_cells O14
                  refine wpList_store1 rfl (.tmp 74) (.tmp 72) 66 rfl Q 1 _ v13 (by kernel_rfl) hv1.1 hv1.2 rfl rfl q13 z13 ?_
                  intro w14 hw14
                  rw [← hw14] at T14
                  have Z14 : Hid (w13.heap.size ≤ w14.heap.size) := hid (by rw [hw14]; exact (Fr.setCell (F := fun k => k = Q) (p := ⟨Q, 1, none⟩) (Fr.refl _ w13) (.inl rfl) v13).size)
                  have F14 : Hid (Fr O w w14) := hid (by rw [hw14]; exact Fr.setCell (F3.out.trans (s13.out.fr _)) (p := ⟨Q, 1, none⟩) (.inl H.out.lQ) _)
                  clear hw14 q13 z13 hv1 O14
                  go_wp2_with fail
                  all_goals
                    go_ret2
                    exact ⟨rfl, by rw [SL.out]; exact T14.out.mono (fun k hk => hk.imp _root_.id fun h => ⟨Nat.le_trans F3.out.size h.1, Nat.lt_of_lt_of_le h.2 Z14.out⟩) (fun k hk => hk.elim (fun h => Nat.lt_of_lt_of_le (H.out.ub k h) F14.out.size) (fun h => h.2)), F14.out⟩
              · skip
                go_simp
                refine hK.out _ _ ?k62 (fun hHeld62 => ?_)
                case k62 =>
                  exact ⟨Still.cell ((Fr.refl _ w3).alloc _ : Still w3 _) q3, fun j v hv => Still.cell ((Fr.refl _ w3).alloc _ : Still w3 _) (RX j v hv)⟩
                clear hK K
                (try simp only [Act.put, List.setIfInBounds_toArray, List.set_cons_zero, List.set_cons_succ])
                refine wpAnyH_ready (rs := [1]) (by kernel_rfl) (by simp) ?_
                refine AllReadyH.cons rfl (fun K hK => ?st63) AllReadyH.nil
                go_simp
                refine hK.out _ _ ?k63 (fun hHeld63 => ?_)
                case k63 =>
                  exact ⟨Still.cell ((((Fr.refl _ w3).alloc _).drew).alloc _ : Still w3 _) q3, fun j v hv => Still.cell ((((Fr.refl _ w3).alloc _).drew).alloc _ : Still w3 _) (RX j v hv)⟩
                clear hK K
                (try simp only [Act.put, List.setIfInBounds_toArray, List.set_cons_zero, List.set_cons_succ])
                refine wpAnyH_ready (rs := [8]) (by kernel_rfl) (by simp) ?_
                refine AllReadyH.cons rfl (fun K hK => ?st64) AllReadyH.nil
                refine step_append_srow (S := S66) rfl (.tmp 55) (.tmp 61) rfl w3.heap.size 0 [] (L.take i) (.slice (some ⟨_, 0, none⟩) 0 0) _ rfl rfl ?_ ?_ ?_ ?_ ?_
                · exact (owns_newS1 (S := S66) w3 _)
                · exact (((R1.out.alloc _).drew).alloc _)
                · have := LL.out; simp only [List.length_take]; omega
                · simp; try omega
                intro v10 w10 ho10 hg10 _
                have s10 : Hid (Still w3 w10) := hid (Fr.of_own ((((Fr.refl _ w3).alloc _).drew).alloc _) (owns_newS1 (S := S66) w3 _) hg10 (Nat.le_refl _))
                have ONE11 : SRow S66 w10 _ [x] := (((one_newS (S := S66) w3 x 1).alloc _).drew).fr (F := fun k => k = w3.heap.size + 1) (Fr.of_grownBy hg10 (F := fun k => k = w3.heap.size + 1) (fun j ej _ => by injection ej with ej; exact ej.symm)) (fun b off c n e hb => by injection e with e1 _ _; injection e1 with e1; injection e1 with e1 _ _; have hbx : b = w3.heap.size + 1 := hb; omega)
                have O10 := hid ho10
                clear ho10 hg10
                refine hK.out _ _ ?k64 (fun hHeld64 => ?_)
                case k64 =>
                  exact ⟨Still.cell s10.out q3, fun j v hv => Still.cell s10.out (RX j v hv)⟩
                clear hK K
                (try simp only [Act.put, List.setIfInBounds_toArray, List.set_cons_zero, List.set_cons_succ])
                have OW11 := O10.out
                have SW11 := s10.out
                refine wpAnyH_ready (rs := [11]) (by kernel_rfl) (by simp) ?_
                refine AllReadyH.cons rfl (fun K hK => ?st65) AllReadyH.nil
                refine step_append_srow (S := S66) rfl (.tmp 62) (.tmp 64) rfl w3.heap.size (0 + (L.take i).length) ([] ++ L.take i) [x] v10 _ rfl rfl OW11 ONE11 ?_ SW11.size ?_
                · have := LL.out; simp only [List.length_take, List.length_cons, List.length_nil]; omega
                intro v12 w12 ho12 hg12 _
                have s12 : Hid (Still w3 w12) := hid (Fr.of_own SW11 OW11 hg12 (Nat.le_refl _))
                have O12 := hid ho12
                clear ho12 hg12
                refine hK.out _ _ ?k65 (fun hHeld65 => ?_)
                case k65 =>
                  exact ⟨Still.cell s12.out q3, fun j v hv => Still.cell s12.out (RX j v hv)⟩
                clear hK K
                (try simp only [Act.put, List.setIfInBounds_toArray, List.set_cons_zero, List.set_cons_succ])
                refine wpAnyH_ready (rs := [18]) (by kernel_rfl) (by simp) ?_
                refine AllReadyH.cons rfl (fun K hK => ?st66) AllReadyH.nil
                refine step_append_srow (S := S66) rfl (.tmp 65) (.tmp 71) rfl w3.heap.size (0 + (L.take i).length + [x].length) ([] ++ L.take i ++ [x]) (L.drop i) v12 _ rfl rfl O12.out (R2.out.still s12.out) ?_ s12.out.size ?_
                · have := LL.out; simp only [List.length_take, List.length_drop, List.length_cons, List.length_nil]; omega
                intro v13 w13 ho13 hg13 _
                have s13 : Hid (Still w3 w13) := hid (Fr.of_own s12.out O12.out hg13 (Nat.le_refl _))
                have O13 := hid ho13
                clear ho13 hg13
                refine hK.out _ _ ?k66 (fun hHeld66 => ?_)
                case k66 =>
                  exact ⟨Still.cell s13.out q3, fun j v hv => Still.cell s13.out (RX j v hv)⟩
                clear hK K
                (try simp only [Act.put, List.setIfInBounds_toArray, List.set_cons_zero, List.set_cons_succ])
                refine wpAnyH_take (i := 19) (oi := _) (v := ?v67) rfl (by kernel_rfl) (by kernel_rfl) (by kernel_rfl) (fun _ _ _ h => h) (Or.inl ⟨by rfl, ?y67⟩) (by assumption) ?r67
                case y67 => ((intro w hSw); (try dsimp only at hSw); go_simp; (try with_reducible rfl))
                (try simp only [Act.put, List.setIfInBounds_toArray, List.set_cons_zero, List.set_cons_succ])
                refine wpAnyH_take (i := 20) (oi := _) (v := ?v68) rfl (by kernel_rfl) (by kernel_rfl) (by kernel_rfl) (fun _ _ _ h => h) (Or.inl ⟨by rfl, ?y68⟩) (by assumption) ?r68
                case y68 => ((intro w hSw); (try dsimp only at hSw); go_simp; (try with_reducible rfl))
                (try simp only [Act.put, List.setIfInBounds_toArray, List.set_cons_zero, List.set_cons_succ])
                refine wpAnyH_done (by kernel_rfl) (Held.tailQ_normal ?_) _
                have q13 := Still.cell s13.out q3
                have z13 : w13.frozen? ⟨Q, 1, none⟩ = false := Still.frz s13.out hQl z3
                have O14 := O13.out
                rw [EL.out, List.nil_append, ← INS.out] at O14
                have T14 := hid (T3.out.swap s13.out O14 (Nat.le_refl _) (thrE.up_ins x L H.out.up) LI.out)
                have hv1 := Value.slice_cells O14
                refine wpList_store1 rfl (.tmp 74) (.tmp 72) 66 rfl Q 1 _ v13 (by kernel_rfl) hv1.1 hv1.2 rfl rfl q13 z13 ?_
                intro w14 hw14
                rw [← hw14] at T14
                have Z14 : Hid (w13.heap.size ≤ w14.heap.size) := hid (by rw [hw14]; exact (Fr.setCell (F := fun k => k = Q) (p := ⟨Q, 1, none⟩) (Fr.refl _ w13) (.inl rfl) v13).size)
                have F14 : Hid (Fr O w w14) := hid (by rw [hw14]; exact Fr.setCell (F3.out.trans (s13.out.fr _)) (p := ⟨Q, 1, none⟩) (.inl H.out.lQ) _)
                clear hw14 q13 z13 hv1 O14
                go_wp2_with fail
                all_goals
                  go_ret2
                  exact ⟨rfl, by rw [SL.out]; exact T14.out.mono (fun k hk => hk.imp _root_.id fun h => ⟨Nat.le_trans F3.out.size h.1, Nat.lt_of_lt_of_le h.2 Z14.out⟩) (fun k hk => hk.elim (fun h => Nat.lt_of_lt_of_le (H.out.ub k h) F14.out.size) (fun h => h.2)), F14.out⟩
          · have hlt' : ¬ (i : Int) < (L.length : Int) := by omega
            have INS : Hid (thrE.ins x L = L.take i ++ [x] ++ L.drop i) := hid (ins_pos H.out.up hi (fun j hj h0 => by rw [← HX.out]; exact LO.out j hj h0) (fun hj => absurd hj hlt))
            have HI2 := hid hi
            have EL : Hid (0 + (L.take i).length + [x].length + (L.drop i).length = (thrE.ins x L).length) := hid (by rw [INS.out]; simp only [List.length_append]; omega)
            go_wp2_with (first
              | (refine wpList_loadW rfl (.tmp 4) 58 rfl _ Tryd.underlying58 rfl _ 58 [.int .i64 c.p, .int .i64 c.q, .int .i64 c.r0, .int .i64 c.r1, .int .i64 c.r2, .int .i64 c.r3, .int .i64 c.r4, .int .i64 c.r5, .int .i64 c.r6, .int .i64 c.r7, .int .i64 c.d] I58 rfl B2.out ?_)
              | (refine wpList_storeW rfl (.tmp 11) (.tmp 53) 80 rfl _ 80 [.int .i64 t0.i, .int .i64 t0.s, .int .i64 t0.t, .int .i64 t0.c.p, .int .i64 t0.c.q, .int .i64 t0.c.r0, .int .i64 t0.c.r1, .int .i64 t0.c.r2, .int .i64 t0.c.r3, .int .i64 t0.c.r4, .int .i64 t0.c.r5, .int .i64 t0.c.r6, .int .i64 t0.c.r7, .int .i64 t0.c.d, .int .i64 t0.d] [.int .i64 x.i, .int .i64 x.s, .int .i64 x.t, .int .i64 x.c.p, .int .i64 x.c.q, .int .i64 x.c.r0, .int .i64 x.c.r1, .int .i64 x.c.r2, .int .i64 x.c.r3, .int .i64 x.c.r4, .int .i64 x.c.r5, .int .i64 x.c.r6, .int .i64 x.c.r7, .int .i64 x.c.d, .int .i64 x.d] I80 (ones x) rfl (by rw [← HX.out]; rfl) (new_r _) rfl ?_; intro w3 b3 f3; have B3 := hid b3; have S3 : Hid (Still wr w3) := hid (Still.next ((Fr.refl _ _).alloc _) f3 (fun k hk => by rw [hk]; exact Nat.le_refl _)); clear b3 f3))
            have T3 := hid (T2.out.still S3.out)
            have F3 : Hid (Fr O w w3) := hid (F2.out.trans (S3.out.fr _))
            have z3 := T3.out.z1
            obtain ⟨xb, hxb⟩ : ∃ xb, wr.heap.size = xb := ⟨_, rfl⟩
            rw [hxb] at B3 ⊢
            have RX : w3.rangeAt xb 0 [.int .i64 x.i, .int .i64 x.s, .int .i64 x.t, .int .i64 x.c.p, .int .i64 x.c.q, .int .i64 x.c.r0, .int .i64 x.c.r1, .int .i64 x.c.r2, .int .i64 x.c.r3, .int .i64 x.c.r4, .int .i64 x.c.r5, .int .i64 x.c.r6, .int .i64 x.c.r7, .int .i64 x.c.d, .int .i64 x.d] := fun j v hv => by rw [Nat.zero_add, B3.out.cell j]; exact hv
            clear hxb
            have O3 := HO.out.fr S3.out
            have q3 := O3.v1
            have hQl : Q < w3.heap.size := World.block_lt_of_cell? _ _ q3
            have hc1 := O3.c1
            have hi3 := HI2.out
            have iq : i ≤ cap := by omega
            have R1 := hid (srow_take (S := S66) (q := cap) O3.b rfl O3.c4 HI2.out)
            have R2 := hid (srow_drop (S := S66) (l := L.length - i) (a := if cap = i then some ⟨g, 0, none⟩ else some ⟨g, i * 15, none⟩) (k := cap - i) O3.b rfl O3.c4 HI2.out rfl hc1 (fun h => if_neg (by omega)))
            clear O3
            refine Held.wp_region_held_tail (S := (fun w' => w'.cell? ⟨Q, 1, none⟩ = some (.slice (some ⟨g, 0, none⟩) L.length cap) ∧ w'.rangeAt xb 0 [.int .i64 x.i, .int .i64 x.s, .int .i64 x.t, .int .i64 x.c.p, .int .i64 x.c.q, .int .i64 x.c.r0, .int .i64 x.c.r1, .int .i64 x.c.r2, .int .i64 x.c.r3, .int .i64 x.c.r4, .int .i64 x.c.r5, .int .i64 x.c.r6, .int .i64 x.c.r7, .int .i64 x.c.d, .int .i64 x.d])) 21 (by kernel_rfl) (by kernel_rfl) (by decide) ?hS69 (fun hHeld => ?hR69)
            case hS69 =>
              exact ⟨q3, RX⟩
            simp only [List.take_succ_cons, List.take_zero, List.drop_succ_cons, List.drop_zero]
            refine wpAnyH_take (i := 0) (oi := _) (v := ?v70) rfl (by kernel_rfl) (by kernel_rfl) (by kernel_rfl) (fun _ _ _ h => h) (Or.inl ⟨by rfl, ?y70⟩) (by assumption) ?r70
            case y70 => ((intro w hSw); (try dsimp only at hSw); go_simp; (try with_reducible rfl))
            (try simp only [Act.put, List.setIfInBounds_toArray, List.set_cons_zero, List.set_cons_succ])
            refine wpAnyH_take (i := 9) (oi := _) (v := (Value.agg #[.int .i64 x.i, .int .i64 x.s, .int .i64 x.t, .int .i64 x.c.p, .int .i64 x.c.q, .int .i64 x.c.r0, .int .i64 x.c.r1, .int .i64 x.c.r2, .int .i64 x.c.r3, .int .i64 x.c.r4, .int .i64 x.c.r5, .int .i64 x.c.r6, .int .i64 x.c.r7, .int .i64 x.c.d, .int .i64 x.d])) rfl (by kernel_rfl) (by kernel_rfl) (by kernel_rfl) (fun _ _ _ h => h) (yieldsIf_load_mid rfl 80 _ rfl xb 0 rfl [.int .i64 x.i, .int .i64 x.s, .int .i64 x.t, .int .i64 x.c.p, .int .i64 x.c.q, .int .i64 x.c.r0, .int .i64 x.c.r1, .int .i64 x.c.r2, .int .i64 x.c.r3, .int .i64 x.c.r4, .int .i64 x.c.r5, .int .i64 x.c.r6, .int .i64 x.c.r7, .int .i64 x.c.d, .int .i64 x.d] _ (fun w h => h.2) Tryd.underlying80 rfl I80) (by assumption) ?rM2
            simp only [Act.put, List.getElem_toArray, List.getElem_cons_zero, List.getElem_cons_succ, List.setIfInBounds_toArray, List.set_cons_zero, List.set_cons_succ]
            refine wpAnyH_take (i := 2) (oi := _) (v := ?v71) rfl (by kernel_rfl) (by kernel_rfl) (by kernel_rfl) (fun _ _ _ h => h) (Or.inl ⟨by rfl, ?y71⟩) (by assumption) ?r71
            case y71 => ((intro w hSw); (try dsimp only at hSw); go_simp; (try with_reducible rfl))
            (try simp only [Act.put, List.setIfInBounds_toArray, List.set_cons_zero, List.set_cons_succ])
            refine wpAnyH_take (i := 3) (oi := _) (v := ?v72) rfl (by kernel_rfl) (by kernel_rfl) (by kernel_rfl) (fun _ _ _ h => h) (Or.inl ⟨by rfl, ?y72⟩) (by assumption) ?r72
            case y72 => ((intro w hSw); (try dsimp only at hSw); go_simp; (try with_reducible rfl))
            (try simp only [Act.put, List.setIfInBounds_toArray, List.set_cons_zero, List.set_cons_succ])
            refine wpAnyH_take (i := 4) (oi := _) (v := ?v73) rfl (by kernel_rfl) (by kernel_rfl) (by kernel_rfl) (fun _ _ _ h => h) (Or.inl ⟨by rfl, ?y73⟩) (by assumption) ?r73
            case y73 => ((intro w hSw); (try dsimp only at hSw); go_simp; (try with_reducible rfl))
            (try simp only [Act.put, List.setIfInBounds_toArray, List.set_cons_zero, List.set_cons_succ])
            refine wpAnyH_take (i := 5) (oi := _) (v := ?v74) rfl (by kernel_rfl) (by kernel_rfl) (by kernel_rfl) (fun _ _ _ h => h) (Or.inl ⟨by rfl, ?y74⟩) (by assumption) ?r74
            case y74 => ((intro w hSw); (try dsimp only at hSw); go_simp; (try with_reducible rfl))
            (try simp only [Act.put, List.setIfInBounds_toArray, List.set_cons_zero, List.set_cons_succ])
            refine wpAnyH_take (i := 6) (oi := _) (v := ?v75) rfl (by kernel_rfl) (by kernel_rfl) (by kernel_rfl) (fun _ _ _ h => h) (Or.inl ⟨by rfl, ?y75⟩) (by assumption) ?r75
            case y75 => ((intro w hSw); (try dsimp only at hSw); go_simp; (try with_reducible rfl))
            (try simp only [Act.put, List.setIfInBounds_toArray, List.set_cons_zero, List.set_cons_succ])
            refine wpAnyH_take (i := 12) (oi := _) (v := ?v76) rfl (by kernel_rfl) (by kernel_rfl) (by kernel_rfl) (fun _ _ _ h => h) (Or.inl ⟨by rfl, ?y76⟩) (by assumption) ?r76
            case y76 => ((intro w hSw); (try dsimp only at hSw); go_simp; (try with_reducible rfl))
            (try simp only [Act.put, List.setIfInBounds_toArray, List.set_cons_zero, List.set_cons_succ])
            refine wpAnyH_take (i := 13) (oi := _) (v := ?v77) rfl (by kernel_rfl) (by kernel_rfl) (by kernel_rfl) (fun _ _ _ h => h) (Or.inl ⟨by rfl, ?y77⟩) (by assumption) ?r77
            case y77 => ((intro w hSw); (try dsimp only at hSw); go_simp; (try with_reducible rfl))
            (try simp only [Act.put, List.setIfInBounds_toArray, List.set_cons_zero, List.set_cons_succ])
            refine wpAnyH_take (i := 14) (oi := _) (v := ?v78) rfl (by kernel_rfl) (by kernel_rfl) (by kernel_rfl) (fun _ _ _ h => h) (Or.inl ⟨by rfl, ?y78⟩) (by assumption) ?r78
            case y78 => ((intro w hSw); (try dsimp only at hSw); go_simp; (try with_reducible rfl))
            (try simp only [Act.put, List.setIfInBounds_toArray, List.set_cons_zero, List.set_cons_succ])
            refine wpAnyH_take (i := 15) (oi := _) (v := ?v79) rfl (by kernel_rfl) (by kernel_rfl) (by kernel_rfl) (fun _ _ _ h => h) (Or.inl ⟨by rfl, ?y79⟩) (by assumption) ?r79
            case y79 => ((intro w hSw); (try dsimp only at hSw); go_simp; (try with_reducible rfl))
            (try simp only [Act.put, List.setIfInBounds_toArray, List.set_cons_zero, List.set_cons_succ])
            refine wpAnyH_take (i := 16) (oi := _) (v := ?v80) rfl (by kernel_rfl) (by kernel_rfl) (by kernel_rfl) (fun _ _ _ h => h) (Or.inl ⟨by rfl, ?y80⟩) (by assumption) ?r80
            case y80 => ((intro w hSw); (try dsimp only at hSw); go_simp; (try with_reducible rfl))
            (try simp only [Act.put, List.setIfInBounds_toArray, List.set_cons_zero, List.set_cons_succ])
            refine wpAnyH_take (i := 7) (oi := _) (v := ?v81) rfl (by kernel_rfl) (by kernel_rfl) (by kernel_rfl) (fun _ _ _ h => h) (Or.inl ⟨by rfl, ?y81⟩) (by assumption) ?r81
            case y81 => ((intro w hSw); (try dsimp only at hSw); go_simp; (try with_reducible rfl))
            (try simp only [Act.put, List.setIfInBounds_toArray, List.set_cons_zero, List.set_cons_succ])
            refine wpAnyH_take (i := 17) (oi := _) (v := ?v82) rfl (by kernel_rfl) (by kernel_rfl) (by kernel_rfl) (fun _ _ _ h => h) (Or.inl ⟨by rfl, ?y82⟩) (by assumption) ?r82
            case y82 => ((intro w hSw); (try dsimp only at hSw); go_simp; (try with_reducible rfl))
            (try simp only [Act.put, List.setIfInBounds_toArray, List.set_cons_zero, List.set_cons_succ])
            refine wpAnyH_ready (rs := [1, 10]) (by kernel_rfl) (by simp) ?_
            refine AllReadyH.cons rfl (fun K hK => ?_) (AllReadyH.cons rfl (fun K hK => ?_) AllReadyH.nil)
            · skip
              go_simp
              refine hK.out _ _ ?k83 (fun hHeld83 => ?_)
              case k83 =>
                exact ⟨Still.cell ((Fr.refl _ w3).alloc _ : Still w3 _) q3, fun j v hv => Still.cell ((Fr.refl _ w3).alloc _ : Still w3 _) (RX j v hv)⟩
              clear hK K
              (try simp only [Act.put, List.setIfInBounds_toArray, List.set_cons_zero, List.set_cons_succ])
              refine wpAnyH_ready (rs := [8, 10]) (by kernel_rfl) (by simp) ?_
              refine AllReadyH.cons rfl (fun K hK => ?_) (AllReadyH.cons rfl (fun K hK => ?_) AllReadyH.nil)
              · skip
                refine step_append_srow (S := S66) rfl (.tmp 55) (.tmp 61) rfl w3.heap.size 0 [] (L.take i) (.slice (some ⟨_, 0, none⟩) 0 0) _ rfl rfl ?_ ?_ ?_ ?_ ?_
                · exact (owns_newS (S := S66) w3).drew
                · exact (R1.out.alloc _).drew
                · have := LL.out; simp only [List.length_take]; omega
                · simp; try omega
                intro v10 w10 ho10 hg10 _
                have s10 : Hid (Still w3 w10) := hid (Fr.of_own ((Fr.refl _ w3).alloc _).drew (owns_newS (S := S66) w3).drew hg10 (Nat.le_refl _))
                have O10 := hid ho10
                clear ho10 hg10
                refine hK.out _ _ ?k84 (fun hHeld84 => ?_)
                case k84 =>
                  exact ⟨Still.cell s10.out q3, fun j v hv => Still.cell s10.out (RX j v hv)⟩
                clear hK K
                (try simp only [Act.put, List.setIfInBounds_toArray, List.set_cons_zero, List.set_cons_succ])
                refine wpAnyH_ready (rs := [10]) (by kernel_rfl) (by simp) ?_
                refine AllReadyH.cons rfl (fun K hK => ?st85) AllReadyH.nil
                go_simp
                refine hK.out _ _ ?k85 (fun hHeld85 => ?_)
                case k85 =>
                  exact ⟨Still.cell (s10.out.alloc _ : Still w3 _) q3, fun j v hv => Still.cell (s10.out.alloc _ : Still w3 _) (RX j v hv)⟩
                clear hK K
                (try simp only [Act.put, List.setIfInBounds_toArray, List.set_cons_zero, List.set_cons_succ])
                have OW11 := O10.out.alloc (.cells (S66.cells x).toArray 80)
                have ONE11 := one_newS (S := S66) w10 x 1
                have SW11 : Still w3 (w10.alloc (.cells (S66.cells x).toArray 80)) := s10.out.alloc _
                refine wpAnyH_ready (rs := [11]) (by kernel_rfl) (by simp) ?_
                refine AllReadyH.cons rfl (fun K hK => ?st86) AllReadyH.nil
                refine step_append_srow (S := S66) rfl (.tmp 62) (.tmp 64) rfl w3.heap.size (0 + (L.take i).length) ([] ++ L.take i) [x] v10 _ rfl rfl OW11 ONE11 ?_ SW11.size ?_
                · have := LL.out; simp only [List.length_take, List.length_cons, List.length_nil]; omega
                intro v12 w12 ho12 hg12 _
                have s12 : Hid (Still w3 w12) := hid (Fr.of_own SW11 OW11 hg12 (Nat.le_refl _))
                have O12 := hid ho12
                clear ho12 hg12
                refine hK.out _ _ ?k86 (fun hHeld86 => ?_)
                case k86 =>
                  exact ⟨Still.cell s12.out q3, fun j v hv => Still.cell s12.out (RX j v hv)⟩
                clear hK K
                (try simp only [Act.put, List.setIfInBounds_toArray, List.set_cons_zero, List.set_cons_succ])
                refine wpAnyH_ready (rs := [18]) (by kernel_rfl) (by simp) ?_
                refine AllReadyH.cons rfl (fun K hK => ?st87) AllReadyH.nil
                refine step_append_srow (S := S66) rfl (.tmp 65) (.tmp 71) rfl w3.heap.size (0 + (L.take i).length + [x].length) ([] ++ L.take i ++ [x]) (L.drop i) v12 _ rfl rfl O12.out (R2.out.still s12.out) ?_ s12.out.size ?_
                · have := LL.out; simp only [List.length_take, List.length_drop, List.length_cons, List.length_nil]; omega
                intro v13 w13 ho13 hg13 _
                have s13 : Hid (Still w3 w13) := hid (Fr.of_own s12.out O12.out hg13 (Nat.le_refl _))
                have O13 := hid ho13
                clear ho13 hg13
                refine hK.out _ _ ?k87 (fun hHeld87 => ?_)
                case k87 =>
                  exact ⟨Still.cell s13.out q3, fun j v hv => Still.cell s13.out (RX j v hv)⟩
                clear hK K
                (try simp only [Act.put, List.setIfInBounds_toArray, List.set_cons_zero, List.set_cons_succ])
                refine wpAnyH_take (i := 19) (oi := _) (v := ?v88) rfl (by kernel_rfl) (by kernel_rfl) (by kernel_rfl) (fun _ _ _ h => h) (Or.inl ⟨by rfl, ?y88⟩) (by assumption) ?r88
                case y88 => ((intro w hSw); (try dsimp only at hSw); go_simp; (try with_reducible rfl))
                (try simp only [Act.put, List.setIfInBounds_toArray, List.set_cons_zero, List.set_cons_succ])
                refine wpAnyH_take (i := 20) (oi := _) (v := ?v89) rfl (by kernel_rfl) (by kernel_rfl) (by kernel_rfl) (fun _ _ _ h => h) (Or.inl ⟨by rfl, ?y89⟩) (by assumption) ?r89
                case y89 => ((intro w hSw); (try dsimp only at hSw); go_simp; (try with_reducible rfl))
                (try simp only [Act.put, List.setIfInBounds_toArray, List.set_cons_zero, List.set_cons_succ])
                refine wpAnyH_done (by kernel_rfl) (Held.tailQ_normal ?_) _
                have q13 := Still.cell s13.out q3
                have z13 : w13.frozen? ⟨Q, 1, none⟩ = false := Still.frz s13.out hQl z3
                have O14 := O13.out
                rw [EL.out, List.nil_append, ← INS.out] at O14
                have T14 := hid (T3.out.swap s13.out O14 (Nat.le_refl _) (thrE.up_ins x L H.out.up) LI.out)
                have hv1 := Value.slice_cells O14
                refine wpList_store1 rfl (.tmp 74) (.tmp 72) 66 rfl Q 1 _ v13 (by kernel_rfl) hv1.1 hv1.2 rfl rfl q13 z13 ?_
                intro w14 hw14
                rw [← hw14] at T14
                have Z14 : Hid (w13.heap.size ≤ w14.heap.size) := hid (by rw [hw14]; exact (Fr.setCell (F := fun k => k = Q) (p := ⟨Q, 1, none⟩) (Fr.refl _ w13) (.inl rfl) v13).size)
                have F14 : Hid (Fr O w w14) := hid (by rw [hw14]; exact Fr.setCell (F3.out.trans (s13.out.fr _)) (p := ⟨Q, 1, none⟩) (.inl H.out.lQ) _)
                clear hw14 q13 z13 hv1 O14
                go_wp2_with fail
                all_goals
                  go_ret2
                  exact ⟨rfl, by rw [SL.out]; exact T14.out.mono (fun k hk => hk.imp _root_.id fun h => ⟨Nat.le_trans F3.out.size h.1, Nat.lt_of_lt_of_le h.2 Z14.out⟩) (fun k hk => hk.elim (fun h => Nat.lt_of_lt_of_le (H.out.ub k h) F14.out.size) (fun h => h.2)), F14.out⟩
              · skip
                go_simp
                refine hK.out _ _ ?k90 (fun hHeld90 => ?_)
                case k90 =>
                  exact ⟨Still.cell ((((Fr.refl _ w3).alloc _).drew).alloc _ : Still w3 _) q3, fun j v hv => Still.cell ((((Fr.refl _ w3).alloc _).drew).alloc _ : Still w3 _) (RX j v hv)⟩
                clear hK K
                (try simp only [Act.put, List.setIfInBounds_toArray, List.set_cons_zero, List.set_cons_succ])
                refine wpAnyH_ready (rs := [8]) (by kernel_rfl) (by simp) ?_
                refine AllReadyH.cons rfl (fun K hK => ?st91) AllReadyH.nil
                refine step_append_srow (S := S66) rfl (.tmp 55) (.tmp 61) rfl w3.heap.size 0 [] (L.take i) (.slice (some ⟨_, 0, none⟩) 0 0) _ rfl rfl ?_ ?_ ?_ ?_ ?_
                · exact ((owns_newS (S := S66) w3).drew.alloc _)
                · exact (((R1.out.alloc _).drew).alloc _)
                · have := LL.out; simp only [List.length_take]; omega
                · simp; try omega
                intro v10 w10 ho10 hg10 _
                have s10 : Hid (Still w3 w10) := hid (Fr.of_own ((((Fr.refl _ w3).alloc _).drew).alloc _) ((owns_newS (S := S66) w3).drew.alloc _) hg10 (Nat.le_refl _))
                have ONE11 : SRow S66 w10 _ [x] := ((one_newS1 (S := S66) w3 (.cells #[] 80) x 1).drew).fr (F := fun k => k = w3.heap.size) (Fr.of_grownBy hg10 (F := fun k => k = w3.heap.size) (fun j ej _ => by injection ej with ej; exact ej.symm)) (fun b off c n e hb => by injection e with e1 _ _; injection e1 with e1; injection e1 with e1 _ _; have hbx : b = w3.heap.size := hb; omega)
                have O10 := hid ho10
                clear ho10 hg10
                refine hK.out _ _ ?k91 (fun hHeld91 => ?_)
                case k91 =>
                  exact ⟨Still.cell s10.out q3, fun j v hv => Still.cell s10.out (RX j v hv)⟩
                clear hK K
                (try simp only [Act.put, List.setIfInBounds_toArray, List.set_cons_zero, List.set_cons_succ])
                have OW11 := O10.out
                have SW11 := s10.out
                refine wpAnyH_ready (rs := [11]) (by kernel_rfl) (by simp) ?_
                refine AllReadyH.cons rfl (fun K hK => ?st92) AllReadyH.nil
                refine step_append_srow (S := S66) rfl (.tmp 62) (.tmp 64) rfl w3.heap.size (0 + (L.take i).length) ([] ++ L.take i) [x] v10 _ rfl rfl OW11 ONE11 ?_ SW11.size ?_
                · have := LL.out; simp only [List.length_take, List.length_cons, List.length_nil]; omega
                intro v12 w12 ho12 hg12 _
                have s12 : Hid (Still w3 w12) := hid (Fr.of_own SW11 OW11 hg12 (Nat.le_refl _))
                have O12 := hid ho12
                clear ho12 hg12
                refine hK.out _ _ ?k92 (fun hHeld92 => ?_)
                case k92 =>
                  exact ⟨Still.cell s12.out q3, fun j v hv => Still.cell s12.out (RX j v hv)⟩
                clear hK K
                (try simp only [Act.put, List.setIfInBounds_toArray, List.set_cons_zero, List.set_cons_succ])
                refine wpAnyH_ready (rs := [18]) (by kernel_rfl) (by simp) ?_
                refine AllReadyH.cons rfl (fun K hK => ?st93) AllReadyH.nil
                refine step_append_srow (S := S66) rfl (.tmp 65) (.tmp 71) rfl w3.heap.size (0 + (L.take i).length + [x].length) ([] ++ L.take i ++ [x]) (L.drop i) v12 _ rfl rfl O12.out (R2.out.still s12.out) ?_ s12.out.size ?_
                · have := LL.out; simp only [List.length_take, List.length_drop, List.length_cons, List.length_nil]; omega
                intro v13 w13 ho13 hg13 _
                have s13 : Hid (Still w3 w13) := hid (Fr.of_own s12.out O12.out hg13 (Nat.le_refl _))
                have O13 := hid ho13
                clear ho13 hg13
                refine hK.out _ _ ?k93 (fun hHeld93 => ?_)
                case k93 =>
                  exact ⟨Still.cell s13.out q3, fun j v hv => Still.cell s13.out (RX j v hv)⟩
                clear hK K
                (try simp only [Act.put, List.setIfInBounds_toArray, List.set_cons_zero, List.set_cons_succ])
                refine wpAnyH_take (i := 19) (oi := _) (v := ?v94) rfl (by kernel_rfl) (by kernel_rfl) (by kernel_rfl) (fun _ _ _ h => h) (Or.inl ⟨by rfl, ?y94⟩) (by assumption) ?r94
                case y94 => ((intro w hSw); (try dsimp only at hSw); go_simp; (try with_reducible rfl))
                (try simp only [Act.put, List.setIfInBounds_toArray, List.set_cons_zero, List.set_cons_succ])
                refine wpAnyH_take (i := 20) (oi := _) (v := ?v95) rfl (by kernel_rfl) (by kernel_rfl) (by kernel_rfl) (fun _ _ _ h => h) (Or.inl ⟨by rfl, ?y95⟩) (by assumption) ?r95
                case y95 => ((intro w hSw); (try dsimp only at hSw); go_simp; (try with_reducible rfl))
                (try simp only [Act.put, List.setIfInBounds_toArray, List.set_cons_zero, List.set_cons_succ])
                refine wpAnyH_done (by kernel_rfl) (Held.tailQ_normal ?_) _
                have q13 := Still.cell s13.out q3
                have z13 : w13.frozen? ⟨Q, 1, none⟩ = false := Still.frz s13.out hQl z3
                have O14 := O13.out
                rw [EL.out, List.nil_append, ← INS.out] at O14
                have T14 := hid (T3.out.swap s13.out O14 (Nat.le_refl _) (thrE.up_ins x L H.out.up) LI.out)
                have hv1 := Value.slice_cells O14
                refine wpList_store1 rfl (.tmp 74) (.tmp 72) 66 rfl Q 1 _ v13 (by kernel_rfl) hv1.1 hv1.2 rfl rfl q13 z13 ?_
                intro w14 hw14
                rw [← hw14] at T14
                have Z14 : Hid (w13.heap.size ≤ w14.heap.size) := hid (by rw [hw14]; exact (Fr.setCell (F := fun k => k = Q) (p := ⟨Q, 1, none⟩) (Fr.refl _ w13) (.inl rfl) v13).size)
                have F14 : Hid (Fr O w w14) := hid (by rw [hw14]; exact Fr.setCell (F3.out.trans (s13.out.fr _)) (p := ⟨Q, 1, none⟩) (.inl H.out.lQ) _)
                clear hw14 q13 z13 hv1 O14
                go_wp2_with fail
                all_goals
                  go_ret2
                  exact ⟨rfl, by rw [SL.out]; exact T14.out.mono (fun k hk => hk.imp _root_.id fun h => ⟨Nat.le_trans F3.out.size h.1, Nat.lt_of_lt_of_le h.2 Z14.out⟩) (fun k hk => hk.elim (fun h => Nat.lt_of_lt_of_le (H.out.ub k h) F14.out.size) (fun h => h.2)), F14.out⟩
            · skip
              go_simp
              refine hK.out _ _ ?k96 (fun hHeld96 => ?_)
              case k96 =>
                exact ⟨Still.cell ((Fr.refl _ w3).alloc _ : Still w3 _) q3, fun j v hv => Still.cell ((Fr.refl _ w3).alloc _ : Still w3 _) (RX j v hv)⟩
              clear hK K
              (try simp only [Act.put, List.setIfInBounds_toArray, List.set_cons_zero, List.set_cons_succ])
              refine wpAnyH_ready (rs := [1]) (by kernel_rfl) (by simp) ?_
              refine AllReadyH.cons rfl (fun K hK => ?st97) AllReadyH.nil
              go_simp
              refine hK.out _ _ ?k97 (fun hHeld97 => ?_)
              case k97 =>
                exact ⟨Still.cell ((((Fr.refl _ w3).alloc _).drew).alloc _ : Still w3 _) q3, fun j v hv => Still.cell ((((Fr.refl _ w3).alloc _).drew).alloc _ : Still w3 _) (RX j v hv)⟩
              clear hK K
              (try simp only [Act.put, List.setIfInBounds_toArray, List.set_cons_zero, List.set_cons_succ])
              refine wpAnyH_ready (rs := [8]) (by kernel_rfl) (by simp) ?_
              refine AllReadyH.cons rfl (fun K hK => ?st98) AllReadyH.nil
              refine step_append_srow (S := S66) rfl (.tmp 55) (.tmp 61) rfl w3.heap.size 0 [] (L.take i) (.slice (some ⟨_, 0, none⟩) 0 0) _ rfl rfl ?_ ?_ ?_ ?_ ?_
              · exact (owns_newS1 (S := S66) w3 _)
              · exact (((R1.out.alloc _).drew).alloc _)
              · have := LL.out; simp only [List.length_take]; omega
              · simp; try omega
              intro v10 w10 ho10 hg10 _
              have s10 : Hid (Still w3 w10) := hid (Fr.of_own ((((Fr.refl _ w3).alloc _).drew).alloc _) (owns_newS1 (S := S66) w3 _) hg10 (Nat.le_refl _))
              have ONE11 : SRow S66 w10 _ [x] := (((one_newS (S := S66) w3 x 1).alloc _).drew).fr (F := fun k => k = w3.heap.size + 1) (Fr.of_grownBy hg10 (F := fun k => k = w3.heap.size + 1) (fun j ej _ => by injection ej with ej; exact ej.symm)) (fun b off c n e hb => by injection e with e1 _ _; injection e1 with e1; injection e1 with e1 _ _; have hbx : b = w3.heap.size + 1 := hb; omega)
              have O10 := hid ho10
              clear ho10 hg10
              refine hK.out _ _ ?k98 (fun hHeld98 => ?_)
              case k98 =>
                exact ⟨Still.cell s10.out q3, fun j v hv => Still.cell s10.out (RX j v hv)⟩
              clear hK K
              (try simp only [Act.put, List.setIfInBounds_toArray, List.set_cons_zero, List.set_cons_succ])
              have OW11 := O10.out
              have SW11 := s10.out
              refine wpAnyH_ready (rs := [11]) (by kernel_rfl) (by simp) ?_
              refine AllReadyH.cons rfl (fun K hK => ?st99) AllReadyH.nil
              refine step_append_srow (S := S66) rfl (.tmp 62) (.tmp 64) rfl w3.heap.size (0 + (L.take i).length) ([] ++ L.take i) [x] v10 _ rfl rfl OW11 ONE11 ?_ SW11.size ?_
              · have := LL.out; simp only [List.length_take, List.length_cons, List.length_nil]; omega
              intro v12 w12 ho12 hg12 _
              have s12 : Hid (Still w3 w12) := hid (Fr.of_own SW11 OW11 hg12 (Nat.le_refl _))
              have O12 := hid ho12
              clear ho12 hg12
              refine hK.out _ _ ?k99 (fun hHeld99 => ?_)
              case k99 =>
                exact ⟨Still.cell s12.out q3, fun j v hv => Still.cell s12.out (RX j v hv)⟩
              clear hK K
              (try simp only [Act.put, List.setIfInBounds_toArray, List.set_cons_zero, List.set_cons_succ])
              refine wpAnyH_ready (rs := [18]) (by kernel_rfl) (by simp) ?_
              refine AllReadyH.cons rfl (fun K hK => ?st100) AllReadyH.nil
              refine step_append_srow (S := S66) rfl (.tmp 65) (.tmp 71) rfl w3.heap.size (0 + (L.take i).length + [x].length) ([] ++ L.take i ++ [x]) (L.drop i) v12 _ rfl rfl O12.out (R2.out.still s12.out) ?_ s12.out.size ?_
              · have := LL.out; simp only [List.length_take, List.length_drop, List.length_cons, List.length_nil]; omega
              intro v13 w13 ho13 hg13 _
              have s13 : Hid (Still w3 w13) := hid (Fr.of_own s12.out O12.out hg13 (Nat.le_refl _))
              have O13 := hid ho13
              clear ho13 hg13
              refine hK.out _ _ ?k100 (fun hHeld100 => ?_)
              case k100 =>
                exact ⟨Still.cell s13.out q3, fun j v hv => Still.cell s13.out (RX j v hv)⟩
              clear hK K
              (try simp only [Act.put, List.setIfInBounds_toArray, List.set_cons_zero, List.set_cons_succ])
              refine wpAnyH_take (i := 19) (oi := _) (v := ?v101) rfl (by kernel_rfl) (by kernel_rfl) (by kernel_rfl) (fun _ _ _ h => h) (Or.inl ⟨by rfl, ?y101⟩) (by assumption) ?r101
              case y101 => ((intro w hSw); (try dsimp only at hSw); go_simp; (try with_reducible rfl))
              (try simp only [Act.put, List.setIfInBounds_toArray, List.set_cons_zero, List.set_cons_succ])
              refine wpAnyH_take (i := 20) (oi := _) (v := ?v102) rfl (by kernel_rfl) (by kernel_rfl) (by kernel_rfl) (fun _ _ _ h => h) (Or.inl ⟨by rfl, ?y102⟩) (by assumption) ?r102
              case y102 => ((intro w hSw); (try dsimp only at hSw); go_simp; (try with_reducible rfl))
              (try simp only [Act.put, List.setIfInBounds_toArray, List.set_cons_zero, List.set_cons_succ])
              refine wpAnyH_done (by kernel_rfl) (Held.tailQ_normal ?_) _
              have q13 := Still.cell s13.out q3
              have z13 : w13.frozen? ⟨Q, 1, none⟩ = false := Still.frz s13.out hQl z3
              have O14 := O13.out
              rw [EL.out, List.nil_append, ← INS.out] at O14
              have T14 := hid (T3.out.swap s13.out O14 (Nat.le_refl _) (thrE.up_ins x L H.out.up) LI.out)
              have hv1 := Value.slice_cells O14
              refine wpList_store1 rfl (.tmp 74) (.tmp 72) 66 rfl Q 1 _ v13 (by kernel_rfl) hv1.1 hv1.2 rfl rfl q13 z13 ?_
              intro w14 hw14
              rw [← hw14] at T14
              have Z14 : Hid (w13.heap.size ≤ w14.heap.size) := hid (by rw [hw14]; exact (Fr.setCell (F := fun k => k = Q) (p := ⟨Q, 1, none⟩) (Fr.refl _ w13) (.inl rfl) v13).size)
              have F14 : Hid (Fr O w w14) := hid (by rw [hw14]; exact Fr.setCell (F3.out.trans (s13.out.fr _)) (p := ⟨Q, 1, none⟩) (.inl H.out.lQ) _)
              clear hw14 q13 z13 hv1 O14
              go_wp2_with fail
              all_goals
                go_ret2
                exact ⟨rfl, by rw [SL.out]; exact T14.out.mono (fun k hk => hk.imp _root_.id fun h => ⟨Nat.le_trans F3.out.size h.1, Nat.lt_of_lt_of_le h.2 Z14.out⟩) (fun k hk => hk.elim (fun h => Nat.lt_of_lt_of_le (H.out.ub k h) F14.out.size) (fun h => h.2)), F14.out⟩
    · have SL : Hid (spL s L c tk = L) := hid (by rw [EV.out.2.2.2, HTE.out, if_neg (by decide)])
      have TV0 : Hid (tv = 0) := hid (by rw [← HTV.out]; exact takeV_no HTE.out)
      go_wp2_with fail
      go_ret2
      exact ⟨by rw [TV0.out]; rfl, by rw [SL.out]; exact T2.out.up0, F2.out⟩
end
end Go.Proofs.YtffjaaolcphonaaDoor
