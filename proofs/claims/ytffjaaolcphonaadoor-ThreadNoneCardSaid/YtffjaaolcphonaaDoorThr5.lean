/- Threads: Spawn, New. -/
import Derived.Test.YtffjaaolcphonaaDoorThr4
namespace Go.Proofs.YtffjaaolcphonaaDoor
open Go.RowKit Go.Maps
set_option linter.unusedSimpArgs false
section
variable {w w' : World} {P : Nat} {B : SB} {M : Nat} {s : SS} {L : List Thr}
/-- Are these tickets refused? -/
def tkB (tk : Int) : Bool := decide (tk < 1) || decide (65536 < tk)
def spV (s : SS) (tk : Int) : Int := if tkB tk = true then 0 else takeV s
def spE (s : SS) (tk : Int) : Int := if tkB tk = true then 2 else takeE s
def spS (s : SS) (tk : Int) : SS := if tkB tk = true then s else takeS s
def spL (s : SS) (L : List Thr) (c : Ctx) (tk : Int) : List Thr := if tkB tk = true then L else if takeE s = 0 then thrE.ins ⟨takeV s, 1, tk, c, 0⟩ L else L
theorem takeE_cases (s : SS) : takeE s = 0 ∨ takeE s = 3 := by unfold takeE; split <;> simp
set_option maxRecDepth 100000 in
set_option maxHeartbeats 4000000 in
theorem tspawn (h : TAt w P B M s L) (hl : L.length < maxLen) (hI : SI s) (hT : TabD w) (h7 : ¬ B.foot 7) (c : Ctx) (tk : Int) : Calls Tryd.prog 45 #[.pointer (some ⟨P, 0, none⟩), (Value.agg #[.int .i64 c.p, .int .i64 c.q, .int .i64 c.r0, .int .i64 c.r1, .int .i64 c.r2, .int .i64 c.r3, .int .i64 c.r4, .int .i64 c.r5, .int .i64 c.r6, .int .i64 c.r7, .int .i64 c.d]), .int .i64 tk] w fun e w' =>
    e = .returned (.tuple #[.int .i64 (spV s tk), .int .i64 (spE s tk)]) ∧ TAt w' P B M (spS s tk) (spL s L c tk) ∧ Fr (fun k => B.foot k ∨ k = M) w w' := by
  have H := hid h
  have F0 := h.f0
  have hPl := h.ltP
  have HI := hid hI
  have HT := hid hT
  have H7 := hid h7
  have HL := hid hl
  clear h hI hT h7 hl
  unfold spV spE spS spL
  by_cases htk : tkB tk = true
  · simp only [if_pos htk]
    have e1 : (decide (tk < 1) || decide (65536 < tk)) = true := htk
    go_enter Tryd.func45, Tryd.ntmps45
    go_wp2_with fail
    refine (tmade (H.out.still ((Fr.refl _ _).alloc _))).mono ?_
    rintro e w1 ⟨rfl, hw⟩
    have S1 : Hid (Still w w1) := hid (hw ▸ (Fr.refl _ _).alloc _)
    clear hw
    by_cases h1 : tk < 1
    · go_wp2_with fail
      go_ret2
      exact ⟨rfl, H.out.still S1.out, S1.out.fr _⟩
    · have h2 : 65536 < tk := by simpa [h1] using e1
      go_wp2_with fail
      go_ret2
      exact ⟨rfl, H.out.still S1.out, S1.out.fr _⟩
  · simp only [if_neg htk]
    have h1 : ¬ tk < 1 := fun h => htk (by simp [tkB, h])
    have h2 : ¬ 65536 < tk := fun h => htk (by simp [tkB, h])
    clear htk
    obtain ⟨tv, htv⟩ : ∃ tv, takeV s = tv := ⟨_, rfl⟩
    obtain ⟨te, hte⟩ : ∃ te, takeE s = te := ⟨_, rfl⟩
    have TEC := takeE_cases s
    rw [hte] at TEC
    rw [htv, hte]
    have HTV := hid htv
    have HTE := hid hte
    clear htv hte
    go_enter Tryd.func45, Tryd.ntmps45
    go_wp2_with fail
    refine (tmade (H.out.still ((Fr.refl _ _).alloc _))).mono ?_
    rintro e w1 ⟨rfl, hw⟩
    have S1 : Hid (Still w w1) := hid (hw ▸ (Fr.refl _ _).alloc _)
    have B1 : Hid (Blk w1 w.heap.size [.int .i64 c.p, .int .i64 c.q, .int .i64 c.r0, .int .i64 c.r1, .int .i64 c.r2, .int .i64 c.r3, .int .i64 c.r4, .int .i64 c.r5, .int .i64 c.r6, .int .i64 c.r7, .int .i64 c.d] 58) := hid (hw ▸ Blk.new w _ 58)
    have G0 := Still.cell S1.out F0
    have HPl1 : P < w1.heap.size := Nat.lt_of_lt_of_le hPl S1.out.size
    clear hw
    go_wp2_with fail
    refine (stake' (H.out.sl.still S1.out) (HT.out.still S1.out) H7.out HI.out).mono ?_
    rintro e w2 ⟨he, l2, f2⟩
    rw [HTV.out, HTE.out] at he
    subst he
    have T2 : Hid (TAt w2 P B M (takeS s) L) := hid ⟨f2.cellK (Still.cell S1.out H.out.f0) H.out.nPB, f2.cellK (Still.cell S1.out H.out.f1) H.out.nPB, l2, (H.out.m.still S1.out).fr f2 H.out.nMB, H.out.nPM, H.out.nPB, H.out.nMB⟩
    have F2 := hid ((S1.out.fr B.foot).trans f2)
    have B2 := hid (B1.out.fr f2 (fun hf => by have := H.out.sl.lt hf; omega))
    have J1 := T2.out.f1
    clear l2 f2
    rcases TEC with rfl | rfl
    · obtain ⟨z, hz⟩ : ∃ z : Thr, ⟨tv, 1, tk, c, 0⟩ = z := ⟨_, rfl⟩
      have HZ := hid hz
      go_wp2_with fail
      have R2 : w2.rangeAt w.heap.size 0 [.int .i64 c.p, .int .i64 c.q, .int .i64 c.r0, .int .i64 c.r1, .int .i64 c.r2, .int .i64 c.r3, .int .i64 c.r4, .int .i64 c.r5, .int .i64 c.r6, .int .i64 c.r7, .int .i64 c.d] := fun j v hv => by rw [Nat.zero_add, B2.out.cell j]; exact hv
      refine Held.wp_region_held_tail (S := (fun w' => w'.cell? ⟨P, 1, none⟩ = some (.map (some M)) ∧ w'.rangeAt w.heap.size 0 [.int .i64 c.p, .int .i64 c.q, .int .i64 c.r0, .int .i64 c.r1, .int .i64 c.r2, .int .i64 c.r3, .int .i64 c.r4, .int .i64 c.r5, .int .i64 c.r6, .int .i64 c.r7, .int .i64 c.d])) 9 (by kernel_rfl) (by kernel_rfl) (by decide) ?hS1 (fun hHeld => ?hR1)
      case hS1 =>
        exact ⟨J1, R2⟩
      simp only [List.take_succ_cons, List.take_zero, List.drop_succ_cons, List.drop_zero]
      refine wpAnyH_take (i := 0) (oi := _) (v := ?v2) rfl (by kernel_rfl) (by kernel_rfl) (by kernel_rfl) (fun _ _ _ h => h) (Or.inl ⟨by rfl, ?y2⟩) (by assumption) ?r2
      case y2 => ((intro w hSw); (try dsimp only at hSw); go_simp; (try with_reducible rfl))
      (try simp only [Act.put, List.setIfInBounds_toArray, List.set_cons_zero, List.set_cons_succ])
      refine wpAnyH_take (i := 7) (oi := _) (v := (Value.agg #[.int .i64 c.p, .int .i64 c.q, .int .i64 c.r0, .int .i64 c.r1, .int .i64 c.r2, .int .i64 c.r3, .int .i64 c.r4, .int .i64 c.r5, .int .i64 c.r6, .int .i64 c.r7, .int .i64 c.d])) rfl (by kernel_rfl) (by kernel_rfl) (by kernel_rfl) (fun _ _ _ h => h) (yieldsIf_load_mid rfl 58 _ rfl w.heap.size 0 rfl [.int .i64 c.p, .int .i64 c.q, .int .i64 c.r0, .int .i64 c.r1, .int .i64 c.r2, .int .i64 c.r3, .int .i64 c.r4, .int .i64 c.r5, .int .i64 c.r6, .int .i64 c.r7, .int .i64 c.d] _ (fun w h => h.2) Tryd.underlying58 rfl I58) (by assumption) ?rM
      simp only [Act.put, List.setIfInBounds_toArray, List.set_cons_zero, List.set_cons_succ]
      refine wpAnyH_take (i := 1) (oi := _) (v := ?v3) rfl (by kernel_rfl) (by kernel_rfl) (by kernel_rfl) (fun _ _ _ h => h) (Or.inl ⟨by rfl, ?y3⟩) (by assumption) ?r3
      case y3 => ((intro w hSw); (try dsimp only at hSw); go_simp; (try with_reducible rfl))
      (try simp only [Act.put, List.setIfInBounds_toArray, List.set_cons_zero, List.set_cons_succ])
      refine wpAnyH_take (i := 2) (oi := _) (v := ?v4) rfl (by kernel_rfl) (by kernel_rfl) (by kernel_rfl) (fun _ _ _ h => h) (Or.inl ⟨by rfl, ?y4⟩) (by assumption) ?r4
      case y4 => ((intro w hSw); (try dsimp only at hSw); go_simp; (try with_reducible rfl))
      (try simp only [Act.put, List.setIfInBounds_toArray, List.set_cons_zero, List.set_cons_succ])
      refine wpAnyH_take (i := 3) (oi := _) (v := ?v5) rfl (by kernel_rfl) (by kernel_rfl) (by kernel_rfl) (fun _ _ _ h => h) (Or.inl ⟨by rfl, ?y5⟩) (by assumption) ?r5
      case y5 => ((intro w hSw); (try dsimp only at hSw); go_simp; (try with_reducible rfl))
      (try simp only [Act.put, List.setIfInBounds_toArray, List.set_cons_zero, List.set_cons_succ])
      refine wpAnyH_take (i := 4) (oi := _) (v := ?v6) rfl (by kernel_rfl) (by kernel_rfl) (by kernel_rfl) (fun _ _ _ h => h) (Or.inl ⟨by rfl, ?y6⟩) (by assumption) ?r6
      case y6 => ((intro w hSw); (try dsimp only at hSw); go_simp; (try with_reducible rfl))
      (try simp only [Act.put, List.setIfInBounds_toArray, List.set_cons_zero, List.set_cons_succ])
      refine wpAnyH_take (i := 5) (oi := _) (v := ?v7) rfl (by kernel_rfl) (by kernel_rfl) (by kernel_rfl) (fun _ _ _ h => h) (Or.inl ⟨by rfl, ?y7⟩) (by assumption) ?r7
      case y7 => ((intro w hSw); (try dsimp only at hSw); go_simp; (try with_reducible rfl))
      (try simp only [Act.put, List.setIfInBounds_toArray, List.set_cons_zero, List.set_cons_succ])
      refine wpAnyH_take (i := 6) (oi := _) (v := ?v8) rfl (by kernel_rfl) (by kernel_rfl) (by kernel_rfl) (fun _ _ _ h => h) (Or.inl ⟨by rfl, ?y8⟩) (by assumption) ?r8
      case y8 => ((intro w hSw); (try dsimp only at hSw); go_simp; (try with_reducible rfl))
      (try simp only [Act.put, List.setIfInBounds_toArray, List.set_cons_zero, List.set_cons_succ])
      refine wpAnyH_take (i := 8) (oi := _) (v := ?v9) rfl (by kernel_rfl) (by kernel_rfl) (by kernel_rfl) (fun _ _ _ h => h) (Or.inl ⟨by rfl, ?y9⟩) (by assumption) ?r9
      case y9 => ((intro w hSw); (try dsimp only at hSw); go_simp; (try with_reducible rfl))
      (try simp only [Act.put, List.setIfInBounds_toArray, List.set_cons_zero, List.set_cons_succ])
      refine wpAnyH_done (by kernel_rfl) (Held.tailQ_normal ?_) _
      simp only [Act.put, List.getElem_toArray, List.getElem_cons_zero, List.getElem_cons_succ, List.setIfInBounds_toArray, List.set_cons_zero, List.set_cons_succ]
      have zi : Hid (z.i = tv) := hid (by rw [← hz])
      refine wpList_putT rfl (.tmp 34) (.tmp 35) (.tmp 39) rfl T2.out.m.drew HL.out z (by rw [zi.out, ← HTV.out]; exact takeV_wf s) rfl (by rw [zi.out]; rfl) (by rw [← hz]; rfl) ?_
      intro w6 m6 f6
      have T6 := hid (T2.out.drew.put m6 f6)
      have F6 := hid (((F2.out.mono fun k _ h => Or.inl h : Fr (fun k => B.foot k ∨ k = M) w w2).drew).trans (f6.mono fun k _ h => .inr h))
      clear m6 f6 hz
      go_wp2_with fail
      go_ret2
      exact ⟨rfl, by have h := T6.out; rw [← HZ.out] at h; exact h, F6.out⟩
    · go_wp2_with fail
      go_ret2
      exact ⟨rfl, T2.out, F2.out.mono fun k _ h => .inl h⟩
end
end Go.Proofs.YtffjaaolcphonaaDoor
