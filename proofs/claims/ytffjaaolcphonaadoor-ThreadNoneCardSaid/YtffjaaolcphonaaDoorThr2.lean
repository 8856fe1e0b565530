/- Threads: Get, Set, Did, turn. -/
import Derived.Test.YtffjaaolcphonaaDoorThr1
import Derived.Test.YtffjaaolcphonaaDoorHeld
import Derived.Test.YtffjaaolcphonaaDoorHeldIn
import Derived.Deep.RegionHeld3
namespace Go.Proofs.YtffjaaolcphonaaDoor
open Go.RowKit Go.Maps
set_option linter.unusedSimpArgs false
section
variable {w w' : World} {P : Nat} {B : SB} {M : Nat} {s : SS} {L : List Thr}
set_option maxRecDepth 100000 in
set_option maxHeartbeats 4000000 in
theorem tget (h : TAt w P B M s L) (id : Int) (wf : (Lit.int .i64 id).wf = true) : Calls Tryd.prog 56 #[.pointer (some ⟨P, 0, none⟩), .int .i64 id] w fun e w' => e = .returned (.tuple #[(Value.agg #[.int .i64 (fndT L id).i, .int .i64 (fndT L id).s, .int .i64 (fndT L id).t, .int .i64 (fndT L id).c.p, .int .i64 (fndT L id).c.q, .int .i64 (fndT L id).c.r0, .int .i64 (fndT L id).c.r1, .int .i64 (fndT L id).c.r2, .int .i64 (fndT L id).c.r3, .int .i64 (fndT L id).c.r4, .int .i64 (fndT L id).c.r5, .int .i64 (fndT L id).c.r6, .int .i64 (fndT L id).c.r7, .int .i64 (fndT L id).c.d, .int .i64 (fndT L id).d]), .bool (fndE L id == 0)]) ∧ Still w w' := by
  have H := hid h
  have WF := hid wf
  clear h wf
  obtain ⟨y, hy⟩ : ∃ y, fndT L id = y := ⟨_, rfl⟩
  obtain ⟨ee, he⟩ : ∃ ee, fndE L id = ee := ⟨_, rfl⟩
  have FD := fun (u : World) (hu : Still w u) => tfind (H.out.still hu) id WF.out
  rw [hy, he] at FD ⊢
  have FDx := hid FD
  clear FD hy he
  go_enter Tryd.func56, Tryd.ntmps56
  go_wp2_with fail
  refine (FDx.out _ ((Fr.refl _ _).alloc _)).mono ?_
  rintro e w2 ⟨rfl, s2⟩
  have S2 := hid (((Fr.refl _ _).alloc _).trans s2)
  have B2 : Hid (Blk w2 w.heap.size [.int .i64 t0.i, .int .i64 t0.s, .int .i64 t0.t, .int .i64 t0.c.p, .int .i64 t0.c.q, .int .i64 t0.c.r0, .int .i64 t0.c.r1, .int .i64 t0.c.r2, .int .i64 t0.c.r3, .int .i64 t0.c.r4, .int .i64 t0.c.r5, .int .i64 t0.c.r6, .int .i64 t0.c.r7, .int .i64 t0.c.d, .int .i64 t0.d] 77) := hid ((new_t w).still s2)
  clear s2
  go_wp2_with (first
    | (refine wpList_storeW rfl (.tmp 6) (.tmp 12) 77 rfl _ 77 [.int .i64 t0.i, .int .i64 t0.s, .int .i64 t0.t, .int .i64 t0.c.p, .int .i64 t0.c.q, .int .i64 t0.c.r0, .int .i64 t0.c.r1, .int .i64 t0.c.r2, .int .i64 t0.c.r3, .int .i64 t0.c.r4, .int .i64 t0.c.r5, .int .i64 t0.c.r6, .int .i64 t0.c.r7, .int .i64 t0.c.d, .int .i64 t0.d] [.int .i64 y.i, .int .i64 y.s, .int .i64 y.t, .int .i64 y.c.p, .int .i64 y.c.q, .int .i64 y.c.r0, .int .i64 y.c.r1, .int .i64 y.c.r2, .int .i64 y.c.r3, .int .i64 y.c.r4, .int .i64 y.c.r5, .int .i64 y.c.r6, .int .i64 y.c.r7, .int .i64 y.c.d, .int .i64 y.d] I77 (ones y) rfl rfl (new_t _) rfl ?_; intro w3 b3 f3; have B3 := hid b3; have F3 := hid f3; clear b3 f3)
    | (refine wpList_loadW rfl (.tmp 6) 77 rfl _ Tryd.underlying77 rfl _ 77 [.int .i64 y.i, .int .i64 y.s, .int .i64 y.t, .int .i64 y.c.p, .int .i64 y.c.q, .int .i64 y.c.r0, .int .i64 y.c.r1, .int .i64 y.c.r2, .int .i64 y.c.r3, .int .i64 y.c.r4, .int .i64 y.c.r5, .int .i64 y.c.r6, .int .i64 y.c.r7, .int .i64 y.c.d, .int .i64 y.d] I77 rfl B3.out ?_)
    | (refine wpList_storeW rfl (.tmp 4) (.tmp 14) 77 rfl _ 77 [.int .i64 t0.i, .int .i64 t0.s, .int .i64 t0.t, .int .i64 t0.c.p, .int .i64 t0.c.q, .int .i64 t0.c.r0, .int .i64 t0.c.r1, .int .i64 t0.c.r2, .int .i64 t0.c.r3, .int .i64 t0.c.r4, .int .i64 t0.c.r5, .int .i64 t0.c.r6, .int .i64 t0.c.r7, .int .i64 t0.c.d, .int .i64 t0.d] [.int .i64 y.i, .int .i64 y.s, .int .i64 y.t, .int .i64 y.c.p, .int .i64 y.c.q, .int .i64 y.c.r0, .int .i64 y.c.r1, .int .i64 y.c.r2, .int .i64 y.c.r3, .int .i64 y.c.r4, .int .i64 y.c.r5, .int .i64 y.c.r6, .int .i64 y.c.r7, .int .i64 y.c.d, .int .i64 y.d] I77 (ones y) rfl rfl ((B2.out.alloc _).fr F3.out (by have := B2.out.lt; omega)) rfl ?_; intro w4 b4 f4; have B4 := hid b4; have F4 := hid f4; clear b4 f4))
  have S4 : Hid (Still w w4) := hid (Still.next (Still.next (S2.out.trans ((Fr.refl _ _).alloc _)) F3.out (fun k hk => by rw [hk]; exact S2.out.size)) F4.out (fun k hk => by rw [hk]; exact Nat.le_refl _))
  (try simp only [Exit.inBlock, Exit.then]); refine bodyPost_ret (results_cell2 rfl _ _ w.heap.size 77 [.int .i64 y.i, .int .i64 y.s, .int .i64 y.t, .int .i64 y.c.p, .int .i64 y.c.q, .int .i64 y.c.r0, .int .i64 y.c.r1, .int .i64 y.c.r2, .int .i64 y.c.r3, .int .i64 y.c.r4, .int .i64 y.c.r5, .int .i64 y.c.r6, .int .i64 y.c.r7, .int .i64 y.c.d, .int .i64 y.d] _ _ rfl rfl B4.out Tryd.underlying77 rfl I77) rfl ?_
  exact ⟨rfl, S4.out⟩
theorem fnd_key {L : List Thr} {k : Int} (h : fndE L k = 0) : (fndT L k).i = k ∧ fndT L k ∈ L := by
  unfold fndE at h
  unfold fndT
  cases hf : thrE.fnd L k with
  | none => rw [hf] at h; cases h
  | some x =>
    have h1 := List.find?_some hf
    exact ⟨by simpa [thrE] using h1, List.mem_of_find?_eq_some hf⟩
theorem fndE_cases (L : List Thr) (k : Int) : fndE L k = 0 ∨ fndE L k = 4 := by
  unfold fndE; split <;> simp
theorem TAt.put {L' : List Thr} (h : TAt w P B M s L) (hm : MapL thrE Tryd.prog w' M L') (hf : Fr (fun k => k = M) w w') : TAt w' P B M s L' :=
  ⟨hf.cellK h.f0 h.nPM, hf.cellK h.f1 h.nPM, h.sl.fr hf (fun _ h1 h2 => h.nMB (h2 ▸ h1)), hm, h.nPM, h.nPB, h.nMB⟩
theorem TAt.drew (h : TAt w P B M s L) : TAt w.drew P B M s L := h.still (Fr.refl _ _).drew
/-- Behind a change of the one at a key. -/
def updT (L : List Thr) (k : Int) (f : Thr → Thr) : List Thr := if fndE L k = 0 then thrE.ins (f (fndT L k)) L else L
theorem wpList_putT {ops : Array Oper} {rest : List Oper} {o : Oper} {a : Act} {Q : Exit → Act → World → Prop} {b : Nat} (hgd : Region.wanted o (yielded ops a.tmps) = true) (m k v : Operand) (hop : o.op = Op.mapUpdate 88 m k v)
    (h : MapL thrE Tryd.prog w b L) (hl : L.length < maxLen) (x : Thr) (wf : (Lit.int .i64 x.i).wf = true) (hm : a.eval m = .map (some b)) (hk : a.eval k = .int .i64 x.i) (hv : a.eval v = (Value.agg #[.int .i64 x.i, .int .i64 x.s, .int .i64 x.t, .int .i64 x.c.p, .int .i64 x.c.q, .int .i64 x.c.r0, .int .i64 x.c.r1, .int .i64 x.c.r2, .int .i64 x.c.r3, .int .i64 x.c.r4, .int .i64 x.c.r5, .int .i64 x.c.r6, .int .i64 x.c.r7, .int .i64 x.c.d, .int .i64 x.d]))
    (hK : ∀ w', MapL thrE Tryd.prog w' b (thrE.ins x L) → Fr (fun k => k = b) w w' → wpList Tryd.prog ops Q rest (a.put o.dst undef) w') : wpList Tryd.prog ops Q (o :: rest) a w :=
  wpList_mapPut hgd m k v 88 77 hop Tryd.underlying88 Tryd.underlying3 h hl x wf hm hk hv hK
set_option maxRecDepth 100000 in
set_option maxHeartbeats 4000000 in
theorem tset (h : TAt w P B M s L) (hl : L.length < maxLen) (id : Int) (wf : (Lit.int .i64 id).wf = true) (c : Ctx) : Calls Tryd.prog 60 #[.pointer (some ⟨P, 0, none⟩), .int .i64 id, (Value.agg #[.int .i64 c.p, .int .i64 c.q, .int .i64 c.r0, .int .i64 c.r1, .int .i64 c.r2, .int .i64 c.r3, .int .i64 c.r4, .int .i64 c.r5, .int .i64 c.r6, .int .i64 c.r7, .int .i64 c.d])] w fun e w' =>
    e = .returned (.int .i64 (fndE L id)) ∧ TAt w' P B M s (updT L id fun x => { x with c := c }) ∧ Fr (fun k => k = M) w w' := by
  have H := hid h
  have WF := hid wf
  have F1 := h.f1
  have hPl := h.ltP
  clear h wf
  have FK := hid (fnd_key (L := L) (k := id))
  have EC := fndE_cases L id
  have UP : updT L id (fun x => { x with c := c }) = if fndE L id = 0 then thrE.ins { fndT L id with c := c } L else L := rfl
  rw [UP]
  obtain ⟨y, hy⟩ : ∃ y, fndT L id = y := ⟨_, rfl⟩
  obtain ⟨ee, he⟩ : ∃ ee, fndE L id = ee := ⟨_, rfl⟩
  have FD := fun (u : World) (hu : Still w u) => tfind (H.out.still hu) id WF.out
  rw [hy, he] at FD FK ⊢
  rw [he] at EC
  have FDx := hid FD
  clear FD hy he UP
  go_enter Tryd.func60, Tryd.ntmps60
  go_wp2_with fail
  refine (FDx.out _ ((Fr.refl _ _).alloc _)).mono ?_
  rintro e w2 ⟨rfl, s2⟩
  have S2 := hid (((Fr.refl _ _).alloc _).trans s2)
  have B2 : Hid (Blk w2 w.heap.size [.int .i64 c.p, .int .i64 c.q, .int .i64 c.r0, .int .i64 c.r1, .int .i64 c.r2, .int .i64 c.r3, .int .i64 c.r4, .int .i64 c.r5, .int .i64 c.r6, .int .i64 c.r7, .int .i64 c.d] 58) := hid ((Blk.new w _ 58).still s2)
  have G2 := Still.cell S2.out F1
  have HPl2 : P < w2.heap.size := Nat.lt_of_lt_of_le hPl S2.out.size
  clear s2
  rcases EC with rfl | rfl
  · go_wp2_with (first
      | (refine wpList_storeW rfl (.tmp 7) (.tmp 13) 77 rfl _ 77 [.int .i64 t0.i, .int .i64 t0.s, .int .i64 t0.t, .int .i64 t0.c.p, .int .i64 t0.c.q, .int .i64 t0.c.r0, .int .i64 t0.c.r1, .int .i64 t0.c.r2, .int .i64 t0.c.r3, .int .i64 t0.c.r4, .int .i64 t0.c.r5, .int .i64 t0.c.r6, .int .i64 t0.c.r7, .int .i64 t0.c.d, .int .i64 t0.d] [.int .i64 y.i, .int .i64 y.s, .int .i64 y.t, .int .i64 y.c.p, .int .i64 y.c.q, .int .i64 y.c.r0, .int .i64 y.c.r1, .int .i64 y.c.r2, .int .i64 y.c.r3, .int .i64 y.c.r4, .int .i64 y.c.r5, .int .i64 y.c.r6, .int .i64 y.c.r7, .int .i64 y.c.d, .int .i64 y.d] I77 (ones y) rfl rfl (new_t _) rfl ?_; intro w3 b3 f3; have B3 := hid b3; have F3 := hid f3; clear b3 f3)
      | (refine wpList_loadW rfl (.tmp 5) 58 rfl _ Tryd.underlying58 rfl _ 58 [.int .i64 c.p, .int .i64 c.q, .int .i64 c.r0, .int .i64 c.r1, .int .i64 c.r2, .int .i64 c.r3, .int .i64 c.r4, .int .i64 c.r5, .int .i64 c.r6, .int .i64 c.r7, .int .i64 c.d] I58 rfl ((B2.out.alloc _).fr F3.out (by have := B2.out.lt; omega)) ?_)
      | (refine wpList_storeB rfl (.tmp 18) (.tmp 17) 58 rfl _ 3 77 [.int .i64 y.i, .int .i64 y.s, .int .i64 y.t, .int .i64 y.c.p, .int .i64 y.c.q, .int .i64 y.c.r0, .int .i64 y.c.r1, .int .i64 y.c.r2, .int .i64 y.c.r3, .int .i64 y.c.r4, .int .i64 y.c.r5, .int .i64 y.c.r6, .int .i64 y.c.r7, .int .i64 y.c.d, .int .i64 y.d] [.int .i64 c.p, .int .i64 c.q, .int .i64 c.r0, .int .i64 c.r1, .int .i64 c.r2, .int .i64 c.r3, .int .i64 c.r4, .int .i64 c.r5, .int .i64 c.r6, .int .i64 c.r7, .int .i64 c.d] I58 (onesC c) rfl rfl B3.out (by simp) ?_; intro w4 b4 f4; have B4 := hid b4; have F4 := hid f4; clear b4 f4))
    have S3 : Hid (Still w w4) := hid (Still.next (Still.next (S2.out.trans ((Fr.refl _ _).alloc _)) F3.out (fun k hk => by rw [hk]; exact S2.out.size)) F4.out (fun k hk => by rw [hk]; exact S2.out.size))
    obtain ⟨z, hz⟩ : ∃ z, { y with c := c } = z := ⟨_, rfl⟩
    have B5 : Blk w4 w2.heap.size [.int .i64 z.i, .int .i64 z.s, .int .i64 z.t, .int .i64 z.c.p, .int .i64 z.c.q, .int .i64 z.c.r0, .int .i64 z.c.r1, .int .i64 z.c.r2, .int .i64 z.c.r3, .int .i64 z.c.r4, .int .i64 z.c.r5, .int .i64 z.c.r6, .int .i64 z.c.r7, .int .i64 z.c.d, .int .i64 z.d] 77 := by subst hz; exact B4.out
    have G4 := Still.cell S3.out F1
    have zi : Hid (z.i = id) := hid (by subst hz; exact (FK.out trivial).1)
    have R4 : w4.rangeAt w2.heap.size 0 [.int .i64 z.i, .int .i64 z.s, .int .i64 z.t, .int .i64 z.c.p, .int .i64 z.c.q, .int .i64 z.c.r0, .int .i64 z.c.r1, .int .i64 z.c.r2, .int .i64 z.c.r3, .int .i64 z.c.r4, .int .i64 z.c.r5, .int .i64 z.c.r6, .int .i64 z.c.r7, .int .i64 z.c.d, .int .i64 z.d] := fun j v hv => by rw [Nat.zero_add, B5.cell j]; exact hv
    have HZ := hid hz
    have HL := hid hl
    clear hz hl G2 F1 B5
    refine Held.wp_region_held_tail (S := (fun w' => w'.cell? ⟨P, 1, none⟩ = some (.map (some M)) ∧ w'.rangeAt w2.heap.size 0 [.int .i64 z.i, .int .i64 z.s, .int .i64 z.t, .int .i64 z.c.p, .int .i64 z.c.q, .int .i64 z.c.r0, .int .i64 z.c.r1, .int .i64 z.c.r2, .int .i64 z.c.r3, .int .i64 z.c.r4, .int .i64 z.c.r5, .int .i64 z.c.r6, .int .i64 z.c.r7, .int .i64 z.c.d, .int .i64 z.d])) 6 (by kernel_rfl) (by kernel_rfl) (by decide) ?hS1 (fun hHeld => ?hR1)
    case hS1 =>
      exact ⟨G4, R4⟩
    simp only [List.take_succ_cons, List.take_zero, List.drop_succ_cons, List.drop_zero]
    refine wpAnyH_take (i := 0) (oi := _) (v := ?v2) rfl (by kernel_rfl) (by kernel_rfl) (by kernel_rfl) (fun _ _ _ h => h) (Or.inl ⟨by rfl, ?y2⟩) (by assumption) ?r2
    case y2 => ((intro w hSw); (try dsimp only at hSw); go_simp; (try with_reducible rfl))
    (try simp only [Act.put, List.setIfInBounds_toArray, List.set_cons_zero, List.set_cons_succ])
    refine wpAnyH_take (i := 5) (oi := _) (v := (Value.agg #[.int .i64 z.i, .int .i64 z.s, .int .i64 z.t, .int .i64 z.c.p, .int .i64 z.c.q, .int .i64 z.c.r0, .int .i64 z.c.r1, .int .i64 z.c.r2, .int .i64 z.c.r3, .int .i64 z.c.r4, .int .i64 z.c.r5, .int .i64 z.c.r6, .int .i64 z.c.r7, .int .i64 z.c.d, .int .i64 z.d])) rfl (by kernel_rfl) (by kernel_rfl) (by kernel_rfl) (fun _ _ _ h => h) (yieldsIf_load_mid rfl 77 _ rfl w2.heap.size 0 rfl [.int .i64 z.i, .int .i64 z.s, .int .i64 z.t, .int .i64 z.c.p, .int .i64 z.c.q, .int .i64 z.c.r0, .int .i64 z.c.r1, .int .i64 z.c.r2, .int .i64 z.c.r3, .int .i64 z.c.r4, .int .i64 z.c.r5, .int .i64 z.c.r6, .int .i64 z.c.r7, .int .i64 z.c.d, .int .i64 z.d] _ (fun w h => h.2) Tryd.underlying77 rfl I77) (by assumption) ?rM
    simp only [Act.put, List.setIfInBounds_toArray, List.set_cons_zero, List.set_cons_succ]
    refine wpAnyH_take (i := 1) (oi := _) (v := ?v3) rfl (by kernel_rfl) (by kernel_rfl) (by kernel_rfl) (fun _ _ _ h => h) (Or.inl ⟨by rfl, ?y3⟩) (by assumption) ?r3
    case y3 => ((intro w hSw); (try dsimp only at hSw); go_simp; (try with_reducible rfl))
    (try simp only [Act.put, List.setIfInBounds_toArray, List.set_cons_zero, List.set_cons_succ])
    refine wpAnyH_take (i := 2) (oi := _) (v := ?v4) rfl (by kernel_rfl) (by kernel_rfl) (by kernel_rfl) (fun _ _ _ h => h) (Or.inl ⟨by rfl, ?y4⟩) (by assumption) ?r4
    case y4 => ((intro w hSw); (try dsimp only at hSw); go_simp; (try with_reducible rfl))
    (try simp only [Act.put, List.setIfInBounds_toArray, List.set_cons_zero, List.set_cons_succ])
    refine wpAnyH_take (i := 3) (oi := _) (v := ?v5) rfl (by kernel_rfl) (by kernel_rfl) (by kernel_rfl) (fun _ _ _ h => h) (Or.inl ⟨by rfl, ?y5⟩) (by assumption) ?r5
    case y5 => ((intro w hSw); (try dsimp only at hSw); go_simp; (try with_reducible rfl))
    (try simp only [Act.put, List.setIfInBounds_toArray, List.set_cons_zero, List.set_cons_succ])
    refine wpAnyH_take (i := 4) (oi := _) (v := ?v6) rfl (by kernel_rfl) (by kernel_rfl) (by kernel_rfl) (fun _ _ _ h => h) (Or.inl ⟨by rfl, ?y6⟩) (by assumption) ?r6
    case y6 => ((intro w hSw); (try dsimp only at hSw); go_simp; (try with_reducible rfl))
    (try simp only [Act.put, List.setIfInBounds_toArray, List.set_cons_zero, List.set_cons_succ])
    refine wpAnyH_done (by kernel_rfl) (Held.tailQ_normal ?_) _
    simp only [Act.put, List.getElem_toArray, List.getElem_cons_zero, List.getElem_cons_succ, List.setIfInBounds_toArray, List.set_cons_zero, List.set_cons_succ]
    have T4 := hid (H.out.still S3.out)
    refine wpList_putT rfl (.tmp 22) (.tmp 23) (.tmp 24) rfl T4.out.m.drew HL.out z (by rw [zi.out]; exact WF.out) rfl (by rw [zi.out]; rfl) rfl ?_
    intro w6 m6 f6
    have T6 := hid (T4.out.drew.put m6 f6)
    have F6 := hid (((S3.out.fr (fun k => k = M)).drew).trans f6)
    clear m6 f6
    go_wp2_with fail
    go_ret
    exact ⟨rfl, by have h := T6.out; rw [← HZ.out] at h; exact h, F6.out⟩
  · go_wp2_with (first
      | (refine wpList_storeW rfl (.tmp 7) (.tmp 13) 77 rfl _ 77 [.int .i64 t0.i, .int .i64 t0.s, .int .i64 t0.t, .int .i64 t0.c.p, .int .i64 t0.c.q, .int .i64 t0.c.r0, .int .i64 t0.c.r1, .int .i64 t0.c.r2, .int .i64 t0.c.r3, .int .i64 t0.c.r4, .int .i64 t0.c.r5, .int .i64 t0.c.r6, .int .i64 t0.c.r7, .int .i64 t0.c.d, .int .i64 t0.d] [.int .i64 y.i, .int .i64 y.s, .int .i64 y.t, .int .i64 y.c.p, .int .i64 y.c.q, .int .i64 y.c.r0, .int .i64 y.c.r1, .int .i64 y.c.r2, .int .i64 y.c.r3, .int .i64 y.c.r4, .int .i64 y.c.r5, .int .i64 y.c.r6, .int .i64 y.c.r7, .int .i64 y.c.d, .int .i64 y.d] I77 (ones y) rfl rfl (new_t _) rfl ?_; intro w3 b3 f3; have B3 := hid b3; have F3 := hid f3; clear b3 f3))
    have S3 : Hid (Still w w3) := hid (Still.next (S2.out.trans ((Fr.refl _ _).alloc _)) F3.out (fun k hk => by rw [hk]; exact S2.out.size))
    go_ret
    exact ⟨rfl, H.out.still S3.out, S3.out.fr _⟩
set_option maxRecDepth 100000 in
set_option maxHeartbeats 4000000 in
theorem tdid (h : TAt w P B M s L) (hl : L.length < maxLen) (id : Int) (wf : (Lit.int .i64 id).wf = true) (c : Ctx) : Calls Tryd.prog 61 #[.pointer (some ⟨P, 0, none⟩), .int .i64 id, (Value.agg #[.int .i64 c.p, .int .i64 c.q, .int .i64 c.r0, .int .i64 c.r1, .int .i64 c.r2, .int .i64 c.r3, .int .i64 c.r4, .int .i64 c.r5, .int .i64 c.r6, .int .i64 c.r7, .int .i64 c.d])] w fun e w' =>
    e = .returned (.int .i64 (fndE L id)) ∧ TAt w' P B M s (updT L id fun x => { x with c := c, d := wrap64 (x.d + 1) }) ∧ Fr (fun k => k = M) w w' := by
  have H := hid h
  have WF := hid wf
  have F1 := h.f1
  have hPl := h.ltP
  clear h wf
  have FK := hid (fnd_key (L := L) (k := id))
  have EC := fndE_cases L id
  have UP : updT L id (fun x => { x with c := c, d := wrap64 (x.d + 1) }) = if fndE L id = 0 then thrE.ins { fndT L id with c := c, d := wrap64 ((fndT L id).d + 1) } L else L := rfl
  rw [UP]
  obtain ⟨y, hy⟩ : ∃ y, fndT L id = y := ⟨_, rfl⟩
  obtain ⟨ee, he⟩ : ∃ ee, fndE L id = ee := ⟨_, rfl⟩
  have FD := fun (u : World) (hu : Still w u) => tfind (H.out.still hu) id WF.out
  rw [hy, he] at FD FK ⊢
  rw [he] at EC
  have FDx := hid FD
  clear FD hy he UP
  go_enter Tryd.func61, Tryd.ntmps61
  go_wp2_with fail
  refine (FDx.out _ ((Fr.refl _ _).alloc _)).mono ?_
  rintro e w2 ⟨rfl, s2⟩
  have S2 := hid (((Fr.refl _ _).alloc _).trans s2)
  have B2 : Hid (Blk w2 w.heap.size [.int .i64 c.p, .int .i64 c.q, .int .i64 c.r0, .int .i64 c.r1, .int .i64 c.r2, .int .i64 c.r3, .int .i64 c.r4, .int .i64 c.r5, .int .i64 c.r6, .int .i64 c.r7, .int .i64 c.d] 58) := hid ((Blk.new w _ 58).still s2)
  have G2 := Still.cell S2.out F1
  have HPl2 : P < w2.heap.size := Nat.lt_of_lt_of_le hPl S2.out.size
  clear s2
  rcases EC with rfl | rfl
  · go_wp2_with (first
      | (refine wpList_storeW rfl (.tmp 7) (.tmp 13) 77 rfl _ 77 [.int .i64 t0.i, .int .i64 t0.s, .int .i64 t0.t, .int .i64 t0.c.p, .int .i64 t0.c.q, .int .i64 t0.c.r0, .int .i64 t0.c.r1, .int .i64 t0.c.r2, .int .i64 t0.c.r3, .int .i64 t0.c.r4, .int .i64 t0.c.r5, .int .i64 t0.c.r6, .int .i64 t0.c.r7, .int .i64 t0.c.d, .int .i64 t0.d] [.int .i64 y.i, .int .i64 y.s, .int .i64 y.t, .int .i64 y.c.p, .int .i64 y.c.q, .int .i64 y.c.r0, .int .i64 y.c.r1, .int .i64 y.c.r2, .int .i64 y.c.r3, .int .i64 y.c.r4, .int .i64 y.c.r5, .int .i64 y.c.r6, .int .i64 y.c.r7, .int .i64 y.c.d, .int .i64 y.d] I77 (ones y) rfl rfl (new_t _) rfl ?_; intro w3 b3 f3; have B3 := hid b3; have F3 := hid f3; clear b3 f3)
      | (refine wpList_loadW rfl (.tmp 5) 58 rfl _ Tryd.underlying58 rfl _ 58 [.int .i64 c.p, .int .i64 c.q, .int .i64 c.r0, .int .i64 c.r1, .int .i64 c.r2, .int .i64 c.r3, .int .i64 c.r4, .int .i64 c.r5, .int .i64 c.r6, .int .i64 c.r7, .int .i64 c.d] I58 rfl ((B2.out.alloc _).fr F3.out (by have := B2.out.lt; omega)) ?_)
      | (refine wpList_storeB rfl (.tmp 18) (.tmp 17) 58 rfl _ 3 77 [.int .i64 y.i, .int .i64 y.s, .int .i64 y.t, .int .i64 y.c.p, .int .i64 y.c.q, .int .i64 y.c.r0, .int .i64 y.c.r1, .int .i64 y.c.r2, .int .i64 y.c.r3, .int .i64 y.c.r4, .int .i64 y.c.r5, .int .i64 y.c.r6, .int .i64 y.c.r7, .int .i64 y.c.d, .int .i64 y.d] [.int .i64 c.p, .int .i64 c.q, .int .i64 c.r0, .int .i64 c.r1, .int .i64 c.r2, .int .i64 c.r3, .int .i64 c.r4, .int .i64 c.r5, .int .i64 c.r6, .int .i64 c.r7, .int .i64 c.d] I58 (onesC c) rfl rfl B3.out (by simp) ?_; intro w4 b4 f4; have B4 := hid b4; have F4 := hid f4; have c14 : w4.cell? ⟨w2.heap.size, 14, none⟩ = some (.int .i64 y.d) := b4.cell 14; have z14 := b4.frozen 14; clear b4 f4))
    have S3a : Hid (Still w w4) := hid (Still.next (Still.next (S2.out.trans ((Fr.refl _ _).alloc _)) F3.out (fun k hk => by rw [hk]; exact S2.out.size)) F4.out (fun k hk => by rw [hk]; exact S2.out.size))
    obtain ⟨w5, hw5⟩ : ∃ w5, w4.setCell ⟨w2.heap.size, 14, none⟩ (.int .i64 (wrap64 (y.d + 1))) = w5 := ⟨_, rfl⟩
    rw [hw5]
    have S3 : Hid (Still w w5) := hid (by rw [← hw5]; exact Fr.setCell S3a.out (.inr S2.out.size) _)
    obtain ⟨z, hz⟩ : ∃ z, { y with c := c, d := wrap64 (y.d + 1) } = z := ⟨_, rfl⟩
    have B5 : Blk w5 w2.heap.size [.int .i64 z.i, .int .i64 z.s, .int .i64 z.t, .int .i64 z.c.p, .int .i64 z.c.q, .int .i64 z.c.r0, .int .i64 z.c.r1, .int .i64 z.c.r2, .int .i64 z.c.r3, .int .i64 z.c.r4, .int .i64 z.c.r5, .int .i64 z.c.r6, .int .i64 z.c.r7, .int .i64 z.c.d, .int .i64 z.d] 77 := by subst hz; rw [← hw5]; exact B4.out.put 14 _
    have G4 := Still.cell S3.out F1
    have zi : Hid (z.i = id) := hid (by subst hz; exact (FK.out trivial).1)
    have R4 : w5.rangeAt w2.heap.size 0 [.int .i64 z.i, .int .i64 z.s, .int .i64 z.t, .int .i64 z.c.p, .int .i64 z.c.q, .int .i64 z.c.r0, .int .i64 z.c.r1, .int .i64 z.c.r2, .int .i64 z.c.r3, .int .i64 z.c.r4, .int .i64 z.c.r5, .int .i64 z.c.r6, .int .i64 z.c.r7, .int .i64 z.c.d, .int .i64 z.d] := fun j v hv => by rw [Nat.zero_add, B5.cell j]; exact hv
    have HZ := hid hz
    have HL := hid hl
    clear hz hl G2 F1 B5 hw5 c14 z14
    refine Held.wp_region_held_tail (S := (fun w' => w'.cell? ⟨P, 1, none⟩ = some (.map (some M)) ∧ w'.rangeAt w2.heap.size 0 [.int .i64 z.i, .int .i64 z.s, .int .i64 z.t, .int .i64 z.c.p, .int .i64 z.c.q, .int .i64 z.c.r0, .int .i64 z.c.r1, .int .i64 z.c.r2, .int .i64 z.c.r3, .int .i64 z.c.r4, .int .i64 z.c.r5, .int .i64 z.c.r6, .int .i64 z.c.r7, .int .i64 z.c.d, .int .i64 z.d])) 6 (by kernel_rfl) (by kernel_rfl) (by decide) ?hS7 (fun hHeld => ?hR7)
    case hS7 =>
      exact ⟨G4, R4⟩
    simp only [List.take_succ_cons, List.take_zero, List.drop_succ_cons, List.drop_zero]
    refine wpAnyH_take (i := 0) (oi := _) (v := ?v8) rfl (by kernel_rfl) (by kernel_rfl) (by kernel_rfl) (fun _ _ _ h => h) (Or.inl ⟨by rfl, ?y8⟩) (by assumption) ?r8
    case y8 => ((intro w hSw); (try dsimp only at hSw); go_simp; (try with_reducible rfl))
    (try simp only [Act.put, List.setIfInBounds_toArray, List.set_cons_zero, List.set_cons_succ])
    refine wpAnyH_take (i := 5) (oi := _) (v := (Value.agg #[.int .i64 z.i, .int .i64 z.s, .int .i64 z.t, .int .i64 z.c.p, .int .i64 z.c.q, .int .i64 z.c.r0, .int .i64 z.c.r1, .int .i64 z.c.r2, .int .i64 z.c.r3, .int .i64 z.c.r4, .int .i64 z.c.r5, .int .i64 z.c.r6, .int .i64 z.c.r7, .int .i64 z.c.d, .int .i64 z.d])) rfl (by kernel_rfl) (by kernel_rfl) (by kernel_rfl) (fun _ _ _ h => h) (yieldsIf_load_mid rfl 77 _ rfl w2.heap.size 0 rfl [.int .i64 z.i, .int .i64 z.s, .int .i64 z.t, .int .i64 z.c.p, .int .i64 z.c.q, .int .i64 z.c.r0, .int .i64 z.c.r1, .int .i64 z.c.r2, .int .i64 z.c.r3, .int .i64 z.c.r4, .int .i64 z.c.r5, .int .i64 z.c.r6, .int .i64 z.c.r7, .int .i64 z.c.d, .int .i64 z.d] _ (fun w h => h.2) Tryd.underlying77 rfl I77) (by assumption) ?rM
    simp only [Act.put, List.setIfInBounds_toArray, List.set_cons_zero, List.set_cons_succ]
    refine wpAnyH_take (i := 1) (oi := _) (v := ?v9) rfl (by kernel_rfl) (by kernel_rfl) (by kernel_rfl) (fun _ _ _ h => h) (Or.inl ⟨by rfl, ?y9⟩) (by assumption) ?r9
    case y9 => ((intro w hSw); (try dsimp only at hSw); go_simp; (try with_reducible rfl))
    (try simp only [Act.put, List.setIfInBounds_toArray, List.set_cons_zero, List.set_cons_succ])
    refine wpAnyH_take (i := 2) (oi := _) (v := ?v10) rfl (by kernel_rfl) (by kernel_rfl) (by kernel_rfl) (fun _ _ _ h => h) (Or.inl ⟨by rfl, ?y10⟩) (by assumption) ?r10
    case y10 => ((intro w hSw); (try dsimp only at hSw); go_simp; (try with_reducible rfl))
    (try simp only [Act.put, List.setIfInBounds_toArray, List.set_cons_zero, List.set_cons_succ])
    refine wpAnyH_take (i := 3) (oi := _) (v := ?v11) rfl (by kernel_rfl) (by kernel_rfl) (by kernel_rfl) (fun _ _ _ h => h) (Or.inl ⟨by rfl, ?y11⟩) (by assumption) ?r11
    case y11 => ((intro w hSw); (try dsimp only at hSw); go_simp; (try with_reducible rfl))
    (try simp only [Act.put, List.setIfInBounds_toArray, List.set_cons_zero, List.set_cons_succ])
    refine wpAnyH_take (i := 4) (oi := _) (v := ?v12) rfl (by kernel_rfl) (by kernel_rfl) (by kernel_rfl) (fun _ _ _ h => h) (Or.inl ⟨by rfl, ?y12⟩) (by assumption) ?r12
    case y12 => ((intro w hSw); (try dsimp only at hSw); go_simp; (try with_reducible rfl))
    (try simp only [Act.put, List.setIfInBounds_toArray, List.set_cons_zero, List.set_cons_succ])
    refine wpAnyH_done (by kernel_rfl) (Held.tailQ_normal ?_) _
    simp only [Act.put, List.getElem_toArray, List.getElem_cons_zero, List.getElem_cons_succ, List.setIfInBounds_toArray, List.set_cons_zero, List.set_cons_succ]
    have T4 := hid (H.out.still S3.out)
    refine wpList_putT rfl (.tmp 26) (.tmp 27) (.tmp 28) rfl T4.out.m.drew HL.out z (by rw [zi.out]; exact WF.out) rfl (by rw [zi.out]; rfl) rfl ?_
    intro w6 m6 f6
    have T6 := hid (T4.out.drew.put m6 f6)
    have F6 := hid (((S3.out.fr (fun k => k = M)).drew).trans f6)
    clear m6 f6
    go_wp2_with fail
    go_ret
    exact ⟨rfl, by have h := T6.out; rw [← HZ.out] at h; exact h, F6.out⟩
  · go_wp2_with (first
      | (refine wpList_storeW rfl (.tmp 7) (.tmp 13) 77 rfl _ 77 [.int .i64 t0.i, .int .i64 t0.s, .int .i64 t0.t, .int .i64 t0.c.p, .int .i64 t0.c.q, .int .i64 t0.c.r0, .int .i64 t0.c.r1, .int .i64 t0.c.r2, .int .i64 t0.c.r3, .int .i64 t0.c.r4, .int .i64 t0.c.r5, .int .i64 t0.c.r6, .int .i64 t0.c.r7, .int .i64 t0.c.d, .int .i64 t0.d] [.int .i64 y.i, .int .i64 y.s, .int .i64 y.t, .int .i64 y.c.p, .int .i64 y.c.q, .int .i64 y.c.r0, .int .i64 y.c.r1, .int .i64 y.c.r2, .int .i64 y.c.r3, .int .i64 y.c.r4, .int .i64 y.c.r5, .int .i64 y.c.r6, .int .i64 y.c.r7, .int .i64 y.c.d, .int .i64 y.d] I77 (ones y) rfl rfl (new_t _) rfl ?_; intro w3 b3 f3; have B3 := hid b3; have F3 := hid f3; clear b3 f3))
    have S3 : Hid (Still w w3) := hid (Still.next (S2.out.trans ((Fr.refl _ _).alloc _)) F3.out (fun k hk => by rw [hk]; exact S2.out.size))
    go_ret
    exact ⟨rfl, H.out.still S3.out, S3.out.fr _⟩
end
end Go.Proofs.YtffjaaolcphonaaDoor
