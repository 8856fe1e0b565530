/- Threads: Get, Set, Did, turn. -/
import Derived.Test.YtffjaaolcphonaaDoorThr1
import Derived.Test.YtffjaaolcphonaaDoorHeld
import Derived.Test.YtffjaaolcphonaaDoorHeldIn
import Derived.Deep.RegionHeld3
import Derived.Test.YtffjaaolcphonaaDoorMapR
namespace Go.Proofs.YtffjaaolcphonaaDoor
open Go.RowKit Go.Maps
set_option linter.unusedSimpArgs false
section
variable {w w' : World} {P : Nat} {B : SB} {M : Nat} {s : SS} {L : List Thr}
set_option maxRecDepth 100000 in
set_option maxHeartbeats 4000000 in
theorem tget (h : TAt w P B M s L) (id : Int) (wf : (Lit.int .i64 id).wf = true) : Calls Tryd.prog 56 #[.pointer (some ⟨P, 0, none⟩), .int .i64 id] w fun e w' => e = .returned (.tuple #[(Value.agg #[.int .i64 (fndT L id).i, .int .i64 (fndT L id).s, .int .i64 (fndT L id).t, .int .i64 (fndT L id).c.p, .int .i64 (fndT L id).c.q, .int .i64 (fndT L id).c.r0, .int .i64 (fndT L id).c.r1, .int .i64 (fndT L id).c.r2, .int .i64 (fndT L id).c.r3, .int .i64 (fndT L id).c.r4, .int .i64 (fndT L id).c.r5, .int .i64 (fndT L id).c.r6, .int .i64 (fndT L id).c.r7, .int .i64 (fndT L id).c.d, .int .i64 (fndT L id).d]), .bool (fndE L id == 0)]) ∧ Still w w' := by
  have H := hid h
  have WF := hid wf
  clear h wf
  obtain ⟨y, hy⟩ : ∃ y, fndT L id = y := ⟨_, rfl⟩
  obtain ⟨ee, he⟩ : ∃ ee, fndE L id = ee := ⟨_, rfl⟩
  have FD := fun (u : World) (hu : Still w u) => tfind (H.out.still hu) id WF.out
  rw [hy, he] at FD ⊢
  have FDx := hid FD
  clear FD hy he
  go_enter Tryd.func56, Tryd.ntmps56
  go_wp2_with fail
  refine (FDx.out _ ((Fr.refl _ _).alloc _)).mono ?_
  rintro e w2 ⟨rfl, s2⟩
  have S2 := hid (((Fr.refl _ _).alloc _).trans s2)
  have B2 : Hid (Blk w2 w.heap.size [.int .i64 t0.i, .int .i64 t0.s, .int .i64 t0.t, .int .i64 t0.c.p, .int .i64 t0.c.q, .int .i64 t0.c.r0, .int .i64 t0.c.r1, .int .i64 t0.c.r2, .int .i64 t0.c.r3, .int .i64 t0.c.r4, .int .i64 t0.c.r5, .int .i64 t0.c.r6, .int .i64 t0.c.r7, .int .i64 t0.c.d, .int .i64 t0.d] 77) := hid ((new_t w).still s2)
  clear s2
  go_wp2_with (first
    | (refine wpList_storeW rfl (.tmp 6) (.tmp 12) 77 rfl _ 77 [.int .i64 t0.i, .int .i64 t0.s, .int .i64 t0.t, .int .i64 t0.c.p, .int .i64 t0.c.q, .int .i64 t0.c.r0, .int .i64 t0.c.r1, .int .i64 t0.c.r2, .int .i64 t0.c.r3, .int .i64 t0.c.r4, .int .i64 t0.c.r5, .int .i64 t0.c.r6, .int .i64 t0.c.r7, .int .i64 t0.c.d, .int .i64 t0.d] [.int .i64 y.i, .int .i64 y.s, .int .i64 y.t, .int .i64 y.c.p, .int .i64 y.c.q, .int .i64 y.c.r0, .int .i64 y.c.r1, .int .i64 y.c.r2, .int .i64 y.c.r3, .int .i64 y.c.r4, .int .i64 y.c.r5, .int .i64 y.c.r6, .int .i64 y.c.r7, .int .i64 y.c.d, .int .i64 y.d] I77 (ones y) rfl rfl (new_t _) rfl ?_; intro w3 b3 f3; have B3 := hid b3; have F3 := hid f3; clear b3 f3)
    | (refine wpList_loadW rfl (.tmp 6) 77 rfl _ Tryd.underlying77 rfl _ 77 [.int .i64 y.i, .int .i64 y.s, .int .i64 y.t, .int .i64 y.c.p, .int .i64 y.c.q, .int .i64 y.c.r0, .int .i64 y.c.r1, .int .i64 y.c.r2, .int .i64 y.c.r3, .int .i64 y.c.r4, .int .i64 y.c.r5, .int .i64 y.c.r6, .int .i64 y.c.r7, .int .i64 y.c.d, .int .i64 y.d] I77 rfl B3.out ?_)
    | (refine wpList_storeW rfl (.tmp 4) (.tmp 14) 77 rfl _ 77 [.int .i64 t0.i, .int .i64 t0.s, .int .i64 t0.t, .int .i64 t0.c.p, .int .i64 t0.c.q, .int .i64 t0.c.r0, .int .i64 t0.c.r1, .int .i64 t0.c.r2, .int .i64 t0.c.r3, .int .i64 t0.c.r4, .int .i64 t0.c.r5, .int .i64 t0.c.r6, .int .i64 t0.c.r7, .int .i64 t0.c.d, .int .i64 t0.d] [.int .i64 y.i, .int .i64 y.s, .int .i64 y.t, .int .i64 y.c.p, .int .i64 y.c.q, .int .i64 y.c.r0, .int .i64 y.c.r1, .int .i64 y.c.r2, .int .i64 y.c.r3, .int .i64 y.c.r4, .int .i64 y.c.r5, .int .i64 y.c.r6, .int .i64 y.c.r7, .int .i64 y.c.d, .int .i64 y.d] I77 (ones y) rfl rfl ((B2.out.alloc _).fr F3.out (by have := B2.out.lt; omega)) rfl ?_; intro w4 b4 f4; have B4 := hid b4; have F4 := hid f4; clear b4 f4))
  have S4 : Hid (Still w w4) := hid (Still.next (Still.next (S2.out.trans ((Fr.refl _ _).alloc _)) F3.out (fun k hk => by rw [hk]; exact S2.out.size)) F4.out (fun k hk => by rw [hk]; exact Nat.le_refl _))
  (try simp only [Exit.inBlock, Exit.then]); refine bodyPost_ret (results_cell2 rfl _ _ w.heap.size 77 [.int .i64 y.i, .int .i64 y.s, .int .i64 y.t, .int .i64 y.c.p, .int .i64 y.c.q, .int .i64 y.c.r0, .int .i64 y.c.r1, .int .i64 y.c.r2, .int .i64 y.c.r3, .int .i64 y.c.r4, .int .i64 y.c.r5, .int .i64 y.c.r6, .int .i64 y.c.r7, .int .i64 y.c.d, .int .i64 y.d] _ _ rfl rfl B4.out Tryd.underlying77 rfl I77) rfl ?_
  exact ⟨rfl, S4.out⟩
theorem fnd_key {L : List Thr} {k : Int} (h : fndE L k = 0) : (fndT L k).i = k ∧ fndT L k ∈ L := by
  unfold fndE at h
  unfold fndT
  cases hf : thrE.fnd L k with
  | none => rw [hf] at h; cases h
  | some x =>
    have h1 := List.find?_some hf
    exact ⟨by simpa [thrE] using h1, List.mem_of_find?_eq_some hf⟩
theorem fndE_cases (L : List Thr) (k : Int) : fndE L k = 0 ∨ fndE L k = 4 := by
  unfold fndE; split <;> simp
theorem TAt.put {L' : List Thr} (h : TAt w P B M s L) (hm : MapL thrE Tryd.prog w' M L') (hf : Fr (fun k => k = M) w w') : TAt w' P B M s L' :=
  ⟨hf.cellK h.f0 h.nPM, hf.cellK h.f1 h.nPM, h.sl.fr hf (fun _ h1 h2 => h.nMB (h2 ▸ h1)), hm, h.nPM, h.nPB, h.nMB⟩
theorem TAt.drew (h : TAt w P B M s L) : TAt w.drew P B M s L := h.still (Fr.refl _ _).drew
/-- Behind a change of the one at a key. -/
def updT (L : List Thr) (k : Int) (f : Thr → Thr) : List Thr := if fndE L k = 0 then thrE.ins (f (fndT L k)) L else L
theorem wpList_putT {ops : Array Oper} {rest : List Oper} {o : Oper} {a : Act} {Q : Exit → Act → World → Prop} {b : Nat} (hgd : Region.wanted o (yielded ops a.tmps) = true) (m k v : Operand) (hop : o.op = Op.mapUpdate 88 m k v)
    (h : MapL thrE Tryd.prog w b L) (hl : L.length < maxLen) (x : Thr) (wf : (Lit.int .i64 x.i).wf = true) (hm : a.eval m = .map (some b)) (hk : a.eval k = .int .i64 x.i) (hv : a.eval v = (Value.agg #[.int .i64 x.i, .int .i64 x.s, .int .i64 x.t, .int .i64 x.c.p, .int .i64 x.c.q, .int .i64 x.c.r0, .int .i64 x.c.r1, .int .i64 x.c.r2, .int .i64 x.c.r3, .int .i64 x.c.r4, .int .i64 x.c.r5, .int .i64 x.c.r6, .int .i64 x.c.r7, .int .i64 x.c.d, .int .i64 x.d]))
    (hK : ∀ w', MapL thrE Tryd.prog w' b (thrE.ins x L) → Fr (fun k => k = b) w w' → wpList Tryd.prog ops Q rest (a.put o.dst undef) w') : wpList Tryd.prog ops Q (o :: rest) a w :=
  wpList_mapPut hgd m k v 88 77 hop Tryd.underlying88 Tryd.underlying3 h hl x wf hm hk hv hK
set_option maxRecDepth 100000 in
set_option maxHeartbeats 4000000 in
theorem tset (h : TAt w P B M s L) (hl : L.length < maxLen) (id : Int) (wf : (Lit.int .i64 id).wf = true) (c : Ctx) : Calls Tryd.prog 60 #[.pointer (some ⟨P, 0, none⟩), .int .i64 id, (Value.agg #[.int .i64 c.p, .int .i64 c.q, .int .i64 c.r0, .int .i64 c.r1, .int .i64 c.r2, .int .i64 c.r3, .int .i64 c.r4, .int .i64 c.r5, .int .i64 c.r6, .int .i64 c.r7, .int .i64 c.d])] w fun e w' =>
    e = .returned (.int .i64 (fndE L id)) ∧ TAt w' P B M s (updT L id fun x => { x with c := c }) ∧ Fr (fun k => k = M) w w' := by
  have H := hid h
  have WF := hid wf
  have F1 := h.f1
  have hPl := h.ltP
  clear h wf
  have FK := hid (fnd_key (L := L) (k := id))
  have EC := fndE_cases L id
  have UP : updT L id (fun x => { x with c := c }) = if fndE L id = 0 then thrE.ins { fndT L id with c := c } L else L := rfl
  rw [UP]
  obtain ⟨y, hy⟩ : ∃ y, fndT L id = y := ⟨_, rfl⟩
  obtain ⟨ee, he⟩ : ∃ ee, fndE L id = ee := ⟨_, rfl⟩
  have FD := fun (u : World) (hu : Still w u) => tfind (H.out.still hu) id WF.out
  rw [hy, he] at FD FK ⊢
  rw [he] at EC
  have FDx := hid FD
  clear FD hy he UP
  go_enter Tryd.func60, Tryd.ntmps60
  go_wp2_with fail
  refine (FDx.out _ ((Fr.refl _ _).alloc _)).mono ?_
  rintro e w2 ⟨rfl, s2⟩
  have S2 := hid (((Fr.refl _ _).alloc _).trans s2)
  have B2 : Hid (Blk w2 w.heap.size [.int .i64 c.p, .int .i64 c.q, .int .i64 c.r0, .int .i64 c.r1, .int .i64 c.r2, .int .i64 c.r3, .int .i64 c.r4, .int .i64 c.r5, .int .i64 c.r6, .int .i64 c.r7, .int .i64 c.d] 58) := hid ((Blk.new w _ 58).still s2)
  have G2 := Still.cell S2.out F1
  have HPl2 : P < w2.heap.size := Nat.lt_of_lt_of_le hPl S2.out.size
  clear s2
  rcases EC with rfl | rfl
  · go_wp2_with (first
      | (refine wpList_storeW rfl (.tmp 7) (.tmp 13) 77 rfl _ 77 [.int .i64 t0.i, .int .i64 t0.s, .int .i64 t0.t, .int .i64 t0.c.p, .int .i64 t0.c.q, .int .i64 t0.c.r0, .int .i64 t0.c.r1, .int .i64 t0.c.r2, .int .i64 t0.c.r3, .int .i64 t0.c.r4, .int .i64 t0.c.r5, .int .i64 t0.c.r6, .int .i64 t0.c.r7, .int .i64 t0.c.d, .int .i64 t0.d] [.int .i64 y.i, .int .i64 y.s, .int .i64 y.t, .int .i64 y.c.p, .int .i64 y.c.q, .int .i64 y.c.r0, .int .i64 y.c.r1, .int .i64 y.c.r2, .int .i64 y.c.r3, .int .i64 y.c.r4, .int .i64 y.c.r5, .int .i64 y.c.r6, .int .i64 y.c.r7, .int .i64 y.c.d, .int .i64 y.d] I77 (ones y) rfl rfl (new_t _) rfl ?_; intro w3 b3 f3; have B3 := hid b3; have F3 := hid f3; clear b3 f3)
      | (refine wpList_loadW rfl (.tmp 5) 58 rfl _ Tryd.underlying58 rfl _ 58 [.int .i64 c.p, .int .i64 c.q, .int .i64 c.r0, .int .i64 c.r1, .int .i64 c.r2, .int .i64 c.r3, .int .i64 c.r4, .int .i64 c.r5, .int .i64 c.r6, .int .i64 c.r7, .int .i64 c.d] I58 rfl ((B2.out.alloc _).fr F3.out (by have := B2.out.lt; omega)) ?_)
      | (refine wpList_storeB rfl (.tmp 18) (.tmp 17) 58 rfl _ 3 77 [.int .i64 y.i, .int .i64 y.s, .int .i64 y.t, .int .i64 y.c.p, .int .i64 y.c.q, .int .i64 y.c.r0, .int .i64 y.c.r1, .int .i64 y.c.r2, .int .i64 y.c.r3, .int .i64 y.c.r4, .int .i64 y.c.r5, .int .i64 y.c.r6, .int .i64 y.c.r7, .int .i64 y.c.d, .int .i64 y.d] [.int .i64 c.p, .int .i64 c.q, .int .i64 c.r0, .int .i64 c.r1, .int .i64 c.r2, .int .i64 c.r3, .int .i64 c.r4, .int .i64 c.r5, .int .i64 c.r6, .int .i64 c.r7, .int .i64 c.d] I58 (onesC c) rfl rfl B3.out (by simp) ?_; intro w4 b4 f4; have B4 := hid b4; have F4 := hid f4; clear b4 f4))
    have S3 : Hid (Still w w4) := hid (Still.next (Still.next (S2.out.trans ((Fr.refl _ _).alloc _)) F3.out (fun k hk => by rw [hk]; exact S2.out.size)) F4.out (fun k hk => by rw [hk]; exact S2.out.size))
    obtain ⟨z, hz⟩ : ∃ z, { y with c := c } = z := ⟨_, rfl⟩
    have B5 : Blk w4 w2.heap.size [.int .i64 z.i, .int .i64 z.s, .int .i64 z.t, .int .i64 z.c.p, .int .i64 z.c.q, .int .i64 z.c.r0, .int .i64 z.c.r1, .int .i64 z.c.r2, .int .i64 z.c.r3, .int .i64 z.c.r4, .int .i64 z.c.r5, .int .i64 z.c.r6, .int .i64 z.c.r7, .int .i64 z.c.d, .int .i64 z.d] 77 := by subst hz; exact B4.out
    have G4 := Still.cell S3.out F1
    have zi : Hid (z.i = id) := hid (by subst hz; exact (FK.out trivial).1)
    have R4 : w4.rangeAt w2.heap.size 0 [.int .i64 z.i, .int .i64 z.s, .int .i64 z.t, .int .i64 z.c.p, .int .i64 z.c.q, .int .i64 z.c.r0, .int .i64 z.c.r1, .int .i64 z.c.r2, .int .i64 z.c.r3, .int .i64 z.c.r4, .int .i64 z.c.r5, .int .i64 z.c.r6, .int .i64 z.c.r7, .int .i64 z.c.d, .int .i64 z.d] := fun j v hv => by rw [Nat.zero_add, B5.cell j]; exact hv
    have HZ := hid hz
    have HL := hid hl
    clear hz hl G2 F1 B5
    refine Held.wp_region_held_tail (S := (fun w' => w'.cell? ⟨P, 1, none⟩ = some (.map (some M)) ∧ w'.rangeAt w2.heap.size 0 [.int .i64 z.i, .int .i64 z.s, .int .i64 z.t, .int .i64 z.c.p, .int .i64 z.c.q, .int .i64 z.c.r0, .int .i64 z.c.r1, .int .i64 z.c.r2, .int .i64 z.c.r3, .int .i64 z.c.r4, .int .i64 z.c.r5, .int .i64 z.c.r6, .int .i64 z.c.r7, .int .i64 z.c.d, .int .i64 z.d])) 6 (by kernel_rfl) (by kernel_rfl) (by decide) ?hS1 (fun hHeld => ?hR1)
    case hS1 =>
      exact ⟨G4, R4⟩
    simp only [List.take_succ_cons, List.take_zero, List.drop_succ_cons, List.drop_zero]
    refine wpAnyH_take (i := 0) (oi := _) (v := ?v2) rfl (by kernel_rfl) (by kernel_rfl) (by kernel_rfl) (fun _ _ _ h => h) (Or.inl ⟨by rfl, ?y2⟩) (by assumption) ?r2
    case y2 => ((intro w hSw); (try dsimp only at hSw); go_simp; (try with_reducible rfl))
    (try simp only [Act.put, List.setIfInBounds_toArray, List.set_cons_zero, List.set_cons_succ])
    refine wpAnyH_take (i := 5) (oi := _) (v := (Value.agg #[.int .i64 z.i, .int .i64 z.s, .int .i64 z.t, .int .i64 z.c.p, .int .i64 z.c.q, .int .i64 z.c.r0, .int .i64 z.c.r1, .int .i64 z.c.r2, .int .i64 z.c.r3, .int .i64 z.c.r4, .int .i64 z.c.r5, .int .i64 z.c.r6, .int .i64 z.c.r7, .int .i64 z.c.d, .int .i64 z.d])) rfl (by kernel_rfl) (by kernel_rfl) (by kernel_rfl) (fun _ _ _ h => h) (yieldsIf_load_mid rfl 77 _ rfl w2.heap.size 0 rfl [.int .i64 z.i, .int .i64 z.s, .int .i64 z.t, .int .i64 z.c.p, .int .i64 z.c.q, .int .i64 z.c.r0, .int .i64 z.c.r1, .int .i64 z.c.r2, .int .i64 z.c.r3, .int .i64 z.c.r4, .int .i64 z.c.r5, .int .i64 z.c.r6, .int .i64 z.c.r7, .int .i64 z.c.d, .int .i64 z.d] _ (fun w h => h.2) Tryd.underlying77 rfl I77) (by assumption) ?rM
    simp only [Act.put, List.setIfInBounds_toArray, List.set_cons_zero, List.set_cons_succ]
    refine wpAnyH_take (i := 1) (oi := _) (v := ?v3) rfl (by kernel_rfl) (by kernel_rfl) (by kernel_rfl) (fun _ _ _ h => h) (Or.inl ⟨by rfl, ?y3⟩) (by assumption) ?r3
    case y3 => ((intro w hSw); (try dsimp only at hSw); go_simp; (try with_reducible rfl))
    (try simp only [Act.put, List.setIfInBounds_toArray, List.set_cons_zero, List.set_cons_succ])
    refine wpAnyH_take (i := 2) (oi := _) (v := ?v4) rfl (by kernel_rfl) (by kernel_rfl) (by kernel_rfl) (fun _ _ _ h => h) (Or.inl ⟨by rfl, ?y4⟩) (by assumption) ?r4
    case y4 => ((intro w hSw); (try dsimp only at hSw); go_simp; (try with_reducible rfl))
    (try simp only [Act.put, List.setIfInBounds_toArray, List.set_cons_zero, List.set_cons_succ])
    refine wpAnyH_take (i := 3) (oi := _) (v := ?v5) rfl (by kernel_rfl) (by kernel_rfl) (by kernel_rfl) (fun _ _ _ h => h) (Or.inl ⟨by rfl, ?y5⟩) (by assumption) ?r5
    case y5 => ((intro w hSw); (try dsimp only at hSw); go_simp; (try with_reducible rfl))
    (try simp only [Act.put, List.setIfInBounds_toArray, List.set_cons_zero, List.set_cons_succ])
    refine wpAnyH_take (i := 4) (oi := _) (v := ?v6) rfl (by kernel_rfl) (by kernel_rfl) (by kernel_rfl) (fun _ _ _ h => h) (Or.inl ⟨by rfl, ?y6⟩) (by assumption) ?r6
    case y6 => ((intro w hSw); (try dsimp only at hSw); go_simp; (try with_reducible rfl))
    (try simp only [Act.put, List.setIfInBounds_toArray, List.set_cons_zero, List.set_cons_succ])
    refine wpAnyH_done (by kernel_rfl) (Held.tailQ_normal ?_) _
    simp only [Act.put, List.getElem_toArray, List.getElem_cons_zero, List.getElem_cons_succ, List.setIfInBounds_toArray, List.set_cons_zero, List.set_cons_succ]
    have T4 := hid (H.out.still S3.out)
    refine wpList_putT rfl (.tmp 22) (.tmp 23) (.tmp 24) rfl T4.out.m.drew HL.out z (by rw [zi.out]; exact WF.out) rfl (by rw [zi.out]; rfl) rfl ?_
    intro w6 m6 f6
    have T6 := hid (T4.out.drew.put m6 f6)
    have F6 := hid (((S3.out.fr (fun k => k = M)).drew).trans f6)
    clear m6 f6
    go_wp2_with fail
    go_ret
    exact ⟨rfl, by have h := T6.out; rw [← HZ.out] at h; exact h, F6.out⟩
  · go_wp2_with (first
      | (refine wpList_storeW rfl (.tmp 7) (.tmp 13) 77 rfl _ 77 [.int .i64 t0.i, .int .i64 t0.s, .int .i64 t0.t, .int .i64 t0.c.p, .int .i64 t0.c.q, .int .i64 t0.c.r0, .int .i64 t0.c.r1, .int .i64 t0.c.r2, .int .i64 t0.c.r3, .int .i64 t0.c.r4, .int .i64 t0.c.r5, .int .i64 t0.c.r6, .int .i64 t0.c.r7, .int .i64 t0.c.d, .int .i64 t0.d] [.int .i64 y.i, .int .i64 y.s, .int .i64 y.t, .int .i64 y.c.p, .int .i64 y.c.q, .int .i64 y.c.r0, .int .i64 y.c.r1, .int .i64 y.c.r2, .int .i64 y.c.r3, .int .i64 y.c.r4, .int .i64 y.c.r5, .int .i64 y.c.r6, .int .i64 y.c.r7, .int .i64 y.c.d, .int .i64 y.d] I77 (ones y) rfl rfl (new_t _) rfl ?_; intro w3 b3 f3; have B3 := hid b3; have F3 := hid f3; clear b3 f3))
    have S3 : Hid (Still w w3) := hid (Still.next (S2.out.trans ((Fr.refl _ _).alloc _)) F3.out (fun k hk => by rw [hk]; exact S2.out.size))
    go_ret
    exact ⟨rfl, H.out.still S3.out, S3.out.fr _⟩
set_option maxRecDepth 100000 in
set_option maxHeartbeats 4000000 in
theorem tdid (h : TAt w P B M s L) (hl : L.length < maxLen) (id : Int) (wf : (Lit.int .i64 id).wf = true) (c : Ctx) : Calls Tryd.prog 61 #[.pointer (some ⟨P, 0, none⟩), .int .i64 id, (Value.agg #[.int .i64 c.p, .int .i64 c.q, .int .i64 c.r0, .int .i64 c.r1, .int .i64 c.r2, .int .i64 c.r3, .int .i64 c.r4, .int .i64 c.r5, .int .i64 c.r6, .int .i64 c.r7, .int .i64 c.d])] w fun e w' =>
    e = .returned (.int .i64 (fndE L id)) ∧ TAt w' P B M s (updT L id fun x => { x with c := c, d := wrap64 (x.d + 1) }) ∧ Fr (fun k => k = M) w w' := by
  have H := hid h
  have WF := hid wf
  have F1 := h.f1
  have hPl := h.ltP
  clear h wf
  have FK := hid (fnd_key (L := L) (k := id))
  have EC := fndE_cases L id
  have UP : updT L id (fun x => { x with c := c, d := wrap64 (x.d + 1) }) = if fndE L id = 0 then thrE.ins { fndT L id with c := c, d := wrap64 ((fndT L id).d + 1) } L else L := rfl
  rw [UP]
  obtain ⟨y, hy⟩ : ∃ y, fndT L id = y := ⟨_, rfl⟩
  obtain ⟨ee, he⟩ : ∃ ee, fndE L id = ee := ⟨_, rfl⟩
  have FD := fun (u : World) (hu : Still w u) => tfind (H.out.still hu) id WF.out
  rw [hy, he] at FD FK ⊢
  rw [he] at EC
  have FDx := hid FD
  clear FD hy he UP
  go_enter Tryd.func61, Tryd.ntmps61
  go_wp2_with fail
  refine (FDx.out _ ((Fr.refl _ _).alloc _)).mono ?_
  rintro e w2 ⟨rfl, s2⟩
  have S2 := hid (((Fr.refl _ _).alloc _).trans s2)
  have B2 : Hid (Blk w2 w.heap.size [.int .i64 c.p, .int .i64 c.q, .int .i64 c.r0, .int .i64 c.r1, .int .i64 c.r2, .int .i64 c.r3, .int .i64 c.r4, .int .i64 c.r5, .int .i64 c.r6, .int .i64 c.r7, .int .i64 c.d] 58) := hid ((Blk.new w _ 58).still s2)
  have G2 := Still.cell S2.out F1
  have HPl2 : P < w2.heap.size := Nat.lt_of_lt_of_le hPl S2.out.size
  clear s2
  rcases EC with rfl | rfl
  · go_wp2_with (first
      | (refine wpList_storeW rfl (.tmp 7) (.tmp 13) 77 rfl _ 77 [.int .i64 t0.i, .int .i64 t0.s, .int .i64 t0.t, .int .i64 t0.c.p, .int .i64 t0.c.q, .int .i64 t0.c.r0, .int .i64 t0.c.r1, .int .i64 t0.c.r2, .int .i64 t0.c.r3, .int .i64 t0.c.r4, .int .i64 t0.c.r5, .int .i64 t0.c.r6, .int .i64 t0.c.r7, .int .i64 t0.c.d, .int .i64 t0.d] [.int .i64 y.i, .int .i64 y.s, .int .i64 y.t, .int .i64 y.c.p, .int .i64 y.c.q, .int .i64 y.c.r0, .int .i64 y.c.r1, .int .i64 y.c.r2, .int .i64 y.c.r3, .int .i64 y.c.r4, .int .i64 y.c.r5, .int .i64 y.c.r6, .int .i64 y.c.r7, .int .i64 y.c.d, .int .i64 y.d] I77 (ones y) rfl rfl (new_t _) rfl ?_; intro w3 b3 f3; have B3 := hid b3; have F3 := hid f3; clear b3 f3)
      | (refine wpList_loadW rfl (.tmp 5) 58 rfl _ Tryd.underlying58 rfl _ 58 [.int .i64 c.p, .int .i64 c.q, .int .i64 c.r0, .int .i64 c.r1, .int .i64 c.r2, .int .i64 c.r3, .int .i64 c.r4, .int .i64 c.r5, .int .i64 c.r6, .int .i64 c.r7, .int .i64 c.d] I58 rfl ((B2.out.alloc _).fr F3.out (by have := B2.out.lt; omega)) ?_)
      | (refine wpList_storeB rfl (.tmp 18) (.tmp 17) 58 rfl _ 3 77 [.int .i64 y.i, .int .i64 y.s, .int .i64 y.t, .int .i64 y.c.p, .int .i64 y.c.q, .int .i64 y.c.r0, .int .i64 y.c.r1, .int .i64 y.c.r2, .int .i64 y.c.r3, .int .i64 y.c.r4, .int .i64 y.c.r5, .int .i64 y.c.r6, .int .i64 y.c.r7, .int .i64 y.c.d, .int .i64 y.d] [.int .i64 c.p, .int .i64 c.q, .int .i64 c.r0, .int .i64 c.r1, .int .i64 c.r2, .int .i64 c.r3, .int .i64 c.r4, .int .i64 c.r5, .int .i64 c.r6, .int .i64 c.r7, .int .i64 c.d] I58 (onesC c) rfl rfl B3.out (by simp) ?_; intro w4 b4 f4; have B4 := hid b4; have F4 := hid f4; have c14 : w4.cell? ⟨w2.heap.size, 14, none⟩ = some (.int .i64 y.d) := b4.cell 14; have z14 := b4.frozen 14; clear b4 f4))
    have S3a : Hid (Still w w4) := hid (Still.next (Still.next (S2.out.trans ((Fr.refl _ _).alloc _)) F3.out (fun k hk => by rw [hk]; exact S2.out.size)) F4.out (fun k hk => by rw [hk]; exact S2.out.size))
    obtain ⟨w5, hw5⟩ : ∃ w5, w4.setCell ⟨w2.heap.size, 14, none⟩ (.int .i64 (wrap64 (y.d + 1))) = w5 := ⟨_, rfl⟩
    rw [hw5]
    have S3 : Hid (Still w w5) := hid (by rw [← hw5]; exact Fr.setCell S3a.out (.inr S2.out.size) _)
    obtain ⟨z, hz⟩ : ∃ z, { y with c := c, d := wrap64 (y.d + 1) } = z := ⟨_, rfl⟩
    have B5 : Blk w5 w2.heap.size [.int .i64 z.i, .int .i64 z.s, .int .i64 z.t, .int .i64 z.c.p, .int .i64 z.c.q, .int .i64 z.c.r0, .int .i64 z.c.r1, .int .i64 z.c.r2, .int .i64 z.c.r3, .int .i64 z.c.r4, .int .i64 z.c.r5, .int .i64 z.c.r6, .int .i64 z.c.r7, .int .i64 z.c.d, .int .i64 z.d] 77 := by subst hz; rw [← hw5]; exact B4.out.put 14 _
    have G4 := Still.cell S3.out F1
    have zi : Hid (z.i = id) := hid (by subst hz; exact (FK.out trivial).1)
    have R4 : w5.rangeAt w2.heap.size 0 [.int .i64 z.i, .int .i64 z.s, .int .i64 z.t, .int .i64 z.c.p, .int .i64 z.c.q, .int .i64 z.c.r0, .int .i64 z.c.r1, .int .i64 z.c.r2, .int .i64 z.c.r3, .int .i64 z.c.r4, .int .i64 z.c.r5, .int .i64 z.c.r6, .int .i64 z.c.r7, .int .i64 z.c.d, .int .i64 z.d] := fun j v hv => by rw [Nat.zero_add, B5.cell j]; exact hv
    have HZ := hid hz
    have HL := hid hl
    clear hz hl G2 F1 B5 hw5 c14 z14
    refine Held.wp_region_held_tail (S := (fun w' => w'.cell? ⟨P, 1, none⟩ = some (.map (some M)) ∧ w'.rangeAt w2.heap.size 0 [.int .i64 z.i, .int .i64 z.s, .int .i64 z.t, .int .i64 z.c.p, .int .i64 z.c.q, .int .i64 z.c.r0, .int .i64 z.c.r1, .int .i64 z.c.r2, .int .i64 z.c.r3, .int .i64 z.c.r4, .int .i64 z.c.r5, .int .i64 z.c.r6, .int .i64 z.c.r7, .int .i64 z.c.d, .int .i64 z.d])) 6 (by kernel_rfl) (by kernel_rfl) (by decide) ?hS7 (fun hHeld => ?hR7)
    case hS7 =>
      exact ⟨G4, R4⟩
    simp only [List.take_succ_cons, List.take_zero, List.drop_succ_cons, List.drop_zero]
    refine wpAnyH_take (i := 0) (oi := _) (v := ?v8) rfl (by kernel_rfl) (by kernel_rfl) (by kernel_rfl) (fun _ _ _ h => h) (Or.inl ⟨by rfl, ?y8⟩) (by assumption) ?r8
    case y8 => ((intro w hSw); (try dsimp only at hSw); go_simp; (try with_reducible rfl))
    (try simp only [Act.put, List.setIfInBounds_toArray, List.set_cons_zero, List.set_cons_succ])
    refine wpAnyH_take (i := 5) (oi := _) (v := (Value.agg #[.int .i64 z.i, .int .i64 z.s, .int .i64 z.t, .int .i64 z.c.p, .int .i64 z.c.q, .int .i64 z.c.r0, .int .i64 z.c.r1, .int .i64 z.c.r2, .int .i64 z.c.r3, .int .i64 z.c.r4, .int .i64 z.c.r5, .int .i64 z.c.r6, .int .i64 z.c.r7, .int .i64 z.c.d, .int .i64 z.d])) rfl (by kernel_rfl) (by kernel_rfl) (by kernel_rfl) (fun _ _ _ h => h) (yieldsIf_load_mid rfl 77 _ rfl w2.heap.size 0 rfl [.int .i64 z.i, .int .i64 z.s, .int .i64 z.t, .int .i64 z.c.p, .int .i64 z.c.q, .int .i64 z.c.r0, .int .i64 z.c.r1, .int .i64 z.c.r2, .int .i64 z.c.r3, .int .i64 z.c.r4, .int .i64 z.c.r5, .int .i64 z.c.r6, .int .i64 z.c.r7, .int .i64 z.c.d, .int .i64 z.d] _ (fun w h => h.2) Tryd.underlying77 rfl I77) (by assumption) ?rM
    simp only [Act.put, List.setIfInBounds_toArray, List.set_cons_zero, List.set_cons_succ]
    refine wpAnyH_take (i := 1) (oi := _) (v := ?v9) rfl (by kernel_rfl) (by kernel_rfl) (by kernel_rfl) (fun _ _ _ h => h) (Or.inl ⟨by rfl, ?y9⟩) (by assumption) ?r9
    case y9 => ((intro w hSw); (try dsimp only at hSw); go_simp; (try with_reducible rfl))
    (try simp only [Act.put, List.setIfInBounds_toArray, List.set_cons_zero, List.set_cons_succ])
    refine wpAnyH_take (i := 2) (oi := _) (v := ?v10) rfl (by kernel_rfl) (by kernel_rfl) (by kernel_rfl) (fun _ _ _ h => h) (Or.inl ⟨by rfl, ?y10⟩) (by assumption) ?r10
    case y10 => ((intro w hSw); (try dsimp only at hSw); go_simp; (try with_reducible rfl))
    (try simp only [Act.put, List.setIfInBounds_toArray, List.set_cons_zero, List.set_cons_succ])
    refine wpAnyH_take (i := 3) (oi := _) (v := ?v11) rfl (by kernel_rfl) (by kernel_rfl) (by kernel_rfl) (fun _ _ _ h => h) (Or.inl ⟨by rfl, ?y11⟩) (by assumption) ?r11
    case y11 => ((intro w hSw); (try dsimp only at hSw); go_simp; (try with_reducible rfl))
    (try simp only [Act.put, List.setIfInBounds_toArray, List.set_cons_zero, List.set_cons_succ])
    refine wpAnyH_take (i := 4) (oi := _) (v := ?v12) rfl (by kernel_rfl) (by kernel_rfl) (by kernel_rfl) (fun _ _ _ h => h) (Or.inl ⟨by rfl, ?y12⟩) (by assumption) ?r12
    case y12 => ((intro w hSw); (try dsimp only at hSw); go_simp; (try with_reducible rfl))
    (try simp only [Act.put, List.setIfInBounds_toArray, List.set_cons_zero, List.set_cons_succ])
    refine wpAnyH_done (by kernel_rfl) (Held.tailQ_normal ?_) _
    simp only [Act.put, List.getElem_toArray, List.getElem_cons_zero, List.getElem_cons_succ, List.setIfInBounds_toArray, List.set_cons_zero, List.set_cons_succ]
    have T4 := hid (H.out.still S3.out)
    refine wpList_putT rfl (.tmp 26) (.tmp 27) (.tmp 28) rfl T4.out.m.drew HL.out z (by rw [zi.out]; exact WF.out) rfl (by rw [zi.out]; rfl) rfl ?_
    intro w6 m6 f6
    have T6 := hid (T4.out.drew.put m6 f6)
    have F6 := hid (((S3.out.fr (fun k => k = M)).drew).trans f6)
    clear m6 f6
    go_wp2_with fail
    go_ret
    exact ⟨rfl, by have h := T6.out; rw [← HZ.out] at h; exact h, F6.out⟩
  · go_wp2_with (first
      | (refine wpList_storeW rfl (.tmp 7) (.tmp 13) 77 rfl _ 77 [.int .i64 t0.i, .int .i64 t0.s, .int .i64 t0.t, .int .i64 t0.c.p, .int .i64 t0.c.q, .int .i64 t0.c.r0, .int .i64 t0.c.r1, .int .i64 t0.c.r2, .int .i64 t0.c.r3, .int .i64 t0.c.r4, .int .i64 t0.c.r5, .int .i64 t0.c.r6, .int .i64 t0.c.r7, .int .i64 t0.c.d, .int .i64 t0.d] [.int .i64 y.i, .int .i64 y.s, .int .i64 y.t, .int .i64 y.c.p, .int .i64 y.c.q, .int .i64 y.c.r0, .int .i64 y.c.r1, .int .i64 y.c.r2, .int .i64 y.c.r3, .int .i64 y.c.r4, .int .i64 y.c.r5, .int .i64 y.c.r6, .int .i64 y.c.r7, .int .i64 y.c.d, .int .i64 y.d] I77 (ones y) rfl rfl (new_t _) rfl ?_; intro w3 b3 f3; have B3 := hid b3; have F3 := hid f3; clear b3 f3))
    have S3 : Hid (Still w w3) := hid (Still.next (S2.out.trans ((Fr.refl _ _).alloc _)) F3.out (fun k hk => by rw [hk]; exact S2.out.size))
    go_ret
    exact ⟨rfl, H.out.still S3.out, S3.out.fr _⟩
end
end Go.Proofs.YtffjaaolcphonaaDoor
/- Threads: turn. -/
namespace Go.Proofs.YtffjaaolcphonaaDoor
open Go.RowKit Go.Maps
set_option linter.unusedSimpArgs false
section
variable {w w' : World} {P : Nat} {B : SB} {M : Nat} {s : SS} {L : List Thr}
/-- Is a change from these states refused in this one? -/
def turnN (fr s : Int) : Bool := bits BinOp.and IntKind.i64 (fr / 2 ^ s.toNat) 1 == 0
def turnE (L : List Thr) (k fr : Int) : Int := if fndE L k = 0 then (if turnN fr (fndT L k).s = true then 5 else 0) else 4
def turnL (L : List Thr) (k fr tz : Int) : List Thr := if fndE L k = 0 then (if turnN fr (fndT L k).s = true then L else thrE.ins { fndT L k with s := tz } L) else L
set_option maxRecDepth 100000 in
set_option maxHeartbeats 4000000 in
theorem tturn (h : TAt w P B M s L) (hl : L.length < maxLen) (id : Int) (wf : (Lit.int .i64 id).wf = true) (fr tz : Int) (hs : ∀ x ∈ L, 1 ≤ x.s ∧ x.s ≤ 4) : Calls Tryd.prog 97 #[.pointer (some ⟨P, 0, none⟩), .int .i64 id, Value.agg #[.int .i64 fr, .int .i64 tz]] w fun e w' =>
    e = .returned (.int .i64 (turnE L id fr)) ∧ TAt w' P B M s (turnL L id fr tz) ∧ Fr (fun k => k = M) w w' := by
  have H := hid h
  have WF := hid wf
  have F1 := h.f1
  have hPl := h.ltP
  clear h wf
  have FK := hid (fnd_key (L := L) (k := id))
  have EC := fndE_cases L id
  unfold turnE turnL
  obtain ⟨y, hy⟩ : ∃ y, fndT L id = y := ⟨_, rfl⟩
  obtain ⟨ee, he⟩ : ∃ ee, fndE L id = ee := ⟨_, rfl⟩
  have FD := fun (u : World) (hu : Still w u) => tfind (H.out.still hu) id WF.out
  rw [hy, he] at FD FK ⊢
  rw [he] at EC
  have FDx := hid FD
  clear FD hy he
  go_enter Tryd.func97, Tryd.ntmps97
  go_wp2_with fail
  refine (FDx.out _ ((Fr.refl _ _).alloc _)).mono ?_
  rintro e w2 ⟨rfl, s2⟩
  have S2 := hid (((Fr.refl _ _).alloc _).trans s2)
  have B2 : Hid (Blk w2 w.heap.size [.int .i64 fr, .int .i64 tz] 150) := hid ((Blk.new w _ 150).still s2)
  have G2 := Still.cell S2.out F1
  have HPl2 : P < w2.heap.size := Nat.lt_of_lt_of_le hPl S2.out.size
  clear s2
  rcases EC with rfl | rfl
  · have HS := hs y (FK.out rfl).2
    by_cases htn : turnN fr y.s = true
    · have tn : (bits BinOp.and IntKind.i64 (fr / 2 ^ y.s.toNat) 1 == 0) = true := htn
      go_wp2_with (first
        | (refine wpList_storeW rfl (.tmp 7) (.tmp 13) 77 rfl _ 77 [.int .i64 t0.i, .int .i64 t0.s, .int .i64 t0.t, .int .i64 t0.c.p, .int .i64 t0.c.q, .int .i64 t0.c.r0, .int .i64 t0.c.r1, .int .i64 t0.c.r2, .int .i64 t0.c.r3, .int .i64 t0.c.r4, .int .i64 t0.c.r5, .int .i64 t0.c.r6, .int .i64 t0.c.r7, .int .i64 t0.c.d, .int .i64 t0.d] [.int .i64 y.i, .int .i64 y.s, .int .i64 y.t, .int .i64 y.c.p, .int .i64 y.c.q, .int .i64 y.c.r0, .int .i64 y.c.r1, .int .i64 y.c.r2, .int .i64 y.c.r3, .int .i64 y.c.r4, .int .i64 y.c.r5, .int .i64 y.c.r6, .int .i64 y.c.r7, .int .i64 y.c.d, .int .i64 y.d] I77 (ones y) rfl rfl (new_t _) rfl ?_; intro w3 b3 f3; have B3 := hid b3; have F3 := hid f3; have C3 : Blk w3 w.heap.size [.int .i64 fr, .int .i64 tz] 150 := ((B2.out.alloc _).fr f3 (by have := B2.out.lt; omega)); have c0 : w3.cell? ⟨w.heap.size, 0, none⟩ = some (.int .i64 fr) := C3.cell 0; have c1 : w3.cell? ⟨w.heap.size, 1, none⟩ = some (.int .i64 tz) := C3.cell 1; have d1 : w3.cell? ⟨w2.heap.size, 1, none⟩ = some (.int .i64 y.s) := b3.cell 1; have z1 := b3.frozen 1; clear b3 f3 C3))
      have S3 : Hid (Still w w3) := hid (Still.next (S2.out.trans ((Fr.refl _ _).alloc _)) F3.out (fun k hk => by rw [hk]; exact S2.out.size))
      go_ret
      exact ⟨rfl, H.out.still S3.out, S3.out.fr _⟩
    · have tn : (bits BinOp.and IntKind.i64 (fr / 2 ^ y.s.toNat) 1 == 0) = false := by simpa [turnN] using htn
      go_wp2_with (first
        | (refine wpList_storeW rfl (.tmp 7) (.tmp 13) 77 rfl _ 77 [.int .i64 t0.i, .int .i64 t0.s, .int .i64 t0.t, .int .i64 t0.c.p, .int .i64 t0.c.q, .int .i64 t0.c.r0, .int .i64 t0.c.r1, .int .i64 t0.c.r2, .int .i64 t0.c.r3, .int .i64 t0.c.r4, .int .i64 t0.c.r5, .int .i64 t0.c.r6, .int .i64 t0.c.r7, .int .i64 t0.c.d, .int .i64 t0.d] [.int .i64 y.i, .int .i64 y.s, .int .i64 y.t, .int .i64 y.c.p, .int .i64 y.c.q, .int .i64 y.c.r0, .int .i64 y.c.r1, .int .i64 y.c.r2, .int .i64 y.c.r3, .int .i64 y.c.r4, .int .i64 y.c.r5, .int .i64 y.c.r6, .int .i64 y.c.r7, .int .i64 y.c.d, .int .i64 y.d] I77 (ones y) rfl rfl (new_t _) rfl ?_; intro w3 b3 f3; have B3 := hid b3; have F3 := hid f3; have C3 : Blk w3 w.heap.size [.int .i64 fr, .int .i64 tz] 150 := ((B2.out.alloc _).fr f3 (by have := B2.out.lt; omega)); have c0 : w3.cell? ⟨w.heap.size, 0, none⟩ = some (.int .i64 fr) := C3.cell 0; have c1 : w3.cell? ⟨w.heap.size, 1, none⟩ = some (.int .i64 tz) := C3.cell 1; have d1 : w3.cell? ⟨w2.heap.size, 1, none⟩ = some (.int .i64 y.s) := b3.cell 1; have z1 := b3.frozen 1; clear b3 f3 C3))
      obtain ⟨w5, hw5⟩ : ∃ w5, w3.setCell ⟨w2.heap.size, 1, none⟩ (.int .i64 tz) = w5 := ⟨_, rfl⟩
      rw [hw5]
      have S3 : Hid (Still w w5) := hid (by rw [← hw5]; exact Fr.setCell (Still.next (S2.out.trans ((Fr.refl _ _).alloc _)) F3.out (fun k hk => by rw [hk]; exact S2.out.size)) (.inr S2.out.size) _)
      obtain ⟨z, hz⟩ : ∃ z, { y with s := tz } = z := ⟨_, rfl⟩
      have B5 : Blk w5 w2.heap.size [.int .i64 z.i, .int .i64 z.s, .int .i64 z.t, .int .i64 z.c.p, .int .i64 z.c.q, .int .i64 z.c.r0, .int .i64 z.c.r1, .int .i64 z.c.r2, .int .i64 z.c.r3, .int .i64 z.c.r4, .int .i64 z.c.r5, .int .i64 z.c.r6, .int .i64 z.c.r7, .int .i64 z.c.d, .int .i64 z.d] 77 := by subst hz; rw [← hw5]; exact B3.out.put 1 _
      have G4 := Still.cell S3.out F1
      have zi : Hid (z.i = id) := hid (by subst hz; exact (FK.out trivial).1)
      have R4 : w5.rangeAt w2.heap.size 0 [.int .i64 z.i, .int .i64 z.s, .int .i64 z.t, .int .i64 z.c.p, .int .i64 z.c.q, .int .i64 z.c.r0, .int .i64 z.c.r1, .int .i64 z.c.r2, .int .i64 z.c.r3, .int .i64 z.c.r4, .int .i64 z.c.r5, .int .i64 z.c.r6, .int .i64 z.c.r7, .int .i64 z.c.d, .int .i64 z.d] := fun j v hv => by rw [Nat.zero_add, B5.cell j]; exact hv
      have HZ := hid hz
      have HL := hid hl
      have HTN := hid htn
      clear hz hl G2 F1 B5 hw5 c0 c1 d1 z1 tn htn
      refine Held.wp_region_held_tail (S := (fun w' => w'.cell? ⟨P, 1, none⟩ = some (.map (some M)) ∧ w'.rangeAt w2.heap.size 0 [.int .i64 z.i, .int .i64 z.s, .int .i64 z.t, .int .i64 z.c.p, .int .i64 z.c.q, .int .i64 z.c.r0, .int .i64 z.c.r1, .int .i64 z.c.r2, .int .i64 z.c.r3, .int .i64 z.c.r4, .int .i64 z.c.r5, .int .i64 z.c.r6, .int .i64 z.c.r7, .int .i64 z.c.d, .int .i64 z.d])) 6 (by kernel_rfl) (by kernel_rfl) (by decide) ?hS1 (fun hHeld => ?hR1)
      case hS1 =>
        exact ⟨G4, R4⟩
      simp only [List.take_succ_cons, List.take_zero, List.drop_succ_cons, List.drop_zero]
      refine wpAnyH_take (i := 0) (oi := _) (v := ?v2) rfl (by kernel_rfl) (by kernel_rfl) (by kernel_rfl) (fun _ _ _ h => h) (Or.inl ⟨by rfl, ?y2⟩) (by assumption) ?r2
      case y2 => ((intro w hSw); (try dsimp only at hSw); go_simp; (try with_reducible rfl))
      (try simp only [Act.put, List.setIfInBounds_toArray, List.set_cons_zero, List.set_cons_succ])
      refine wpAnyH_take (i := 5) (oi := _) (v := (Value.agg #[.int .i64 z.i, .int .i64 z.s, .int .i64 z.t, .int .i64 z.c.p, .int .i64 z.c.q, .int .i64 z.c.r0, .int .i64 z.c.r1, .int .i64 z.c.r2, .int .i64 z.c.r3, .int .i64 z.c.r4, .int .i64 z.c.r5, .int .i64 z.c.r6, .int .i64 z.c.r7, .int .i64 z.c.d, .int .i64 z.d])) rfl (by kernel_rfl) (by kernel_rfl) (by kernel_rfl) (fun _ _ _ h => h) (yieldsIf_load_mid rfl 77 _ rfl w2.heap.size 0 rfl [.int .i64 z.i, .int .i64 z.s, .int .i64 z.t, .int .i64 z.c.p, .int .i64 z.c.q, .int .i64 z.c.r0, .int .i64 z.c.r1, .int .i64 z.c.r2, .int .i64 z.c.r3, .int .i64 z.c.r4, .int .i64 z.c.r5, .int .i64 z.c.r6, .int .i64 z.c.r7, .int .i64 z.c.d, .int .i64 z.d] _ (fun w h => h.2) Tryd.underlying77 rfl I77) (by assumption) ?rM
      simp only [Act.put, List.setIfInBounds_toArray, List.set_cons_zero, List.set_cons_succ]
      refine wpAnyH_take (i := 1) (oi := _) (v := ?v3) rfl (by kernel_rfl) (by kernel_rfl) (by kernel_rfl) (fun _ _ _ h => h) (Or.inl ⟨by rfl, ?y3⟩) (by assumption) ?r3
      case y3 => ((intro w hSw); (try dsimp only at hSw); go_simp; (try with_reducible rfl))
      (try simp only [Act.put, List.setIfInBounds_toArray, List.set_cons_zero, List.set_cons_succ])
      refine wpAnyH_take (i := 2) (oi := _) (v := ?v4) rfl (by kernel_rfl) (by kernel_rfl) (by kernel_rfl) (fun _ _ _ h => h) (Or.inl ⟨by rfl, ?y4⟩) (by assumption) ?r4
      case y4 => ((intro w hSw); (try dsimp only at hSw); go_simp; (try with_reducible rfl))
      (try simp only [Act.put, List.setIfInBounds_toArray, List.set_cons_zero, List.set_cons_succ])
      refine wpAnyH_take (i := 3) (oi := _) (v := ?v5) rfl (by kernel_rfl) (by kernel_rfl) (by kernel_rfl) (fun _ _ _ h => h) (Or.inl ⟨by rfl, ?y5⟩) (by assumption) ?r5
      case y5 => ((intro w hSw); (try dsimp only at hSw); go_simp; (try with_reducible rfl))
      (try simp only [Act.put, List.setIfInBounds_toArray, List.set_cons_zero, List.set_cons_succ])
      refine wpAnyH_take (i := 4) (oi := _) (v := ?v6) rfl (by kernel_rfl) (by kernel_rfl) (by kernel_rfl) (fun _ _ _ h => h) (Or.inl ⟨by rfl, ?y6⟩) (by assumption) ?r6
      case y6 => ((intro w hSw); (try dsimp only at hSw); go_simp; (try with_reducible rfl))
      (try simp only [Act.put, List.setIfInBounds_toArray, List.set_cons_zero, List.set_cons_succ])
      refine wpAnyH_done (by kernel_rfl) (Held.tailQ_normal ?_) _
      simp only [Act.put, List.getElem_toArray, List.getElem_cons_zero, List.getElem_cons_succ, List.setIfInBounds_toArray, List.set_cons_zero, List.set_cons_succ]
      have T4 := hid (H.out.still S3.out)
      refine wpList_putT rfl (.tmp 31) (.tmp 32) (.tmp 33) rfl T4.out.m.drew HL.out z (by rw [zi.out]; exact WF.out) rfl (by rw [zi.out]; rfl) rfl ?_
      intro w6 m6 f6
      have T6 := hid (T4.out.drew.put m6 f6)
      have F6 := hid (((S3.out.fr (fun k => k = M)).drew).trans f6)
      clear m6 f6
      go_wp2_with fail
      go_ret
      exact ⟨rfl, by have h := T6.out; rw [← HZ.out] at h; exact h, F6.out⟩
  · go_wp2_with (first
      | (refine wpList_storeW rfl (.tmp 7) (.tmp 13) 77 rfl _ 77 [.int .i64 t0.i, .int .i64 t0.s, .int .i64 t0.t, .int .i64 t0.c.p, .int .i64 t0.c.q, .int .i64 t0.c.r0, .int .i64 t0.c.r1, .int .i64 t0.c.r2, .int .i64 t0.c.r3, .int .i64 t0.c.r4, .int .i64 t0.c.r5, .int .i64 t0.c.r6, .int .i64 t0.c.r7, .int .i64 t0.c.d, .int .i64 t0.d] [.int .i64 y.i, .int .i64 y.s, .int .i64 y.t, .int .i64 y.c.p, .int .i64 y.c.q, .int .i64 y.c.r0, .int .i64 y.c.r1, .int .i64 y.c.r2, .int .i64 y.c.r3, .int .i64 y.c.r4, .int .i64 y.c.r5, .int .i64 y.c.r6, .int .i64 y.c.r7, .int .i64 y.c.d, .int .i64 y.d] I77 (ones y) rfl rfl (new_t _) rfl ?_; intro w3 b3 f3; have B3 := hid b3; have F3 := hid f3; clear b3 f3))
    have S3 : Hid (Still w w3) := hid (Still.next (S2.out.trans ((Fr.refl _ _).alloc _)) F3.out (fun k hk => by rw [hk]; exact S2.out.size))
    go_ret
    exact ⟨rfl, H.out.still S3.out, S3.out.fr _⟩
end
end Go.Proofs.YtffjaaolcphonaaDoor
/- Threads: the changes of state, by their variables; End; Spawn; New. -/
namespace Go.Proofs.YtffjaaolcphonaaDoor
open Go.RowKit Go.Maps
set_option linter.unusedSimpArgs false
/-- The changes, in their variables. -/
def tabT : List (Int × Int) := [(2, 2), (4, 1), (4, 3), (4, 4), (24, 1), (16, 2)]
def TabT (w : World) : Prop := ∀ i (h : i < tabT.length), w.cell? ⟨i, 0, none⟩ = some (.int .i64 tabT[i].1) ∧ w.cell? ⟨i, 1, none⟩ = some (.int .i64 tabT[i].2)
theorem TabT.still {w w' : World} (h : TabT w) (hs : Still w w') : TabT w' := fun i hi => ⟨Still.cell hs (h i hi).1, Still.cell hs (h i hi).2⟩
theorem TabT.fr {w w' : World} (h : TabT w) {F : Nat → Prop} (hf : Fr F w w') (hn : ∀ k, k < 6 → ¬ F k) : TabT w' := fun i hi => ⟨hf.cellK (h i hi).1 (hn i hi), hf.cellK (h i hi).2 (hn i hi)⟩
section
variable {w w' : World} {P : Nat} {B : SB} {M : Nat} {s : SS} {L : List Thr}
theorem trun (h : TAt w P B M s L) (hl : L.length < maxLen) (hT : TabT w) (id : Int) (wf : (Lit.int .i64 id).wf = true) (hs : ∀ x ∈ L, 1 ≤ x.s ∧ x.s ≤ 4) : Calls Tryd.prog 46 #[.pointer (some ⟨P, 0, none⟩), .int .i64 id] w fun e w' =>
    e = .returned (.int .i64 (turnE L id 2)) ∧ TAt w' P B M s (turnL L id 2 2) ∧ Fr (fun k => k = M) w w' := by
  have c0 : w.cell? ⟨0, 0, none⟩ = some (.int .i64 2) := (hT 0 (by decide)).1
  have c1 : w.cell? ⟨0, 1, none⟩ = some (.int .i64 2) := (hT 0 (by decide)).2
  have T := hid (tturn h hl id wf 2 2 hs)
  clear h hl hT wf hs
  go_enter Tryd.func46, Tryd.ntmps46
  go_wp2_with fail
  refine T.out.mono ?_
  rintro e w2 ⟨rfl, h2, f2⟩
  have H2 := hid h2
  have F2 := hid f2
  clear h2 f2
  go_wp2_with fail
  go_ret
  exact ⟨rfl, H2.out, F2.out⟩
theorem tyield (h : TAt w P B M s L) (hl : L.length < maxLen) (hT : TabT w) (id : Int) (wf : (Lit.int .i64 id).wf = true) (hs : ∀ x ∈ L, 1 ≤ x.s ∧ x.s ≤ 4) : Calls Tryd.prog 47 #[.pointer (some ⟨P, 0, none⟩), .int .i64 id] w fun e w' =>
    e = .returned (.int .i64 (turnE L id 4)) ∧ TAt w' P B M s (turnL L id 4 1) ∧ Fr (fun k => k = M) w w' := by
  have c0 : w.cell? ⟨1, 0, none⟩ = some (.int .i64 4) := (hT 1 (by decide)).1
  have c1 : w.cell? ⟨1, 1, none⟩ = some (.int .i64 1) := (hT 1 (by decide)).2
  have T := hid (tturn h hl id wf 4 1 hs)
  clear h hl hT wf hs
  go_enter Tryd.func47, Tryd.ntmps47
  go_wp2_with fail
  refine T.out.mono ?_
  rintro e w2 ⟨rfl, h2, f2⟩
  have H2 := hid h2
  have F2 := hid f2
  clear h2 f2
  go_wp2_with fail
  go_ret
  exact ⟨rfl, H2.out, F2.out⟩
theorem twait (h : TAt w P B M s L) (hl : L.length < maxLen) (hT : TabT w) (id : Int) (wf : (Lit.int .i64 id).wf = true) (hs : ∀ x ∈ L, 1 ≤ x.s ∧ x.s ≤ 4) : Calls Tryd.prog 48 #[.pointer (some ⟨P, 0, none⟩), .int .i64 id] w fun e w' =>
    e = .returned (.int .i64 (turnE L id 4)) ∧ TAt w' P B M s (turnL L id 4 3) ∧ Fr (fun k => k = M) w w' := by
  have c0 : w.cell? ⟨2, 0, none⟩ = some (.int .i64 4) := (hT 2 (by decide)).1
  have c1 : w.cell? ⟨2, 1, none⟩ = some (.int .i64 3) := (hT 2 (by decide)).2
  have T := hid (tturn h hl id wf 4 3 hs)
  clear h hl hT wf hs
  go_enter Tryd.func48, Tryd.ntmps48
  go_wp2_with fail
  refine T.out.mono ?_
  rintro e w2 ⟨rfl, h2, f2⟩
  have H2 := hid h2
  have F2 := hid f2
  clear h2 f2
  go_wp2_with fail
  go_ret
  exact ⟨rfl, H2.out, F2.out⟩
theorem ttrap (h : TAt w P B M s L) (hl : L.length < maxLen) (hT : TabT w) (id : Int) (wf : (Lit.int .i64 id).wf = true) (hs : ∀ x ∈ L, 1 ≤ x.s ∧ x.s ≤ 4) : Calls Tryd.prog 49 #[.pointer (some ⟨P, 0, none⟩), .int .i64 id] w fun e w' =>
    e = .returned (.int .i64 (turnE L id 4)) ∧ TAt w' P B M s (turnL L id 4 4) ∧ Fr (fun k => k = M) w w' := by
  have c0 : w.cell? ⟨3, 0, none⟩ = some (.int .i64 4) := (hT 3 (by decide)).1
  have c1 : w.cell? ⟨3, 1, none⟩ = some (.int .i64 4) := (hT 3 (by decide)).2
  have T := hid (tturn h hl id wf 4 4 hs)
  clear h hl hT wf hs
  go_enter Tryd.func49, Tryd.ntmps49
  go_wp2_with fail
  refine T.out.mono ?_
  rintro e w2 ⟨rfl, h2, f2⟩
  have H2 := hid h2
  have F2 := hid f2
  clear h2 f2
  go_wp2_with fail
  go_ret
  exact ⟨rfl, H2.out, F2.out⟩
theorem twake (h : TAt w P B M s L) (hl : L.length < maxLen) (hT : TabT w) (id : Int) (wf : (Lit.int .i64 id).wf = true) (hs : ∀ x ∈ L, 1 ≤ x.s ∧ x.s ≤ 4) : Calls Tryd.prog 50 #[.pointer (some ⟨P, 0, none⟩), .int .i64 id] w fun e w' =>
    e = .returned (.int .i64 (turnE L id 24)) ∧ TAt w' P B M s (turnL L id 24 1) ∧ Fr (fun k => k = M) w w' := by
  have c0 : w.cell? ⟨4, 0, none⟩ = some (.int .i64 24) := (hT 4 (by decide)).1
  have c1 : w.cell? ⟨4, 1, none⟩ = some (.int .i64 1) := (hT 4 (by decide)).2
  have T := hid (tturn h hl id wf 24 1 hs)
  clear h hl hT wf hs
  go_enter Tryd.func50, Tryd.ntmps50
  go_wp2_with fail
  refine T.out.mono ?_
  rintro e w2 ⟨rfl, h2, f2⟩
  have H2 := hid h2
  have F2 := hid f2
  clear h2 f2
  go_wp2_with fail
  go_ret
  exact ⟨rfl, H2.out, F2.out⟩
theorem tback (h : TAt w P B M s L) (hl : L.length < maxLen) (hT : TabT w) (id : Int) (wf : (Lit.int .i64 id).wf = true) (hs : ∀ x ∈ L, 1 ≤ x.s ∧ x.s ≤ 4) : Calls Tryd.prog 51 #[.pointer (some ⟨P, 0, none⟩), .int .i64 id] w fun e w' =>
    e = .returned (.int .i64 (turnE L id 16)) ∧ TAt w' P B M s (turnL L id 16 2) ∧ Fr (fun k => k = M) w w' := by
  have c0 : w.cell? ⟨5, 0, none⟩ = some (.int .i64 16) := (hT 5 (by decide)).1
  have c1 : w.cell? ⟨5, 1, none⟩ = some (.int .i64 2) := (hT 5 (by decide)).2
  have T := hid (tturn h hl id wf 16 2 hs)
  clear h hl hT wf hs
  go_enter Tryd.func51, Tryd.ntmps51
  go_wp2_with fail
  refine T.out.mono ?_
  rintro e w2 ⟨rfl, h2, f2⟩
  have H2 := hid h2
  have F2 := hid f2
  clear h2 f2
  go_wp2_with fail
  go_ret
  exact ⟨rfl, H2.out, F2.out⟩
def endE (s : SS) (L : List Thr) (k : Int) : Int := if fndE L k = 0 then (if (fndT L k).s = 2 then freeE s k else 5) else 4
def endL (L : List Thr) (k : Int) : List Thr := if fndE L k = 0 then (if (fndT L k).s = 2 then thrE.del k L else L) else L
def endS (s : SS) (L : List Thr) (k : Int) : SS := if fndE L k = 0 then (if (fndT L k).s = 2 then freeS s k else s) else s
theorem wpList_delT {ops : Array Oper} {rest : List Oper} {o : Oper} {a : Act} {Q : Exit → Act → World → Prop} {b : Nat} (hg : o.guard = none) (m x : Operand) (hop : o.op = Op.call { callee := Callee.builtin Builtin.delete, args := #[m, x], argTypes := #[88, 3] }) (h : MapL thrE Tryd.prog w b L)
    (k : Int) (wf : (Lit.int .i64 k).wf = true) (hm : a.eval m = .map (some b)) (hk : a.eval x = .int .i64 k)
    (hK : ∀ w', MapL thrE Tryd.prog w' b (thrE.del k L) → Fr (fun j => j = b) w w' → wpList Tryd.prog ops Q rest (a.put o.dst (.tuple #[])) w') : wpList Tryd.prog ops Q (o :: rest) a w :=
  wpList_mapDel hg m x 88 77 hop Tryd.underlying88 Tryd.underlying3 h k wf hm hk hK
set_option maxRecDepth 100000 in
set_option maxHeartbeats 4000000 in
theorem tend (h : TAt w P B M s L) (hI : SI s) (id : Int) (wf : (Lit.int .i64 id).wf = true) : Calls Tryd.prog 52 #[.pointer (some ⟨P, 0, none⟩), .int .i64 id] w fun e w' =>
    e = .returned (.int .i64 (endE s L id)) ∧ TAt w' P B M (endS s L id) (endL L id) ∧ Fr (fun k => k = M ∨ k = B.P) w w' := by
  have H := hid h
  have WF := hid wf
  have F0 := h.f0
  have F1 := h.f1
  have hPl := h.ltP
  have HI := hid hI
  clear h wf hI
  have EC := fndE_cases L id
  unfold endE endL endS
  obtain ⟨y, hy⟩ : ∃ y, fndT L id = y := ⟨_, rfl⟩
  obtain ⟨ee, he⟩ : ∃ ee, fndE L id = ee := ⟨_, rfl⟩
  obtain ⟨fe, hfe⟩ : ∃ fe, freeE s id = fe := ⟨_, rfl⟩
  have FD := tfind H.out id WF.out
  rw [hy, he] at FD
  rw [hy, he, hfe]
  rw [he] at EC
  have FDx := hid FD
  have HFE := hid hfe
  clear FD hy he hfe
  go_enter Tryd.func52, Tryd.ntmps52
  go_wp2_with fail
  refine FDx.out.mono ?_
  rintro e w2 ⟨rfl, s2⟩
  have S2 := hid s2
  have G0 := Still.cell S2.out F0
  have G1 := Still.cell S2.out F1
  have HPl2 : P < w2.heap.size := Nat.lt_of_lt_of_le hPl S2.out.size
  clear s2
  rcases EC with rfl | rfl
  · by_cases hst : y.s = 2
    · have e2 : (y.s != 2) = false := by simp [hst]
      have HST := hid hst
      clear hst
      go_wp2_with (first
        | (refine wpList_storeW rfl (.tmp 5) (.tmp 11) 77 rfl _ 77 [.int .i64 t0.i, .int .i64 t0.s, .int .i64 t0.t, .int .i64 t0.c.p, .int .i64 t0.c.q, .int .i64 t0.c.r0, .int .i64 t0.c.r1, .int .i64 t0.c.r2, .int .i64 t0.c.r3, .int .i64 t0.c.r4, .int .i64 t0.c.r5, .int .i64 t0.c.r6, .int .i64 t0.c.r7, .int .i64 t0.c.d, .int .i64 t0.d] [.int .i64 y.i, .int .i64 y.s, .int .i64 y.t, .int .i64 y.c.p, .int .i64 y.c.q, .int .i64 y.c.r0, .int .i64 y.c.r1, .int .i64 y.c.r2, .int .i64 y.c.r3, .int .i64 y.c.r4, .int .i64 y.c.r5, .int .i64 y.c.r6, .int .i64 y.c.r7, .int .i64 y.c.d, .int .i64 y.d] I77 (ones y) rfl rfl (new_t _) rfl ?_; intro w3 b3 f3; have B3 := hid b3; have F3 := hid f3; have d1 : w3.cell? ⟨w2.heap.size, 1, none⟩ = some (.int .i64 y.s) := b3.cell 1; have S3 : Hid (Still w w3) := hid (Still.next (S2.out.trans ((Fr.refl _ _).alloc _)) f3 (fun k hk => by rw [hk]; exact S2.out.size)); have K0 := Still.cell S3.out F0; have K1 := Still.cell S3.out F1; clear b3 f3)
        | (at_delete; refine wpList_delT rfl (.tmp 24) (.tmp 25) rfl (H.out.m.still S3.out) id WF.out rfl rfl ?_; intro w4 m4 f4; have T4 := hid ((H.out.still S3.out).put m4 f4); have F4 := hid ((S3.out.fr (fun k => k = M)).trans f4); have J0 := T4.out.f0; clear m4 f4))
      refine (sfree' T4.out.sl id (wf_in WF.out) HI.out).mono ?_
      rintro e w5 ⟨he, l5, f5⟩
      rw [HFE.out] at he
      subst he
      have T5 : Hid (TAt w5 P B M (freeS s id) (thrE.del id L)) := hid ⟨f5.cellK T4.out.f0 (fun e => T4.out.nPB (.inl e)), f5.cellK T4.out.f1 (fun e => T4.out.nPB (.inl e)), l5, T4.out.m.fr f5 (fun e => T4.out.nMB (.inl e)), T4.out.nPM, T4.out.nPB, T4.out.nMB⟩
      have F5 := hid ((F4.out.mono fun k _ h => Or.inl h : Fr (fun k => k = M ∨ k = B.P) w w4).trans (f5.mono fun k _ h => .inr h))
      clear l5 f5
      go_wp2_with fail
      go_ret
      simp only [if_pos HST.out]
      exact ⟨rfl, T5.out, F5.out⟩
    · have e2 : (y.s != 2) = true := by simp [hst]
      have HST := hid hst
      clear hst
      go_wp2_with (refine wpList_storeW rfl (.tmp 5) (.tmp 11) 77 rfl _ 77 [.int .i64 t0.i, .int .i64 t0.s, .int .i64 t0.t, .int .i64 t0.c.p, .int .i64 t0.c.q, .int .i64 t0.c.r0, .int .i64 t0.c.r1, .int .i64 t0.c.r2, .int .i64 t0.c.r3, .int .i64 t0.c.r4, .int .i64 t0.c.r5, .int .i64 t0.c.r6, .int .i64 t0.c.r7, .int .i64 t0.c.d, .int .i64 t0.d] [.int .i64 y.i, .int .i64 y.s, .int .i64 y.t, .int .i64 y.c.p, .int .i64 y.c.q, .int .i64 y.c.r0, .int .i64 y.c.r1, .int .i64 y.c.r2, .int .i64 y.c.r3, .int .i64 y.c.r4, .int .i64 y.c.r5, .int .i64 y.c.r6, .int .i64 y.c.r7, .int .i64 y.c.d, .int .i64 y.d] I77 (ones y) rfl rfl (new_t _) rfl ?_; intro w3 b3 f3; have B3 := hid b3; have F3 := hid f3; have d1 : w3.cell? ⟨w2.heap.size, 1, none⟩ = some (.int .i64 y.s) := b3.cell 1; have S3 : Hid (Still w w3) := hid (Still.next (S2.out.trans ((Fr.refl _ _).alloc _)) f3 (fun k hk => by rw [hk]; exact S2.out.size)); clear b3 f3)
      go_ret
      simp only [if_neg HST.out]
      exact ⟨rfl, H.out.still S3.out, S3.out.fr _⟩
  · go_wp2_with (refine wpList_storeW rfl (.tmp 5) (.tmp 11) 77 rfl _ 77 [.int .i64 t0.i, .int .i64 t0.s, .int .i64 t0.t, .int .i64 t0.c.p, .int .i64 t0.c.q, .int .i64 t0.c.r0, .int .i64 t0.c.r1, .int .i64 t0.c.r2, .int .i64 t0.c.r3, .int .i64 t0.c.r4, .int .i64 t0.c.r5, .int .i64 t0.c.r6, .int .i64 t0.c.r7, .int .i64 t0.c.d, .int .i64 t0.d] [.int .i64 y.i, .int .i64 y.s, .int .i64 y.t, .int .i64 y.c.p, .int .i64 y.c.q, .int .i64 y.c.r0, .int .i64 y.c.r1, .int .i64 y.c.r2, .int .i64 y.c.r3, .int .i64 y.c.r4, .int .i64 y.c.r5, .int .i64 y.c.r6, .int .i64 y.c.r7, .int .i64 y.c.d, .int .i64 y.d] I77 (ones y) rfl rfl (new_t _) rfl ?_; intro w3 b3 f3; have B3 := hid b3; have F3 := hid f3; have S3 : Hid (Still w w3) := hid (Still.next (S2.out.trans ((Fr.refl _ _).alloc _)) f3 (fun k hk => by rw [hk]; exact S2.out.size)); clear b3 f3)
    go_ret
    exact ⟨rfl, H.out.still S3.out, S3.out.fr _⟩
end
end Go.Proofs.YtffjaaolcphonaaDoor
/- Threads: Spawn, New. -/
namespace Go.Proofs.YtffjaaolcphonaaDoor
open Go.RowKit Go.Maps
set_option linter.unusedSimpArgs false
section
variable {w w' : World} {P : Nat} {B : SB} {M : Nat} {s : SS} {L : List Thr}
/-- Are these tickets refused? -/
def tkB (tk : Int) : Bool := decide (tk < 1) || decide (65536 < tk)
def spV (s : SS) (tk : Int) : Int := if tkB tk = true then 0 else takeV s
def spE (s : SS) (tk : Int) : Int := if tkB tk = true then 2 else takeE s
def spS (s : SS) (tk : Int) : SS := if tkB tk = true then s else takeS s
def spL (s : SS) (L : List Thr) (c : Ctx) (tk : Int) : List Thr := if tkB tk = true then L else if takeE s = 0 then thrE.ins ⟨takeV s, 1, tk, c, 0⟩ L else L
theorem takeE_cases (s : SS) : takeE s = 0 ∨ takeE s = 3 := by unfold takeE; split <;> simp
set_option maxRecDepth 100000 in
set_option maxHeartbeats 4000000 in
theorem tspawn (h : TAt w P B M s L) (hl : L.length < maxLen) (hI : SI s) (hT : TabD w) (h7 : ¬ B.foot 7) (c : Ctx) (tk : Int) : Calls Tryd.prog 45 #[.pointer (some ⟨P, 0, none⟩), (Value.agg #[.int .i64 c.p, .int .i64 c.q, .int .i64 c.r0, .int .i64 c.r1, .int .i64 c.r2, .int .i64 c.r3, .int .i64 c.r4, .int .i64 c.r5, .int .i64 c.r6, .int .i64 c.r7, .int .i64 c.d]), .int .i64 tk] w fun e w' =>
    e = .returned (.tuple #[.int .i64 (spV s tk), .int .i64 (spE s tk)]) ∧ TAt w' P B M (spS s tk) (spL s L c tk) ∧ Fr (fun k => B.foot k ∨ k = M) w w' := by
  have H := hid h
  have F0 := h.f0
  have hPl := h.ltP
  have HI := hid hI
  have HT := hid hT
  have H7 := hid h7
  have HL := hid hl
  clear h hI hT h7 hl
  unfold spV spE spS spL
  by_cases htk : tkB tk = true
  · simp only [if_pos htk]
    have e1 : (decide (tk < 1) || decide (65536 < tk)) = true := htk
    go_enter Tryd.func45, Tryd.ntmps45
    go_wp2_with fail
    refine (tmade (H.out.still ((Fr.refl _ _).alloc _))).mono ?_
    rintro e w1 ⟨rfl, hw⟩
    have S1 : Hid (Still w w1) := hid (hw ▸ (Fr.refl _ _).alloc _)
    clear hw
    by_cases h1 : tk < 1
    · go_wp2_with fail
      go_ret2
      exact ⟨rfl, H.out.still S1.out, S1.out.fr _⟩
    · have h2 : 65536 < tk := by simpa [h1] using e1
      go_wp2_with fail
      go_ret2
      exact ⟨rfl, H.out.still S1.out, S1.out.fr _⟩
  · simp only [if_neg htk]
    have h1 : ¬ tk < 1 := fun h => htk (by simp [tkB, h])
    have h2 : ¬ 65536 < tk := fun h => htk (by simp [tkB, h])
    clear htk
    obtain ⟨tv, htv⟩ : ∃ tv, takeV s = tv := ⟨_, rfl⟩
    obtain ⟨te, hte⟩ : ∃ te, takeE s = te := ⟨_, rfl⟩
    have TEC := takeE_cases s
    rw [hte] at TEC
    rw [htv, hte]
    have HTV := hid htv
    have HTE := hid hte
    clear htv hte
    go_enter Tryd.func45, Tryd.ntmps45
    go_wp2_with fail
    refine (tmade (H.out.still ((Fr.refl _ _).alloc _))).mono ?_
    rintro e w1 ⟨rfl, hw⟩
    have S1 : Hid (Still w w1) := hid (hw ▸ (Fr.refl _ _).alloc _)
    have B1 : Hid (Blk w1 w.heap.size [.int .i64 c.p, .int .i64 c.q, .int .i64 c.r0, .int .i64 c.r1, .int .i64 c.r2, .int .i64 c.r3, .int .i64 c.r4, .int .i64 c.r5, .int .i64 c.r6, .int .i64 c.r7, .int .i64 c.d] 58) := hid (hw ▸ Blk.new w _ 58)
    have G0 := Still.cell S1.out F0
    have HPl1 : P < w1.heap.size := Nat.lt_of_lt_of_le hPl S1.out.size
    clear hw
    go_wp2_with fail
    refine (stake' (H.out.sl.still S1.out) (HT.out.still S1.out) H7.out HI.out).mono ?_
    rintro e w2 ⟨he, l2, f2⟩
    rw [HTV.out, HTE.out] at he
    subst he
    have T2 : Hid (TAt w2 P B M (takeS s) L) := hid ⟨f2.cellK (Still.cell S1.out H.out.f0) H.out.nPB, f2.cellK (Still.cell S1.out H.out.f1) H.out.nPB, l2, (H.out.m.still S1.out).fr f2 H.out.nMB, H.out.nPM, H.out.nPB, H.out.nMB⟩
    have F2 := hid ((S1.out.fr B.foot).trans f2)
    have B2 := hid (B1.out.fr f2 (fun hf => by have := H.out.sl.lt hf; omega))
    have J1 := T2.out.f1
    clear l2 f2
    rcases TEC with rfl | rfl
    · obtain ⟨z, hz⟩ : ∃ z : Thr, ⟨tv, 1, tk, c, 0⟩ = z := ⟨_, rfl⟩
      have HZ := hid hz
      go_wp2_with fail
      have R2 : w2.rangeAt w.heap.size 0 [.int .i64 c.p, .int .i64 c.q, .int .i64 c.r0, .int .i64 c.r1, .int .i64 c.r2, .int .i64 c.r3, .int .i64 c.r4, .int .i64 c.r5, .int .i64 c.r6, .int .i64 c.r7, .int .i64 c.d] := fun j v hv => by rw [Nat.zero_add, B2.out.cell j]; exact hv
      refine Held.wp_region_held_tail (S := (fun w' => w'.cell? ⟨P, 1, none⟩ = some (.map (some M)) ∧ w'.rangeAt w.heap.size 0 [.int .i64 c.p, .int .i64 c.q, .int .i64 c.r0, .int .i64 c.r1, .int .i64 c.r2, .int .i64 c.r3, .int .i64 c.r4, .int .i64 c.r5, .int .i64 c.r6, .int .i64 c.r7, .int .i64 c.d])) 9 (by kernel_rfl) (by kernel_rfl) (by decide) ?hS1 (fun hHeld => ?hR1)
      case hS1 =>
        exact ⟨J1, R2⟩
      simp only [List.take_succ_cons, List.take_zero, List.drop_succ_cons, List.drop_zero]
      refine wpAnyH_take (i := 0) (oi := _) (v := ?v2) rfl (by kernel_rfl) (by kernel_rfl) (by kernel_rfl) (fun _ _ _ h => h) (Or.inl ⟨by rfl, ?y2⟩) (by assumption) ?r2
      case y2 => ((intro w hSw); (try dsimp only at hSw); go_simp; (try with_reducible rfl))
      (try simp only [Act.put, List.setIfInBounds_toArray, List.set_cons_zero, List.set_cons_succ])
      refine wpAnyH_take (i := 7) (oi := _) (v := (Value.agg #[.int .i64 c.p, .int .i64 c.q, .int .i64 c.r0, .int .i64 c.r1, .int .i64 c.r2, .int .i64 c.r3, .int .i64 c.r4, .int .i64 c.r5, .int .i64 c.r6, .int .i64 c.r7, .int .i64 c.d])) rfl (by kernel_rfl) (by kernel_rfl) (by kernel_rfl) (fun _ _ _ h => h) (yieldsIf_load_mid rfl 58 _ rfl w.heap.size 0 rfl [.int .i64 c.p, .int .i64 c.q, .int .i64 c.r0, .int .i64 c.r1, .int .i64 c.r2, .int .i64 c.r3, .int .i64 c.r4, .int .i64 c.r5, .int .i64 c.r6, .int .i64 c.r7, .int .i64 c.d] _ (fun w h => h.2) Tryd.underlying58 rfl I58) (by assumption) ?rM
      simp only [Act.put, List.setIfInBounds_toArray, List.set_cons_zero, List.set_cons_succ]
      refine wpAnyH_take (i := 1) (oi := _) (v := ?v3) rfl (by kernel_rfl) (by kernel_rfl) (by kernel_rfl) (fun _ _ _ h => h) (Or.inl ⟨by rfl, ?y3⟩) (by assumption) ?r3
      case y3 => ((intro w hSw); (try dsimp only at hSw); go_simp; (try with_reducible rfl))
      (try simp only [Act.put, List.setIfInBounds_toArray, List.set_cons_zero, List.set_cons_succ])
      refine wpAnyH_take (i := 2) (oi := _) (v := ?v4) rfl (by kernel_rfl) (by kernel_rfl) (by kernel_rfl) (fun _ _ _ h => h) (Or.inl ⟨by rfl, ?y4⟩) (by assumption) ?r4
      case y4 => ((intro w hSw); (try dsimp only at hSw); go_simp; (try with_reducible rfl))
      (try simp only [Act.put, List.setIfInBounds_toArray, List.set_cons_zero, List.set_cons_succ])
      refine wpAnyH_take (i := 3) (oi := _) (v := ?v5) rfl (by kernel_rfl) (by kernel_rfl) (by kernel_rfl) (fun _ _ _ h => h) (Or.inl ⟨by rfl, ?y5⟩) (by assumption) ?r5
      case y5 => ((intro w hSw); (try dsimp only at hSw); go_simp; (try with_reducible rfl))
      (try simp only [Act.put, List.setIfInBounds_toArray, List.set_cons_zero, List.set_cons_succ])
      refine wpAnyH_take (i := 4) (oi := _) (v := ?v6) rfl (by kernel_rfl) (by kernel_rfl) (by kernel_rfl) (fun _ _ _ h => h) (Or.inl ⟨by rfl, ?y6⟩) (by assumption) ?r6
      case y6 => ((intro w hSw); (try dsimp only at hSw); go_simp; (try with_reducible rfl))
      (try simp only [Act.put, List.setIfInBounds_toArray, List.set_cons_zero, List.set_cons_succ])
      refine wpAnyH_take (i := 5) (oi := _) (v := ?v7) rfl (by kernel_rfl) (by kernel_rfl) (by kernel_rfl) (fun _ _ _ h => h) (Or.inl ⟨by rfl, ?y7⟩) (by assumption) ?r7
      case y7 => ((intro w hSw); (try dsimp only at hSw); go_simp; (try with_reducible rfl))
      (try simp only [Act.put, List.setIfInBounds_toArray, List.set_cons_zero, List.set_cons_succ])
      refine wpAnyH_take (i := 6) (oi := _) (v := ?v8) rfl (by kernel_rfl) (by kernel_rfl) (by kernel_rfl) (fun _ _ _ h => h) (Or.inl ⟨by rfl, ?y8⟩) (by assumption) ?r8
      case y8 => ((intro w hSw); (try dsimp only at hSw); go_simp; (try with_reducible rfl))
      (try simp only [Act.put, List.setIfInBounds_toArray, List.set_cons_zero, List.set_cons_succ])
      refine wpAnyH_take (i := 8) (oi := _) (v := ?v9) rfl (by kernel_rfl) (by kernel_rfl) (by kernel_rfl) (fun _ _ _ h => h) (Or.inl ⟨by rfl, ?y9⟩) (by assumption) ?r9
      case y9 => ((intro w hSw); (try dsimp only at hSw); go_simp; (try with_reducible rfl))
      (try simp only [Act.put, List.setIfInBounds_toArray, List.set_cons_zero, List.set_cons_succ])
      refine wpAnyH_done (by kernel_rfl) (Held.tailQ_normal ?_) _
      simp only [Act.put, List.getElem_toArray, List.getElem_cons_zero, List.getElem_cons_succ, List.setIfInBounds_toArray, List.set_cons_zero, List.set_cons_succ]
      have zi : Hid (z.i = tv) := hid (by rw [← hz])
      refine wpList_putT rfl (.tmp 34) (.tmp 35) (.tmp 39) rfl T2.out.m.drew HL.out z (by rw [zi.out, ← HTV.out]; exact takeV_wf s) rfl (by rw [zi.out]; rfl) (by rw [← hz]; rfl) ?_
      intro w6 m6 f6
      have T6 := hid (T2.out.drew.put m6 f6)
      have F6 := hid (((F2.out.mono fun k _ h => Or.inl h : Fr (fun k => B.foot k ∨ k = M) w w2).drew).trans (f6.mono fun k _ h => .inr h))
      clear m6 f6 hz
      go_wp2_with fail
      go_ret2
      exact ⟨rfl, by have h := T6.out; rw [← HZ.out] at h; exact h, F6.out⟩
    · go_wp2_with fail
      go_ret2
      exact ⟨rfl, T2.out, F2.out.mono fun k _ h => .inl h⟩
end
end Go.Proofs.YtffjaaolcphonaaDoor
/- Threads: New; Count. -/
namespace Go.Proofs.YtffjaaolcphonaaDoor
open Go.RowKit Go.Maps
set_option linter.unusedSimpArgs false
theorem tnew_no (w : World) (x : Int) (hx : x < 1 ∨ 32 < x) : Calls Tryd.prog 38 #[.int .i64 x] w fun e w' => e = .returned (.pointer none) ∧ w = w' := by
  go_enter Tryd.func38, Tryd.ntmps38
  rcases hx with h | h
  · go_wp2_with fail
    go_ret
    exact ⟨rfl, rfl⟩
  · have h2 : ¬ x < 1 := by omega
    go_wp2_with fail
    go_ret
    exact ⟨rfl, rfl⟩
/-- A table's own blocks are new. -/
structure TNew (w : World) (P : Nat) (B : SB) (M : Nat) : Prop where
  p : w.heap.size ≤ P
  m : w.heap.size ≤ M
  b : ∀ k, B.foot k → w.heap.size ≤ k
set_option maxRecDepth 100000 in
set_option maxHeartbeats 4000000 in
theorem tnew (w : World) (x : Nat) (x0 : 1 ≤ x) (x1 : x ≤ 32) : Calls Tryd.prog 38 #[.int .i64 (x : Int)] w fun e w' => ∃ P B M, e = .returned (.pointer (some ⟨P, 0, none⟩)) ∧ TAt w' P B M (zeroS x x) [] ∧ Still w w' ∧ TNew w P B M := by
  have h1 : ¬ (x : Int) < 1 := by omega
  have h2 : ¬ (32 : Int) < (x : Int) := by omega
  have HN := hid (snew w x x0 (by omega))
  have hmm := @run_makeMap Tryd.prog
  go_enter Tryd.func38, Tryd.ntmps38
  go_wp2_with fail
  refine HN.out.mono ?_
  rintro e w1 ⟨B, rfl, hB, hs, hnn⟩
  have HB := hid hB
  have S1 := hid hs
  have NN := hid hnn
  have hl := fun k hk => hB.lt (k := k) hk
  have HLT := hid hl
  clear hB hs hnn hl HN
  go_wp2_with fail
  go_ret
  have S1s := S1.out.size
  refine ⟨w1.heap.size + 1, B, w1.heap.size, rfl, ⟨?_, ?_, HB.out.still (((Fr.refl _ _).alloc _).alloc _), (MapL.made w1).alloc _, by omega, fun h => by have := HLT.out _ h; omega, fun h => by have := HLT.out _ h; omega⟩, (S1.out.alloc _).alloc _, ⟨by omega, S1s, NN.out⟩⟩
  · simp
  · simp
end Go.Proofs.YtffjaaolcphonaaDoor
/- Threads: Count. -/
namespace Go.Proofs.YtffjaaolcphonaaDoor
open Go.RowKit Go.Maps
set_option linter.unusedSimpArgs false
section
variable {w w' : World} {P : Nat} {B : SB} {M : Nat} {s : SS} {L : List Thr}
variable {ops : Array Oper} {rest : List Oper} {o : Oper} {a : Act} {Q : Exit → Act → World → Prop} {b : Nat}
theorem wpList_rangeT (hg : o.guard = none) (m : Operand) (hop : o.op = Op.range 88 m) (h : MapL thrE Tryd.prog w b L) (hm : a.eval m = .map (some b))
    (hK : ∀ w', RangeL thrE Tryd.prog w' b w.heap.size L (Maps.has (thrE.D L)) (Maps.size (thrE.D L)) → Still w w' → w'.heap.size = w.heap.size + 1 → wpList Tryd.prog ops Q rest (a.put o.dst (.pointer (some ⟨w.heap.size, 0, none⟩))) w') : wpList Tryd.prog ops Q (o :: rest) a w :=
  wpList_rangeL hg m 88 77 hop Tryd.underlying88 Tryd.underlying3 h hm hK
theorem wpList_nextT {r : Nat} {left : Lit → Bool} {cnt : Nat} (hg : o.guard = none) (it : Operand) (hop : o.op = Op.next it false) (h : RangeL thrE Tryd.prog w b r L left cnt) (hit : a.eval it = .pointer (some ⟨r, 0, none⟩))
    (hDone : (∀ kl, left kl = false) → wpList Tryd.prog ops Q rest (a.put o.dst (.tuple #[.bool false])) w)
    (hMore : ∀ (x : Thr) w' cnt', x ∈ L → left (.int .i64 x.i) = true → RangeL thrE Tryd.prog w' b r L (fun z => left z && !z.sameKey (.int .i64 x.i)) cnt' → cnt' < cnt → Fr (fun k => k = r) w w' → w'.heap.size = w.heap.size →
      (Instr.entry (.pointer (some ⟨r, 0, none⟩))).run Tryd.prog w' = .ok (.tuple #[.int .i64 x.i, (Value.agg #[.int .i64 x.i, .int .i64 x.s, .int .i64 x.t, .int .i64 x.c.p, .int .i64 x.c.q, .int .i64 x.c.r0, .int .i64 x.c.r1, .int .i64 x.c.r2, .int .i64 x.c.r3, .int .i64 x.c.r4, .int .i64 x.c.r5, .int .i64 x.c.r6, .int .i64 x.c.r7, .int .i64 x.c.d, .int .i64 x.d])]) w' → wpList Tryd.prog ops Q rest (a.put o.dst (.tuple #[.bool true, .int .i64 x.i, (Value.agg #[.int .i64 x.i, .int .i64 x.s, .int .i64 x.t, .int .i64 x.c.p, .int .i64 x.c.q, .int .i64 x.c.r0, .int .i64 x.c.r1, .int .i64 x.c.r2, .int .i64 x.c.r3, .int .i64 x.c.r4, .int .i64 x.c.r5, .int .i64 x.c.r6, .int .i64 x.c.r7, .int .i64 x.c.d, .int .i64 x.d])])) w') : wpList Tryd.prog ops Q (o :: rest) a w :=
  wpList_nextL hg it hop Tryd.underlying3 h hit hDone hMore
def cntT (L : List Thr) (st : Int) : Nat := L.countP fun x => x.s == st
set_option maxRecDepth 100000 in
set_option maxHeartbeats 4000000 in
theorem tcount (h : TAt w P B M s L) (hl : L.length ≤ 1000000) (st : Int) : Calls Tryd.prog 54 #[.pointer (some ⟨P, 0, none⟩), .int .i64 st] w fun e w' => e = .returned (.int .i64 (cntT L st)) ∧ Still w w' := by
  have H := hid h
  have F1 := h.f1
  have HL := hid hl
  clear h hl
  go_enter Tryd.func54, Tryd.ntmps54
  go_wp2_with (first
    | (go_at_call 94; refine (tmade H.out).mono ?_; rintro e w1 ⟨rfl, rfl⟩)
    | (at_range; refine wpList_rangeT rfl (.tmp 13) rfl H.out.m rfl ?_; intro w0 hrg0 hs0 hz0; have RG := hid hrg0; have S0 := hid hs0; have Z0 := hid hz0; clear hrg0 hs0 hz0))
  go_frame
  go_loopw [5, 7, 15] (fun s5 s7 s15 wr => ∃ left cnt, s5 = .int .i64 (thrE.cnt L (fun x => x.s == st) left : Int) ∧ RangeL thrE Tryd.prog wr M w.heap.size L left cnt ∧ Still w wr ∧ w.heap.size < wr.heap.size) (fun _ _ _ wr => wr.rangeLeft M w.heap.size)
  case atStart => exact ⟨_, _, by rw [thrE.cnt_start RG.out.2]; rfl, RG.out, S0.out, by have := Z0.out; omega⟩
  case round =>
    obtain ⟨left, cnt, rfl, hrg, hst, hz⟩ := hrel
    have RX := hid hrg
    have SX := hid hst
    clear hrg hst
    go_wp2_with (at_next; refine wpList_nextT rfl (.tmp 14) rfl RX.out rfl ?_ ?_)
    · intro hl0
      have e : thrE.cnt L (fun x => x.s == st) left = cntT L st := thrE.cnt_end _ hl0
      rw [e]
      clear hl0
      go_wp2_with fail
      go_ret
      exact ⟨rfl, SX.out⟩
    · intro x w2 cnt1 hx hlx hrg1 hlt hf hsz hen
      have RX1 := hid hrg1
      have SX1 := hid (SX.out.next hf (fun k hk => by rw [hk]; exact Nat.le_refl _))
      have CS : Hid (thrE.cnt L (fun x => x.s == st) (fun z => left z && !z.sameKey (.int .i64 x.i)) = thrE.cnt L (fun x => x.s == st) left + if (x.s == st) = true then 1 else 0) := hid (thrE.cnt_step RX.out.2 (fun x => x.s == st) hx hlx)
      have CL2 := hid (Nat.le_trans (thrE.cnt_le L (fun x => x.s == st) left) HL.out)
      have LT := hid hlt
      have CL := hid (thrE.cnt_le L (fun x => x.s == st) left)
      have hz2 : w.heap.size < w2.heap.size := by omega
      clear hrg1 hf hx hlx hlt hsz
      obtain ⟨n, hn⟩ : ∃ n, thrE.cnt L (fun x => x.s == st) left = n := ⟨_, rfl⟩
      have HN := hid hn
      rw [hn]
      clear hn
      by_cases hst : x.s = st
      · have e0 : (x.s == st) = true := by simp [hst]
        have HST := hid hst
        clear hst
        go_wp2_with (refine wpList_storeW rfl (.tmp 7) (.tmp 18) 77 rfl _ 77 [.int .i64 t0.i, .int .i64 t0.s, .int .i64 t0.t, .int .i64 t0.c.p, .int .i64 t0.c.q, .int .i64 t0.c.r0, .int .i64 t0.c.r1, .int .i64 t0.c.r2, .int .i64 t0.c.r3, .int .i64 t0.c.r4, .int .i64 t0.c.r5, .int .i64 t0.c.r6, .int .i64 t0.c.r7, .int .i64 t0.c.d, .int .i64 t0.d] [.int .i64 x.i, .int .i64 x.s, .int .i64 x.t, .int .i64 x.c.p, .int .i64 x.c.q, .int .i64 x.c.r0, .int .i64 x.c.r1, .int .i64 x.c.r2, .int .i64 x.c.r3, .int .i64 x.c.r4, .int .i64 x.c.r5, .int .i64 x.c.r6, .int .i64 x.c.r7, .int .i64 x.c.d, .int .i64 x.d] I77 (ones x) rfl rfl (new_t _) rfl ?_; intro w3 b3 f3; have d1 : w3.cell? ⟨w2.heap.size, 1, none⟩ = some (.int .i64 x.s) := b3.cell 1; have S3 : Hid (Still w w3) := hid (Still.next (SX1.out.alloc _) f3 (fun k hk => by rw [hk]; exact SX1.out.size)); have R3 := hid ((RX1.out.still ((Fr.refl _ _).alloc _)).fr f3 (fun e => by have := RX1.out.map.lt; omega) (fun e => by have := RX1.out.1.lt; omega)); have z3 := f3.size; clear b3 f3)
        go_roundw
        case rel => exact ⟨_, _, by have := CS.out; simp only [HST.out, beq_self_eq_true, if_true] at this; have c2 := CL2.out; rw [HN.out] at c2; have hw : wrap64 ((n : Int) + 1) = ((n + 1 : Nat) : Int) := by { unfold wrap64; omega }; rw [this, HN.out, hw], R3.out, S3.out, by simp at z3; omega⟩
        case measure => rw [R3.out.1.left_eq, RX.out.1.left_eq]; exact LT.out
      · have e0 : (x.s == st) = false := by simp [hst]
        have HST := hid e0
        clear hst
        go_wp2_with (refine wpList_storeW rfl (.tmp 7) (.tmp 18) 77 rfl _ 77 [.int .i64 t0.i, .int .i64 t0.s, .int .i64 t0.t, .int .i64 t0.c.p, .int .i64 t0.c.q, .int .i64 t0.c.r0, .int .i64 t0.c.r1, .int .i64 t0.c.r2, .int .i64 t0.c.r3, .int .i64 t0.c.r4, .int .i64 t0.c.r5, .int .i64 t0.c.r6, .int .i64 t0.c.r7, .int .i64 t0.c.d, .int .i64 t0.d] [.int .i64 x.i, .int .i64 x.s, .int .i64 x.t, .int .i64 x.c.p, .int .i64 x.c.q, .int .i64 x.c.r0, .int .i64 x.c.r1, .int .i64 x.c.r2, .int .i64 x.c.r3, .int .i64 x.c.r4, .int .i64 x.c.r5, .int .i64 x.c.r6, .int .i64 x.c.r7, .int .i64 x.c.d, .int .i64 x.d] I77 (ones x) rfl rfl (new_t _) rfl ?_; intro w3 b3 f3; have d1 : w3.cell? ⟨w2.heap.size, 1, none⟩ = some (.int .i64 x.s) := b3.cell 1; have S3 : Hid (Still w w3) := hid (Still.next (SX1.out.alloc _) f3 (fun k hk => by rw [hk]; exact SX1.out.size)); have R3 := hid ((RX1.out.still ((Fr.refl _ _).alloc _)).fr f3 (fun e => by have := RX1.out.map.lt; omega) (fun e => by have := RX1.out.1.lt; omega)); have z3 := f3.size; clear b3 f3)
        go_roundw
        case rel => exact ⟨_, _, by have := CS.out; simp only [HST.out, Bool.false_eq_true, if_false, Nat.add_zero] at this; rw [this, HN.out], R3.out, S3.out, by simp at z3; omega⟩
        case measure => rw [R3.out.1.left_eq, RX.out.1.left_eq]; exact LT.out
end
end Go.Proofs.YtffjaaolcphonaaDoor
