/- Threads: turn. -/
import Derived.Test.YtffjaaolcphonaaDoorThr2
namespace Go.Proofs.YtffjaaolcphonaaDoor
open Go.RowKit Go.Maps
set_option linter.unusedSimpArgs false
section
variable {w w' : World} {P : Nat} {B : SB} {M : Nat} {s : SS} {L : List Thr}
/-- Is a change from these states refused in this one? -/
def turnN (fr s : Int) : Bool := bits BinOp.and IntKind.i64 (fr / 2 ^ s.toNat) 1 == 0
def turnE (L : List Thr) (k fr : Int) : Int := if fndE L k = 0 then (if turnN fr (fndT L k).s = true then 5 else 0) else 4
def turnL (L : List Thr) (k fr tz : Int) : List Thr := if fndE L k = 0 then (if turnN fr (fndT L k).s = true then L else thrE.ins { fndT L k with s := tz } L) else L
set_option maxRecDepth 100000 in
set_option maxHeartbeats 4000000 in
theorem tturn (h : TAt w P B M s L) (hl : L.length < maxLen) (id : Int) (wf : (Lit.int .i64 id).wf = true) (fr tz : Int) (hs : ∀ x ∈ L, 1 ≤ x.s ∧ x.s ≤ 4) : Calls Tryd.prog 97 #[.pointer (some ⟨P, 0, none⟩), .int .i64 id, Value.agg #[.int .i64 fr, .int .i64 tz]] w fun e w' =>
    e = .returned (.int .i64 (turnE L id fr)) ∧ TAt w' P B M s (turnL L id fr tz) ∧ Fr (fun k => k = M) w w' := by
  have H := hid h
  have WF := hid wf
  have F1 := h.f1
  have hPl := h.ltP
  clear h wf
  have FK := hid (fnd_key (L := L) (k := id))
  have EC := fndE_cases L id
  unfold turnE turnL
  obtain ⟨y, hy⟩ : ∃ y, fndT L id = y := ⟨_, rfl⟩
  obtain ⟨ee, he⟩ : ∃ ee, fndE L id = ee := ⟨_, rfl⟩
  have FD := fun (u : World) (hu : Still w u) => tfind (H.out.still hu) id WF.out
  rw [hy, he] at FD FK ⊢
  rw [he] at EC
  have FDx := hid FD
  clear FD hy he
  go_enter Tryd.func97, Tryd.ntmps97
  go_wp2_with fail
  refine (FDx.out _ ((Fr.refl _ _).alloc _)).mono ?_
  rintro e w2 ⟨rfl, s2⟩
  have S2 := hid (((Fr.refl _ _).alloc _).trans s2)
  have B2 : Hid (Blk w2 w.heap.size [.int .i64 fr, .int .i64 tz] 150) := hid ((Blk.new w _ 150).still s2)
  have G2 := Still.cell S2.out F1
  have HPl2 : P < w2.heap.size := Nat.lt_of_lt_of_le hPl S2.out.size
  clear s2
  rcases EC with rfl | rfl
  · have HS := hs y (FK.out rfl).2
    by_cases htn : turnN fr y.s = true
    · have tn : (bits BinOp.and IntKind.i64 (fr / 2 ^ y.s.toNat) 1 == 0) = true := htn
      go_wp2_with (first
        | (refine wpList_storeW rfl (.tmp 7) (.tmp 13) 77 rfl _ 77 [.int .i64 t0.i, .int .i64 t0.s, .int .i64 t0.t, .int .i64 t0.c.p, .int .i64 t0.c.q, .int .i64 t0.c.r0, .int .i64 t0.c.r1, .int .i64 t0.c.r2, .int .i64 t0.c.r3, .int .i64 t0.c.r4, .int .i64 t0.c.r5, .int .i64 t0.c.r6, .int .i64 t0.c.r7, .int .i64 t0.c.d, .int .i64 t0.d] [.int .i64 y.i, .int .i64 y.s, .int .i64 y.t, .int .i64 y.c.p, .int .i64 y.c.q, .int .i64 y.c.r0, .int .i64 y.c.r1, .int .i64 y.c.r2, .int .i64 y.c.r3, .int .i64 y.c.r4, .int .i64 y.c.r5, .int .i64 y.c.r6, .int .i64 y.c.r7, .int .i64 y.c.d, .int .i64 y.d] I77 (ones y) rfl rfl (new_t _) rfl ?_; intro w3 b3 f3; have B3 := hid b3; have F3 := hid f3; have C3 : Blk w3 w.heap.size [.int .i64 fr, .int .i64 tz] 150 := ((B2.out.alloc _).fr f3 (by have := B2.out.lt; omega)); have c0 : w3.cell? ⟨w.heap.size, 0, none⟩ = some (.int .i64 fr) := C3.cell 0; have c1 : w3.cell? ⟨w.heap.size, 1, none⟩ = some (.int .i64 tz) := C3.cell 1; have d1 : w3.cell? ⟨w2.heap.size, 1, none⟩ = some (.int .i64 y.s) := b3.cell 1; have z1 := b3.frozen 1; clear b3 f3 C3))
      have S3 : Hid (Still w w3) := hid (Still.next (S2.out.trans ((Fr.refl _ _).alloc _)) F3.out (fun k hk => by rw [hk]; exact S2.out.size))
      go_ret
      exact ⟨rfl, H.out.still S3.out, S3.out.fr _⟩
    · have tn : (bits BinOp.and IntKind.i64 (fr / 2 ^ y.s.toNat) 1 == 0) = false := by simpa [turnN] using htn
      go_wp2_with (first
        | (refine wpList_storeW rfl (.tmp 7) (.tmp 13) 77 rfl _ 77 [.int .i64 t0.i, .int .i64 t0.s, .int .i64 t0.t, .int .i64 t0.c.p, .int .i64 t0.c.q, .int .i64 t0.c.r0, .int .i64 t0.c.r1, .int .i64 t0.c.r2, .int .i64 t0.c.r3, .int .i64 t0.c.r4, .int .i64 t0.c.r5, .int .i64 t0.c.r6, .int .i64 t0.c.r7, .int .i64 t0.c.d, .int .i64 t0.d] [.int .i64 y.i, .int .i64 y.s, .int .i64 y.t, .int .i64 y.c.p, .int .i64 y.c.q, .int .i64 y.c.r0, .int .i64 y.c.r1, .int .i64 y.c.r2, .int .i64 y.c.r3, .int .i64 y.c.r4, .int .i64 y.c.r5, .int .i64 y.c.r6, .int .i64 y.c.r7, .int .i64 y.c.d, .int .i64 y.d] I77 (ones y) rfl rfl (new_t _) rfl ?_; intro w3 b3 f3; have B3 := hid b3; have F3 := hid f3; have C3 : Blk w3 w.heap.size [.int .i64 fr, .int .i64 tz] 150 := ((B2.out.alloc _).fr f3 (by have := B2.out.lt; omega)); have c0 : w3.cell? ⟨w.heap.size, 0, none⟩ = some (.int .i64 fr) := C3.cell 0; have c1 : w3.cell? ⟨w.heap.size, 1, none⟩ = some (.int .i64 tz) := C3.cell 1; have d1 : w3.cell? ⟨w2.heap.size, 1, none⟩ = some (.int .i64 y.s) := b3.cell 1; have z1 := b3.frozen 1; clear b3 f3 C3))
      obtain ⟨w5, hw5⟩ : ∃ w5, w3.setCell ⟨w2.heap.size, 1, none⟩ (.int .i64 tz) = w5 := ⟨_, rfl⟩
      rw [hw5]
      have S3 : Hid (Still w w5) := hid (by rw [← hw5]; exact Fr.setCell (Still.next (S2.out.trans ((Fr.refl _ _).alloc _)) F3.out (fun k hk => by rw [hk]; exact S2.out.size)) (.inr S2.out.size) _)
      obtain ⟨z, hz⟩ : ∃ z, { y with s := tz } = z := ⟨_, rfl⟩
      have B5 : Blk w5 w2.heap.size [.int .i64 z.i, .int .i64 z.s, .int .i64 z.t, .int .i64 z.c.p, .int .i64 z.c.q, .int .i64 z.c.r0, .int .i64 z.c.r1, .int .i64 z.c.r2, .int .i64 z.c.r3, .int .i64 z.c.r4, .int .i64 z.c.r5, .int .i64 z.c.r6, .int .i64 z.c.r7, .int .i64 z.c.d, .int .i64 z.d] 77 := by subst hz; rw [← hw5]; exact B3.out.put 1 _
      have G4 := Still.cell S3.out F1
      have zi : Hid (z.i = id) := hid (by subst hz; exact (FK.out trivial).1)
      have R4 : w5.rangeAt w2.heap.size 0 [.int .i64 z.i, .int .i64 z.s, .int .i64 z.t, .int .i64 z.c.p, .int .i64 z.c.q, .int .i64 z.c.r0, .int .i64 z.c.r1, .int .i64 z.c.r2, .int .i64 z.c.r3, .int .i64 z.c.r4, .int .i64 z.c.r5, .int .i64 z.c.r6, .int .i64 z.c.r7, .int .i64 z.c.d, .int .i64 z.d] := fun j v hv => by rw [Nat.zero_add, B5.cell j]; exact hv
      have HZ := hid hz
      have HL := hid hl
      have HTN := hid htn
      clear hz hl G2 F1 B5 hw5 c0 c1 d1 z1 tn htn
      refine Held.wp_region_held_tail (S := (fun w' => w'.cell? ⟨P, 1, none⟩ = some (.map (some M)) ∧ w'.rangeAt w2.heap.size 0 [.int .i64 z.i, .int .i64 z.s, .int .i64 z.t, .int .i64 z.c.p, .int .i64 z.c.q, .int .i64 z.c.r0, .int .i64 z.c.r1, .int .i64 z.c.r2, .int .i64 z.c.r3, .int .i64 z.c.r4, .int .i64 z.c.r5, .int .i64 z.c.r6, .int .i64 z.c.r7, .int .i64 z.c.d, .int .i64 z.d])) 6 (by kernel_rfl) (by kernel_rfl) (by decide) ?hS1 (fun hHeld => ?hR1)
      case hS1 =>
        exact ⟨G4, R4⟩
      simp only [List.take_succ_cons, List.take_zero, List.drop_succ_cons, List.drop_zero]
      refine wpAnyH_take (i := 0) (oi := _) (v := ?v2) rfl (by kernel_rfl) (by kernel_rfl) (by kernel_rfl) (fun _ _ _ h => h) (Or.inl ⟨by rfl, ?y2⟩) (by assumption) ?r2
      case y2 => ((intro w hSw); (try dsimp only at hSw); go_simp; (try with_reducible rfl))
      (try simp only [Act.put, List.setIfInBounds_toArray, List.set_cons_zero, List.set_cons_succ])
      refine wpAnyH_take (i := 5) (oi := _) (v := (Value.agg #[.int .i64 z.i, .int .i64 z.s, .int .i64 z.t, .int .i64 z.c.p, .int .i64 z.c.q, .int .i64 z.c.r0, .int .i64 z.c.r1, .int .i64 z.c.r2, .int .i64 z.c.r3, .int .i64 z.c.r4, .int .i64 z.c.r5, .int .i64 z.c.r6, .int .i64 z.c.r7, .int .i64 z.c.d, .int .i64 z.d])) rfl (by kernel_rfl) (by kernel_rfl) (by kernel_rfl) (fun _ _ _ h => h) (yieldsIf_load_mid rfl 77 _ rfl w2.heap.size 0 rfl [.int .i64 z.i, .int .i64 z.s, .int .i64 z.t, .int .i64 z.c.p, .int .i64 z.c.q, .int .i64 z.c.r0, .int .i64 z.c.r1, .int .i64 z.c.r2, .int .i64 z.c.r3, .int .i64 z.c.r4, .int .i64 z.c.r5, .int .i64 z.c.r6, .int .i64 z.c.r7, .int .i64 z.c.d, .int .i64 z.d] _ (fun w h => h.2) Tryd.underlying77 rfl I77) (by assumption) ?rM
      simp only [Act.put, List.setIfInBounds_toArray, List.set_cons_zero, List.set_cons_succ]
      refine wpAnyH_take (i := 1) (oi := _) (v := ?v3) rfl (by kernel_rfl) (by kernel_rfl) (by kernel_rfl) (fun _ _ _ h => h) (Or.inl ⟨by rfl, ?y3⟩) (by assumption) ?r3
      case y3 => ((intro w hSw); (try dsimp only at hSw); go_simp; (try with_reducible rfl))
      (try simp only [Act.put, List.setIfInBounds_toArray, List.set_cons_zero, List.set_cons_succ])
      refine wpAnyH_take (i := 2) (oi := _) (v := ?v4) rfl (by kernel_rfl) (by kernel_rfl) (by kernel_rfl) (fun _ _ _ h => h) (Or.inl ⟨by rfl, ?y4⟩) (by assumption) ?r4
      case y4 => ((intro w hSw); (try dsimp only at hSw); go_simp; (try with_reducible rfl))
      (try simp only [Act.put, List.setIfInBounds_toArray, List.set_cons_zero, List.set_cons_succ])
      refine wpAnyH_take (i := 3) (oi := _) (v := ?v5) rfl (by kernel_rfl) (by kernel_rfl) (by kernel_rfl) (fun _ _ _ h => h) (Or.inl ⟨by rfl, ?y5⟩) (by assumption) ?r5
      case y5 => ((intro w hSw); (try dsimp only at hSw); go_simp; (try with_reducible rfl))
      (try simp only [Act.put, List.setIfInBounds_toArray, List.set_cons_zero, List.set_cons_succ])
      refine wpAnyH_take (i := 4) (oi := _) (v := ?v6) rfl (by kernel_rfl) (by kernel_rfl) (by kernel_rfl) (fun _ _ _ h => h) (Or.inl ⟨by rfl, ?y6⟩) (by assumption) ?r6
      case y6 => ((intro w hSw); (try dsimp only at hSw); go_simp; (try with_reducible rfl))
      (try simp only [Act.put, List.setIfInBounds_toArray, List.set_cons_zero, List.set_cons_succ])
      refine wpAnyH_done (by kernel_rfl) (Held.tailQ_normal ?_) _
      simp only [Act.put, List.getElem_toArray, List.getElem_cons_zero, List.getElem_cons_succ, List.setIfInBounds_toArray, List.set_cons_zero, List.set_cons_succ]
      have T4 := hid (H.out.still S3.out)
      refine wpList_putT rfl (.tmp 31) (.tmp 32) (.tmp 33) rfl T4.out.m.drew HL.out z (by rw [zi.out]; exact WF.out) rfl (by rw [zi.out]; rfl) rfl ?_
      intro w6 m6 f6
      have T6 := hid (T4.out.drew.put m6 f6)
      have F6 := hid (((S3.out.fr (fun k => k = M)).drew).trans f6)
      clear m6 f6
      go_wp2_with fail
      go_ret
      exact ⟨rfl, by have h := T6.out; rw [← HZ.out] at h; exact h, F6.out⟩
  · go_wp2_with (first
      | (refine wpList_storeW rfl (.tmp 7) (.tmp 13) 77 rfl _ 77 [.int .i64 t0.i, .int .i64 t0.s, .int .i64 t0.t, .int .i64 t0.c.p, .int .i64 t0.c.q, .int .i64 t0.c.r0, .int .i64 t0.c.r1, .int .i64 t0.c.r2, .int .i64 t0.c.r3, .int .i64 t0.c.r4, .int .i64 t0.c.r5, .int .i64 t0.c.r6, .int .i64 t0.c.r7, .int .i64 t0.c.d, .int .i64 t0.d] [.int .i64 y.i, .int .i64 y.s, .int .i64 y.t, .int .i64 y.c.p, .int .i64 y.c.q, .int .i64 y.c.r0, .int .i64 y.c.r1, .int .i64 y.c.r2, .int .i64 y.c.r3, .int .i64 y.c.r4, .int .i64 y.c.r5, .int .i64 y.c.r6, .int .i64 y.c.r7, .int .i64 y.c.d, .int .i64 y.d] I77 (ones y) rfl rfl (new_t _) rfl ?_; intro w3 b3 f3; have B3 := hid b3; have F3 := hid f3; clear b3 f3))
    have S3 : Hid (Still w w3) := hid (Still.next (S2.out.trans ((Fr.refl _ _).alloc _)) F3.out (fun k hk => by rw [hk]; exact S2.out.size))
    go_ret
    exact ⟨rfl, H.out.still S3.out, S3.out.fr _⟩
end
end Go.Proofs.YtffjaaolcphonaaDoor
