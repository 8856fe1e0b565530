/- Threads: a thread, a table's blocks; made, find, Get. -/
import Derived.Test.YtffjaaolcphonaaDoorMapK
import Derived.Test.YtffjaaolcphonaaDoorStoreB
import Derived.Test.YtffjaaolcphonaaDoorSInv3
import Derived.Test.YtffjaaolcphonaaDoorLivesD
namespace Go.Proofs.YtffjaaolcphonaaDoor
open Go.RowKit Go.Maps
set_option linter.unusedSimpArgs false
/-- A context. -/
structure Ctx where
  p : Int
  q : Int
  r0 : Int
  r1 : Int
  r2 : Int
  r3 : Int
  r4 : Int
  r5 : Int
  r6 : Int
  r7 : Int
  d : Int
deriving DecidableEq
/-- A thread. -/
structure Thr where
  i : Int
  s : Int
  t : Int
  c : Ctx
  d : Int
deriving DecidableEq
def c0 : Ctx := ⟨0, 0, 0, 0, 0, 0, 0, 0, 0, 0, 0⟩
def t0 : Thr := ⟨0, 0, 0, c0, 0⟩
def thrE : El Thr := ⟨fun x => x.i, fun x => (Value.agg #[.int .i64 x.i, .int .i64 x.s, .int .i64 x.t, .int .i64 x.c.p, .int .i64 x.c.q, .int .i64 x.c.r0, .int .i64 x.c.r1, .int .i64 x.c.r2, .int .i64 x.c.r3, .int .i64 x.c.r4, .int .i64 x.c.r5, .int .i64 x.c.r6, .int .i64 x.c.r7, .int .i64 x.c.d, .int .i64 x.d]), fun x y h => by
  obtain ⟨_, _, _, ⟨_, _, _, _, _, _, _, _, _, _, _⟩, _⟩ := x
  obtain ⟨_, _, _, ⟨_, _, _, _, _, _, _, _, _, _, _⟩, _⟩ := y
  simp at h
  simp [h]⟩
theorem in_wf {z : Int} (h0 : 0 ≤ z) (h : z ≤ 9223372036854775807) : (Lit.int .i64 z).wf = true := by
  have : IntKind.i64.min ≤ z ∧ z ≤ IntKind.i64.max := ⟨show (-9223372036854775808 : Int) ≤ z by omega, h⟩
  simpa [Lit.wf] using this
theorem takeV_wf (s : SS) : (Lit.int .i64 (takeV s)).wf = true := by
  have h1 : ∀ i a : Int, 0 ≤ idMk i a ∧ idMk i a ≤ 9223372036854775807 := fun i a => by unfold idMk; split <;> omega
  unfold takeV
  split
  · exact in_wf (by omega) (by omega)
  · exact in_wf (h1 _ _).1 (h1 _ _).2
theorem zero77 (w : World) : (zeroValue 77).run Tryd.prog w = .ok (thrE.val t0) w := by kernel_rfl
/-- A table's blocks: P itself, M the map; B the slots'. -/
structure TAt (w : World) (P : Nat) (B : SB) (M : Nat) (s : SS) (L : List Thr) : Prop where
  f0 : w.cell? ⟨P, 0, none⟩ = some (.pointer (some ⟨B.P, 0, none⟩))
  f1 : w.cell? ⟨P, 1, none⟩ = some (.map (some M))
  sl : SAt w B s
  m : MapL thrE Tryd.prog w M L
  nPM : P ≠ M
  nPB : ¬ B.foot P
  nMB : ¬ B.foot M
/-- All blocks of a table that are written. -/
def TFoot (B : SB) (M : Nat) (k : Nat) : Prop := B.foot k ∨ k = M
section
variable {w w' : World} {P : Nat} {B : SB} {M : Nat} {s : SS} {L : List Thr}
theorem TAt.fr (h : TAt w P B M s L) {F : Nat → Prop} (hf : Fr F w w') (h1 : ¬ F P) (h2 : ¬ F M) (h3 : ∀ k, B.foot k → ¬ F k) : TAt w' P B M s L :=
  ⟨hf.cellK h.f0 h1, hf.cellK h.f1 h1, h.sl.fr hf h3, h.m.fr hf h2, h.nPM, h.nPB, h.nMB⟩
theorem TAt.still (h : TAt w P B M s L) (hs : Still w w') : TAt w' P B M s L := h.fr hs (fun h => h) (fun h => h) (fun _ _ h => h)
theorem TAt.ltP (h : TAt w P B M s L) : P < w.heap.size := World.block_lt_of_cell? _ _ h.f0
/-- What find tells. -/
def fndT (L : List Thr) (k : Int) : Thr := (thrE.fnd L k).getD t0
def fndE (L : List Thr) (k : Int) : Int := if (thrE.fnd L k).isSome then 0 else 4
theorem wpList_lookT {ops : Array Oper} {rest : List Oper} {o : Oper} {a : Act} {Q : Exit → Act → World → Prop} {b : Nat} (hg : o.guard = none) (m x : Operand) (hop : o.op = Op.lookup 88 m x true)
    (h : MapL thrE Tryd.prog w b L) (hm : a.eval m = .map (some b)) (k : Int) (wf : (Lit.int .i64 k).wf = true) (hx : a.eval x = .int .i64 k)
    (hK : ∀ y f, y = fndT L k → f = (thrE.fnd L k).isSome → wpList Tryd.prog ops Q rest (a.put o.dst (.tuple #[(Value.agg #[.int .i64 y.i, .int .i64 y.s, .int .i64 y.t, .int .i64 y.c.p, .int .i64 y.c.q, .int .i64 y.c.r0, .int .i64 y.c.r1, .int .i64 y.c.r2, .int .i64 y.c.r3, .int .i64 y.c.r4, .int .i64 y.c.r5, .int .i64 y.c.r6, .int .i64 y.c.r7, .int .i64 y.c.d, .int .i64 y.d]), .bool f])) w) : wpList Tryd.prog ops Q (o :: rest) a w :=
  wpList_look_ok hg m x 88 77 hop Tryd.underlying88 Tryd.underlying3 t0 (zero77 _) h hm k wf hx (hK _ _ rfl rfl)
theorem tmade (h : TAt w P B M s L) : Calls Tryd.prog 94 #[.pointer (some ⟨P, 0, none⟩)] w fun e w' => e = .returned (.bool true) ∧ w = w' := by
  have F0 := h.f0
  go_enter Tryd.func94, Tryd.ntmps94
  go_wp2_with fail
  go_ret
  exact ⟨rfl, rfl⟩
theorem I77 : (Tryd.prog.info? 77).map (·.size) = some 15 := by kernel_rfl
theorem ones (x : Thr) : ∀ v ∈ ([.int .i64 x.i, .int .i64 x.s, .int .i64 x.t, .int .i64 x.c.p, .int .i64 x.c.q, .int .i64 x.c.r0, .int .i64 x.c.r1, .int .i64 x.c.r2, .int .i64 x.c.r3, .int .i64 x.c.r4, .int .i64 x.c.r5, .int .i64 x.c.r6, .int .i64 x.c.r7, .int .i64 x.c.d, .int .i64 x.d] : List Value), v.oneCell' = true := by intro v hv; simp only [List.mem_cons, List.not_mem_nil, or_false] at hv; rcases hv with rfl | rfl | rfl | rfl | rfl | rfl | rfl | rfl | rfl | rfl | rfl | rfl | rfl | rfl | rfl <;> rfl
theorem I58 : (Tryd.prog.info? 58).map (·.size) = some 11 := by kernel_rfl
theorem onesC (c : Ctx) : ∀ v ∈ ([.int .i64 c.p, .int .i64 c.q, .int .i64 c.r0, .int .i64 c.r1, .int .i64 c.r2, .int .i64 c.r3, .int .i64 c.r4, .int .i64 c.r5, .int .i64 c.r6, .int .i64 c.r7, .int .i64 c.d] : List Value), v.oneCell' = true := by intro v hv; simp only [List.mem_cons, List.not_mem_nil, or_false] at hv; rcases hv with rfl | rfl | rfl | rfl | rfl | rfl | rfl | rfl | rfl | rfl | rfl <;> rfl
theorem new_t (w : World) : Blk (w.alloc (.cells #[.int .i64 0, .int .i64 0, .int .i64 0, .int .i64 0, .int .i64 0, .int .i64 0, .int .i64 0, .int .i64 0, .int .i64 0, .int .i64 0, .int .i64 0, .int .i64 0, .int .i64 0, .int .i64 0, .int .i64 0] 77)) w.heap.size [.int .i64 t0.i, .int .i64 t0.s, .int .i64 t0.t, .int .i64 t0.c.p, .int .i64 t0.c.q, .int .i64 t0.c.r0, .int .i64 t0.c.r1, .int .i64 t0.c.r2, .int .i64 t0.c.r3, .int .i64 t0.c.r4, .int .i64 t0.c.r5, .int .i64 t0.c.r6, .int .i64 t0.c.r7, .int .i64 t0.c.d, .int .i64 t0.d] 77 := Blk.new w _ 77
theorem fnd_none {L : List Thr} {k : Int} (h : (thrE.fnd L k).isSome = false) : fndT L k = t0 ∧ fndE L k = 4 := by
  unfold fndT fndE
  cases hf : thrE.fnd L k with
  | none => exact ⟨rfl, rfl⟩
  | some x => rw [hf] at h; cases h
theorem fnd_some {L : List Thr} {k : Int} (h : (thrE.fnd L k).isSome = true) : fndE L k = 0 := by
  unfold fndE; rw [h]; rfl
set_option maxRecDepth 100000 in
set_option maxHeartbeats 4000000 in
theorem tfind (h : TAt w P B M s L) (id : Int) (wf : (Lit.int .i64 id).wf = true) : Calls Tryd.prog 98 #[.pointer (some ⟨P, 0, none⟩), .int .i64 id] w fun e w' => e = .returned (.tuple #[(Value.agg #[.int .i64 (fndT L id).i, .int .i64 (fndT L id).s, .int .i64 (fndT L id).t, .int .i64 (fndT L id).c.p, .int .i64 (fndT L id).c.q, .int .i64 (fndT L id).c.r0, .int .i64 (fndT L id).c.r1, .int .i64 (fndT L id).c.r2, .int .i64 (fndT L id).c.r3, .int .i64 (fndT L id).c.r4, .int .i64 (fndT L id).c.r5, .int .i64 (fndT L id).c.r6, .int .i64 (fndT L id).c.r7, .int .i64 (fndT L id).c.d, .int .i64 (fndT L id).d]), .int .i64 (fndE L id)]) ∧ Still w w' := by
  have H := hid h
  have F1 := h.f1
  have WF := hid wf
  have hPl := h.ltP
  clear h wf
  go_enter Tryd.func98, Tryd.ntmps98
  go_wp2_with fail
  refine (tmade (H.out.still ((Fr.refl _ _).alloc _))).mono ?_
  rintro e w1 ⟨rfl, hw⟩
  have B1 : Hid (Blk w1 w.heap.size [.int .i64 t0.i, .int .i64 t0.s, .int .i64 t0.t, .int .i64 t0.c.p, .int .i64 t0.c.q, .int .i64 t0.c.r0, .int .i64 t0.c.r1, .int .i64 t0.c.r2, .int .i64 t0.c.r3, .int .i64 t0.c.r4, .int .i64 t0.c.r5, .int .i64 t0.c.r6, .int .i64 t0.c.r7, .int .i64 t0.c.d, .int .i64 t0.d] 77) := hid (hw ▸ new_t w)
  have S1 : Hid (Still w w1) := hid (hw ▸ (Fr.refl _ _).alloc _)
  have G1 := Still.cell S1.out F1
  clear hw
  go_wp2_with (first
    | (at_lookup; refine wpList_lookT rfl (.tmp 16) (.tmp 17) rfl (H.out.m.still S1.out) rfl id WF.out rfl ?_; intro y f hy hf; have HY := hid hy; have HF := hid hf; clear hy hf; cases f)
    | (refine wpList_storeW rfl (.tmp 6) (.tmp 19) 77 rfl _ 77 [.int .i64 t0.i, .int .i64 t0.s, .int .i64 t0.t, .int .i64 t0.c.p, .int .i64 t0.c.q, .int .i64 t0.c.r0, .int .i64 t0.c.r1, .int .i64 t0.c.r2, .int .i64 t0.c.r3, .int .i64 t0.c.r4, .int .i64 t0.c.r5, .int .i64 t0.c.r6, .int .i64 t0.c.r7, .int .i64 t0.c.d, .int .i64 t0.d] [.int .i64 y.i, .int .i64 y.s, .int .i64 y.t, .int .i64 y.c.p, .int .i64 y.c.q, .int .i64 y.c.r0, .int .i64 y.c.r1, .int .i64 y.c.r2, .int .i64 y.c.r3, .int .i64 y.c.r4, .int .i64 y.c.r5, .int .i64 y.c.r6, .int .i64 y.c.r7, .int .i64 y.c.d, .int .i64 y.d] I77 (ones y) rfl rfl (new_t _) rfl ?_; intro w3 b3 f3; have B3 := hid b3; have F3 := hid f3; clear b3 f3)
    | (refine wpList_storeW rfl (.tmp 4) (.tmp 23) 77 rfl _ 77 [.int .i64 t0.i, .int .i64 t0.s, .int .i64 t0.t, .int .i64 t0.c.p, .int .i64 t0.c.q, .int .i64 t0.c.r0, .int .i64 t0.c.r1, .int .i64 t0.c.r2, .int .i64 t0.c.r3, .int .i64 t0.c.r4, .int .i64 t0.c.r5, .int .i64 t0.c.r6, .int .i64 t0.c.r7, .int .i64 t0.c.d, .int .i64 t0.d] [.int .i64 t0.i, .int .i64 t0.s, .int .i64 t0.t, .int .i64 t0.c.p, .int .i64 t0.c.q, .int .i64 t0.c.r0, .int .i64 t0.c.r1, .int .i64 t0.c.r2, .int .i64 t0.c.r3, .int .i64 t0.c.r4, .int .i64 t0.c.r5, .int .i64 t0.c.r6, .int .i64 t0.c.r7, .int .i64 t0.c.d, .int .i64 t0.d] I77 (ones t0) rfl rfl ((B1.out.alloc _).fr F3.out (by have := B1.out.lt; omega)) rfl ?_; intro w4 b4 f4; have B4 := hid b4; have F4 := hid f4; clear b4 f4)
    | (refine wpList_loadW rfl (.tmp 6) 77 rfl _ Tryd.underlying77 rfl _ 77 [.int .i64 y.i, .int .i64 y.s, .int .i64 y.t, .int .i64 y.c.p, .int .i64 y.c.q, .int .i64 y.c.r0, .int .i64 y.c.r1, .int .i64 y.c.r2, .int .i64 y.c.r3, .int .i64 y.c.r4, .int .i64 y.c.r5, .int .i64 y.c.r6, .int .i64 y.c.r7, .int .i64 y.c.d, .int .i64 y.d] I77 rfl B3.out ?_)
    | (refine wpList_storeW rfl (.tmp 4) (.tmp 24) 77 rfl _ 77 [.int .i64 t0.i, .int .i64 t0.s, .int .i64 t0.t, .int .i64 t0.c.p, .int .i64 t0.c.q, .int .i64 t0.c.r0, .int .i64 t0.c.r1, .int .i64 t0.c.r2, .int .i64 t0.c.r3, .int .i64 t0.c.r4, .int .i64 t0.c.r5, .int .i64 t0.c.r6, .int .i64 t0.c.r7, .int .i64 t0.c.d, .int .i64 t0.d] [.int .i64 y.i, .int .i64 y.s, .int .i64 y.t, .int .i64 y.c.p, .int .i64 y.c.q, .int .i64 y.c.r0, .int .i64 y.c.r1, .int .i64 y.c.r2, .int .i64 y.c.r3, .int .i64 y.c.r4, .int .i64 y.c.r5, .int .i64 y.c.r6, .int .i64 y.c.r7, .int .i64 y.c.d, .int .i64 y.d] I77 (ones y) rfl rfl ((B1.out.alloc _).fr F3.out (by have := B1.out.lt; omega)) rfl ?_; intro w4 b4 f4; have B4 := hid b4; have F4 := hid f4; clear b4 f4))
  all_goals have S4 : Hid (Still w w4) := hid (Still.next (Still.next (S1.out.trans ((Fr.refl _ _).alloc _)) F3.out (fun k hk => by rw [hk]; exact S1.out.size)) F4.out (fun k hk => by rw [hk]; exact Nat.le_refl _))
  · obtain ⟨e1, e2⟩ := fnd_none HF.out.symm
    rw [e1, e2]
    (try simp only [Exit.inBlock, Exit.then]); refine bodyPost_ret (results_cell2 rfl _ _ w.heap.size 77 [.int .i64 t0.i, .int .i64 t0.s, .int .i64 t0.t, .int .i64 t0.c.p, .int .i64 t0.c.q, .int .i64 t0.c.r0, .int .i64 t0.c.r1, .int .i64 t0.c.r2, .int .i64 t0.c.r3, .int .i64 t0.c.r4, .int .i64 t0.c.r5, .int .i64 t0.c.r6, .int .i64 t0.c.r7, .int .i64 t0.c.d, .int .i64 t0.d] _ _ rfl rfl B4.out Tryd.underlying77 rfl I77) rfl ?_
    exact ⟨rfl, S4.out⟩
  · rw [fnd_some HF.out.symm, ← HY.out]
    (try simp only [Exit.inBlock, Exit.then]); refine bodyPost_ret (results_cell2 rfl _ _ w.heap.size 77 [.int .i64 y.i, .int .i64 y.s, .int .i64 y.t, .int .i64 y.c.p, .int .i64 y.c.q, .int .i64 y.c.r0, .int .i64 y.c.r1, .int .i64 y.c.r2, .int .i64 y.c.r3, .int .i64 y.c.r4, .int .i64 y.c.r5, .int .i64 y.c.r6, .int .i64 y.c.r7, .int .i64 y.c.d, .int .i64 y.d] _ _ rfl rfl B4.out Tryd.underlying77 rfl I77) rfl ?_
    exact ⟨rfl, S4.out⟩
end
end Go.Proofs.YtffjaaolcphonaaDoor
