/- Life: an activation, a table's blocks; made, Get, ids. -/
import Derived.Test.YtffjaaolcphonaaDoorThr9
import Derived.Test.YtffjaaolcphonaaDoorMapR
import Derived.Test.YtffjaaolcphonaaDoorBdThr
namespace Go.Proofs.YtffjaaolcphonaaDoor
open Go.RowKit Go.Maps Go.Sort Go.Shelf
set_option linter.unusedSimpArgs false
/-- An activation. -/
structure Ac where
  i : Int
  s : Int
  sp : Int
  co : Int
  th : Int
  c : Ctx
deriving DecidableEq
def a0 : Ac := ⟨0, 0, 0, 0, 0, c0⟩
def actE : El Ac := ⟨fun x => x.i, fun x => (Value.agg #[.int .i64 x.i, .int .i64 x.s, .int .i64 x.sp, .int .i64 x.co, .int .i64 x.th, .int .i64 x.c.p, .int .i64 x.c.q, .int .i64 x.c.r0, .int .i64 x.c.r1, .int .i64 x.c.r2, .int .i64 x.c.r3, .int .i64 x.c.r4, .int .i64 x.c.r5, .int .i64 x.c.r6, .int .i64 x.c.r7, .int .i64 x.c.d]), fun x y h => by
  obtain ⟨_, _, _, _, _, ⟨_, _, _, _, _, _, _, _, _, _, _⟩⟩ := x
  obtain ⟨_, _, _, _, _, ⟨_, _, _, _, _, _, _, _, _, _, _⟩⟩ := y
  simp at h
  simp [h]⟩
theorem zero111 (w : World) : (zeroValue 111).run Tryd.prog w = .ok (actE.val a0) w := by kernel_rfl
/-- A table's blocks: P itself, M the map; B the slots'. -/
structure AAt (w : World) (P : Nat) (B : SB) (M : Nat) (s : SS) (L : List Ac) : Prop where
  f0 : w.cell? ⟨P, 0, none⟩ = some (.pointer (some ⟨B.P, 0, none⟩))
  f1 : w.cell? ⟨P, 1, none⟩ = some (.map (some M))
  sl : SAt w B s
  m : MapL actE Tryd.prog w M L
  nPM : P ≠ M
  nPB : ¬ B.foot P
  nMB : ¬ B.foot M
section
variable {w w' : World} {P : Nat} {B : SB} {M : Nat} {s : SS} {L : List Ac}
theorem AAt.fr (h : AAt w P B M s L) {F : Nat → Prop} (hf : Fr F w w') (h1 : ¬ F P) (h2 : ¬ F M) (h3 : ∀ k, B.foot k → ¬ F k) : AAt w' P B M s L :=
  ⟨hf.cellK h.f0 h1, hf.cellK h.f1 h1, h.sl.fr hf h3, h.m.fr hf h2, h.nPM, h.nPB, h.nMB⟩
theorem AAt.still (h : AAt w P B M s L) (hs : Still w w') : AAt w' P B M s L := h.fr hs (fun h => h) (fun h => h) (fun _ _ h => h)
theorem AAt.ltP (h : AAt w P B M s L) : P < w.heap.size := World.block_lt_of_cell? _ _ h.f0
theorem AAt.put {L' : List Ac} (h : AAt w P B M s L) (hm : MapL actE Tryd.prog w' M L') (hf : Fr (fun k => k = M) w w') : AAt w' P B M s L' :=
  ⟨hf.cellK h.f0 h.nPM, hf.cellK h.f1 h.nPM, h.sl.fr hf (fun _ h1 h2 => h.nMB (h2 ▸ h1)), hm, h.nPM, h.nPB, h.nMB⟩
theorem AAt.drew (h : AAt w P B M s L) : AAt w.drew P B M s L := h.still (Fr.refl _ _).drew
/-- What a look tells. -/
def fndA (L : List Ac) (k : Int) : Ac := (actE.fnd L k).getD a0
def fndO (L : List Ac) (k : Int) : Bool := (actE.fnd L k).isSome
theorem fndA_none {L : List Ac} {k : Int} (h : fndO L k = false) : fndA L k = a0 := by
  unfold fndO at h
  unfold fndA
  cases hf : actE.fnd L k with
  | none => rfl
  | some x => rw [hf] at h; cases h
theorem fndA_some {L : List Ac} {k : Int} (h : fndO L k = true) : (fndA L k).i = k ∧ fndA L k ∈ L := by
  unfold fndO at h
  unfold fndA
  cases hf : actE.fnd L k with
  | none => rw [hf] at h; cases h
  | some x =>
    have h1 := List.find?_some hf
    exact ⟨by simpa [actE] using h1, List.mem_of_find?_eq_some hf⟩
theorem fndA_mem {L : List Ac} (hu : actE.Up L) {x : Ac} (hx : x ∈ L) : fndA L x.i = x ∧ fndO L x.i = true := by
  have h : actE.fnd L x.i = some x := actE.fnd_mem hu hx
  unfold fndA fndO
  rw [h]; exact ⟨rfl, rfl⟩
theorem wpList_lookA {ops : Array Oper} {rest : List Oper} {o : Oper} {a : Act} {Q : Exit → Act → World → Prop} {b : Nat} (hg : o.guard = none) (m x : Operand) (hop : o.op = Op.lookup 127 m x true)
    (h : MapL actE Tryd.prog w b L) (hm : a.eval m = .map (some b)) (k : Int) (wf : (Lit.int .i64 k).wf = true) (hx : a.eval x = .int .i64 k)
    (hK : wpList Tryd.prog ops Q rest (a.put o.dst (.tuple #[actE.val (fndA L k), .bool (fndO L k)])) w) : wpList Tryd.prog ops Q (o :: rest) a w :=
  wpList_look_ok hg m x 127 111 hop Tryd.underlying127 Tryd.underlying3 a0 (zero111 _) h hm k wf hx hK
theorem wpList_lookA2 {ops : Array Oper} {rest : List Oper} {o : Oper} {a : Act} {Q : Exit → Act → World → Prop} {b : Nat} (hgd : Region.wanted o (yielded ops a.tmps) = true) (m x : Operand) (hop : o.op = Op.lookup 127 m x false) (h : MapL actE Tryd.prog w b L) (hm : a.eval m = .map (some b)) (y : Ac) (hy : y ∈ L) (wf : (Lit.int .i64 y.i).wf = true) (hx : a.eval x = .int .i64 y.i)
    (hK : wpList Tryd.prog ops Q rest (a.put o.dst (Value.agg #[.int .i64 y.i, .int .i64 y.s, .int .i64 y.sp, .int .i64 y.co, .int .i64 y.th, .int .i64 y.c.p, .int .i64 y.c.q, .int .i64 y.c.r0, .int .i64 y.c.r1, .int .i64 y.c.r2, .int .i64 y.c.r3, .int .i64 y.c.r4, .int .i64 y.c.r5, .int .i64 y.c.r6, .int .i64 y.c.r7, .int .i64 y.c.d])) w) : wpList Tryd.prog ops Q (o :: rest) a w :=
  wpList_look hgd m x 127 111 hop Tryd.underlying127 Tryd.underlying3 a0 (zero111 _) h hm y.i wf hx (by
    rw [show actE.fnd L y.i = some y from actE.fnd_mem h.2 hy]; exact hK)
theorem wpList_putA {ops : Array Oper} {rest : List Oper} {o : Oper} {a : Act} {Q : Exit → Act → World → Prop} {b : Nat} (hgd : Region.wanted o (yielded ops a.tmps) = true) (m k v : Operand) (hop : o.op = Op.mapUpdate 127 m k v)
    (h : MapL actE Tryd.prog w b L) (hl : L.length < maxLen) (x : Ac) (wf : (Lit.int .i64 x.i).wf = true) (hm : a.eval m = .map (some b)) (hk : a.eval k = .int .i64 x.i) (hv : a.eval v = (Value.agg #[.int .i64 x.i, .int .i64 x.s, .int .i64 x.sp, .int .i64 x.co, .int .i64 x.th, .int .i64 x.c.p, .int .i64 x.c.q, .int .i64 x.c.r0, .int .i64 x.c.r1, .int .i64 x.c.r2, .int .i64 x.c.r3, .int .i64 x.c.r4, .int .i64 x.c.r5, .int .i64 x.c.r6, .int .i64 x.c.r7, .int .i64 x.c.d]))
    (hK : ∀ w', MapL actE Tryd.prog w' b (actE.ins x L) → Fr (fun k => k = b) w w' → wpList Tryd.prog ops Q rest (a.put o.dst undef) w') : wpList Tryd.prog ops Q (o :: rest) a w :=
  wpList_mapPut hgd m k v 127 111 hop Tryd.underlying127 Tryd.underlying3 h hl x wf hm hk hv hK
theorem wpList_delA {ops : Array Oper} {rest : List Oper} {o : Oper} {a : Act} {Q : Exit → Act → World → Prop} {b : Nat} (hg : o.guard = none) (m x : Operand) (hop : o.op = Op.call { callee := Callee.builtin Builtin.delete, args := #[m, x], argTypes := #[127, 3] }) (h : MapL actE Tryd.prog w b L)
    (k : Int) (wf : (Lit.int .i64 k).wf = true) (hm : a.eval m = .map (some b)) (hk : a.eval x = .int .i64 k)
    (hK : ∀ w', MapL actE Tryd.prog w' b (actE.del k L) → Fr (fun j => j = b) w w' → wpList Tryd.prog ops Q rest (a.put o.dst (.tuple #[])) w') : wpList Tryd.prog ops Q (o :: rest) a w :=
  wpList_mapDel hg m x 127 111 hop Tryd.underlying127 Tryd.underlying3 h k wf hm hk hK
theorem I111 : (Tryd.prog.info? 111).map (·.size) = some 16 := by kernel_rfl
theorem onesA (x : Ac) : ∀ v ∈ ([.int .i64 x.i, .int .i64 x.s, .int .i64 x.sp, .int .i64 x.co, .int .i64 x.th, .int .i64 x.c.p, .int .i64 x.c.q, .int .i64 x.c.r0, .int .i64 x.c.r1, .int .i64 x.c.r2, .int .i64 x.c.r3, .int .i64 x.c.r4, .int .i64 x.c.r5, .int .i64 x.c.r6, .int .i64 x.c.r7, .int .i64 x.c.d] : List Value), v.oneCell' = true := by intro v hv; simp only [List.mem_cons, List.not_mem_nil, or_false] at hv; rcases hv with rfl | rfl | rfl | rfl | rfl | rfl | rfl | rfl | rfl | rfl | rfl | rfl | rfl | rfl | rfl | rfl <;> rfl
theorem new_a (w : World) : Blk (w.alloc (.cells #[.int .i64 0, .int .i64 0, .int .i64 0, .int .i64 0, .int .i64 0, .int .i64 0, .int .i64 0, .int .i64 0, .int .i64 0, .int .i64 0, .int .i64 0, .int .i64 0, .int .i64 0, .int .i64 0, .int .i64 0, .int .i64 0] 111)) w.heap.size [.int .i64 a0.i, .int .i64 a0.s, .int .i64 a0.sp, .int .i64 a0.co, .int .i64 a0.th, .int .i64 a0.c.p, .int .i64 a0.c.q, .int .i64 a0.c.r0, .int .i64 a0.c.r1, .int .i64 a0.c.r2, .int .i64 a0.c.r3, .int .i64 a0.c.r4, .int .i64 a0.c.r5, .int .i64 a0.c.r6, .int .i64 a0.c.r7, .int .i64 a0.c.d] 111 := Blk.new w _ 111
theorem amade (h : AAt w P B M s L) : Calls Tryd.prog 102 #[.pointer (some ⟨P, 0, none⟩)] w fun e w' => e = .returned (.bool true) ∧ w = w' := by
  have F0 := h.f0
  go_enter Tryd.func102, Tryd.ntmps102
  go_wp2_with fail
  go_ret
  exact ⟨rfl, rfl⟩
set_option maxRecDepth 100000 in
set_option maxHeartbeats 4000000 in
theorem aget (h : AAt w P B M s L) (id : Int) (wf : (Lit.int .i64 id).wf = true) : Calls Tryd.prog 78 #[.pointer (some ⟨P, 0, none⟩), .int .i64 id] w fun e w' => e = .returned (.tuple #[(Value.agg #[.int .i64 (fndA L id).i, .int .i64 (fndA L id).s, .int .i64 (fndA L id).sp, .int .i64 (fndA L id).co, .int .i64 (fndA L id).th, .int .i64 (fndA L id).c.p, .int .i64 (fndA L id).c.q, .int .i64 (fndA L id).c.r0, .int .i64 (fndA L id).c.r1, .int .i64 (fndA L id).c.r2, .int .i64 (fndA L id).c.r3, .int .i64 (fndA L id).c.r4, .int .i64 (fndA L id).c.r5, .int .i64 (fndA L id).c.r6, .int .i64 (fndA L id).c.r7, .int .i64 (fndA L id).c.d]), .bool (fndO L id)]) ∧ Still w w' := by
  have H := hid h
  have F1 := h.f1
  have WF := hid wf
  have hPl := h.ltP
  clear h wf
  obtain ⟨y, hy⟩ : ∃ y, fndA L id = y := ⟨_, rfl⟩
  obtain ⟨f, hf⟩ : ∃ f, fndO L id = f := ⟨_, rfl⟩
  have HY := hid hy
  have HF := hid hf
  rw [hy, hf]
  clear hy hf
  go_enter Tryd.func78, Tryd.ntmps78
  go_wp2_with fail
  refine (amade (H.out.still ((Fr.refl _ _).alloc _))).mono ?_
  rintro e w1 ⟨rfl, hw⟩
  have B1 : Hid (Blk w1 w.heap.size [.int .i64 a0.i, .int .i64 a0.s, .int .i64 a0.sp, .int .i64 a0.co, .int .i64 a0.th, .int .i64 a0.c.p, .int .i64 a0.c.q, .int .i64 a0.c.r0, .int .i64 a0.c.r1, .int .i64 a0.c.r2, .int .i64 a0.c.r3, .int .i64 a0.c.r4, .int .i64 a0.c.r5, .int .i64 a0.c.r6, .int .i64 a0.c.r7, .int .i64 a0.c.d] 111) := hid (hw ▸ new_a w)
  have S1 : Hid (Still w w1) := hid (hw ▸ (Fr.refl _ _).alloc _)
  have G1 := Still.cell S1.out F1
  clear hw
  have NOTYET : True := trivial
  go_wp2_with (first
    | (at_lookup; refine wpList_lookA rfl (.tmp 16) (.tmp 17) rfl (H.out.m.still S1.out) rfl id WF.out rfl ?_; rw [HY.out, HF.out]; clear NOTYET; dsimp only [actE])
    | (refine wpList_storeW rfl (.tmp 6) (.tmp 19) 111 rfl _ 111 [.int .i64 a0.i, .int .i64 a0.s, .int .i64 a0.sp, .int .i64 a0.co, .int .i64 a0.th, .int .i64 a0.c.p, .int .i64 a0.c.q, .int .i64 a0.c.r0, .int .i64 a0.c.r1, .int .i64 a0.c.r2, .int .i64 a0.c.r3, .int .i64 a0.c.r4, .int .i64 a0.c.r5, .int .i64 a0.c.r6, .int .i64 a0.c.r7, .int .i64 a0.c.d] [.int .i64 y.i, .int .i64 y.s, .int .i64 y.sp, .int .i64 y.co, .int .i64 y.th, .int .i64 y.c.p, .int .i64 y.c.q, .int .i64 y.c.r0, .int .i64 y.c.r1, .int .i64 y.c.r2, .int .i64 y.c.r3, .int .i64 y.c.r4, .int .i64 y.c.r5, .int .i64 y.c.r6, .int .i64 y.c.r7, .int .i64 y.c.d] I111 (onesA y) rfl rfl (new_a _) rfl ?_; intro w3 b3 f3; have B3 := hid b3; have F3 := hid f3; clear b3 f3)
    | (refine wpList_loadW rfl (.tmp 6) 111 rfl _ Tryd.underlying111 rfl _ 111 [.int .i64 y.i, .int .i64 y.s, .int .i64 y.sp, .int .i64 y.co, .int .i64 y.th, .int .i64 y.c.p, .int .i64 y.c.q, .int .i64 y.c.r0, .int .i64 y.c.r1, .int .i64 y.c.r2, .int .i64 y.c.r3, .int .i64 y.c.r4, .int .i64 y.c.r5, .int .i64 y.c.r6, .int .i64 y.c.r7, .int .i64 y.c.d] I111 rfl B3.out ?_)
    | (refine wpList_storeW rfl (.tmp 4) (.tmp 21) 111 rfl _ 111 [.int .i64 a0.i, .int .i64 a0.s, .int .i64 a0.sp, .int .i64 a0.co, .int .i64 a0.th, .int .i64 a0.c.p, .int .i64 a0.c.q, .int .i64 a0.c.r0, .int .i64 a0.c.r1, .int .i64 a0.c.r2, .int .i64 a0.c.r3, .int .i64 a0.c.r4, .int .i64 a0.c.r5, .int .i64 a0.c.r6, .int .i64 a0.c.r7, .int .i64 a0.c.d] [.int .i64 y.i, .int .i64 y.s, .int .i64 y.sp, .int .i64 y.co, .int .i64 y.th, .int .i64 y.c.p, .int .i64 y.c.q, .int .i64 y.c.r0, .int .i64 y.c.r1, .int .i64 y.c.r2, .int .i64 y.c.r3, .int .i64 y.c.r4, .int .i64 y.c.r5, .int .i64 y.c.r6, .int .i64 y.c.r7, .int .i64 y.c.d] I111 (onesA y) rfl rfl ((B1.out.alloc _).fr F3.out (by have := B1.out.lt; omega)) rfl ?_; intro w4 b4 f4; have B4 := hid b4; have F4 := hid f4; clear b4 f4))
  have S4 : Hid (Still w w4) := hid (Still.next (Still.next (S1.out.trans ((Fr.refl _ _).alloc _)) F3.out (fun k hk => by rw [hk]; exact S1.out.size)) F4.out (fun k hk => by rw [hk]; exact Nat.le_refl _))
  (try simp only [Exit.inBlock, Exit.then]); refine bodyPost_ret (results_cell2 rfl _ _ w.heap.size 111 [.int .i64 y.i, .int .i64 y.s, .int .i64 y.sp, .int .i64 y.co, .int .i64 y.th, .int .i64 y.c.p, .int .i64 y.c.q, .int .i64 y.c.r0, .int .i64 y.c.r1, .int .i64 y.c.r2, .int .i64 y.c.r3, .int .i64 y.c.r4, .int .i64 y.c.r5, .int .i64 y.c.r6, .int .i64 y.c.r7, .int .i64 y.c.d] _ _ rfl rfl B4.out Tryd.underlying111 rfl I111) rfl ?_
  exact ⟨rfl, S4.out⟩
end
end Go.Proofs.YtffjaaolcphonaaDoor
/- Life: ids, New, out, Discard. -/
namespace Go.Proofs.YtffjaaolcphonaaDoor
open Go.RowKit Go.Maps Go.Sort Go.Shelf
set_option linter.unusedSimpArgs false
theorem keysA (b : Nat) (w : World) : Calls Tryd.prog 127 #[.map (some b)] w fun e w' => e = .returned (.func (.func 134) #[] #[.pointer (some ⟨w.heap.size, 0, none⟩)]) ∧ w' = w.alloc (.cells #[.map (some b)] 127) :=
  callsIn_wide.1 (AnyZI.keys_in Tryd.keysL Fence.wide 5 trivial rfl (some b) w)
set_option maxHeartbeats 1000000 in
theorem sortedA {α : Type} {E : El α} {L : List α} {b : Nat} {w : World} (h : MapL E Tryd.prog w b L) (hl : L.length ≤ 1000000) : Calls Tryd.prog 95 #[.func (.func 134) #[] #[.pointer (some ⟨w.heap.size, 0, none⟩)]] (w.alloc (.cells #[.map (some b)] 127)) fun e w' =>
    ∃ v, e = .returned v ∧ w'.ownsRow (w.heap.size + 1) 3 1 v L.length (ints (L.map E.key)) ∧ Still w w' := by
  have hbl := h.lt
  have hown := h.1
  have hseq : SeqGives Fence.wide 2 Tryd.prog 134 #[.pointer (some ⟨w.heap.size, 0, none⟩)] encZ (fun ss => ss.Perm (intKeys (E.D L))) (Maps.size (E.D L)) (w.alloc (.cells #[.map (some b)] 127)) :=
    AnyZI.keys_gives (ρ := Tryd.keysL_ren) { Tryd.keysL with } Fence.wide _ trivial rfl (by omega) w.heap.size b L.length (E.D L) _ (by simp) (by simp) (hown.alloc _)
  have hs := E.D_size L
  have cS := AnyZI.sorted_in Tryd.sorted95 Fence.wide 5 trivial trivial trivial trivial rfl (by omega) (sorts123 _) (enters_of Tryd.func123 (by kernel_rfl) rfl) 134 #[.pointer (some ⟨w.heap.size, 0, none⟩)] trivial (enters_of Tryd.func134 (by kernel_rfl) rfl) _ _ (by rw [hs]; unfold maxLen; omega) (by rw [hs]; omega) _ hseq
  change CallsIn _ _ Tryd.prog 95 _ _ _ at cS
  refine (callsIn_wide.1 cS).mono ?_
  rintro e w' ⟨v, ss, rfl, hS, hrow, _, hb⟩
  rw [E.keys_eq] at hS
  have hlen : ss.length = L.length := by rw [hS.length_eq, List.length_map]
  rw [E.sorted_eq h.2 hS, hlen] at hrow
  have h2 : w'.ownsRow (w.alloc (.cells #[.map (some b)] 127)).heap.size 3 1 v L.length ((L.map E.key).map encZ) := hrow
  exact ⟨v, rfl, by simpa [ints, encZ] using h2, ((Fr.refl _ w).alloc _).trans (Fr.of_below0 hb _)⟩
section
variable {w w' : World} {P : Nat} {B : SB} {M : Nat} {s : SS} {L : List Ac}
theorem aids (h : AAt w P B M s L) (hl : L.length ≤ 100000) : Calls Tryd.prog 103 #[.pointer (some ⟨P, 0, none⟩)] w fun e w' => ∃ v, e = .returned v ∧ w'.ownsRow w.heap.size 3 1 v L.length (ints (L.map actE.key)) ∧ Still w w' := by
  have H := hid h
  have F1 := h.f1
  have HL := hid hl
  clear h hl
  go_enter Tryd.func103, Tryd.ntmps103
  go_wp2_with (first
    | (go_at_call 127; refine (keysA M w).mono ?_; rintro e w1 ⟨rfl, rfl⟩)
    | (go_at_call 95; refine (sortedA H.out.m (by have := HL.out; omega)).mono ?_; rintro e w2 ⟨v, rfl, ho, hs⟩; obtain ⟨a13, c13, rfl⟩ := own_shape ho _ rfl; have O2 := hid ho; have S2 := hid hs; clear ho hs))
  go_ret
  exact ⟨_, rfl, ownsRow_base O2.out (Nat.le_succ _), S2.out⟩
set_option maxRecDepth 100000 in
set_option maxHeartbeats 4000000 in
theorem anew (w : World) (x : Nat) (x0 : 1 ≤ x) (x1 : x ≤ 4096) : Calls Tryd.prog 62 #[.int .i64 (x : Int)] w fun e w' => ∃ P B M, e = .returned (.pointer (some ⟨P, 0, none⟩)) ∧ AAt w' P B M (zeroS x x) [] ∧ Still w w' ∧ TNew w P B M := by
  have HN := hid (snew w x x0 x1)
  have hmm := @run_makeMap Tryd.prog
  go_enter Tryd.func62, Tryd.ntmps62
  go_wp2_with fail
  refine HN.out.mono ?_
  rintro e w1 ⟨B, rfl, hB, hs, hnn⟩
  have HB := hid hB
  have S1 := hid hs
  have NN := hid hnn
  have hl := fun k hk => hB.lt (k := k) hk
  have HLT := hid hl
  clear hB hs hnn hl HN
  go_wp2_with fail
  go_ret
  have S1s := S1.out.size
  refine ⟨w1.heap.size + 1, B, w1.heap.size, rfl, ⟨?_, ?_, HB.out.still (((Fr.refl _ _).alloc _).alloc _), (MapL.made w1).alloc _, by omega, fun h => by have := HLT.out _ h; omega, fun h => by have := HLT.out _ h; omega⟩, (S1.out.alloc _).alloc _, ⟨by omega, S1s, NN.out⟩⟩
  · simp
  · simp
theorem aout (h : AAt w P B M s L) (hI : SI s) (id : Int) (wf : (Lit.int .i64 id).wf = true) : Calls Tryd.prog 110 #[.pointer (some ⟨P, 0, none⟩), .int .i64 id] w fun e w' =>
    e = .returned (.tuple #[]) ∧ AAt w' P B M (freeS s id) (actE.del id L) ∧ Fr (fun k => k = M ∨ k = B.P) w w' := by
  have H := hid h
  have WF := hid wf
  have F0 := h.f0
  have F1 := h.f1
  have HI := hid hI
  clear h wf hI
  go_enter Tryd.func110, Tryd.ntmps110
  go_wp2_with (first
    | (at_delete; refine wpList_delA rfl (.tmp 7) (.tmp 8) rfl H.out.m id WF.out rfl rfl ?_; intro w4 m4 f4; have T4 := hid (H.out.put m4 f4); have F4 := hid f4; have J0 := T4.out.f0; clear m4 f4))
  refine (sfree' T4.out.sl id (wf_in WF.out) HI.out).mono ?_
  rintro e w5 ⟨rfl, l5, f5⟩
  have T5 : Hid (AAt w5 P B M (freeS s id) (actE.del id L)) := hid ⟨f5.cellK T4.out.f0 (fun e => T4.out.nPB (.inl e)), f5.cellK T4.out.f1 (fun e => T4.out.nPB (.inl e)), l5, T4.out.m.fr f5 (fun e => T4.out.nMB (.inl e)), T4.out.nPM, T4.out.nPB, T4.out.nMB⟩
  have F5 := hid ((F4.out.mono fun k _ h => Or.inl h : Fr (fun k => k = M ∨ k = B.P) w w4).trans (f5.mono fun k _ h => .inr h))
  clear l5 f5
  go_wp2_with fail
  go_end0
  exact ⟨rfl, T5.out, F5.out⟩
def discE (L : List Ac) (k : Int) : Int := if fndO L k = true then (if (fndA L k).s = 1 ∨ (fndA L k).s = 5 then 0 else 5) else 4
def discL (L : List Ac) (k : Int) : List Ac := if discE L k = 0 then actE.del k L else L
def discS (s : SS) (L : List Ac) (k : Int) : SS := if discE L k = 0 then freeS s k else s
theorem disc_yes {s : SS} {L : List Ac} {k : Int} (h : fndO L k = true) (h2 : (fndA L k).s = 1 ∨ (fndA L k).s = 5) : discE L k = 0 ∧ discS s L k = freeS s k ∧ discL L k = actE.del k L := by
  have e : discE L k = 0 := by unfold discE; rw [if_pos h, if_pos h2]
  exact ⟨e, by unfold discS; rw [if_pos e], by unfold discL; rw [if_pos e]⟩
theorem disc_no {s : SS} {L : List Ac} {k : Int} (h : fndO L k = true) (h2 : ¬ ((fndA L k).s = 1 ∨ (fndA L k).s = 5)) : discE L k = 5 ∧ discS s L k = s ∧ discL L k = L := by
  have e : discE L k = 5 := by unfold discE; rw [if_pos h, if_neg h2]
  exact ⟨e, by unfold discS; rw [if_neg (by rw [e]; decide)], by unfold discL; rw [if_neg (by rw [e]; decide)]⟩
theorem disc_none {s : SS} {L : List Ac} {k : Int} (h : fndO L k = false) : discE L k = 4 ∧ discS s L k = s ∧ discL L k = L := by
  have e : discE L k = 4 := by unfold discE; rw [if_neg (by rw [h]; decide)]
  exact ⟨e, by unfold discS; rw [if_neg (by rw [e]; decide)], by unfold discL; rw [if_neg (by rw [e]; decide)]⟩
set_option maxRecDepth 100000 in
set_option maxHeartbeats 4000000 in
theorem adisc (h : AAt w P B M s L) (hI : SI s) (id : Int) (wf : (Lit.int .i64 id).wf = true) : Calls Tryd.prog 70 #[.pointer (some ⟨P, 0, none⟩), .int .i64 id] w fun e w' =>
    e = .returned (.int .i64 (discE L id)) ∧ AAt w' P B M (discS s L id) (discL L id) ∧ Fr (fun k => k = M ∨ k = B.P) w w' := by
  have H := hid h
  have F1 := h.f1
  have WF := hid wf
  have HI := hid hI
  clear h wf hI
  obtain ⟨y, hy⟩ : ∃ y, fndA L id = y := ⟨_, rfl⟩
  obtain ⟨f, hf⟩ : ∃ f, fndO L id = f := ⟨_, rfl⟩
  have HY := hid hy
  have HF := hid hf
  clear hy hf
  go_enter Tryd.func70, Tryd.ntmps70
  go_wp2_with fail
  refine (amade H.out).mono ?_
  rintro e w1 ⟨rfl, rfl⟩
  cases f with
  | false =>
    have EE := hid (disc_none (s := s) HF.out)
    have N1 : True := trivial
    have N2 : True := trivial
    go_wp2_with (first
      | (at_lookup; clear N1; refine wpList_lookA rfl (.tmp 14) (.tmp 15) rfl H.out.m rfl id WF.out rfl ?_; rw [HY.out, HF.out]; dsimp only [actE])
      | (clear N2; refine wpList_storeW rfl (.tmp 5) (.tmp 17) 111 rfl _ 111 [.int .i64 a0.i, .int .i64 a0.s, .int .i64 a0.sp, .int .i64 a0.co, .int .i64 a0.th, .int .i64 a0.c.p, .int .i64 a0.c.q, .int .i64 a0.c.r0, .int .i64 a0.c.r1, .int .i64 a0.c.r2, .int .i64 a0.c.r3, .int .i64 a0.c.r4, .int .i64 a0.c.r5, .int .i64 a0.c.r6, .int .i64 a0.c.r7, .int .i64 a0.c.d] [.int .i64 y.i, .int .i64 y.s, .int .i64 y.sp, .int .i64 y.co, .int .i64 y.th, .int .i64 y.c.p, .int .i64 y.c.q, .int .i64 y.c.r0, .int .i64 y.c.r1, .int .i64 y.c.r2, .int .i64 y.c.r3, .int .i64 y.c.r4, .int .i64 y.c.r5, .int .i64 y.c.r6, .int .i64 y.c.r7, .int .i64 y.c.d] I111 (onesA y) rfl rfl (new_a _) rfl ?_; intro w3 b3 f3; have S3 : Hid (Still w w3) := hid (Still.next ((Fr.refl _ _).alloc _) f3 (fun k hk => by rw [hk]; exact Nat.le_refl _)); clear b3 f3))
    go_ret
    exact ⟨by rw [EE.out.1]; rfl, by rw [EE.out.2.1, EE.out.2.2]; exact H.out.still S3.out, S3.out.fr _⟩
  | true =>
    by_cases hst : y.s = 1 ∨ y.s = 5
    · have EE := hid (disc_yes (s := s) HF.out (by rw [HY.out]; exact hst))
      have hz : ((y.s != 1) = false) ∨ ((y.s != 1) = true ∧ (y.s != 5) = false) := by
        by_cases h1 : y.s = 1
        · left; simp [h1]
        · right; simp [h1, hst.resolve_left h1]
      clear hst
      rcases hz with e1 | ⟨e1, e5⟩
      · skip
        have N1 : True := trivial
        have N2 : True := trivial
        go_wp2_with (first
          | (at_lookup; clear N1; refine wpList_lookA rfl (.tmp 14) (.tmp 15) rfl H.out.m rfl id WF.out rfl ?_; rw [HY.out, HF.out]; dsimp only [actE])
          | (clear N2; refine wpList_storeW rfl (.tmp 5) (.tmp 17) 111 rfl _ 111 [.int .i64 a0.i, .int .i64 a0.s, .int .i64 a0.sp, .int .i64 a0.co, .int .i64 a0.th, .int .i64 a0.c.p, .int .i64 a0.c.q, .int .i64 a0.c.r0, .int .i64 a0.c.r1, .int .i64 a0.c.r2, .int .i64 a0.c.r3, .int .i64 a0.c.r4, .int .i64 a0.c.r5, .int .i64 a0.c.r6, .int .i64 a0.c.r7, .int .i64 a0.c.d] [.int .i64 y.i, .int .i64 y.s, .int .i64 y.sp, .int .i64 y.co, .int .i64 y.th, .int .i64 y.c.p, .int .i64 y.c.q, .int .i64 y.c.r0, .int .i64 y.c.r1, .int .i64 y.c.r2, .int .i64 y.c.r3, .int .i64 y.c.r4, .int .i64 y.c.r5, .int .i64 y.c.r6, .int .i64 y.c.r7, .int .i64 y.c.d] I111 (onesA y) rfl rfl (new_a _) rfl ?_; intro w3 b3 f3; have d1 : w3.cell? ⟨w.heap.size, 1, none⟩ = some (.int .i64 y.s) := b3.cell 1; have S3 : Hid (Still w w3) := hid (Still.next ((Fr.refl _ _).alloc _) f3 (fun k hk => by rw [hk]; exact Nat.le_refl _)); clear b3 f3))
        refine (aout (H.out.still S3.out) HI.out id WF.out).mono ?_
        rintro e w4 ⟨rfl, h4, f4⟩
        have H4 := hid h4
        have F4 := hid ((S3.out.fr _).trans f4)
        clear h4 f4
        go_wp2_with fail
        go_ret
        exact ⟨by rw [EE.out.1]; rfl, by rw [EE.out.2.1, EE.out.2.2]; exact H4.out, F4.out⟩
      · skip
        have N1 : True := trivial
        have N2 : True := trivial
        go_wp2_with (first
          | (at_lookup; clear N1; refine wpList_lookA rfl (.tmp 14) (.tmp 15) rfl H.out.m rfl id WF.out rfl ?_; rw [HY.out, HF.out]; dsimp only [actE])
          | (clear N2; refine wpList_storeW rfl (.tmp 5) (.tmp 17) 111 rfl _ 111 [.int .i64 a0.i, .int .i64 a0.s, .int .i64 a0.sp, .int .i64 a0.co, .int .i64 a0.th, .int .i64 a0.c.p, .int .i64 a0.c.q, .int .i64 a0.c.r0, .int .i64 a0.c.r1, .int .i64 a0.c.r2, .int .i64 a0.c.r3, .int .i64 a0.c.r4, .int .i64 a0.c.r5, .int .i64 a0.c.r6, .int .i64 a0.c.r7, .int .i64 a0.c.d] [.int .i64 y.i, .int .i64 y.s, .int .i64 y.sp, .int .i64 y.co, .int .i64 y.th, .int .i64 y.c.p, .int .i64 y.c.q, .int .i64 y.c.r0, .int .i64 y.c.r1, .int .i64 y.c.r2, .int .i64 y.c.r3, .int .i64 y.c.r4, .int .i64 y.c.r5, .int .i64 y.c.r6, .int .i64 y.c.r7, .int .i64 y.c.d] I111 (onesA y) rfl rfl (new_a _) rfl ?_; intro w3 b3 f3; have d1 : w3.cell? ⟨w.heap.size, 1, none⟩ = some (.int .i64 y.s) := b3.cell 1; have S3 : Hid (Still w w3) := hid (Still.next ((Fr.refl _ _).alloc _) f3 (fun k hk => by rw [hk]; exact Nat.le_refl _)); clear b3 f3))
        refine (aout (H.out.still S3.out) HI.out id WF.out).mono ?_
        rintro e w4 ⟨rfl, h4, f4⟩
        have H4 := hid h4
        have F4 := hid ((S3.out.fr _).trans f4)
        clear h4 f4
        go_wp2_with fail
        go_ret
        exact ⟨by rw [EE.out.1]; rfl, by rw [EE.out.2.1, EE.out.2.2]; exact H4.out, F4.out⟩
    · have EE := hid (disc_no (s := s) HF.out (by rw [HY.out]; exact hst))
      have e1 : (y.s != 1) = true := by simp; omega
      have e5 : (y.s != 5) = true := by simp; omega
      clear hst
      have N1 : True := trivial
      have N2 : True := trivial
      go_wp2_with (first
        | (at_lookup; clear N1; refine wpList_lookA rfl (.tmp 14) (.tmp 15) rfl H.out.m rfl id WF.out rfl ?_; rw [HY.out, HF.out]; dsimp only [actE])
        | (clear N2; refine wpList_storeW rfl (.tmp 5) (.tmp 17) 111 rfl _ 111 [.int .i64 a0.i, .int .i64 a0.s, .int .i64 a0.sp, .int .i64 a0.co, .int .i64 a0.th, .int .i64 a0.c.p, .int .i64 a0.c.q, .int .i64 a0.c.r0, .int .i64 a0.c.r1, .int .i64 a0.c.r2, .int .i64 a0.c.r3, .int .i64 a0.c.r4, .int .i64 a0.c.r5, .int .i64 a0.c.r6, .int .i64 a0.c.r7, .int .i64 a0.c.d] [.int .i64 y.i, .int .i64 y.s, .int .i64 y.sp, .int .i64 y.co, .int .i64 y.th, .int .i64 y.c.p, .int .i64 y.c.q, .int .i64 y.c.r0, .int .i64 y.c.r1, .int .i64 y.c.r2, .int .i64 y.c.r3, .int .i64 y.c.r4, .int .i64 y.c.r5, .int .i64 y.c.r6, .int .i64 y.c.r7, .int .i64 y.c.d] I111 (onesA y) rfl rfl (new_a _) rfl ?_; intro w3 b3 f3; have d1 : w3.cell? ⟨w.heap.size, 1, none⟩ = some (.int .i64 y.s) := b3.cell 1; have S3 : Hid (Still w w3) := hid (Still.next ((Fr.refl _ _).alloc _) f3 (fun k hk => by rw [hk]; exact Nat.le_refl _)); clear b3 f3))
      go_ret
      exact ⟨by rw [EE.out.1]; rfl, by rw [EE.out.2.1, EE.out.2.2]; exact H.out.still S3.out, S3.out.fr _⟩
end
end Go.Proofs.YtffjaaolcphonaaDoor
/- Life: busy, Count; what the changes do. -/
namespace Go.Proofs.YtffjaaolcphonaaDoor
open Go.RowKit Go.Maps
set_option linter.unusedSimpArgs false
section
variable {w w' : World} {P : Nat} {B : SB} {M : Nat} {s : SS} {L : List Ac}
variable {ops : Array Oper} {rest : List Oper} {o : Oper} {a : Act} {Q : Exit → Act → World → Prop} {b : Nat}
theorem wpList_rangeA (hg : o.guard = none) (m : Operand) (hop : o.op = Op.range 127 m) (h : MapL actE Tryd.prog w b L) (hm : a.eval m = .map (some b))
    (hK : ∀ w', RangeL actE Tryd.prog w' b w.heap.size L (Maps.has (actE.D L)) (Maps.size (actE.D L)) → Still w w' → w'.heap.size = w.heap.size + 1 → wpList Tryd.prog ops Q rest (a.put o.dst (.pointer (some ⟨w.heap.size, 0, none⟩))) w') : wpList Tryd.prog ops Q (o :: rest) a w :=
  wpList_rangeL hg m 127 111 hop Tryd.underlying127 Tryd.underlying3 h hm hK
theorem wpList_nextA {r : Nat} {left : Lit → Bool} {cnt : Nat} (hg : o.guard = none) (it : Operand) (hop : o.op = Op.next it false) (h : RangeL actE Tryd.prog w b r L left cnt) (hit : a.eval it = .pointer (some ⟨r, 0, none⟩))
    (hDone : (∀ kl, left kl = false) → wpList Tryd.prog ops Q rest (a.put o.dst (.tuple #[.bool false])) w)
    (hMore : ∀ (x : Ac) w' cnt', x ∈ L → left (.int .i64 x.i) = true → RangeL actE Tryd.prog w' b r L (fun z => left z && !z.sameKey (.int .i64 x.i)) cnt' → cnt' < cnt → Fr (fun k => k = r) w w' → w'.heap.size = w.heap.size →
      (Instr.entry (.pointer (some ⟨r, 0, none⟩))).run Tryd.prog w' = .ok (.tuple #[.int .i64 x.i, (Value.agg #[.int .i64 x.i, .int .i64 x.s, .int .i64 x.sp, .int .i64 x.co, .int .i64 x.th, .int .i64 x.c.p, .int .i64 x.c.q, .int .i64 x.c.r0, .int .i64 x.c.r1, .int .i64 x.c.r2, .int .i64 x.c.r3, .int .i64 x.c.r4, .int .i64 x.c.r5, .int .i64 x.c.r6, .int .i64 x.c.r7, .int .i64 x.c.d])]) w' → wpList Tryd.prog ops Q rest (a.put o.dst (.tuple #[.bool true, .int .i64 x.i, (Value.agg #[.int .i64 x.i, .int .i64 x.s, .int .i64 x.sp, .int .i64 x.co, .int .i64 x.th, .int .i64 x.c.p, .int .i64 x.c.q, .int .i64 x.c.r0, .int .i64 x.c.r1, .int .i64 x.c.r2, .int .i64 x.c.r3, .int .i64 x.c.r4, .int .i64 x.c.r5, .int .i64 x.c.r6, .int .i64 x.c.r7, .int .i64 x.c.d])])) w') : wpList Tryd.prog ops Q (o :: rest) a w :=
  wpList_nextL hg it hop Tryd.underlying3 h hit hDone hMore
def busyL (L : List Ac) (core : Int) : Bool := L.any fun x => x.s == 2 && x.co == core
theorem any_cnt {L : List Ac} {p : Ac → Bool} (h : L.countP p = 0) : L.any p = false := by
  rw [List.countP_eq_zero] at h
  rw [List.any_eq_false]
  intro x hx; exact h x hx
set_option maxRecDepth 100000 in
set_option maxHeartbeats 4000000 in
theorem abusy (h : AAt w P B M s L) (core : Int) : Calls Tryd.prog 106 #[.pointer (some ⟨P, 0, none⟩), .int .i64 core] w fun e w' => e = .returned (.bool (busyL L core)) ∧ Still w w' := by
  have H := hid h
  have F1 := h.f1
  clear h
  go_enter Tryd.func106, Tryd.ntmps106
  go_wp2_with (first
    | (at_range; refine wpList_rangeA rfl (.tmp 10) rfl H.out.m rfl ?_; intro w0 hrg0 hs0 hz0; have RG := hid hrg0; have S0 := hid hs0; have Z0 := hid hz0; clear hrg0 hs0 hz0))
  go_frame
  go_loopw [6, 12] (fun s6 s12 wr => ∃ left cnt, Hid (actE.cnt L (fun x => x.s == 2 && x.co == core) left = 0) ∧ RangeL actE Tryd.prog wr M w.heap.size L left cnt ∧ Still w wr ∧ w.heap.size < wr.heap.size) (fun _ _ wr => wr.rangeLeft M w.heap.size)
  case atStart => exact ⟨_, _, hid (actE.cnt_start RG.out.2 _), RG.out, S0.out, by have := Z0.out; omega⟩
  case round =>
    obtain ⟨left, cnt, hc0, hrg, hst, hz⟩ := hrel
    have RX := hid hrg
    have SX := hid hst
    clear hrg hst
    go_wp2_with (at_next; refine wpList_nextA rfl (.tmp 11) rfl RX.out rfl ?_ ?_)
    · intro hl0
      have e : busyL L core = false := any_cnt (by rw [← actE.cnt_end _ hl0]; exact hc0.out)
      have HE := hid e
      clear hl0 hc0 e
      go_wp2_with fail
      go_ret
      exact ⟨by rw [HE.out]; rfl, SX.out⟩
    · intro x w2 cnt1 hx hlx hrg1 hlt hf hsz hen
      have RX1 := hid hrg1
      have SX1 := hid (SX.out.next hf (fun k hk => by rw [hk]; exact Nat.le_refl _))
      have CS : Hid (actE.cnt L (fun x => x.s == 2 && x.co == core) (fun z => left z && !z.sameKey (.int .i64 x.i)) = actE.cnt L (fun x => x.s == 2 && x.co == core) left + if (x.s == 2 && x.co == core) = true then 1 else 0) := hid (actE.cnt_step RX.out.2 (fun x => x.s == 2 && x.co == core) hx hlx)
      have LT := hid hlt
      have HX := hid hx
      have hz2 : w.heap.size < w2.heap.size := by omega
      clear hrg1 hf hx hlx hlt hsz
      by_cases hst : x.s = 2
      · have e0 : (x.s == 2) = true := by simp [hst]
        clear hst
        by_cases hco : x.co = core
        · have e1 : (x.co == core) = true := by simp [hco]
          have e : busyL L core = true := by
            unfold busyL
            rw [List.any_eq_true]
            exact ⟨x, HX.out, by rw [e0, e1]; rfl⟩
          have HE := hid e
          clear hco e
          have N2 : True := trivial
          go_wp2_with (clear N2; refine wpList_storeW rfl (.tmp 6) (.tmp 15) 111 rfl _ 111 [.int .i64 a0.i, .int .i64 a0.s, .int .i64 a0.sp, .int .i64 a0.co, .int .i64 a0.th, .int .i64 a0.c.p, .int .i64 a0.c.q, .int .i64 a0.c.r0, .int .i64 a0.c.r1, .int .i64 a0.c.r2, .int .i64 a0.c.r3, .int .i64 a0.c.r4, .int .i64 a0.c.r5, .int .i64 a0.c.r6, .int .i64 a0.c.r7, .int .i64 a0.c.d] [.int .i64 x.i, .int .i64 x.s, .int .i64 x.sp, .int .i64 x.co, .int .i64 x.th, .int .i64 x.c.p, .int .i64 x.c.q, .int .i64 x.c.r0, .int .i64 x.c.r1, .int .i64 x.c.r2, .int .i64 x.c.r3, .int .i64 x.c.r4, .int .i64 x.c.r5, .int .i64 x.c.r6, .int .i64 x.c.r7, .int .i64 x.c.d] I111 (onesA x) rfl rfl (new_a _) rfl ?_; intro w3 b3 f3; have d1 : w3.cell? ⟨w2.heap.size, 1, none⟩ = some (.int .i64 x.s) := b3.cell 1; have d3 : w3.cell? ⟨w2.heap.size, 3, none⟩ = some (.int .i64 x.co) := b3.cell 3; have S3 : Hid (Still w w3) := hid (Still.next (SX1.out.alloc _) f3 (fun k hk => by rw [hk]; exact SX1.out.size)); clear b3 f3)
          go_ret
          exact ⟨by rw [HE.out]; rfl, S3.out⟩
        · have e1 : (x.co == core) = false := by simp [hco]
          have CZ : Hid (actE.cnt L (fun x => x.s == 2 && x.co == core) (fun z => left z && !z.sameKey (.int .i64 x.i)) = 0) := hid (by rw [CS.out, hc0.out, e0, e1]; rfl)
          clear hco
          have N2 : True := trivial
          go_wp2_with (clear N2; refine wpList_storeW rfl (.tmp 6) (.tmp 15) 111 rfl _ 111 [.int .i64 a0.i, .int .i64 a0.s, .int .i64 a0.sp, .int .i64 a0.co, .int .i64 a0.th, .int .i64 a0.c.p, .int .i64 a0.c.q, .int .i64 a0.c.r0, .int .i64 a0.c.r1, .int .i64 a0.c.r2, .int .i64 a0.c.r3, .int .i64 a0.c.r4, .int .i64 a0.c.r5, .int .i64 a0.c.r6, .int .i64 a0.c.r7, .int .i64 a0.c.d] [.int .i64 x.i, .int .i64 x.s, .int .i64 x.sp, .int .i64 x.co, .int .i64 x.th, .int .i64 x.c.p, .int .i64 x.c.q, .int .i64 x.c.r0, .int .i64 x.c.r1, .int .i64 x.c.r2, .int .i64 x.c.r3, .int .i64 x.c.r4, .int .i64 x.c.r5, .int .i64 x.c.r6, .int .i64 x.c.r7, .int .i64 x.c.d] I111 (onesA x) rfl rfl (new_a _) rfl ?_; intro w3 b3 f3; have d1 : w3.cell? ⟨w2.heap.size, 1, none⟩ = some (.int .i64 x.s) := b3.cell 1; have d3 : w3.cell? ⟨w2.heap.size, 3, none⟩ = some (.int .i64 x.co) := b3.cell 3; have S3 : Hid (Still w w3) := hid (Still.next (SX1.out.alloc _) f3 (fun k hk => by rw [hk]; exact SX1.out.size)); have R3 := hid ((RX1.out.still ((Fr.refl _ _).alloc _)).fr f3 (fun e => by have := RX1.out.map.lt; omega) (fun e => by have := RX1.out.1.lt; omega)); have z3 := f3.size; clear b3 f3)
          go_roundw
          case rel => exact ⟨_, _, CZ, R3.out, S3.out, by simp at z3; omega⟩
          case measure => rw [R3.out.1.left_eq, RX.out.1.left_eq]; exact LT.out
      · have e0 : (x.s == 2) = false := by simp [hst]
        have CZ : Hid (actE.cnt L (fun x => x.s == 2 && x.co == core) (fun z => left z && !z.sameKey (.int .i64 x.i)) = 0) := hid (by rw [CS.out, hc0.out, e0]; rfl)
        clear hst
        have N2 : True := trivial
        go_wp2_with (clear N2; refine wpList_storeW rfl (.tmp 6) (.tmp 15) 111 rfl _ 111 [.int .i64 a0.i, .int .i64 a0.s, .int .i64 a0.sp, .int .i64 a0.co, .int .i64 a0.th, .int .i64 a0.c.p, .int .i64 a0.c.q, .int .i64 a0.c.r0, .int .i64 a0.c.r1, .int .i64 a0.c.r2, .int .i64 a0.c.r3, .int .i64 a0.c.r4, .int .i64 a0.c.r5, .int .i64 a0.c.r6, .int .i64 a0.c.r7, .int .i64 a0.c.d] [.int .i64 x.i, .int .i64 x.s, .int .i64 x.sp, .int .i64 x.co, .int .i64 x.th, .int .i64 x.c.p, .int .i64 x.c.q, .int .i64 x.c.r0, .int .i64 x.c.r1, .int .i64 x.c.r2, .int .i64 x.c.r3, .int .i64 x.c.r4, .int .i64 x.c.r5, .int .i64 x.c.r6, .int .i64 x.c.r7, .int .i64 x.c.d] I111 (onesA x) rfl rfl (new_a _) rfl ?_; intro w3 b3 f3; have d1 : w3.cell? ⟨w2.heap.size, 1, none⟩ = some (.int .i64 x.s) := b3.cell 1; have S3 : Hid (Still w w3) := hid (Still.next (SX1.out.alloc _) f3 (fun k hk => by rw [hk]; exact SX1.out.size)); have R3 := hid ((RX1.out.still ((Fr.refl _ _).alloc _)).fr f3 (fun e => by have := RX1.out.map.lt; omega) (fun e => by have := RX1.out.1.lt; omega)); have z3 := f3.size; clear b3 f3)
        go_roundw
        case rel => exact ⟨_, _, CZ, R3.out, S3.out, by simp at z3; omega⟩
        case measure => rw [R3.out.1.left_eq, RX.out.1.left_eq]; exact LT.out
def runC (L : List Ac) (core : Int) : Int := if core < 0 ∨ 64 ≤ core then 2 else if busyL L core = true then 3 else 0
/-- What a change leaves of the one at b. -/
def ChgPost (w : World) (b : Nat) (c : Int) (z : Ac) (e : Ending) (w' : World) : Prop := e = .returned (.int .i64 c) ∧ (c = 0 → Blk w' b [.int .i64 z.i, .int .i64 z.s, .int .i64 z.sp, .int .i64 z.co, .int .i64 z.th, .int .i64 z.c.p, .int .i64 z.c.q, .int .i64 z.c.r0, .int .i64 z.c.r1, .int .i64 z.c.r2, .int .i64 z.c.r3, .int .i64 z.c.r4, .int .i64 z.c.r5, .int .i64 z.c.r6, .int .i64 z.c.r7, .int .i64 z.c.d] 111) ∧ Fr (fun k => k = b) w w'
set_option maxRecDepth 100000 in
theorem arun1 (h : AAt w P B M s L) {b bc bt : Nat} (y : Ac) (core : Int) (hb : Blk w b [.int .i64 y.i, .int .i64 y.s, .int .i64 y.sp, .int .i64 y.co, .int .i64 y.th, .int .i64 y.c.p, .int .i64 y.c.q, .int .i64 y.c.r0, .int .i64 y.c.r1, .int .i64 y.c.r2, .int .i64 y.c.r3, .int .i64 y.c.r4, .int .i64 y.c.r5, .int .i64 y.c.r6, .int .i64 y.c.r7, .int .i64 y.c.d] 111) (h1 : Box w bc (.int .i64 core) 3) (h2 : Box w bt (.pointer (some ⟨P, 0, none⟩)) 96) :
    Calls Tryd.prog 105 #[.pointer (some ⟨b, 0, none⟩), .pointer (some ⟨bc, 0, none⟩), .pointer (some ⟨bt, 0, none⟩)] w (ChgPost w b (runC L core) { y with co := core }) := by
  have c1 := h1.c
  have c2 := h2.c
  have H1 := hid h1
  have HB := hid hb
  have AB := hid (abusy h core)
  clear h1 h2 h
  unfold ChgPost
  by_cases h0 : core < 0
  · have e0 : runC L core = 2 := by unfold runC; rw [if_pos (.inl h0)]
    rw [e0]
    go_enter Tryd.func105, Tryd.ntmps105
    go_wp2_with fail
    go_ret
    first | exact ⟨rfl, Fr.refl _ _⟩ | exact ⟨rfl, fun e => absurd e (by decide), Fr.refl _ _⟩
  by_cases h6 : (64 : Int) ≤ core
  · have e0 : runC L core = 2 := by unfold runC; rw [if_pos (.inr h6)]
    rw [e0]
    go_enter Tryd.func105, Tryd.ntmps105
    go_wp2_with fail
    go_ret
    first | exact ⟨rfl, Fr.refl _ _⟩ | exact ⟨rfl, fun e => absurd e (by decide), Fr.refl _ _⟩
  by_cases hbu : busyL L core = true
  · have e0 : runC L core = 3 := by unfold runC; rw [if_neg (by omega), if_pos hbu]
    rw [e0]
    rw [hbu] at AB
    clear hbu
    go_enter Tryd.func105, Tryd.ntmps105
    go_wp2_with fail
    refine AB.out.mono ?_
    rintro e w2 ⟨rfl, s2⟩
    have S2 := hid s2
    clear s2
    go_wp2_with fail
    go_ret
    first | exact ⟨rfl, S2.out.fr _⟩ | exact ⟨rfl, fun e => absurd e (by decide), S2.out.fr _⟩
  · have e0 : runC L core = 0 := by unfold runC; rw [if_neg (by omega), if_neg hbu]
    rw [e0]
    rw [Bool.not_eq_true] at hbu
    rw [hbu] at AB
    clear hbu
    go_enter Tryd.func105, Tryd.ntmps105
    go_wp2_with fail
    refine AB.out.mono ?_
    rintro e w2 ⟨rfl, s2⟩
    have S2 := hid s2
    have d1 := (H1.out.still s2).c
    have B2 := HB.out.still s2
    have z3 := B2.frozen 3
    have B3 := hid B2
    have c3 : w2.cell? ⟨b, 3, none⟩ = some (.int .i64 y.co) := B2.cell 3
    clear s2 B2
    go_wp2_with fail
    go_ret
    exact ⟨rfl, fun _ => B3.out.put 3 _, Fr.setCell (F := fun k => k = b) (p := ⟨b, 3, none⟩) (S2.out.fr _) (.inl rfl) _⟩
end
end Go.Proofs.YtffjaaolcphonaaDoor
/- Life: what the other changes do. -/
namespace Go.Proofs.YtffjaaolcphonaaDoor
open Go.RowKit Go.Maps
set_option linter.unusedSimpArgs false
section
variable {w w' : World}
set_option maxRecDepth 100000 in
theorem ablock1 {b : Nat} (y : Ac) (hb : Blk w b [.int .i64 y.i, .int .i64 y.s, .int .i64 y.sp, .int .i64 y.co, .int .i64 y.th, .int .i64 y.c.p, .int .i64 y.c.q, .int .i64 y.c.r0, .int .i64 y.c.r1, .int .i64 y.c.r2, .int .i64 y.c.r3, .int .i64 y.c.r4, .int .i64 y.c.r5, .int .i64 y.c.r6, .int .i64 y.c.r7, .int .i64 y.c.d] 111) : Calls Tryd.prog 107 #[.pointer (some ⟨b, 0, none⟩)] w (ChgPost w b (if y.th = 0 then 5 else 0) { y with co := -1 }) := by
  have HB := hid hb
  have d4 : w.cell? ⟨b, 4, none⟩ = some (.int .i64 y.th) := hb.cell 4
  have d3 : w.cell? ⟨b, 3, none⟩ = some (.int .i64 y.co) := hb.cell 3
  have z3 := hb.frozen 3
  clear hb
  unfold ChgPost
  by_cases h0 : y.th = 0
  · have e0 : (y.th == 0) = true := by simp [h0]
    rw [if_pos h0]
    clear h0
    go_enter Tryd.func107, Tryd.ntmps107
    go_wp2_with fail
    go_ret
    first | exact ⟨rfl, Fr.refl _ _⟩ | exact ⟨rfl, fun e => absurd e (by decide), Fr.refl _ _⟩
  · have e0 : (y.th == 0) = false := by simp [h0]
    rw [if_neg h0]
    clear h0
    go_enter Tryd.func107, Tryd.ntmps107
    go_wp2_with fail
    go_ret
    exact ⟨rfl, fun _ => HB.out.put 3 _, Fr.setCell (F := fun k => k = b) (p := ⟨b, 3, none⟩) (Fr.refl _ _) (.inl rfl) _⟩
set_option maxRecDepth 100000 in
set_option maxHeartbeats 4000000 in
theorem apre1 {b bc : Nat} (y : Ac) (c : Ctx) (hb : Blk w b [.int .i64 y.i, .int .i64 y.s, .int .i64 y.sp, .int .i64 y.co, .int .i64 y.th, .int .i64 y.c.p, .int .i64 y.c.q, .int .i64 y.c.r0, .int .i64 y.c.r1, .int .i64 y.c.r2, .int .i64 y.c.r3, .int .i64 y.c.r4, .int .i64 y.c.r5, .int .i64 y.c.r6, .int .i64 y.c.r7, .int .i64 y.c.d] 111) (h1 : Blk w bc [.int .i64 c.p, .int .i64 c.q, .int .i64 c.r0, .int .i64 c.r1, .int .i64 c.r2, .int .i64 c.r3, .int .i64 c.r4, .int .i64 c.r5, .int .i64 c.r6, .int .i64 c.r7, .int .i64 c.d] 58) (hne : b ≠ bc) :
    Calls Tryd.prog 108 #[.pointer (some ⟨b, 0, none⟩), .pointer (some ⟨bc, 0, none⟩)] w (ChgPost w b 0 { y with co := -1, c := c }) := by
  have HB := hid hb
  have H1 := hid h1
  have NE := hid hne
  unfold ChgPost
  have R1 : w.rangeAt bc 0 [.int .i64 c.p, .int .i64 c.q, .int .i64 c.r0, .int .i64 c.r1, .int .i64 c.r2, .int .i64 c.r3, .int .i64 c.r4, .int .i64 c.r5, .int .i64 c.r6, .int .i64 c.r7, .int .i64 c.d] := fun j v hv => by rw [Nat.zero_add, h1.cell j]; exact hv
  have z3 := hb.frozen 3
  have d3 : w.cell? ⟨b, 3, none⟩ = some (.int .i64 y.co) := hb.cell 3
  clear hb h1 hne
  go_enter Tryd.func108, Tryd.ntmps108
  go_wp2_with fail
  refine Held.wp_region_held_tail (S := (fun w' => w'.rangeAt bc 0 [.int .i64 c.p, .int .i64 c.q, .int .i64 c.r0, .int .i64 c.r1, .int .i64 c.r2, .int .i64 c.r3, .int .i64 c.r4, .int .i64 c.r5, .int .i64 c.r6, .int .i64 c.r7, .int .i64 c.d])) 8 (by kernel_rfl) (by kernel_rfl) (by decide) ?hS1 (fun hHeld => ?hR1)
  case hS1 =>
    exact R1
  simp only [List.take_succ_cons, List.take_zero, List.drop_succ_cons, List.drop_zero]
  refine wpAnyH_take (i := 0) (oi := _) (v := ?v2) rfl (by kernel_rfl) (by kernel_rfl) (by kernel_rfl) (fun _ _ _ h => h) (Or.inl ⟨by rfl, ?y2⟩) (by assumption) ?r2
  case y2 => ((intro w hSw); (try dsimp only at hSw); go_simp; (try with_reducible rfl))
  (try simp only [Act.put, List.setIfInBounds_toArray, List.set_cons_zero, List.set_cons_succ])
  refine wpAnyH_take (i := 2) (oi := _) (v := (Value.agg #[.int .i64 c.p, .int .i64 c.q, .int .i64 c.r0, .int .i64 c.r1, .int .i64 c.r2, .int .i64 c.r3, .int .i64 c.r4, .int .i64 c.r5, .int .i64 c.r6, .int .i64 c.r7, .int .i64 c.d])) rfl (by kernel_rfl) (by kernel_rfl) (by kernel_rfl) (fun _ _ _ h => h) (yieldsIf_load_mid rfl 58 _ rfl bc 0 rfl [.int .i64 c.p, .int .i64 c.q, .int .i64 c.r0, .int .i64 c.r1, .int .i64 c.r2, .int .i64 c.r3, .int .i64 c.r4, .int .i64 c.r5, .int .i64 c.r6, .int .i64 c.r7, .int .i64 c.d] _ (fun w h => h) Tryd.underlying58 rfl I58) (by assumption) ?rM
  simp only [Act.put, List.setIfInBounds_toArray, List.set_cons_zero, List.set_cons_succ]
  refine wpAnyH_take (i := 1) (oi := _) (v := ?v3) rfl (by kernel_rfl) (by kernel_rfl) (by kernel_rfl) (fun _ _ _ h => h) (Or.inl ⟨by rfl, ?y3⟩) (by assumption) ?r3
  case y3 => ((intro w hSw); (try dsimp only at hSw); go_simp; (try with_reducible rfl))
  (try simp only [Act.put, List.setIfInBounds_toArray, List.set_cons_zero, List.set_cons_succ])
  refine wpAnyH_take (i := 3) (oi := _) (v := ?v4) rfl (by kernel_rfl) (by kernel_rfl) (by kernel_rfl) (fun _ _ _ h => h) (Or.inl ⟨by rfl, ?y4⟩) (by assumption) ?r4
  case y4 => ((intro w hSw); (try dsimp only at hSw); go_simp; (try with_reducible rfl))
  (try simp only [Act.put, List.setIfInBounds_toArray, List.set_cons_zero, List.set_cons_succ])
  refine wpAnyH_take (i := 4) (oi := _) (v := ?v5) rfl (by kernel_rfl) (by kernel_rfl) (by kernel_rfl) (fun _ _ _ h => h) (Or.inl ⟨by rfl, ?y5⟩) (by assumption) ?r5
  case y5 => ((intro w hSw); (try dsimp only at hSw); go_simp; (try with_reducible rfl))
  (try simp only [Act.put, List.setIfInBounds_toArray, List.set_cons_zero, List.set_cons_succ])
  simp only [Act.put, List.getElem_toArray, List.getElem_cons_zero, List.getElem_cons_succ, List.setIfInBounds_toArray, List.set_cons_zero, List.set_cons_succ]
  refine wpAnyH_ready (rs := [5]) (by kernel_rfl) (by simp) ?_
  refine AllReadyH.cons rfl (fun K hK => ?st6) AllReadyH.nil
  go_simp
  refine hK.out _ _ ?k6 (fun hHeld6 => ?_)
  case k6 =>
    exact fun j v hv => put_far (R1 j v hv) (fun e => NE.out (by omega))
  clear hK K
  (try simp only [Act.put, List.setIfInBounds_toArray, List.set_cons_zero, List.set_cons_succ])
  refine wpAnyH_take (i := 6) (oi := _) (v := ?v7) rfl (by kernel_rfl) (by kernel_rfl) (by kernel_rfl) (fun _ _ _ h => h) (Or.inl ⟨by rfl, ?y7⟩) (by assumption) ?r7
  case y7 => ((intro w hSw); (try dsimp only at hSw); go_simp; (try with_reducible rfl))
  (try simp only [Act.put, List.setIfInBounds_toArray, List.set_cons_zero, List.set_cons_succ])
  refine wpAnyH_take (i := 7) (oi := _) (v := ?v8) rfl (by kernel_rfl) (by kernel_rfl) (by kernel_rfl) (fun _ _ _ h => h) (Or.inl ⟨by rfl, ?y8⟩) (by assumption) ?r8
  case y8 => ((intro w hSw); (try dsimp only at hSw); go_simp; (try with_reducible rfl))
  (try simp only [Act.put, List.setIfInBounds_toArray, List.set_cons_zero, List.set_cons_succ])
  simp only [Act.put, List.getElem_toArray, List.getElem_cons_zero, List.getElem_cons_succ, List.setIfInBounds_toArray, List.set_cons_zero, List.set_cons_succ]
  refine wpAnyH_done (by kernel_rfl) (Held.tailQ_normal ?_) _
  have BD : Hid (Blk (w.setCell ⟨b, 3, none⟩ (.int .i64 (-1))).drew b [.int .i64 { y with co := -1 }.i, .int .i64 { y with co := -1 }.s, .int .i64 { y with co := -1 }.sp, .int .i64 { y with co := -1 }.co, .int .i64 { y with co := -1 }.th, .int .i64 { y with co := -1 }.c.p, .int .i64 { y with co := -1 }.c.q, .int .i64 { y with co := -1 }.c.r0, .int .i64 { y with co := -1 }.c.r1, .int .i64 { y with co := -1 }.c.r2, .int .i64 { y with co := -1 }.c.r3, .int .i64 { y with co := -1 }.c.r4, .int .i64 { y with co := -1 }.c.r5, .int .i64 { y with co := -1 }.c.r6, .int .i64 { y with co := -1 }.c.r7, .int .i64 { y with co := -1 }.c.d] 111) := hid ((HB.out.put 3 (.int .i64 (-1))).still (Fr.refl _ _).drew)
  have FD : Hid (Fr (fun k => k = b) w (w.setCell ⟨b, 3, none⟩ (.int .i64 (-1))).drew) := hid (Fr.setCell (F := fun k => k = b) (p := ⟨b, 3, none⟩) (Fr.refl _ _) (.inl rfl) _).drew
  refine wpList_storeB rfl (.tmp 10) (.tmp 6) 58 rfl _ 5 111 [.int .i64 { y with co := -1 }.i, .int .i64 { y with co := -1 }.s, .int .i64 { y with co := -1 }.sp, .int .i64 { y with co := -1 }.co, .int .i64 { y with co := -1 }.th, .int .i64 { y with co := -1 }.c.p, .int .i64 { y with co := -1 }.c.q, .int .i64 { y with co := -1 }.c.r0, .int .i64 { y with co := -1 }.c.r1, .int .i64 { y with co := -1 }.c.r2, .int .i64 { y with co := -1 }.c.r3, .int .i64 { y with co := -1 }.c.r4, .int .i64 { y with co := -1 }.c.r5, .int .i64 { y with co := -1 }.c.r6, .int .i64 { y with co := -1 }.c.r7, .int .i64 { y with co := -1 }.c.d] [.int .i64 c.p, .int .i64 c.q, .int .i64 c.r0, .int .i64 c.r1, .int .i64 c.r2, .int .i64 c.r3, .int .i64 c.r4, .int .i64 c.r5, .int .i64 c.r6, .int .i64 c.r7, .int .i64 c.d] I58 (onesC c) rfl rfl BD.out (by simp) ?_
  intro w4 b4 f4
  have B4 : Hid (Blk w4 b [.int .i64 { y with co := -1, c := c }.i, .int .i64 { y with co := -1, c := c }.s, .int .i64 { y with co := -1, c := c }.sp, .int .i64 { y with co := -1, c := c }.co, .int .i64 { y with co := -1, c := c }.th, .int .i64 { y with co := -1, c := c }.c.p, .int .i64 { y with co := -1, c := c }.c.q, .int .i64 { y with co := -1, c := c }.c.r0, .int .i64 { y with co := -1, c := c }.c.r1, .int .i64 { y with co := -1, c := c }.c.r2, .int .i64 { y with co := -1, c := c }.c.r3, .int .i64 { y with co := -1, c := c }.c.r4, .int .i64 { y with co := -1, c := c }.c.r5, .int .i64 { y with co := -1, c := c }.c.r6, .int .i64 { y with co := -1, c := c }.c.r7, .int .i64 { y with co := -1, c := c }.c.d] 111) := hid b4
  have F4 := hid (FD.out.trans f4)
  clear b4 f4
  go_wp2_with fail
  go_ret
  first | exact ⟨rfl, B4.out, F4.out⟩ | exact ⟨rfl, fun _ => B4.out, F4.out⟩
theorem ones16 (x : Ac) : ∀ v ∈ ([.int .i64 x.i, .int .i64 x.s, .int .i64 x.sp, .int .i64 x.co, .int .i64 x.th, .int .i64 x.c.p, .int .i64 x.c.q, .int .i64 x.c.r0, .int .i64 x.c.r1, .int .i64 x.c.r2, .int .i64 x.c.r3, .int .i64 x.c.r4, .int .i64 x.c.r5, .int .i64 x.c.r6, .int .i64 x.c.r7, .int .i64 x.c.d] : List Value), v.oneCell' = true := onesA x
set_option maxRecDepth 100000 in
set_option maxHeartbeats 4000000 in
theorem acache1 {b : Nat} (y : Ac) (hb : Blk w b [.int .i64 y.i, .int .i64 y.s, .int .i64 y.sp, .int .i64 y.co, .int .i64 y.th, .int .i64 y.c.p, .int .i64 y.c.q, .int .i64 y.c.r0, .int .i64 y.c.r1, .int .i64 y.c.r2, .int .i64 y.c.r3, .int .i64 y.c.r4, .int .i64 y.c.r5, .int .i64 y.c.r6, .int .i64 y.c.r7, .int .i64 y.c.d] 111) : Calls Tryd.prog 109 #[.pointer (some ⟨b, 0, none⟩)] w (ChgPost w b 0 ⟨y.i, 0, y.sp, -1, 0, c0⟩) := by
  have HB := hid hb
  have d0 : w.cell? ⟨b, 0, none⟩ = some (.int .i64 y.i) := hb.cell 0
  have d2 : w.cell? ⟨b, 2, none⟩ = some (.int .i64 y.sp) := hb.cell 2
  clear hb
  unfold ChgPost
  obtain ⟨z, hz⟩ : ∃ z : Ac, ⟨y.i, 0, y.sp, -1, 0, c0⟩ = z := ⟨_, rfl⟩
  go_enter Tryd.func109, Tryd.ntmps109
  go_wp2_with fail
  refine Held.wp_region_held_tail (S := (fun w' => w'.cell? ⟨b, 0, none⟩ = some (.int .i64 y.i) ∧ w'.cell? ⟨b, 2, none⟩ = some (.int .i64 y.sp))) 11 (by kernel_rfl) (by kernel_rfl) (by decide) ?hS9 (fun hHeld => ?hR9)
  case hS9 =>
    exact ⟨d0, d2⟩
  simp only [List.take_succ_cons, List.take_zero, List.drop_succ_cons, List.drop_zero]
  refine wpAnyH_take (i := 0) (oi := _) (v := ?v10) rfl (by kernel_rfl) (by kernel_rfl) (by kernel_rfl) (fun _ _ _ h => h) (Or.inl ⟨by rfl, ?y10⟩) (by assumption) ?r10
  case y10 => ((intro w hSw); (try dsimp only at hSw); go_simp; (try with_reducible rfl))
  (try simp only [Act.put, List.setIfInBounds_toArray, List.set_cons_zero, List.set_cons_succ])
  refine wpAnyH_take (i := 1) (oi := _) (v := ?v11) rfl (by kernel_rfl) (by kernel_rfl) (by kernel_rfl) (fun _ _ _ h => h) (Or.inl ⟨by rfl, ?y11⟩) (by assumption) ?r11
  case y11 => ((intro w hSw); (try dsimp only at hSw); go_simp; (try with_reducible rfl))
  (try simp only [Act.put, List.setIfInBounds_toArray, List.set_cons_zero, List.set_cons_succ])
  refine wpAnyH_take (i := 2) (oi := _) (v := ?v12) rfl (by kernel_rfl) (by kernel_rfl) (by kernel_rfl) (fun _ _ _ h => h) (Or.inl ⟨by rfl, ?y12⟩) (by assumption) ?r12
  case y12 => ((intro w hSw); (try dsimp only at hSw); go_simp; (try with_reducible rfl))
  (try simp only [Act.put, List.setIfInBounds_toArray, List.set_cons_zero, List.set_cons_succ])
  refine wpAnyH_take (i := 3) (oi := _) (v := ?v13) rfl (by kernel_rfl) (by kernel_rfl) (by kernel_rfl) (fun _ _ _ h => h) (Or.inl ⟨by rfl, ?y13⟩) (by assumption) ?r13
  case y13 => ((intro w hSw); (try dsimp only at hSw); go_simp; (try with_reducible rfl))
  (try simp only [Act.put, List.setIfInBounds_toArray, List.set_cons_zero, List.set_cons_succ])
  (try simp only [Act.put, List.getElem_toArray, List.getElem_cons_zero, List.getElem_cons_succ, List.setIfInBounds_toArray, List.set_cons_zero, List.set_cons_succ])
  refine wpAnyH_take (i := 4) (oi := _) (v := ?v14) rfl (by kernel_rfl) (by kernel_rfl) (by kernel_rfl) (fun _ _ _ h => h) (Or.inl ⟨by rfl, ?y14⟩) (by assumption) ?r14
  case y14 => ((intro w hSw); (try dsimp only at hSw); go_simp; (try with_reducible rfl))
  (try simp only [Act.put, List.setIfInBounds_toArray, List.set_cons_zero, List.set_cons_succ])
  refine wpAnyH_take (i := 5) (oi := _) (v := ?v15) rfl (by kernel_rfl) (by kernel_rfl) (by kernel_rfl) (fun _ _ _ h => h) (Or.inl ⟨by rfl, ?y15⟩) (by assumption) ?r15
  case y15 => ((intro w hSw); (try dsimp only at hSw); go_simp; (try with_reducible rfl))
  (try simp only [Act.put, List.setIfInBounds_toArray, List.set_cons_zero, List.set_cons_succ])
  refine wpAnyH_take (i := 6) (oi := _) (v := ?v16) rfl (by kernel_rfl) (by kernel_rfl) (by kernel_rfl) (fun _ _ _ h => h) (Or.inl ⟨by rfl, ?y16⟩) (by assumption) ?r16
  case y16 => ((intro w hSw); (try dsimp only at hSw); go_simp; (try with_reducible rfl))
  (try simp only [Act.put, List.setIfInBounds_toArray, List.set_cons_zero, List.set_cons_succ])
  refine wpAnyH_take (i := 7) (oi := _) (v := ?v17) rfl (by kernel_rfl) (by kernel_rfl) (by kernel_rfl) (fun _ _ _ h => h) (Or.inl ⟨by rfl, ?y17⟩) (by assumption) ?r17
  case y17 => ((intro w hSw); (try dsimp only at hSw); go_simp; (try with_reducible rfl))
  (try simp only [Act.put, List.setIfInBounds_toArray, List.set_cons_zero, List.set_cons_succ])
  (try simp only [Act.put, List.getElem_toArray, List.getElem_cons_zero, List.getElem_cons_succ, List.setIfInBounds_toArray, List.set_cons_zero, List.set_cons_succ])
  refine wpAnyH_take (i := 8) (oi := _) (v := ?v18) rfl (by kernel_rfl) (by kernel_rfl) (by kernel_rfl) (fun _ _ _ h => h) (Or.inl ⟨by rfl, ?y18⟩) (by assumption) ?r18
  case y18 => ((intro w hSw); (try dsimp only at hSw); go_simp; (try with_reducible rfl))
  (try simp only [Act.put, List.setIfInBounds_toArray, List.set_cons_zero, List.set_cons_succ])
  refine wpAnyH_take (i := 9) (oi := _) (v := ?v19) rfl (by kernel_rfl) (by kernel_rfl) (by kernel_rfl) (fun _ _ _ h => h) (Or.inl ⟨by rfl, ?y19⟩) (by assumption) ?r19
  case y19 => ((intro w hSw); (try dsimp only at hSw); go_simp; (try with_reducible rfl))
  (try simp only [Act.put, List.setIfInBounds_toArray, List.set_cons_zero, List.set_cons_succ])
  refine wpAnyH_take (i := 10) (oi := _) (v := ?v20) rfl (by kernel_rfl) (by kernel_rfl) (by kernel_rfl) (fun _ _ _ h => h) (Or.inl ⟨by rfl, ?y20⟩) (by assumption) ?r20
  case y20 => ((intro w hSw); (try dsimp only at hSw); go_simp; (try with_reducible rfl))
  (try simp only [Act.put, List.setIfInBounds_toArray, List.set_cons_zero, List.set_cons_succ])
  (try simp only [Act.put, List.getElem_toArray, List.getElem_cons_zero, List.getElem_cons_succ, List.setIfInBounds_toArray, List.set_cons_zero, List.set_cons_succ])
  refine wpAnyH_done (by kernel_rfl) (Held.tailQ_normal ?_) _
  have BD := hid (HB.out.still (Fr.refl _ _).drew)
  refine wpList_storeW rfl (.tmp 13) (.tmp 12) 111 rfl _ 111 [.int .i64 y.i, .int .i64 y.s, .int .i64 y.sp, .int .i64 y.co, .int .i64 y.th, .int .i64 y.c.p, .int .i64 y.c.q, .int .i64 y.c.r0, .int .i64 y.c.r1, .int .i64 y.c.r2, .int .i64 y.c.r3, .int .i64 y.c.r4, .int .i64 y.c.r5, .int .i64 y.c.r6, .int .i64 y.c.r7, .int .i64 y.c.d] [.int .i64 z.i, .int .i64 z.s, .int .i64 z.sp, .int .i64 z.co, .int .i64 z.th, .int .i64 z.c.p, .int .i64 z.c.q, .int .i64 z.c.r0, .int .i64 z.c.r1, .int .i64 z.c.r2, .int .i64 z.c.r3, .int .i64 z.c.r4, .int .i64 z.c.r5, .int .i64 z.c.r6, .int .i64 z.c.r7, .int .i64 z.c.d] I111 (onesA z) rfl (by rw [← hz]; rfl) BD.out rfl ?_
  intro w4 b4 f4
  have B4 := hid b4
  have F4 : Hid (Fr (fun k => k = b) w w4) := hid ((Fr.refl _ _).drew.trans f4)
  have HZ := hid hz
  clear b4 f4 hz
  go_wp2_with fail
  go_ret
  rw [← HZ.out] at B4
  first | exact ⟨rfl, B4.out, F4.out⟩ | exact ⟨rfl, fun _ => B4.out, F4.out⟩
end
end Go.Proofs.YtffjaaolcphonaaDoor
/- Life: turn. -/
namespace Go.Proofs.YtffjaaolcphonaaDoor
open Go.RowKit Go.Maps
set_option linter.unusedSimpArgs false
def fromT : List Int := [0, 32, 2, 4, 4, 28]
def TabF (w : World) : Prop := ∀ i, i < 6 → w.cell? ⟨6, i, none⟩ = some (.int .i64 (fromT.getD i 0))
theorem TabF.still {w w' : World} (h : TabF w) (hs : Still w w') : TabF w' := fun i hi => Still.cell hs (h i hi)
def tE (L : List Ac) (k fr ce : Int) : Int := if fndO L k = true then (if turnN fr (fndA L k).s = true then 5 else ce) else 4
def tL (L : List Ac) (k fr st ce : Int) (cz : Ac) : List Ac := if tE L k fr ce = 0 then actE.ins { cz with s := st } L else L
theorem t_none {L : List Ac} {k fr st ce : Int} {cz : Ac} (h : fndO L k = false) : tE L k fr ce = 4 ∧ tL L k fr st ce cz = L := by
  have e : tE L k fr ce = 4 := by unfold tE; rw [if_neg (by rw [h]; decide)]
  exact ⟨e, by unfold tL; rw [if_neg (by rw [e]; decide)]⟩
theorem t_ref {L : List Ac} {k fr st ce : Int} {cz : Ac} (h : fndO L k = true) (h2 : turnN fr (fndA L k).s = true) : tE L k fr ce = 5 ∧ tL L k fr st ce cz = L := by
  have e : tE L k fr ce = 5 := by unfold tE; rw [if_pos h, if_pos h2]
  exact ⟨e, by unfold tL; rw [if_neg (by rw [e]; decide)]⟩
theorem t_err {L : List Ac} {k fr st ce : Int} {cz : Ac} (h : fndO L k = true) (h2 : turnN fr (fndA L k).s = false) (h3 : ce ≠ 0) : tE L k fr ce = ce ∧ tL L k fr st ce cz = L := by
  have e : tE L k fr ce = ce := by unfold tE; rw [if_pos h, if_neg (by rw [h2]; decide)]
  exact ⟨e, by unfold tL; rw [if_neg (by rw [e]; exact h3)]⟩
theorem t_yes {L : List Ac} {k fr st ce : Int} {cz : Ac} (h : fndO L k = true) (h2 : turnN fr (fndA L k).s = false) (h3 : ce = 0) : tE L k fr ce = 0 ∧ tL L k fr st ce cz = actE.ins { cz with s := st } L := by
  have e : tE L k fr ce = 0 := by unfold tE; rw [if_pos h, if_neg (by rw [h2]; decide), h3]
  exact ⟨e, by unfold tL; rw [if_pos e]⟩
section
variable {w w' : World} {P : Nat} {B : SB} {M : Nat} {s : SS} {L : List Ac}
set_option maxRecDepth 100000 in
set_option maxHeartbeats 4000000 in
theorem aturn105 (h : AAt w P B M s L) (hl : L.length < maxLen) (hT : TabF w) (id : Int) (wf : (Lit.int .i64 id).wf = true) (hs : ∀ x ∈ L, 1 ≤ x.s ∧ x.s ≤ 5) {bc bt : Nat} (ce : Int) (cz : Ac) (hcz : fndO L id = true → cz.i = id)
    (hc : ∀ (u : World) (b : Nat) (y : Ac), fndA L id = y → Still w u → Blk u b [.int .i64 y.i, .int .i64 y.s, .int .i64 y.sp, .int .i64 y.co, .int .i64 y.th, .int .i64 y.c.p, .int .i64 y.c.q, .int .i64 y.c.r0, .int .i64 y.c.r1, .int .i64 y.c.r2, .int .i64 y.c.r3, .int .i64 y.c.r4, .int .i64 y.c.r5, .int .i64 y.c.r6, .int .i64 y.c.r7, .int .i64 y.c.d] 111 → w.heap.size ≤ b → Calls Tryd.prog 105 #[.pointer (some ⟨b, 0, none⟩), .pointer (some ⟨bc, 0, none⟩), .pointer (some ⟨bt, 0, none⟩)] u (ChgPost u b ce cz)) :
    Calls Tryd.prog 104 #[.pointer (some ⟨P, 0, none⟩), .int .i64 id, .int .i64 2, .func (.func 105) #[] #[.pointer (some ⟨bc, 0, none⟩), .pointer (some ⟨bt, 0, none⟩)]] w fun e w' =>
    e = .returned (.int .i64 (tE L id 2 ce)) ∧ AAt w' P B M s (tL L id 2 2 ce cz) ∧ Fr (fun k => k = M) w w' := by
  have H := hid h
  have F1 := h.f1
  have WF := hid wf
  have HT := hid hT
  have HL := hid hl
  have HZ := hid hcz
  have HC := hid hc
  have HSS := hid hs
  have hPl := h.ltP
  clear h wf hT hl hcz hc hs
  have FK := hid (fndA_some (L := L) (k := id))
  obtain ⟨y, hy⟩ : ∃ y, fndA L id = y := ⟨_, rfl⟩
  obtain ⟨f, hf⟩ : ∃ f, fndO L id = f := ⟨_, rfl⟩
  have HY := hid hy
  have HF := hid hf
  clear hy hf
  go_enter Tryd.func104, Tryd.ntmps104
  go_wp2_with fail
  refine (amade H.out).mono ?_
  rintro e w1 ⟨rfl, rfl⟩
  cases f with
  | false =>
    have EE := hid (t_none (fr := 2) (st := 2) (ce := ce) (cz := cz) HF.out)
    have N1 : True := trivial
    have N2 : True := trivial
    go_wp2_with (first
      | (at_lookup; clear N1; refine wpList_lookA rfl (.tmp 19) (.tmp 20) rfl H.out.m rfl id WF.out rfl ?_; rw [HY.out, HF.out]; dsimp only [actE])
      | (clear N2; refine wpList_storeW rfl (.tmp 9) (.tmp 22) 111 rfl _ 111 [.int .i64 a0.i, .int .i64 a0.s, .int .i64 a0.sp, .int .i64 a0.co, .int .i64 a0.th, .int .i64 a0.c.p, .int .i64 a0.c.q, .int .i64 a0.c.r0, .int .i64 a0.c.r1, .int .i64 a0.c.r2, .int .i64 a0.c.r3, .int .i64 a0.c.r4, .int .i64 a0.c.r5, .int .i64 a0.c.r6, .int .i64 a0.c.r7, .int .i64 a0.c.d] [.int .i64 y.i, .int .i64 y.s, .int .i64 y.sp, .int .i64 y.co, .int .i64 y.th, .int .i64 y.c.p, .int .i64 y.c.q, .int .i64 y.c.r0, .int .i64 y.c.r1, .int .i64 y.c.r2, .int .i64 y.c.r3, .int .i64 y.c.r4, .int .i64 y.c.r5, .int .i64 y.c.r6, .int .i64 y.c.r7, .int .i64 y.c.d] I111 (onesA y) rfl rfl (new_a _) rfl ?_; intro w3 b3 f3; have B3 := hid b3; have S3 : Hid (Still w w3) := hid (Still.next ((Fr.refl _ _).alloc _) f3 (fun k hk => by rw [hk]; exact Nat.le_refl _)); clear b3 f3))
    go_ret
    exact ⟨by rw [EE.out.1]; rfl, by rw [EE.out.2]; exact H.out.still S3.out, S3.out.fr _⟩
  | true =>
    have HS : 1 ≤ y.s ∧ y.s ≤ 5 := by rw [← HY.out]; exact HSS.out _ (FK.out HF.out).2
    by_cases htn : turnN 2 y.s = true
    · have tn : (bits BinOp.and IntKind.i64 (2 / 2 ^ y.s.toNat) 1 == 0) = true := htn
      have EE := hid (t_ref (L := L) (k := id) (fr := 2) (st := 2) (ce := ce) (cz := cz) HF.out (by rw [HY.out]; exact htn))
      clear htn
      have N1 : True := trivial
      have N2 : True := trivial
      go_wp2_with (first
        | (at_lookup; clear N1; refine wpList_lookA rfl (.tmp 19) (.tmp 20) rfl H.out.m rfl id WF.out rfl ?_; rw [HY.out, HF.out]; dsimp only [actE])
        | (clear N2; refine wpList_storeW rfl (.tmp 9) (.tmp 22) 111 rfl _ 111 [.int .i64 a0.i, .int .i64 a0.s, .int .i64 a0.sp, .int .i64 a0.co, .int .i64 a0.th, .int .i64 a0.c.p, .int .i64 a0.c.q, .int .i64 a0.c.r0, .int .i64 a0.c.r1, .int .i64 a0.c.r2, .int .i64 a0.c.r3, .int .i64 a0.c.r4, .int .i64 a0.c.r5, .int .i64 a0.c.r6, .int .i64 a0.c.r7, .int .i64 a0.c.d] [.int .i64 y.i, .int .i64 y.s, .int .i64 y.sp, .int .i64 y.co, .int .i64 y.th, .int .i64 y.c.p, .int .i64 y.c.q, .int .i64 y.c.r0, .int .i64 y.c.r1, .int .i64 y.c.r2, .int .i64 y.c.r3, .int .i64 y.c.r4, .int .i64 y.c.r5, .int .i64 y.c.r6, .int .i64 y.c.r7, .int .i64 y.c.d] I111 (onesA y) rfl rfl (new_a _) rfl ?_; intro w3 b3 f3; have B3 := hid b3; have d1 : w3.cell? ⟨w.heap.size, 1, none⟩ = some (.int .i64 y.s) := b3.cell 1; have S3 : Hid (Still w w3) := hid (Still.next ((Fr.refl _ _).alloc _) f3 (fun k hk => by rw [hk]; exact Nat.le_refl _)); have g6 : w3.cell? ⟨6, 2, none⟩ = some (.int .i64 2) := (HT.out.still S3.out) 2 (by omega); clear b3 f3))
      go_quiet (fail)
      go_wp2_with fail
      go_ret
      exact ⟨by rw [EE.out.1]; rfl, by rw [EE.out.2]; exact H.out.still (S3.out.drewN _), (S3.out.fr (fun k => k = M)).drewN _⟩
    · have tn0 : turnN 2 y.s = false := by simpa using htn
      have tn : (bits BinOp.and IntKind.i64 (2 / 2 ^ y.s.toNat) 1 == 0) = false := tn0
      have TN := hid tn0
      clear htn tn0
      have N1 : True := trivial
      have N2 : True := trivial
      go_wp2_with (first
        | (at_lookup; clear N1; refine wpList_lookA rfl (.tmp 19) (.tmp 20) rfl H.out.m rfl id WF.out rfl ?_; rw [HY.out, HF.out]; dsimp only [actE])
        | (clear N2; refine wpList_storeW rfl (.tmp 9) (.tmp 22) 111 rfl _ 111 [.int .i64 a0.i, .int .i64 a0.s, .int .i64 a0.sp, .int .i64 a0.co, .int .i64 a0.th, .int .i64 a0.c.p, .int .i64 a0.c.q, .int .i64 a0.c.r0, .int .i64 a0.c.r1, .int .i64 a0.c.r2, .int .i64 a0.c.r3, .int .i64 a0.c.r4, .int .i64 a0.c.r5, .int .i64 a0.c.r6, .int .i64 a0.c.r7, .int .i64 a0.c.d] [.int .i64 y.i, .int .i64 y.s, .int .i64 y.sp, .int .i64 y.co, .int .i64 y.th, .int .i64 y.c.p, .int .i64 y.c.q, .int .i64 y.c.r0, .int .i64 y.c.r1, .int .i64 y.c.r2, .int .i64 y.c.r3, .int .i64 y.c.r4, .int .i64 y.c.r5, .int .i64 y.c.r6, .int .i64 y.c.r7, .int .i64 y.c.d] I111 (onesA y) rfl rfl (new_a _) rfl ?_; intro w3 b3 f3; have B3 := hid b3; have d1 : w3.cell? ⟨w.heap.size, 1, none⟩ = some (.int .i64 y.s) := b3.cell 1; have S3 : Hid (Still w w3) := hid (Still.next ((Fr.refl _ _).alloc _) f3 (fun k hk => by rw [hk]; exact Nat.le_refl _)); have g6 : w3.cell? ⟨6, 2, none⟩ = some (.int .i64 2) := (HT.out.still S3.out) 2 (by omega); clear b3 f3))
      go_quiet (fail)
      clear tn HS d1 g6
      go_wp2_with fail
      refine (HC.out _ _ y HY.out (S3.out.drewN _) (B3.out.still ((Fr.refl _ _).drewN _)) (Nat.le_refl _)).mono ?_
      rintro e w6 ⟨rfl, b6, f6⟩
      have F6 := hid f6
      have S6 : Hid (Still w w6) := hid (Still.next (S3.out.drewN _) f6 (fun k hk => by rw [hk]; exact Nat.le_refl _))
      have G6 := Still.cell S6.out F1
      by_cases hce : ce = 0
      · have e7 : (ce != 0) = false := by simp [hce]
        have B6 := hid (b6 hce)
        have EE := hid (t_yes (st := 2) (cz := cz) HF.out (by rw [HY.out]; exact TN.out) hce)
        have z1 := B6.out.frozen 1
        have d1 : w6.cell? ⟨w.heap.size, 1, none⟩ = some (.int .i64 cz.s) := B6.out.cell 1
        clear b6 f6 hce F1
        go_wp2_with fail
        obtain ⟨w7, hw7⟩ : ∃ w7, w6.setCell ⟨w.heap.size, 1, none⟩ (.int .i64 2) = w7 := ⟨_, rfl⟩
        rw [hw7]
        have S7 : Hid (Still w w7) := hid (by rw [← hw7]; exact Fr.setCell S6.out (.inr (Nat.le_refl _)) _)
        obtain ⟨z, hz⟩ : ∃ z : Ac, { cz with s := 2 } = z := ⟨_, rfl⟩
        have B7 : Blk w7 w.heap.size [.int .i64 z.i, .int .i64 z.s, .int .i64 z.sp, .int .i64 z.co, .int .i64 z.th, .int .i64 z.c.p, .int .i64 z.c.q, .int .i64 z.c.r0, .int .i64 z.c.r1, .int .i64 z.c.r2, .int .i64 z.c.r3, .int .i64 z.c.r4, .int .i64 z.c.r5, .int .i64 z.c.r6, .int .i64 z.c.r7, .int .i64 z.c.d] 111 := by subst hz; rw [← hw7]; exact B6.out.put 1 _
        have G7 : w7.cell? ⟨P, 1, none⟩ = some (.map (some M)) := by rw [← hw7]; exact put_far G6 (by omega)
        have zi : Hid (z.i = id) := hid (by subst hz; exact HZ.out HF.out)
        have R7 : w7.rangeAt w.heap.size 0 [.int .i64 z.i, .int .i64 z.s, .int .i64 z.sp, .int .i64 z.co, .int .i64 z.th, .int .i64 z.c.p, .int .i64 z.c.q, .int .i64 z.c.r0, .int .i64 z.c.r1, .int .i64 z.c.r2, .int .i64 z.c.r3, .int .i64 z.c.r4, .int .i64 z.c.r5, .int .i64 z.c.r6, .int .i64 z.c.r7, .int .i64 z.c.d] := fun j v hv => by rw [Nat.zero_add, B7.cell j]; exact hv
        have HZZ := hid hz
        clear hz G6 B7 hw7 d1 z1 e7
        refine Held.wp_region_held_tail (S := (fun w' => w'.cell? ⟨P, 1, none⟩ = some (.map (some M)) ∧ w'.rangeAt w.heap.size 0 [.int .i64 z.i, .int .i64 z.s, .int .i64 z.sp, .int .i64 z.co, .int .i64 z.th, .int .i64 z.c.p, .int .i64 z.c.q, .int .i64 z.c.r0, .int .i64 z.c.r1, .int .i64 z.c.r2, .int .i64 z.c.r3, .int .i64 z.c.r4, .int .i64 z.c.r5, .int .i64 z.c.r6, .int .i64 z.c.r7, .int .i64 z.c.d])) 6 (by kernel_rfl) (by kernel_rfl) (by decide) ?hS1 (fun hHeld => ?hR1)
        case hS1 =>
          exact ⟨G7, R7⟩
        simp only [List.take_succ_cons, List.take_zero, List.drop_succ_cons, List.drop_zero]
        refine wpAnyH_take (i := 0) (oi := _) (v := ?v2) rfl (by kernel_rfl) (by kernel_rfl) (by kernel_rfl) (fun _ _ _ h => h) (Or.inl ⟨by rfl, ?y2⟩) (by assumption) ?r2
        case y2 => ((intro w hSw); (try dsimp only at hSw); go_simp; (try with_reducible rfl))
        (try simp only [Act.put, List.setIfInBounds_toArray, List.set_cons_zero, List.set_cons_succ])
        refine wpAnyH_take (i := 5) (oi := _) (v := (Value.agg #[.int .i64 z.i, .int .i64 z.s, .int .i64 z.sp, .int .i64 z.co, .int .i64 z.th, .int .i64 z.c.p, .int .i64 z.c.q, .int .i64 z.c.r0, .int .i64 z.c.r1, .int .i64 z.c.r2, .int .i64 z.c.r3, .int .i64 z.c.r4, .int .i64 z.c.r5, .int .i64 z.c.r6, .int .i64 z.c.r7, .int .i64 z.c.d])) rfl (by kernel_rfl) (by kernel_rfl) (by kernel_rfl) (fun _ _ _ h => h) (yieldsIf_load_mid rfl 111 _ rfl w.heap.size 0 rfl [.int .i64 z.i, .int .i64 z.s, .int .i64 z.sp, .int .i64 z.co, .int .i64 z.th, .int .i64 z.c.p, .int .i64 z.c.q, .int .i64 z.c.r0, .int .i64 z.c.r1, .int .i64 z.c.r2, .int .i64 z.c.r3, .int .i64 z.c.r4, .int .i64 z.c.r5, .int .i64 z.c.r6, .int .i64 z.c.r7, .int .i64 z.c.d] _ (fun w h => h.2) Tryd.underlying111 rfl I111) (by assumption) ?rM
        simp only [Act.put, List.setIfInBounds_toArray, List.set_cons_zero, List.set_cons_succ]
        refine wpAnyH_take (i := 1) (oi := _) (v := ?v3) rfl (by kernel_rfl) (by kernel_rfl) (by kernel_rfl) (fun _ _ _ h => h) (Or.inl ⟨by rfl, ?y3⟩) (by assumption) ?r3
        case y3 => ((intro w hSw); (try dsimp only at hSw); go_simp; (try with_reducible rfl))
        (try simp only [Act.put, List.setIfInBounds_toArray, List.set_cons_zero, List.set_cons_succ])
        refine wpAnyH_take (i := 2) (oi := _) (v := ?v4) rfl (by kernel_rfl) (by kernel_rfl) (by kernel_rfl) (fun _ _ _ h => h) (Or.inl ⟨by rfl, ?y4⟩) (by assumption) ?r4
        case y4 => ((intro w hSw); (try dsimp only at hSw); go_simp; (try with_reducible rfl))
        (try simp only [Act.put, List.setIfInBounds_toArray, List.set_cons_zero, List.set_cons_succ])
        refine wpAnyH_take (i := 3) (oi := _) (v := ?v5) rfl (by kernel_rfl) (by kernel_rfl) (by kernel_rfl) (fun _ _ _ h => h) (Or.inl ⟨by rfl, ?y5⟩) (by assumption) ?r5
        case y5 => ((intro w hSw); (try dsimp only at hSw); go_simp; (try with_reducible rfl))
        (try simp only [Act.put, List.setIfInBounds_toArray, List.set_cons_zero, List.set_cons_succ])
        refine wpAnyH_take (i := 4) (oi := _) (v := ?v6) rfl (by kernel_rfl) (by kernel_rfl) (by kernel_rfl) (fun _ _ _ h => h) (Or.inl ⟨by rfl, ?y6⟩) (by assumption) ?r6
        case y6 => ((intro w hSw); (try dsimp only at hSw); go_simp; (try with_reducible rfl))
        (try simp only [Act.put, List.setIfInBounds_toArray, List.set_cons_zero, List.set_cons_succ])
        refine wpAnyH_done (by kernel_rfl) (Held.tailQ_normal ?_) _
        simp only [Act.put, List.getElem_toArray, List.getElem_cons_zero, List.getElem_cons_succ, List.setIfInBounds_toArray, List.set_cons_zero, List.set_cons_succ]
        have T7 := hid (H.out.still S7.out)
        refine wpList_putA rfl (.tmp 46) (.tmp 47) (.tmp 48) rfl T7.out.m.drew HL.out z (by rw [zi.out]; exact WF.out) rfl (by rw [zi.out]; rfl) rfl ?_
        intro w8 m8 f8
        have T8 := hid (T7.out.drew.put m8 f8)
        have F8 := hid (((S7.out.fr (fun k => k = M)).drew).trans f8)
        clear m8 f8
        go_wp2_with fail
        go_ret
        exact ⟨by rw [EE.out.1]; rfl, by rw [EE.out.2, HZZ.out]; exact T8.out, F8.out⟩
      · have e7 : (ce != 0) = true := by simp [hce]
        have EE := hid (t_err (st := 2) (cz := cz) HF.out (by rw [HY.out]; exact TN.out) hce)
        clear b6 f6 hce
        go_wp2_with fail
        go_ret
        exact ⟨by rw [EE.out.1]; rfl, by rw [EE.out.2]; exact H.out.still S6.out, S6.out.fr _⟩
set_option maxRecDepth 100000 in
set_option maxHeartbeats 4000000 in
theorem aturn107 (h : AAt w P B M s L) (hl : L.length < maxLen) (hT : TabF w) (id : Int) (wf : (Lit.int .i64 id).wf = true) (hs : ∀ x ∈ L, 1 ≤ x.s ∧ x.s ≤ 5) (ce : Int) (cz : Ac) (hcz : fndO L id = true → cz.i = id)
    (hc : ∀ (u : World) (b : Nat) (y : Ac), fndA L id = y → Still w u → Blk u b [.int .i64 y.i, .int .i64 y.s, .int .i64 y.sp, .int .i64 y.co, .int .i64 y.th, .int .i64 y.c.p, .int .i64 y.c.q, .int .i64 y.c.r0, .int .i64 y.c.r1, .int .i64 y.c.r2, .int .i64 y.c.r3, .int .i64 y.c.r4, .int .i64 y.c.r5, .int .i64 y.c.r6, .int .i64 y.c.r7, .int .i64 y.c.d] 111 → w.heap.size ≤ b → Calls Tryd.prog 107 #[.pointer (some ⟨b, 0, none⟩)] u (ChgPost u b ce cz)) :
    Calls Tryd.prog 104 #[.pointer (some ⟨P, 0, none⟩), .int .i64 id, .int .i64 3, .func (.func 107) #[] #[]] w fun e w' =>
    e = .returned (.int .i64 (tE L id 4 ce)) ∧ AAt w' P B M s (tL L id 4 3 ce cz) ∧ Fr (fun k => k = M) w w' := by
  have H := hid h
  have F1 := h.f1
  have WF := hid wf
  have HT := hid hT
  have HL := hid hl
  have HZ := hid hcz
  have HC := hid hc
  have HSS := hid hs
  have hPl := h.ltP
  clear h wf hT hl hcz hc hs
  have FK := hid (fndA_some (L := L) (k := id))
  obtain ⟨y, hy⟩ : ∃ y, fndA L id = y := ⟨_, rfl⟩
  obtain ⟨f, hf⟩ : ∃ f, fndO L id = f := ⟨_, rfl⟩
  have HY := hid hy
  have HF := hid hf
  clear hy hf
  go_enter Tryd.func104, Tryd.ntmps104
  go_wp2_with fail
  refine (amade H.out).mono ?_
  rintro e w1 ⟨rfl, rfl⟩
  cases f with
  | false =>
    have EE := hid (t_none (fr := 4) (st := 3) (ce := ce) (cz := cz) HF.out)
    have N1 : True := trivial
    have N2 : True := trivial
    go_wp2_with (first
      | (at_lookup; clear N1; refine wpList_lookA rfl (.tmp 19) (.tmp 20) rfl H.out.m rfl id WF.out rfl ?_; rw [HY.out, HF.out]; dsimp only [actE])
      | (clear N2; refine wpList_storeW rfl (.tmp 9) (.tmp 22) 111 rfl _ 111 [.int .i64 a0.i, .int .i64 a0.s, .int .i64 a0.sp, .int .i64 a0.co, .int .i64 a0.th, .int .i64 a0.c.p, .int .i64 a0.c.q, .int .i64 a0.c.r0, .int .i64 a0.c.r1, .int .i64 a0.c.r2, .int .i64 a0.c.r3, .int .i64 a0.c.r4, .int .i64 a0.c.r5, .int .i64 a0.c.r6, .int .i64 a0.c.r7, .int .i64 a0.c.d] [.int .i64 y.i, .int .i64 y.s, .int .i64 y.sp, .int .i64 y.co, .int .i64 y.th, .int .i64 y.c.p, .int .i64 y.c.q, .int .i64 y.c.r0, .int .i64 y.c.r1, .int .i64 y.c.r2, .int .i64 y.c.r3, .int .i64 y.c.r4, .int .i64 y.c.r5, .int .i64 y.c.r6, .int .i64 y.c.r7, .int .i64 y.c.d] I111 (onesA y) rfl rfl (new_a _) rfl ?_; intro w3 b3 f3; have B3 := hid b3; have S3 : Hid (Still w w3) := hid (Still.next ((Fr.refl _ _).alloc _) f3 (fun k hk => by rw [hk]; exact Nat.le_refl _)); clear b3 f3))
    go_ret
    exact ⟨by rw [EE.out.1]; rfl, by rw [EE.out.2]; exact H.out.still S3.out, S3.out.fr _⟩
  | true =>
    have HS : 1 ≤ y.s ∧ y.s ≤ 5 := by rw [← HY.out]; exact HSS.out _ (FK.out HF.out).2
    by_cases htn : turnN 4 y.s = true
    · have tn : (bits BinOp.and IntKind.i64 (4 / 2 ^ y.s.toNat) 1 == 0) = true := htn
      have EE := hid (t_ref (L := L) (k := id) (fr := 4) (st := 3) (ce := ce) (cz := cz) HF.out (by rw [HY.out]; exact htn))
      clear htn
      have N1 : True := trivial
      have N2 : True := trivial
      go_wp2_with (first
        | (at_lookup; clear N1; refine wpList_lookA rfl (.tmp 19) (.tmp 20) rfl H.out.m rfl id WF.out rfl ?_; rw [HY.out, HF.out]; dsimp only [actE])
        | (clear N2; refine wpList_storeW rfl (.tmp 9) (.tmp 22) 111 rfl _ 111 [.int .i64 a0.i, .int .i64 a0.s, .int .i64 a0.sp, .int .i64 a0.co, .int .i64 a0.th, .int .i64 a0.c.p, .int .i64 a0.c.q, .int .i64 a0.c.r0, .int .i64 a0.c.r1, .int .i64 a0.c.r2, .int .i64 a0.c.r3, .int .i64 a0.c.r4, .int .i64 a0.c.r5, .int .i64 a0.c.r6, .int .i64 a0.c.r7, .int .i64 a0.c.d] [.int .i64 y.i, .int .i64 y.s, .int .i64 y.sp, .int .i64 y.co, .int .i64 y.th, .int .i64 y.c.p, .int .i64 y.c.q, .int .i64 y.c.r0, .int .i64 y.c.r1, .int .i64 y.c.r2, .int .i64 y.c.r3, .int .i64 y.c.r4, .int .i64 y.c.r5, .int .i64 y.c.r6, .int .i64 y.c.r7, .int .i64 y.c.d] I111 (onesA y) rfl rfl (new_a _) rfl ?_; intro w3 b3 f3; have B3 := hid b3; have d1 : w3.cell? ⟨w.heap.size, 1, none⟩ = some (.int .i64 y.s) := b3.cell 1; have S3 : Hid (Still w w3) := hid (Still.next ((Fr.refl _ _).alloc _) f3 (fun k hk => by rw [hk]; exact Nat.le_refl _)); have g6 : w3.cell? ⟨6, 3, none⟩ = some (.int .i64 4) := (HT.out.still S3.out) 3 (by omega); clear b3 f3))
      go_quiet (fail)
      go_wp2_with fail
      go_ret
      exact ⟨by rw [EE.out.1]; rfl, by rw [EE.out.2]; exact H.out.still (S3.out.drewN _), (S3.out.fr (fun k => k = M)).drewN _⟩
    · have tn0 : turnN 4 y.s = false := by simpa using htn
      have tn : (bits BinOp.and IntKind.i64 (4 / 2 ^ y.s.toNat) 1 == 0) = false := tn0
      have TN := hid tn0
      clear htn tn0
      have N1 : True := trivial
      have N2 : True := trivial
      go_wp2_with (first
        | (at_lookup; clear N1; refine wpList_lookA rfl (.tmp 19) (.tmp 20) rfl H.out.m rfl id WF.out rfl ?_; rw [HY.out, HF.out]; dsimp only [actE])
        | (clear N2; refine wpList_storeW rfl (.tmp 9) (.tmp 22) 111 rfl _ 111 [.int .i64 a0.i, .int .i64 a0.s, .int .i64 a0.sp, .int .i64 a0.co, .int .i64 a0.th, .int .i64 a0.c.p, .int .i64 a0.c.q, .int .i64 a0.c.r0, .int .i64 a0.c.r1, .int .i64 a0.c.r2, .int .i64 a0.c.r3, .int .i64 a0.c.r4, .int .i64 a0.c.r5, .int .i64 a0.c.r6, .int .i64 a0.c.r7, .int .i64 a0.c.d] [.int .i64 y.i, .int .i64 y.s, .int .i64 y.sp, .int .i64 y.co, .int .i64 y.th, .int .i64 y.c.p, .int .i64 y.c.q, .int .i64 y.c.r0, .int .i64 y.c.r1, .int .i64 y.c.r2, .int .i64 y.c.r3, .int .i64 y.c.r4, .int .i64 y.c.r5, .int .i64 y.c.r6, .int .i64 y.c.r7, .int .i64 y.c.d] I111 (onesA y) rfl rfl (new_a _) rfl ?_; intro w3 b3 f3; have B3 := hid b3; have d1 : w3.cell? ⟨w.heap.size, 1, none⟩ = some (.int .i64 y.s) := b3.cell 1; have S3 : Hid (Still w w3) := hid (Still.next ((Fr.refl _ _).alloc _) f3 (fun k hk => by rw [hk]; exact Nat.le_refl _)); have g6 : w3.cell? ⟨6, 3, none⟩ = some (.int .i64 4) := (HT.out.still S3.out) 3 (by omega); clear b3 f3))
      go_quiet (fail)
      clear tn HS d1 g6
      go_wp2_with fail
      refine (HC.out _ _ y HY.out (S3.out.drewN _) (B3.out.still ((Fr.refl _ _).drewN _)) (Nat.le_refl _)).mono ?_
      rintro e w6 ⟨rfl, b6, f6⟩
      have F6 := hid f6
      have S6 : Hid (Still w w6) := hid (Still.next (S3.out.drewN _) f6 (fun k hk => by rw [hk]; exact Nat.le_refl _))
      have G6 := Still.cell S6.out F1
      by_cases hce : ce = 0
      · have e7 : (ce != 0) = false := by simp [hce]
        have B6 := hid (b6 hce)
        have EE := hid (t_yes (st := 3) (cz := cz) HF.out (by rw [HY.out]; exact TN.out) hce)
        have z1 := B6.out.frozen 1
        have d1 : w6.cell? ⟨w.heap.size, 1, none⟩ = some (.int .i64 cz.s) := B6.out.cell 1
        clear b6 f6 hce F1
        go_wp2_with fail
        obtain ⟨w7, hw7⟩ : ∃ w7, w6.setCell ⟨w.heap.size, 1, none⟩ (.int .i64 3) = w7 := ⟨_, rfl⟩
        rw [hw7]
        have S7 : Hid (Still w w7) := hid (by rw [← hw7]; exact Fr.setCell S6.out (.inr (Nat.le_refl _)) _)
        obtain ⟨z, hz⟩ : ∃ z : Ac, { cz with s := 3 } = z := ⟨_, rfl⟩
        have B7 : Blk w7 w.heap.size [.int .i64 z.i, .int .i64 z.s, .int .i64 z.sp, .int .i64 z.co, .int .i64 z.th, .int .i64 z.c.p, .int .i64 z.c.q, .int .i64 z.c.r0, .int .i64 z.c.r1, .int .i64 z.c.r2, .int .i64 z.c.r3, .int .i64 z.c.r4, .int .i64 z.c.r5, .int .i64 z.c.r6, .int .i64 z.c.r7, .int .i64 z.c.d] 111 := by subst hz; rw [← hw7]; exact B6.out.put 1 _
        have G7 : w7.cell? ⟨P, 1, none⟩ = some (.map (some M)) := by rw [← hw7]; exact put_far G6 (by omega)
        have zi : Hid (z.i = id) := hid (by subst hz; exact HZ.out HF.out)
        have R7 : w7.rangeAt w.heap.size 0 [.int .i64 z.i, .int .i64 z.s, .int .i64 z.sp, .int .i64 z.co, .int .i64 z.th, .int .i64 z.c.p, .int .i64 z.c.q, .int .i64 z.c.r0, .int .i64 z.c.r1, .int .i64 z.c.r2, .int .i64 z.c.r3, .int .i64 z.c.r4, .int .i64 z.c.r5, .int .i64 z.c.r6, .int .i64 z.c.r7, .int .i64 z.c.d] := fun j v hv => by rw [Nat.zero_add, B7.cell j]; exact hv
        have HZZ := hid hz
        clear hz G6 B7 hw7 d1 z1 e7
        refine Held.wp_region_held_tail (S := (fun w' => w'.cell? ⟨P, 1, none⟩ = some (.map (some M)) ∧ w'.rangeAt w.heap.size 0 [.int .i64 z.i, .int .i64 z.s, .int .i64 z.sp, .int .i64 z.co, .int .i64 z.th, .int .i64 z.c.p, .int .i64 z.c.q, .int .i64 z.c.r0, .int .i64 z.c.r1, .int .i64 z.c.r2, .int .i64 z.c.r3, .int .i64 z.c.r4, .int .i64 z.c.r5, .int .i64 z.c.r6, .int .i64 z.c.r7, .int .i64 z.c.d])) 6 (by kernel_rfl) (by kernel_rfl) (by decide) ?hS7 (fun hHeld => ?hR7)
        case hS7 =>
          exact ⟨G7, R7⟩
        simp only [List.take_succ_cons, List.take_zero, List.drop_succ_cons, List.drop_zero]
        refine wpAnyH_take (i := 0) (oi := _) (v := ?v8) rfl (by kernel_rfl) (by kernel_rfl) (by kernel_rfl) (fun _ _ _ h => h) (Or.inl ⟨by rfl, ?y8⟩) (by assumption) ?r8
        case y8 => ((intro w hSw); (try dsimp only at hSw); go_simp; (try with_reducible rfl))
        (try simp only [Act.put, List.setIfInBounds_toArray, List.set_cons_zero, List.set_cons_succ])
        refine wpAnyH_take (i := 5) (oi := _) (v := (Value.agg #[.int .i64 z.i, .int .i64 z.s, .int .i64 z.sp, .int .i64 z.co, .int .i64 z.th, .int .i64 z.c.p, .int .i64 z.c.q, .int .i64 z.c.r0, .int .i64 z.c.r1, .int .i64 z.c.r2, .int .i64 z.c.r3, .int .i64 z.c.r4, .int .i64 z.c.r5, .int .i64 z.c.r6, .int .i64 z.c.r7, .int .i64 z.c.d])) rfl (by kernel_rfl) (by kernel_rfl) (by kernel_rfl) (fun _ _ _ h => h) (yieldsIf_load_mid rfl 111 _ rfl w.heap.size 0 rfl [.int .i64 z.i, .int .i64 z.s, .int .i64 z.sp, .int .i64 z.co, .int .i64 z.th, .int .i64 z.c.p, .int .i64 z.c.q, .int .i64 z.c.r0, .int .i64 z.c.r1, .int .i64 z.c.r2, .int .i64 z.c.r3, .int .i64 z.c.r4, .int .i64 z.c.r5, .int .i64 z.c.r6, .int .i64 z.c.r7, .int .i64 z.c.d] _ (fun w h => h.2) Tryd.underlying111 rfl I111) (by assumption) ?rM
        simp only [Act.put, List.setIfInBounds_toArray, List.set_cons_zero, List.set_cons_succ]
        refine wpAnyH_take (i := 1) (oi := _) (v := ?v9) rfl (by kernel_rfl) (by kernel_rfl) (by kernel_rfl) (fun _ _ _ h => h) (Or.inl ⟨by rfl, ?y9⟩) (by assumption) ?r9
        case y9 => ((intro w hSw); (try dsimp only at hSw); go_simp; (try with_reducible rfl))
        (try simp only [Act.put, List.setIfInBounds_toArray, List.set_cons_zero, List.set_cons_succ])
        refine wpAnyH_take (i := 2) (oi := _) (v := ?v10) rfl (by kernel_rfl) (by kernel_rfl) (by kernel_rfl) (fun _ _ _ h => h) (Or.inl ⟨by rfl, ?y10⟩) (by assumption) ?r10
        case y10 => ((intro w hSw); (try dsimp only at hSw); go_simp; (try with_reducible rfl))
        (try simp only [Act.put, List.setIfInBounds_toArray, List.set_cons_zero, List.set_cons_succ])
        refine wpAnyH_take (i := 3) (oi := _) (v := ?v11) rfl (by kernel_rfl) (by kernel_rfl) (by kernel_rfl) (fun _ _ _ h => h) (Or.inl ⟨by rfl, ?y11⟩) (by assumption) ?r11
        case y11 => ((intro w hSw); (try dsimp only at hSw); go_simp; (try with_reducible rfl))
        (try simp only [Act.put, List.setIfInBounds_toArray, List.set_cons_zero, List.set_cons_succ])
        refine wpAnyH_take (i := 4) (oi := _) (v := ?v12) rfl (by kernel_rfl) (by kernel_rfl) (by kernel_rfl) (fun _ _ _ h => h) (Or.inl ⟨by rfl, ?y12⟩) (by assumption) ?r12
        case y12 => ((intro w hSw); (try dsimp only at hSw); go_simp; (try with_reducible rfl))
        (try simp only [Act.put, List.setIfInBounds_toArray, List.set_cons_zero, List.set_cons_succ])
        refine wpAnyH_done (by kernel_rfl) (Held.tailQ_normal ?_) _
        simp only [Act.put, List.getElem_toArray, List.getElem_cons_zero, List.getElem_cons_succ, List.setIfInBounds_toArray, List.set_cons_zero, List.set_cons_succ]
        have T7 := hid (H.out.still S7.out)
        refine wpList_putA rfl (.tmp 46) (.tmp 47) (.tmp 48) rfl T7.out.m.drew HL.out z (by rw [zi.out]; exact WF.out) rfl (by rw [zi.out]; rfl) rfl ?_
        intro w8 m8 f8
        have T8 := hid (T7.out.drew.put m8 f8)
        have F8 := hid (((S7.out.fr (fun k => k = M)).drew).trans f8)
        clear m8 f8
        go_wp2_with fail
        go_ret
        exact ⟨by rw [EE.out.1]; rfl, by rw [EE.out.2, HZZ.out]; exact T8.out, F8.out⟩
      · have e7 : (ce != 0) = true := by simp [hce]
        have EE := hid (t_err (st := 3) (cz := cz) HF.out (by rw [HY.out]; exact TN.out) hce)
        clear b6 f6 hce
        go_wp2_with fail
        go_ret
        exact ⟨by rw [EE.out.1]; rfl, by rw [EE.out.2]; exact H.out.still S6.out, S6.out.fr _⟩
set_option maxRecDepth 100000 in
set_option maxHeartbeats 4000000 in
theorem aturn108 (h : AAt w P B M s L) (hl : L.length < maxLen) (hT : TabF w) (id : Int) (wf : (Lit.int .i64 id).wf = true) (hs : ∀ x ∈ L, 1 ≤ x.s ∧ x.s ≤ 5) {bc : Nat} (ce : Int) (cz : Ac) (hcz : fndO L id = true → cz.i = id)
    (hc : ∀ (u : World) (b : Nat) (y : Ac), fndA L id = y → Still w u → Blk u b [.int .i64 y.i, .int .i64 y.s, .int .i64 y.sp, .int .i64 y.co, .int .i64 y.th, .int .i64 y.c.p, .int .i64 y.c.q, .int .i64 y.c.r0, .int .i64 y.c.r1, .int .i64 y.c.r2, .int .i64 y.c.r3, .int .i64 y.c.r4, .int .i64 y.c.r5, .int .i64 y.c.r6, .int .i64 y.c.r7, .int .i64 y.c.d] 111 → w.heap.size ≤ b → Calls Tryd.prog 108 #[.pointer (some ⟨b, 0, none⟩), .pointer (some ⟨bc, 0, none⟩)] u (ChgPost u b ce cz)) :
    Calls Tryd.prog 104 #[.pointer (some ⟨P, 0, none⟩), .int .i64 id, .int .i64 4, .func (.func 108) #[] #[.pointer (some ⟨bc, 0, none⟩)]] w fun e w' =>
    e = .returned (.int .i64 (tE L id 4 ce)) ∧ AAt w' P B M s (tL L id 4 4 ce cz) ∧ Fr (fun k => k = M) w w' := by
  have H := hid h
  have F1 := h.f1
  have WF := hid wf
  have HT := hid hT
  have HL := hid hl
  have HZ := hid hcz
  have HC := hid hc
  have HSS := hid hs
  have hPl := h.ltP
  clear h wf hT hl hcz hc hs
  have FK := hid (fndA_some (L := L) (k := id))
  obtain ⟨y, hy⟩ : ∃ y, fndA L id = y := ⟨_, rfl⟩
  obtain ⟨f, hf⟩ : ∃ f, fndO L id = f := ⟨_, rfl⟩
  have HY := hid hy
  have HF := hid hf
  clear hy hf
  go_enter Tryd.func104, Tryd.ntmps104
  go_wp2_with fail
  refine (amade H.out).mono ?_
  rintro e w1 ⟨rfl, rfl⟩
  cases f with
  | false =>
    have EE := hid (t_none (fr := 4) (st := 4) (ce := ce) (cz := cz) HF.out)
    have N1 : True := trivial
    have N2 : True := trivial
    go_wp2_with (first
      | (at_lookup; clear N1; refine wpList_lookA rfl (.tmp 19) (.tmp 20) rfl H.out.m rfl id WF.out rfl ?_; rw [HY.out, HF.out]; dsimp only [actE])
      | (clear N2; refine wpList_storeW rfl (.tmp 9) (.tmp 22) 111 rfl _ 111 [.int .i64 a0.i, .int .i64 a0.s, .int .i64 a0.sp, .int .i64 a0.co, .int .i64 a0.th, .int .i64 a0.c.p, .int .i64 a0.c.q, .int .i64 a0.c.r0, .int .i64 a0.c.r1, .int .i64 a0.c.r2, .int .i64 a0.c.r3, .int .i64 a0.c.r4, .int .i64 a0.c.r5, .int .i64 a0.c.r6, .int .i64 a0.c.r7, .int .i64 a0.c.d] [.int .i64 y.i, .int .i64 y.s, .int .i64 y.sp, .int .i64 y.co, .int .i64 y.th, .int .i64 y.c.p, .int .i64 y.c.q, .int .i64 y.c.r0, .int .i64 y.c.r1, .int .i64 y.c.r2, .int .i64 y.c.r3, .int .i64 y.c.r4, .int .i64 y.c.r5, .int .i64 y.c.r6, .int .i64 y.c.r7, .int .i64 y.c.d] I111 (onesA y) rfl rfl (new_a _) rfl ?_; intro w3 b3 f3; have B3 := hid b3; have S3 : Hid (Still w w3) := hid (Still.next ((Fr.refl _ _).alloc _) f3 (fun k hk => by rw [hk]; exact Nat.le_refl _)); clear b3 f3))
    go_ret
    exact ⟨by rw [EE.out.1]; rfl, by rw [EE.out.2]; exact H.out.still S3.out, S3.out.fr _⟩
  | true =>
    have HS : 1 ≤ y.s ∧ y.s ≤ 5 := by rw [← HY.out]; exact HSS.out _ (FK.out HF.out).2
    by_cases htn : turnN 4 y.s = true
    · have tn : (bits BinOp.and IntKind.i64 (4 / 2 ^ y.s.toNat) 1 == 0) = true := htn
      have EE := hid (t_ref (L := L) (k := id) (fr := 4) (st := 4) (ce := ce) (cz := cz) HF.out (by rw [HY.out]; exact htn))
      clear htn
      have N1 : True := trivial
      have N2 : True := trivial
      go_wp2_with (first
        | (at_lookup; clear N1; refine wpList_lookA rfl (.tmp 19) (.tmp 20) rfl H.out.m rfl id WF.out rfl ?_; rw [HY.out, HF.out]; dsimp only [actE])
        | (clear N2; refine wpList_storeW rfl (.tmp 9) (.tmp 22) 111 rfl _ 111 [.int .i64 a0.i, .int .i64 a0.s, .int .i64 a0.sp, .int .i64 a0.co, .int .i64 a0.th, .int .i64 a0.c.p, .int .i64 a0.c.q, .int .i64 a0.c.r0, .int .i64 a0.c.r1, .int .i64 a0.c.r2, .int .i64 a0.c.r3, .int .i64 a0.c.r4, .int .i64 a0.c.r5, .int .i64 a0.c.r6, .int .i64 a0.c.r7, .int .i64 a0.c.d] [.int .i64 y.i, .int .i64 y.s, .int .i64 y.sp, .int .i64 y.co, .int .i64 y.th, .int .i64 y.c.p, .int .i64 y.c.q, .int .i64 y.c.r0, .int .i64 y.c.r1, .int .i64 y.c.r2, .int .i64 y.c.r3, .int .i64 y.c.r4, .int .i64 y.c.r5, .int .i64 y.c.r6, .int .i64 y.c.r7, .int .i64 y.c.d] I111 (onesA y) rfl rfl (new_a _) rfl ?_; intro w3 b3 f3; have B3 := hid b3; have d1 : w3.cell? ⟨w.heap.size, 1, none⟩ = some (.int .i64 y.s) := b3.cell 1; have S3 : Hid (Still w w3) := hid (Still.next ((Fr.refl _ _).alloc _) f3 (fun k hk => by rw [hk]; exact Nat.le_refl _)); have g6 : w3.cell? ⟨6, 4, none⟩ = some (.int .i64 4) := (HT.out.still S3.out) 4 (by omega); clear b3 f3))
      go_quiet (fail)
      go_wp2_with fail
      go_ret
      exact ⟨by rw [EE.out.1]; rfl, by rw [EE.out.2]; exact H.out.still (S3.out.drewN _), (S3.out.fr (fun k => k = M)).drewN _⟩
    · have tn0 : turnN 4 y.s = false := by simpa using htn
      have tn : (bits BinOp.and IntKind.i64 (4 / 2 ^ y.s.toNat) 1 == 0) = false := tn0
      have TN := hid tn0
      clear htn tn0
      have N1 : True := trivial
      have N2 : True := trivial
      go_wp2_with (first
        | (at_lookup; clear N1; refine wpList_lookA rfl (.tmp 19) (.tmp 20) rfl H.out.m rfl id WF.out rfl ?_; rw [HY.out, HF.out]; dsimp only [actE])
        | (clear N2; refine wpList_storeW rfl (.tmp 9) (.tmp 22) 111 rfl _ 111 [.int .i64 a0.i, .int .i64 a0.s, .int .i64 a0.sp, .int .i64 a0.co, .int .i64 a0.th, .int .i64 a0.c.p, .int .i64 a0.c.q, .int .i64 a0.c.r0, .int .i64 a0.c.r1, .int .i64 a0.c.r2, .int .i64 a0.c.r3, .int .i64 a0.c.r4, .int .i64 a0.c.r5, .int .i64 a0.c.r6, .int .i64 a0.c.r7, .int .i64 a0.c.d] [.int .i64 y.i, .int .i64 y.s, .int .i64 y.sp, .int .i64 y.co, .int .i64 y.th, .int .i64 y.c.p, .int .i64 y.c.q, .int .i64 y.c.r0, .int .i64 y.c.r1, .int .i64 y.c.r2, .int .i64 y.c.r3, .int .i64 y.c.r4, .int .i64 y.c.r5, .int .i64 y.c.r6, .int .i64 y.c.r7, .int .i64 y.c.d] I111 (onesA y) rfl rfl (new_a _) rfl ?_; intro w3 b3 f3; have B3 := hid b3; have d1 : w3.cell? ⟨w.heap.size, 1, none⟩ = some (.int .i64 y.s) := b3.cell 1; have S3 : Hid (Still w w3) := hid (Still.next ((Fr.refl _ _).alloc _) f3 (fun k hk => by rw [hk]; exact Nat.le_refl _)); have g6 : w3.cell? ⟨6, 4, none⟩ = some (.int .i64 4) := (HT.out.still S3.out) 4 (by omega); clear b3 f3))
      go_quiet (fail)
      clear tn HS d1 g6
      go_wp2_with fail
      refine (HC.out _ _ y HY.out (S3.out.drewN _) (B3.out.still ((Fr.refl _ _).drewN _)) (Nat.le_refl _)).mono ?_
      rintro e w6 ⟨rfl, b6, f6⟩
      have F6 := hid f6
      have S6 : Hid (Still w w6) := hid (Still.next (S3.out.drewN _) f6 (fun k hk => by rw [hk]; exact Nat.le_refl _))
      have G6 := Still.cell S6.out F1
      by_cases hce : ce = 0
      · have e7 : (ce != 0) = false := by simp [hce]
        have B6 := hid (b6 hce)
        have EE := hid (t_yes (st := 4) (cz := cz) HF.out (by rw [HY.out]; exact TN.out) hce)
        have z1 := B6.out.frozen 1
        have d1 : w6.cell? ⟨w.heap.size, 1, none⟩ = some (.int .i64 cz.s) := B6.out.cell 1
        clear b6 f6 hce F1
        go_wp2_with fail
        obtain ⟨w7, hw7⟩ : ∃ w7, w6.setCell ⟨w.heap.size, 1, none⟩ (.int .i64 4) = w7 := ⟨_, rfl⟩
        rw [hw7]
        have S7 : Hid (Still w w7) := hid (by rw [← hw7]; exact Fr.setCell S6.out (.inr (Nat.le_refl _)) _)
        obtain ⟨z, hz⟩ : ∃ z : Ac, { cz with s := 4 } = z := ⟨_, rfl⟩
        have B7 : Blk w7 w.heap.size [.int .i64 z.i, .int .i64 z.s, .int .i64 z.sp, .int .i64 z.co, .int .i64 z.th, .int .i64 z.c.p, .int .i64 z.c.q, .int .i64 z.c.r0, .int .i64 z.c.r1, .int .i64 z.c.r2, .int .i64 z.c.r3, .int .i64 z.c.r4, .int .i64 z.c.r5, .int .i64 z.c.r6, .int .i64 z.c.r7, .int .i64 z.c.d] 111 := by subst hz; rw [← hw7]; exact B6.out.put 1 _
        have G7 : w7.cell? ⟨P, 1, none⟩ = some (.map (some M)) := by rw [← hw7]; exact put_far G6 (by omega)
        have zi : Hid (z.i = id) := hid (by subst hz; exact HZ.out HF.out)
        have R7 : w7.rangeAt w.heap.size 0 [.int .i64 z.i, .int .i64 z.s, .int .i64 z.sp, .int .i64 z.co, .int .i64 z.th, .int .i64 z.c.p, .int .i64 z.c.q, .int .i64 z.c.r0, .int .i64 z.c.r1, .int .i64 z.c.r2, .int .i64 z.c.r3, .int .i64 z.c.r4, .int .i64 z.c.r5, .int .i64 z.c.r6, .int .i64 z.c.r7, .int .i64 z.c.d] := fun j v hv => by rw [Nat.zero_add, B7.cell j]; exact hv
        have HZZ := hid hz
        clear hz G6 B7 hw7 d1 z1 e7
        refine Held.wp_region_held_tail (S := (fun w' => w'.cell? ⟨P, 1, none⟩ = some (.map (some M)) ∧ w'.rangeAt w.heap.size 0 [.int .i64 z.i, .int .i64 z.s, .int .i64 z.sp, .int .i64 z.co, .int .i64 z.th, .int .i64 z.c.p, .int .i64 z.c.q, .int .i64 z.c.r0, .int .i64 z.c.r1, .int .i64 z.c.r2, .int .i64 z.c.r3, .int .i64 z.c.r4, .int .i64 z.c.r5, .int .i64 z.c.r6, .int .i64 z.c.r7, .int .i64 z.c.d])) 6 (by kernel_rfl) (by kernel_rfl) (by decide) ?hS13 (fun hHeld => ?hR13)
        case hS13 =>
          exact ⟨G7, R7⟩
        simp only [List.take_succ_cons, List.take_zero, List.drop_succ_cons, List.drop_zero]
        refine wpAnyH_take (i := 0) (oi := _) (v := ?v14) rfl (by kernel_rfl) (by kernel_rfl) (by kernel_rfl) (fun _ _ _ h => h) (Or.inl ⟨by rfl, ?y14⟩) (by assumption) ?r14
        case y14 => ((intro w hSw); (try dsimp only at hSw); go_simp; (try with_reducible rfl))
        (try simp only [Act.put, List.setIfInBounds_toArray, List.set_cons_zero, List.set_cons_succ])
        refine wpAnyH_take (i := 5) (oi := _) (v := (Value.agg #[.int .i64 z.i, .int .i64 z.s, .int .i64 z.sp, .int .i64 z.co, .int .i64 z.th, .int .i64 z.c.p, .int .i64 z.c.q, .int .i64 z.c.r0, .int .i64 z.c.r1, .int .i64 z.c.r2, .int .i64 z.c.r3, .int .i64 z.c.r4, .int .i64 z.c.r5, .int .i64 z.c.r6, .int .i64 z.c.r7, .int .i64 z.c.d])) rfl (by kernel_rfl) (by kernel_rfl) (by kernel_rfl) (fun _ _ _ h => h) (yieldsIf_load_mid rfl 111 _ rfl w.heap.size 0 rfl [.int .i64 z.i, .int .i64 z.s, .int .i64 z.sp, .int .i64 z.co, .int .i64 z.th, .int .i64 z.c.p, .int .i64 z.c.q, .int .i64 z.c.r0, .int .i64 z.c.r1, .int .i64 z.c.r2, .int .i64 z.c.r3, .int .i64 z.c.r4, .int .i64 z.c.r5, .int .i64 z.c.r6, .int .i64 z.c.r7, .int .i64 z.c.d] _ (fun w h => h.2) Tryd.underlying111 rfl I111) (by assumption) ?rM
        simp only [Act.put, List.setIfInBounds_toArray, List.set_cons_zero, List.set_cons_succ]
        refine wpAnyH_take (i := 1) (oi := _) (v := ?v15) rfl (by kernel_rfl) (by kernel_rfl) (by kernel_rfl) (fun _ _ _ h => h) (Or.inl ⟨by rfl, ?y15⟩) (by assumption) ?r15
        case y15 => ((intro w hSw); (try dsimp only at hSw); go_simp; (try with_reducible rfl))
        (try simp only [Act.put, List.setIfInBounds_toArray, List.set_cons_zero, List.set_cons_succ])
        refine wpAnyH_take (i := 2) (oi := _) (v := ?v16) rfl (by kernel_rfl) (by kernel_rfl) (by kernel_rfl) (fun _ _ _ h => h) (Or.inl ⟨by rfl, ?y16⟩) (by assumption) ?r16
        case y16 => ((intro w hSw); (try dsimp only at hSw); go_simp; (try with_reducible rfl))
        (try simp only [Act.put, List.setIfInBounds_toArray, List.set_cons_zero, List.set_cons_succ])
        refine wpAnyH_take (i := 3) (oi := _) (v := ?v17) rfl (by kernel_rfl) (by kernel_rfl) (by kernel_rfl) (fun _ _ _ h => h) (Or.inl ⟨by rfl, ?y17⟩) (by assumption) ?r17
        case y17 => ((intro w hSw); (try dsimp only at hSw); go_simp; (try with_reducible rfl))
        (try simp only [Act.put, List.setIfInBounds_toArray, List.set_cons_zero, List.set_cons_succ])
        refine wpAnyH_take (i := 4) (oi := _) (v := ?v18) rfl (by kernel_rfl) (by kernel_rfl) (by kernel_rfl) (fun _ _ _ h => h) (Or.inl ⟨by rfl, ?y18⟩) (by assumption) ?r18
        case y18 => ((intro w hSw); (try dsimp only at hSw); go_simp; (try with_reducible rfl))
        (try simp only [Act.put, List.setIfInBounds_toArray, List.set_cons_zero, List.set_cons_succ])
        refine wpAnyH_done (by kernel_rfl) (Held.tailQ_normal ?_) _
        simp only [Act.put, List.getElem_toArray, List.getElem_cons_zero, List.getElem_cons_succ, List.setIfInBounds_toArray, List.set_cons_zero, List.set_cons_succ]
        have T7 := hid (H.out.still S7.out)
        refine wpList_putA rfl (.tmp 46) (.tmp 47) (.tmp 48) rfl T7.out.m.drew HL.out z (by rw [zi.out]; exact WF.out) rfl (by rw [zi.out]; rfl) rfl ?_
        intro w8 m8 f8
        have T8 := hid (T7.out.drew.put m8 f8)
        have F8 := hid (((S7.out.fr (fun k => k = M)).drew).trans f8)
        clear m8 f8
        go_wp2_with fail
        go_ret
        exact ⟨by rw [EE.out.1]; rfl, by rw [EE.out.2, HZZ.out]; exact T8.out, F8.out⟩
      · have e7 : (ce != 0) = true := by simp [hce]
        have EE := hid (t_err (st := 4) (cz := cz) HF.out (by rw [HY.out]; exact TN.out) hce)
        clear b6 f6 hce
        go_wp2_with fail
        go_ret
        exact ⟨by rw [EE.out.1]; rfl, by rw [EE.out.2]; exact H.out.still S6.out, S6.out.fr _⟩
set_option maxRecDepth 100000 in
set_option maxHeartbeats 4000000 in
theorem aturn109 (h : AAt w P B M s L) (hl : L.length < maxLen) (hT : TabF w) (id : Int) (wf : (Lit.int .i64 id).wf = true) (hs : ∀ x ∈ L, 1 ≤ x.s ∧ x.s ≤ 5) (ce : Int) (cz : Ac) (hcz : fndO L id = true → cz.i = id)
    (hc : ∀ (u : World) (b : Nat) (y : Ac), fndA L id = y → Still w u → Blk u b [.int .i64 y.i, .int .i64 y.s, .int .i64 y.sp, .int .i64 y.co, .int .i64 y.th, .int .i64 y.c.p, .int .i64 y.c.q, .int .i64 y.c.r0, .int .i64 y.c.r1, .int .i64 y.c.r2, .int .i64 y.c.r3, .int .i64 y.c.r4, .int .i64 y.c.r5, .int .i64 y.c.r6, .int .i64 y.c.r7, .int .i64 y.c.d] 111 → w.heap.size ≤ b → Calls Tryd.prog 109 #[.pointer (some ⟨b, 0, none⟩)] u (ChgPost u b ce cz)) :
    Calls Tryd.prog 104 #[.pointer (some ⟨P, 0, none⟩), .int .i64 id, .int .i64 5, .func (.func 109) #[] #[]] w fun e w' =>
    e = .returned (.int .i64 (tE L id 28 ce)) ∧ AAt w' P B M s (tL L id 28 5 ce cz) ∧ Fr (fun k => k = M) w w' := by
  have H := hid h
  have F1 := h.f1
  have WF := hid wf
  have HT := hid hT
  have HL := hid hl
  have HZ := hid hcz
  have HC := hid hc
  have HSS := hid hs
  have hPl := h.ltP
  clear h wf hT hl hcz hc hs
  have FK := hid (fndA_some (L := L) (k := id))
  obtain ⟨y, hy⟩ : ∃ y, fndA L id = y := ⟨_, rfl⟩
  obtain ⟨f, hf⟩ : ∃ f, fndO L id = f := ⟨_, rfl⟩
  have HY := hid hy
  have HF := hid hf
  clear hy hf
  go_enter Tryd.func104, Tryd.ntmps104
  go_wp2_with fail
  refine (amade H.out).mono ?_
  rintro e w1 ⟨rfl, rfl⟩
  cases f with
  | false =>
    have EE := hid (t_none (fr := 28) (st := 5) (ce := ce) (cz := cz) HF.out)
    have N1 : True := trivial
    have N2 : True := trivial
    go_wp2_with (first
      | (at_lookup; clear N1; refine wpList_lookA rfl (.tmp 19) (.tmp 20) rfl H.out.m rfl id WF.out rfl ?_; rw [HY.out, HF.out]; dsimp only [actE])
      | (clear N2; refine wpList_storeW rfl (.tmp 9) (.tmp 22) 111 rfl _ 111 [.int .i64 a0.i, .int .i64 a0.s, .int .i64 a0.sp, .int .i64 a0.co, .int .i64 a0.th, .int .i64 a0.c.p, .int .i64 a0.c.q, .int .i64 a0.c.r0, .int .i64 a0.c.r1, .int .i64 a0.c.r2, .int .i64 a0.c.r3, .int .i64 a0.c.r4, .int .i64 a0.c.r5, .int .i64 a0.c.r6, .int .i64 a0.c.r7, .int .i64 a0.c.d] [.int .i64 y.i, .int .i64 y.s, .int .i64 y.sp, .int .i64 y.co, .int .i64 y.th, .int .i64 y.c.p, .int .i64 y.c.q, .int .i64 y.c.r0, .int .i64 y.c.r1, .int .i64 y.c.r2, .int .i64 y.c.r3, .int .i64 y.c.r4, .int .i64 y.c.r5, .int .i64 y.c.r6, .int .i64 y.c.r7, .int .i64 y.c.d] I111 (onesA y) rfl rfl (new_a _) rfl ?_; intro w3 b3 f3; have B3 := hid b3; have S3 : Hid (Still w w3) := hid (Still.next ((Fr.refl _ _).alloc _) f3 (fun k hk => by rw [hk]; exact Nat.le_refl _)); clear b3 f3))
    go_ret
    exact ⟨by rw [EE.out.1]; rfl, by rw [EE.out.2]; exact H.out.still S3.out, S3.out.fr _⟩
  | true =>
    have HS : 1 ≤ y.s ∧ y.s ≤ 5 := by rw [← HY.out]; exact HSS.out _ (FK.out HF.out).2
    by_cases htn : turnN 28 y.s = true
    · have tn : (bits BinOp.and IntKind.i64 (28 / 2 ^ y.s.toNat) 1 == 0) = true := htn
      have EE := hid (t_ref (L := L) (k := id) (fr := 28) (st := 5) (ce := ce) (cz := cz) HF.out (by rw [HY.out]; exact htn))
      clear htn
      have N1 : True := trivial
      have N2 : True := trivial
      go_wp2_with (first
        | (at_lookup; clear N1; refine wpList_lookA rfl (.tmp 19) (.tmp 20) rfl H.out.m rfl id WF.out rfl ?_; rw [HY.out, HF.out]; dsimp only [actE])
        | (clear N2; refine wpList_storeW rfl (.tmp 9) (.tmp 22) 111 rfl _ 111 [.int .i64 a0.i, .int .i64 a0.s, .int .i64 a0.sp, .int .i64 a0.co, .int .i64 a0.th, .int .i64 a0.c.p, .int .i64 a0.c.q, .int .i64 a0.c.r0, .int .i64 a0.c.r1, .int .i64 a0.c.r2, .int .i64 a0.c.r3, .int .i64 a0.c.r4, .int .i64 a0.c.r5, .int .i64 a0.c.r6, .int .i64 a0.c.r7, .int .i64 a0.c.d] [.int .i64 y.i, .int .i64 y.s, .int .i64 y.sp, .int .i64 y.co, .int .i64 y.th, .int .i64 y.c.p, .int .i64 y.c.q, .int .i64 y.c.r0, .int .i64 y.c.r1, .int .i64 y.c.r2, .int .i64 y.c.r3, .int .i64 y.c.r4, .int .i64 y.c.r5, .int .i64 y.c.r6, .int .i64 y.c.r7, .int .i64 y.c.d] I111 (onesA y) rfl rfl (new_a _) rfl ?_; intro w3 b3 f3; have B3 := hid b3; have d1 : w3.cell? ⟨w.heap.size, 1, none⟩ = some (.int .i64 y.s) := b3.cell 1; have S3 : Hid (Still w w3) := hid (Still.next ((Fr.refl _ _).alloc _) f3 (fun k hk => by rw [hk]; exact Nat.le_refl _)); have g6 : w3.cell? ⟨6, 5, none⟩ = some (.int .i64 28) := (HT.out.still S3.out) 5 (by omega); clear b3 f3))
      go_quiet (fail)
      go_wp2_with fail
      go_ret
      exact ⟨by rw [EE.out.1]; rfl, by rw [EE.out.2]; exact H.out.still (S3.out.drewN _), (S3.out.fr (fun k => k = M)).drewN _⟩
    · have tn0 : turnN 28 y.s = false := by simpa using htn
      have tn : (bits BinOp.and IntKind.i64 (28 / 2 ^ y.s.toNat) 1 == 0) = false := tn0
      have TN := hid tn0
      clear htn tn0
      have N1 : True := trivial
      have N2 : True := trivial
      go_wp2_with (first
        | (at_lookup; clear N1; refine wpList_lookA rfl (.tmp 19) (.tmp 20) rfl H.out.m rfl id WF.out rfl ?_; rw [HY.out, HF.out]; dsimp only [actE])
        | (clear N2; refine wpList_storeW rfl (.tmp 9) (.tmp 22) 111 rfl _ 111 [.int .i64 a0.i, .int .i64 a0.s, .int .i64 a0.sp, .int .i64 a0.co, .int .i64 a0.th, .int .i64 a0.c.p, .int .i64 a0.c.q, .int .i64 a0.c.r0, .int .i64 a0.c.r1, .int .i64 a0.c.r2, .int .i64 a0.c.r3, .int .i64 a0.c.r4, .int .i64 a0.c.r5, .int .i64 a0.c.r6, .int .i64 a0.c.r7, .int .i64 a0.c.d] [.int .i64 y.i, .int .i64 y.s, .int .i64 y.sp, .int .i64 y.co, .int .i64 y.th, .int .i64 y.c.p, .int .i64 y.c.q, .int .i64 y.c.r0, .int .i64 y.c.r1, .int .i64 y.c.r2, .int .i64 y.c.r3, .int .i64 y.c.r4, .int .i64 y.c.r5, .int .i64 y.c.r6, .int .i64 y.c.r7, .int .i64 y.c.d] I111 (onesA y) rfl rfl (new_a _) rfl ?_; intro w3 b3 f3; have B3 := hid b3; have d1 : w3.cell? ⟨w.heap.size, 1, none⟩ = some (.int .i64 y.s) := b3.cell 1; have S3 : Hid (Still w w3) := hid (Still.next ((Fr.refl _ _).alloc _) f3 (fun k hk => by rw [hk]; exact Nat.le_refl _)); have g6 : w3.cell? ⟨6, 5, none⟩ = some (.int .i64 28) := (HT.out.still S3.out) 5 (by omega); clear b3 f3))
      go_quiet (fail)
      clear tn HS d1 g6
      go_wp2_with fail
      refine (HC.out _ _ y HY.out (S3.out.drewN _) (B3.out.still ((Fr.refl _ _).drewN _)) (Nat.le_refl _)).mono ?_
      rintro e w6 ⟨rfl, b6, f6⟩
      have F6 := hid f6
      have S6 : Hid (Still w w6) := hid (Still.next (S3.out.drewN _) f6 (fun k hk => by rw [hk]; exact Nat.le_refl _))
      have G6 := Still.cell S6.out F1
      by_cases hce : ce = 0
      · have e7 : (ce != 0) = false := by simp [hce]
        have B6 := hid (b6 hce)
        have EE := hid (t_yes (st := 5) (cz := cz) HF.out (by rw [HY.out]; exact TN.out) hce)
        have z1 := B6.out.frozen 1
        have d1 : w6.cell? ⟨w.heap.size, 1, none⟩ = some (.int .i64 cz.s) := B6.out.cell 1
        clear b6 f6 hce F1
        go_wp2_with fail
        obtain ⟨w7, hw7⟩ : ∃ w7, w6.setCell ⟨w.heap.size, 1, none⟩ (.int .i64 5) = w7 := ⟨_, rfl⟩
        rw [hw7]
        have S7 : Hid (Still w w7) := hid (by rw [← hw7]; exact Fr.setCell S6.out (.inr (Nat.le_refl _)) _)
        obtain ⟨z, hz⟩ : ∃ z : Ac, { cz with s := 5 } = z := ⟨_, rfl⟩
        have B7 : Blk w7 w.heap.size [.int .i64 z.i, .int .i64 z.s, .int .i64 z.sp, .int .i64 z.co, .int .i64 z.th, .int .i64 z.c.p, .int .i64 z.c.q, .int .i64 z.c.r0, .int .i64 z.c.r1, .int .i64 z.c.r2, .int .i64 z.c.r3, .int .i64 z.c.r4, .int .i64 z.c.r5, .int .i64 z.c.r6, .int .i64 z.c.r7, .int .i64 z.c.d] 111 := by subst hz; rw [← hw7]; exact B6.out.put 1 _
        have G7 : w7.cell? ⟨P, 1, none⟩ = some (.map (some M)) := by rw [← hw7]; exact put_far G6 (by omega)
        have zi : Hid (z.i = id) := hid (by subst hz; exact HZ.out HF.out)
        have R7 : w7.rangeAt w.heap.size 0 [.int .i64 z.i, .int .i64 z.s, .int .i64 z.sp, .int .i64 z.co, .int .i64 z.th, .int .i64 z.c.p, .int .i64 z.c.q, .int .i64 z.c.r0, .int .i64 z.c.r1, .int .i64 z.c.r2, .int .i64 z.c.r3, .int .i64 z.c.r4, .int .i64 z.c.r5, .int .i64 z.c.r6, .int .i64 z.c.r7, .int .i64 z.c.d] := fun j v hv => by rw [Nat.zero_add, B7.cell j]; exact hv
        have HZZ := hid hz
        clear hz G6 B7 hw7 d1 z1 e7
        refine Held.wp_region_held_tail (S := (fun w' => w'.cell? ⟨P, 1, none⟩ = some (.map (some M)) ∧ w'.rangeAt w.heap.size 0 [.int .i64 z.i, .int .i64 z.s, .int .i64 z.sp, .int .i64 z.co, .int .i64 z.th, .int .i64 z.c.p, .int .i64 z.c.q, .int .i64 z.c.r0, .int .i64 z.c.r1, .int .i64 z.c.r2, .int .i64 z.c.r3, .int .i64 z.c.r4, .int .i64 z.c.r5, .int .i64 z.c.r6, .int .i64 z.c.r7, .int .i64 z.c.d])) 6 (by kernel_rfl) (by kernel_rfl) (by decide) ?hS19 (fun hHeld => ?hR19)
        case hS19 =>
          exact ⟨G7, R7⟩
        simp only [List.take_succ_cons, List.take_zero, List.drop_succ_cons, List.drop_zero]
        refine wpAnyH_take (i := 0) (oi := _) (v := ?v20) rfl (by kernel_rfl) (by kernel_rfl) (by kernel_rfl) (fun _ _ _ h => h) (Or.inl ⟨by rfl, ?y20⟩) (by assumption) ?r20
        case y20 => ((intro w hSw); (try dsimp only at hSw); go_simp; (try with_reducible rfl))
        (try simp only [Act.put, List.setIfInBounds_toArray, List.set_cons_zero, List.set_cons_succ])
        refine wpAnyH_take (i := 5) (oi := _) (v := (Value.agg #[.int .i64 z.i, .int .i64 z.s, .int .i64 z.sp, .int .i64 z.co, .int .i64 z.th, .int .i64 z.c.p, .int .i64 z.c.q, .int .i64 z.c.r0, .int .i64 z.c.r1, .int .i64 z.c.r2, .int .i64 z.c.r3, .int .i64 z.c.r4, .int .i64 z.c.r5, .int .i64 z.c.r6, .int .i64 z.c.r7, .int .i64 z.c.d])) rfl (by kernel_rfl) (by kernel_rfl) (by kernel_rfl) (fun _ _ _ h => h) (yieldsIf_load_mid rfl 111 _ rfl w.heap.size 0 rfl [.int .i64 z.i, .int .i64 z.s, .int .i64 z.sp, .int .i64 z.co, .int .i64 z.th, .int .i64 z.c.p, .int .i64 z.c.q, .int .i64 z.c.r0, .int .i64 z.c.r1, .int .i64 z.c.r2, .int .i64 z.c.r3, .int .i64 z.c.r4, .int .i64 z.c.r5, .int .i64 z.c.r6, .int .i64 z.c.r7, .int .i64 z.c.d] _ (fun w h => h.2) Tryd.underlying111 rfl I111) (by assumption) ?rM
        simp only [Act.put, List.setIfInBounds_toArray, List.set_cons_zero, List.set_cons_succ]
        refine wpAnyH_take (i := 1) (oi := _) (v := ?v21) rfl (by kernel_rfl) (by kernel_rfl) (by kernel_rfl) (fun _ _ _ h => h) (Or.inl ⟨by rfl, ?y21⟩) (by assumption) ?r21
        case y21 => ((intro w hSw); (try dsimp only at hSw); go_simp; (try with_reducible rfl))
        (try simp only [Act.put, List.setIfInBounds_toArray, List.set_cons_zero, List.set_cons_succ])
        refine wpAnyH_take (i := 2) (oi := _) (v := ?v22) rfl (by kernel_rfl) (by kernel_rfl) (by kernel_rfl) (fun _ _ _ h => h) (Or.inl ⟨by rfl, ?y22⟩) (by assumption) ?r22
        case y22 => ((intro w hSw); (try dsimp only at hSw); go_simp; (try with_reducible rfl))
        (try simp only [Act.put, List.setIfInBounds_toArray, List.set_cons_zero, List.set_cons_succ])
        refine wpAnyH_take (i := 3) (oi := _) (v := ?v23) rfl (by kernel_rfl) (by kernel_rfl) (by kernel_rfl) (fun _ _ _ h => h) (Or.inl ⟨by rfl, ?y23⟩) (by assumption) ?r23
        case y23 => ((intro w hSw); (try dsimp only at hSw); go_simp; (try with_reducible rfl))
        (try simp only [Act.put, List.setIfInBounds_toArray, List.set_cons_zero, List.set_cons_succ])
        refine wpAnyH_take (i := 4) (oi := _) (v := ?v24) rfl (by kernel_rfl) (by kernel_rfl) (by kernel_rfl) (fun _ _ _ h => h) (Or.inl ⟨by rfl, ?y24⟩) (by assumption) ?r24
        case y24 => ((intro w hSw); (try dsimp only at hSw); go_simp; (try with_reducible rfl))
        (try simp only [Act.put, List.setIfInBounds_toArray, List.set_cons_zero, List.set_cons_succ])
        refine wpAnyH_done (by kernel_rfl) (Held.tailQ_normal ?_) _
        simp only [Act.put, List.getElem_toArray, List.getElem_cons_zero, List.getElem_cons_succ, List.setIfInBounds_toArray, List.set_cons_zero, List.set_cons_succ]
        have T7 := hid (H.out.still S7.out)
        refine wpList_putA rfl (.tmp 46) (.tmp 47) (.tmp 48) rfl T7.out.m.drew HL.out z (by rw [zi.out]; exact WF.out) rfl (by rw [zi.out]; rfl) rfl ?_
        intro w8 m8 f8
        have T8 := hid (T7.out.drew.put m8 f8)
        have F8 := hid (((S7.out.fr (fun k => k = M)).drew).trans f8)
        clear m8 f8
        go_wp2_with fail
        go_ret
        exact ⟨by rw [EE.out.1]; rfl, by rw [EE.out.2, HZZ.out]; exact T8.out, F8.out⟩
      · have e7 : (ce != 0) = true := by simp [hce]
        have EE := hid (t_err (st := 5) (cz := cz) HF.out (by rw [HY.out]; exact TN.out) hce)
        clear b6 f6 hce
        go_wp2_with fail
        go_ret
        exact ⟨by rw [EE.out.1]; rfl, by rw [EE.out.2]; exact H.out.still S6.out, S6.out.fr _⟩
end
end Go.Proofs.YtffjaaolcphonaaDoor
/- Life: Run, Block, Preempt, Cache, Load. -/
namespace Go.Proofs.YtffjaaolcphonaaDoor
open Go.RowKit Go.Maps
set_option linter.unusedSimpArgs false
section
variable {w w' : World} {P : Nat} {B : SB} {M : Nat} {s : SS} {L : List Ac}
set_option maxRecDepth 100000 in
theorem arun (h : AAt w P B M s L) (hl : L.length < maxLen) (hT : TabF w) (id : Int) (wf : (Lit.int .i64 id).wf = true) (hs : ∀ x ∈ L, 1 ≤ x.s ∧ x.s ≤ 5) (core : Int) : Calls Tryd.prog 64 #[.pointer (some ⟨P, 0, none⟩), .int .i64 id, .int .i64 core] w fun e w' =>
    e = .returned (.int .i64 (tE L id 2 (runC L core))) ∧ AAt w' P B M s (tL L id 2 2 (runC L core) { fndA L id with co := core }) ∧ Fr (fun k => k = M) w w' := by
  have H := hid h
  have T := hid (fun (u : World) (hu : Still w u) (bc bt : Nat) => aturn105 (bc := bc) (bt := bt) (h.still hu) hl (hT.still hu) id wf hs (runC L core) { fndA L id with co := core } (fun hf => (fndA_some hf).1))
  clear h hl hT wf hs
  go_enter Tryd.func64, Tryd.ntmps64
  go_wp2_with fail
  refine (T.out _ (((Fr.refl _ _).alloc _).alloc _) (w.heap.size + 1) w.heap.size (fun u b y hy hu hb hlt => ?_)).mono ?_
  · rw [hy]
    have b1 : Box u w.heap.size (.pointer (some ⟨P, 0, none⟩)) 96 := Blk.still ((Blk.new w [.pointer (some ⟨P, 0, none⟩)] 96).alloc _) hu
    have b2 : Box u (w.heap.size + 1) (.int .i64 core) 3 := Blk.still (by have := Blk.new (w.alloc (.cells #[.pointer (some ⟨P, 0, none⟩)] 96)) [.int .i64 core] 3; simpa using this) hu
    exact arun1 (H.out.still ((((Fr.refl _ _).alloc _).alloc _ : Still w _).trans hu)) y core hb b2 b1
  rintro e w2 ⟨rfl, h2, f2⟩
  have H2 := hid h2
  have F2 : Hid (Fr (fun k => k = M) w w2) := hid ((((Fr.refl _ _).alloc _).alloc _).trans f2)
  clear h2 f2
  go_wp2_with fail
  go_ret
  exact ⟨rfl, H2.out, F2.out⟩
def blkC (L : List Ac) (k : Int) : Int := if (fndA L k).th = 0 then 5 else 0
set_option maxRecDepth 100000 in
theorem ablock (h : AAt w P B M s L) (hl : L.length < maxLen) (hT : TabF w) (id : Int) (wf : (Lit.int .i64 id).wf = true) (hs : ∀ x ∈ L, 1 ≤ x.s ∧ x.s ≤ 5) : Calls Tryd.prog 66 #[.pointer (some ⟨P, 0, none⟩), .int .i64 id] w fun e w' =>
    e = .returned (.int .i64 (tE L id 4 (blkC L id))) ∧ AAt w' P B M s (tL L id 4 3 (blkC L id) { fndA L id with co := -1 }) ∧ Fr (fun k => k = M) w w' := by
  have T := hid (aturn107 h hl hT id wf hs (blkC L id) { fndA L id with co := -1 } (fun hf => (fndA_some hf).1) (fun u b y hy hu hb hlt => by unfold blkC; rw [hy]; exact ablock1 y hb))
  clear h hl hT wf hs
  go_enter Tryd.func66, Tryd.ntmps66
  go_wp2_with fail
  refine T.out.mono ?_
  rintro e w2 ⟨rfl, h2, f2⟩
  have H2 := hid h2
  have F2 := hid f2
  clear h2 f2
  go_wp2_with fail
  go_ret
  exact ⟨rfl, H2.out, F2.out⟩
set_option maxRecDepth 100000 in
theorem apre (h : AAt w P B M s L) (hl : L.length < maxLen) (hT : TabF w) (id : Int) (wf : (Lit.int .i64 id).wf = true) (hs : ∀ x ∈ L, 1 ≤ x.s ∧ x.s ≤ 5) (c : Ctx) : Calls Tryd.prog 67 #[.pointer (some ⟨P, 0, none⟩), .int .i64 id, (Value.agg #[.int .i64 c.p, .int .i64 c.q, .int .i64 c.r0, .int .i64 c.r1, .int .i64 c.r2, .int .i64 c.r3, .int .i64 c.r4, .int .i64 c.r5, .int .i64 c.r6, .int .i64 c.r7, .int .i64 c.d])] w fun e w' =>
    e = .returned (.int .i64 (tE L id 4 0)) ∧ AAt w' P B M s (tL L id 4 4 0 { fndA L id with co := -1, c := c }) ∧ Fr (fun k => k = M) w w' := by
  have T := hid (fun (u : World) (hu : Still w u) (bc : Nat) => aturn108 (bc := bc) (h.still hu) hl (hT.still hu) id wf hs 0 { fndA L id with co := -1, c := c } (fun hf => (fndA_some hf).1))
  clear h hl hT wf hs
  go_enter Tryd.func67, Tryd.ntmps67
  go_wp2_with fail
  refine (T.out _ ((Fr.refl _ _).alloc _) w.heap.size (fun u b y hy hu hb hlt => ?_)).mono ?_
  · rw [hy]
    exact apre1 y c hb (Blk.still (Blk.new w [.int .i64 c.p, .int .i64 c.q, .int .i64 c.r0, .int .i64 c.r1, .int .i64 c.r2, .int .i64 c.r3, .int .i64 c.r4, .int .i64 c.r5, .int .i64 c.r6, .int .i64 c.r7, .int .i64 c.d] 58) hu) (fun e => by rw [World.size_alloc] at hlt; omega)
  rintro e w2 ⟨rfl, h2, f2⟩
  have H2 := hid h2
  have F2 : Hid (Fr (fun k => k = M) w w2) := hid (((Fr.refl _ _).alloc _).trans f2)
  clear h2 f2
  go_wp2_with fail
  go_ret
  exact ⟨rfl, H2.out, F2.out⟩
set_option maxRecDepth 100000 in
theorem acache (h : AAt w P B M s L) (hl : L.length < maxLen) (hT : TabF w) (id : Int) (wf : (Lit.int .i64 id).wf = true) (hs : ∀ x ∈ L, 1 ≤ x.s ∧ x.s ≤ 5) : Calls Tryd.prog 68 #[.pointer (some ⟨P, 0, none⟩), .int .i64 id] w fun e w' =>
    e = .returned (.int .i64 (tE L id 28 0)) ∧ AAt w' P B M s (tL L id 28 5 0 ⟨(fndA L id).i, 0, (fndA L id).sp, -1, 0, c0⟩) ∧ Fr (fun k => k = M) w w' := by
  have T := hid (aturn109 h hl hT id wf hs 0 ⟨(fndA L id).i, 0, (fndA L id).sp, -1, 0, c0⟩ (fun hf => (fndA_some hf).1) (fun u b y hy hu hb hlt => by rw [hy]; exact acache1 y hb))
  clear h hl hT wf hs
  go_enter Tryd.func68, Tryd.ntmps68
  go_wp2_with fail
  refine T.out.mono ?_
  rintro e w2 ⟨rfl, h2, f2⟩
  have H2 := hid h2
  have F2 := hid f2
  clear h2 f2
  go_wp2_with fail
  go_ret
  exact ⟨rfl, H2.out, F2.out⟩
def loadE (L : List Ac) (k th : Int) : Int := if fndO L k = true then (if (fndA L k).s = 2 then (if th < 0 then 2 else 0) else 5) else 4
def loadL (L : List Ac) (k th : Int) : List Ac := if loadE L k th = 0 then actE.ins { fndA L k with th := th } L else L
theorem load_at {L : List Ac} {k th e : Int} (h : loadE L k th = e) (h0 : e ≠ 0) : loadE L k th = e ∧ loadL L k th = L := ⟨h, by unfold loadL; rw [if_neg (by rw [h]; exact h0)]⟩
theorem load_ok {L : List Ac} {k th : Int} (h : loadE L k th = 0) : loadE L k th = 0 ∧ loadL L k th = actE.ins { fndA L k with th := th } L := ⟨h, by unfold loadL; rw [if_pos h]⟩
set_option maxRecDepth 100000 in
set_option maxHeartbeats 4000000 in
theorem aload (h : AAt w P B M s L) (hl : L.length < maxLen) (id : Int) (wf : (Lit.int .i64 id).wf = true) (th : Int) : Calls Tryd.prog 65 #[.pointer (some ⟨P, 0, none⟩), .int .i64 id, .int .i64 th] w fun e w' =>
    e = .returned (.int .i64 (loadE L id th)) ∧ AAt w' P B M s (loadL L id th) ∧ Fr (fun k => k = M) w w' := by
  have H := hid h
  have F1 := h.f1
  have WF := hid wf
  have HL := hid hl
  have hPl := h.ltP
  clear h wf hl
  have FK := hid (fndA_some (L := L) (k := id))
  obtain ⟨y, hy⟩ : ∃ y, fndA L id = y := ⟨_, rfl⟩
  obtain ⟨f, hf⟩ : ∃ f, fndO L id = f := ⟨_, rfl⟩
  have HY := hid hy
  have HF := hid hf
  clear hy hf
  go_enter Tryd.func65, Tryd.ntmps65
  go_wp2_with fail
  refine (amade H.out).mono ?_
  rintro e w1 ⟨rfl, rfl⟩
  cases f with
  | false =>
    have EE := hid (load_at (L := L) (k := id) (th := th) (e := 4) (by unfold loadE; rw [if_neg (by rw [HF.out]; decide)]) (by decide))
    have N1 : True := trivial
    have N2 : True := trivial
    go_wp2_with (first
      | (at_lookup; clear N1; refine wpList_lookA rfl (.tmp 16) (.tmp 17) rfl H.out.m rfl id WF.out rfl ?_; rw [HY.out, HF.out]; dsimp only [actE])
      | (clear N2; refine wpList_storeW rfl (.tmp 7) (.tmp 19) 111 rfl _ 111 [.int .i64 a0.i, .int .i64 a0.s, .int .i64 a0.sp, .int .i64 a0.co, .int .i64 a0.th, .int .i64 a0.c.p, .int .i64 a0.c.q, .int .i64 a0.c.r0, .int .i64 a0.c.r1, .int .i64 a0.c.r2, .int .i64 a0.c.r3, .int .i64 a0.c.r4, .int .i64 a0.c.r5, .int .i64 a0.c.r6, .int .i64 a0.c.r7, .int .i64 a0.c.d] [.int .i64 y.i, .int .i64 y.s, .int .i64 y.sp, .int .i64 y.co, .int .i64 y.th, .int .i64 y.c.p, .int .i64 y.c.q, .int .i64 y.c.r0, .int .i64 y.c.r1, .int .i64 y.c.r2, .int .i64 y.c.r3, .int .i64 y.c.r4, .int .i64 y.c.r5, .int .i64 y.c.r6, .int .i64 y.c.r7, .int .i64 y.c.d] I111 (onesA y) rfl rfl (new_a _) rfl ?_; intro w3 b3 f3; have B3 := hid b3; have S3 : Hid (Still w w3) := hid (Still.next ((Fr.refl _ _).alloc _) f3 (fun k hk => by rw [hk]; exact Nat.le_refl _)); clear b3 f3))
    go_ret
    exact ⟨by rw [EE.out.1]; rfl, by rw [EE.out.2]; exact H.out.still S3.out, S3.out.fr _⟩
  | true =>
    by_cases hst : y.s = 2
    · have e2 : (y.s != 2) = false := by simp [hst]
      by_cases hth : th < 0
      · have EE := hid (load_at (L := L) (k := id) (th := th) (e := 2) (by unfold loadE; rw [if_pos HF.out, if_pos (by rw [HY.out]; exact hst), if_pos hth]) (by decide))
        clear hst
        have N1 : True := trivial
        have N2 : True := trivial
        go_wp2_with (first
          | (at_lookup; clear N1; refine wpList_lookA rfl (.tmp 16) (.tmp 17) rfl H.out.m rfl id WF.out rfl ?_; rw [HY.out, HF.out]; dsimp only [actE])
          | (clear N2; refine wpList_storeW rfl (.tmp 7) (.tmp 19) 111 rfl _ 111 [.int .i64 a0.i, .int .i64 a0.s, .int .i64 a0.sp, .int .i64 a0.co, .int .i64 a0.th, .int .i64 a0.c.p, .int .i64 a0.c.q, .int .i64 a0.c.r0, .int .i64 a0.c.r1, .int .i64 a0.c.r2, .int .i64 a0.c.r3, .int .i64 a0.c.r4, .int .i64 a0.c.r5, .int .i64 a0.c.r6, .int .i64 a0.c.r7, .int .i64 a0.c.d] [.int .i64 y.i, .int .i64 y.s, .int .i64 y.sp, .int .i64 y.co, .int .i64 y.th, .int .i64 y.c.p, .int .i64 y.c.q, .int .i64 y.c.r0, .int .i64 y.c.r1, .int .i64 y.c.r2, .int .i64 y.c.r3, .int .i64 y.c.r4, .int .i64 y.c.r5, .int .i64 y.c.r6, .int .i64 y.c.r7, .int .i64 y.c.d] I111 (onesA y) rfl rfl (new_a _) rfl ?_; intro w3 b3 f3; have B3 := hid b3; have d1 : w3.cell? ⟨w.heap.size, 1, none⟩ = some (.int .i64 y.s) := b3.cell 1; have S3 : Hid (Still w w3) := hid (Still.next ((Fr.refl _ _).alloc _) f3 (fun k hk => by rw [hk]; exact Nat.le_refl _)); clear b3 f3))
        go_ret
        exact ⟨by rw [EE.out.1]; rfl, by rw [EE.out.2]; exact H.out.still S3.out, S3.out.fr _⟩
      · have EE := hid (load_ok (L := L) (k := id) (th := th) (by unfold loadE; rw [if_pos HF.out, if_pos (by rw [HY.out]; exact hst), if_neg hth]))
        clear hst
        have N1 : True := trivial
        have N2 : True := trivial
        go_wp2_with (first
          | (at_lookup; clear N1; refine wpList_lookA rfl (.tmp 16) (.tmp 17) rfl H.out.m rfl id WF.out rfl ?_; rw [HY.out, HF.out]; dsimp only [actE])
          | (clear N2; refine wpList_storeW rfl (.tmp 7) (.tmp 19) 111 rfl _ 111 [.int .i64 a0.i, .int .i64 a0.s, .int .i64 a0.sp, .int .i64 a0.co, .int .i64 a0.th, .int .i64 a0.c.p, .int .i64 a0.c.q, .int .i64 a0.c.r0, .int .i64 a0.c.r1, .int .i64 a0.c.r2, .int .i64 a0.c.r3, .int .i64 a0.c.r4, .int .i64 a0.c.r5, .int .i64 a0.c.r6, .int .i64 a0.c.r7, .int .i64 a0.c.d] [.int .i64 y.i, .int .i64 y.s, .int .i64 y.sp, .int .i64 y.co, .int .i64 y.th, .int .i64 y.c.p, .int .i64 y.c.q, .int .i64 y.c.r0, .int .i64 y.c.r1, .int .i64 y.c.r2, .int .i64 y.c.r3, .int .i64 y.c.r4, .int .i64 y.c.r5, .int .i64 y.c.r6, .int .i64 y.c.r7, .int .i64 y.c.d] I111 (onesA y) rfl rfl (new_a _) rfl ?_; intro w3 b3 f3; have B3 := hid b3; have d1 : w3.cell? ⟨w.heap.size, 1, none⟩ = some (.int .i64 y.s) := b3.cell 1; have d4 : w3.cell? ⟨w.heap.size, 4, none⟩ = some (.int .i64 y.th) := b3.cell 4; have z4 := b3.frozen 4; have S3 : Hid (Still w w3) := hid (Still.next ((Fr.refl _ _).alloc _) f3 (fun k hk => by rw [hk]; exact Nat.le_refl _)); clear b3 f3))
        have G6 := Still.cell S3.out F1
        obtain ⟨w7, hw7⟩ : ∃ w7, w3.setCell ⟨w.heap.size, 4, none⟩ (.int .i64 th) = w7 := ⟨_, rfl⟩
        rw [hw7]
        have S7 : Hid (Still w w7) := hid (by rw [← hw7]; exact Fr.setCell S3.out (.inr (Nat.le_refl _)) _)
        obtain ⟨z, hz⟩ : ∃ z : Ac, { fndA L id with th := th } = z := ⟨_, rfl⟩
        have B7 : Blk w7 w.heap.size [.int .i64 z.i, .int .i64 z.s, .int .i64 z.sp, .int .i64 z.co, .int .i64 z.th, .int .i64 z.c.p, .int .i64 z.c.q, .int .i64 z.c.r0, .int .i64 z.c.r1, .int .i64 z.c.r2, .int .i64 z.c.r3, .int .i64 z.c.r4, .int .i64 z.c.r5, .int .i64 z.c.r6, .int .i64 z.c.r7, .int .i64 z.c.d] 111 := by subst hz; rw [← hw7, HY.out]; exact B3.out.put 4 _
        have G7 : w7.cell? ⟨P, 1, none⟩ = some (.map (some M)) := by rw [← hw7]; exact put_far G6 (by omega)
        have zi : Hid (z.i = id) := hid (by subst hz; exact (FK.out HF.out).1)
        have R7 : w7.rangeAt w.heap.size 0 [.int .i64 z.i, .int .i64 z.s, .int .i64 z.sp, .int .i64 z.co, .int .i64 z.th, .int .i64 z.c.p, .int .i64 z.c.q, .int .i64 z.c.r0, .int .i64 z.c.r1, .int .i64 z.c.r2, .int .i64 z.c.r3, .int .i64 z.c.r4, .int .i64 z.c.r5, .int .i64 z.c.r6, .int .i64 z.c.r7, .int .i64 z.c.d] := fun j v hv => by rw [Nat.zero_add, B7.cell j]; exact hv
        have HZZ := hid hz
        clear hz G6 B7 hw7 d1 d4 z4 e2 F1
        refine Held.wp_region_held_tail (S := (fun w' => w'.cell? ⟨P, 1, none⟩ = some (.map (some M)) ∧ w'.rangeAt w.heap.size 0 [.int .i64 z.i, .int .i64 z.s, .int .i64 z.sp, .int .i64 z.co, .int .i64 z.th, .int .i64 z.c.p, .int .i64 z.c.q, .int .i64 z.c.r0, .int .i64 z.c.r1, .int .i64 z.c.r2, .int .i64 z.c.r3, .int .i64 z.c.r4, .int .i64 z.c.r5, .int .i64 z.c.r6, .int .i64 z.c.r7, .int .i64 z.c.d])) 6 (by kernel_rfl) (by kernel_rfl) (by decide) ?hS1 (fun hHeld => ?hR1)
        case hS1 =>
          exact ⟨G7, R7⟩
        simp only [List.take_succ_cons, List.take_zero, List.drop_succ_cons, List.drop_zero]
        refine wpAnyH_take (i := 0) (oi := _) (v := ?v2) rfl (by kernel_rfl) (by kernel_rfl) (by kernel_rfl) (fun _ _ _ h => h) (Or.inl ⟨by rfl, ?y2⟩) (by assumption) ?r2
        case y2 => ((intro w hSw); (try dsimp only at hSw); go_simp; (try with_reducible rfl))
        (try simp only [Act.put, List.setIfInBounds_toArray, List.set_cons_zero, List.set_cons_succ])
        refine wpAnyH_take (i := 5) (oi := _) (v := (Value.agg #[.int .i64 z.i, .int .i64 z.s, .int .i64 z.sp, .int .i64 z.co, .int .i64 z.th, .int .i64 z.c.p, .int .i64 z.c.q, .int .i64 z.c.r0, .int .i64 z.c.r1, .int .i64 z.c.r2, .int .i64 z.c.r3, .int .i64 z.c.r4, .int .i64 z.c.r5, .int .i64 z.c.r6, .int .i64 z.c.r7, .int .i64 z.c.d])) rfl (by kernel_rfl) (by kernel_rfl) (by kernel_rfl) (fun _ _ _ h => h) (yieldsIf_load_mid rfl 111 _ rfl w.heap.size 0 rfl [.int .i64 z.i, .int .i64 z.s, .int .i64 z.sp, .int .i64 z.co, .int .i64 z.th, .int .i64 z.c.p, .int .i64 z.c.q, .int .i64 z.c.r0, .int .i64 z.c.r1, .int .i64 z.c.r2, .int .i64 z.c.r3, .int .i64 z.c.r4, .int .i64 z.c.r5, .int .i64 z.c.r6, .int .i64 z.c.r7, .int .i64 z.c.d] _ (fun w h => h.2) Tryd.underlying111 rfl I111) (by assumption) ?rM
        simp only [Act.put, List.setIfInBounds_toArray, List.set_cons_zero, List.set_cons_succ]
        refine wpAnyH_take (i := 1) (oi := _) (v := ?v3) rfl (by kernel_rfl) (by kernel_rfl) (by kernel_rfl) (fun _ _ _ h => h) (Or.inl ⟨by rfl, ?y3⟩) (by assumption) ?r3
        case y3 => ((intro w hSw); (try dsimp only at hSw); go_simp; (try with_reducible rfl))
        (try simp only [Act.put, List.setIfInBounds_toArray, List.set_cons_zero, List.set_cons_succ])
        refine wpAnyH_take (i := 2) (oi := _) (v := ?v4) rfl (by kernel_rfl) (by kernel_rfl) (by kernel_rfl) (fun _ _ _ h => h) (Or.inl ⟨by rfl, ?y4⟩) (by assumption) ?r4
        case y4 => ((intro w hSw); (try dsimp only at hSw); go_simp; (try with_reducible rfl))
        (try simp only [Act.put, List.setIfInBounds_toArray, List.set_cons_zero, List.set_cons_succ])
        refine wpAnyH_take (i := 3) (oi := _) (v := ?v5) rfl (by kernel_rfl) (by kernel_rfl) (by kernel_rfl) (fun _ _ _ h => h) (Or.inl ⟨by rfl, ?y5⟩) (by assumption) ?r5
        case y5 => ((intro w hSw); (try dsimp only at hSw); go_simp; (try with_reducible rfl))
        (try simp only [Act.put, List.setIfInBounds_toArray, List.set_cons_zero, List.set_cons_succ])
        refine wpAnyH_take (i := 4) (oi := _) (v := ?v6) rfl (by kernel_rfl) (by kernel_rfl) (by kernel_rfl) (fun _ _ _ h => h) (Or.inl ⟨by rfl, ?y6⟩) (by assumption) ?r6
        case y6 => ((intro w hSw); (try dsimp only at hSw); go_simp; (try with_reducible rfl))
        (try simp only [Act.put, List.setIfInBounds_toArray, List.set_cons_zero, List.set_cons_succ])
        refine wpAnyH_done (by kernel_rfl) (Held.tailQ_normal ?_) _
        simp only [Act.put, List.getElem_toArray, List.getElem_cons_zero, List.getElem_cons_succ, List.setIfInBounds_toArray, List.set_cons_zero, List.set_cons_succ]
        have T7 := hid (H.out.still S7.out)
        refine wpList_putA rfl (.tmp 36) (.tmp 37) (.tmp 38) rfl T7.out.m.drew HL.out z (by rw [zi.out]; exact WF.out) rfl (by rw [zi.out]; rfl) rfl ?_
        intro w8 m8 f8
        have T8 := hid (T7.out.drew.put m8 f8)
        have F8 := hid (((S7.out.fr (fun k => k = M)).drew).trans f8)
        clear m8 f8
        go_wp2_with fail
        go_ret
        exact ⟨by rw [EE.out.1]; rfl, by rw [EE.out.2, HZZ.out]; exact T8.out, F8.out⟩
    · have e2 : (y.s != 2) = true := by simp [hst]
      have EE := hid (load_at (L := L) (k := id) (th := th) (e := 5) (by unfold loadE; rw [if_pos HF.out, if_neg (by rw [HY.out]; exact hst)]) (by decide))
      clear hst
      have N1 : True := trivial
      have N2 : True := trivial
      go_wp2_with (first
        | (at_lookup; clear N1; refine wpList_lookA rfl (.tmp 16) (.tmp 17) rfl H.out.m rfl id WF.out rfl ?_; rw [HY.out, HF.out]; dsimp only [actE])
        | (clear N2; refine wpList_storeW rfl (.tmp 7) (.tmp 19) 111 rfl _ 111 [.int .i64 a0.i, .int .i64 a0.s, .int .i64 a0.sp, .int .i64 a0.co, .int .i64 a0.th, .int .i64 a0.c.p, .int .i64 a0.c.q, .int .i64 a0.c.r0, .int .i64 a0.c.r1, .int .i64 a0.c.r2, .int .i64 a0.c.r3, .int .i64 a0.c.r4, .int .i64 a0.c.r5, .int .i64 a0.c.r6, .int .i64 a0.c.r7, .int .i64 a0.c.d] [.int .i64 y.i, .int .i64 y.s, .int .i64 y.sp, .int .i64 y.co, .int .i64 y.th, .int .i64 y.c.p, .int .i64 y.c.q, .int .i64 y.c.r0, .int .i64 y.c.r1, .int .i64 y.c.r2, .int .i64 y.c.r3, .int .i64 y.c.r4, .int .i64 y.c.r5, .int .i64 y.c.r6, .int .i64 y.c.r7, .int .i64 y.c.d] I111 (onesA y) rfl rfl (new_a _) rfl ?_; intro w3 b3 f3; have B3 := hid b3; have d1 : w3.cell? ⟨w.heap.size, 1, none⟩ = some (.int .i64 y.s) := b3.cell 1; have S3 : Hid (Still w w3) := hid (Still.next ((Fr.refl _ _).alloc _) f3 (fun k hk => by rw [hk]; exact Nat.le_refl _)); clear b3 f3))
      go_ret
      exact ⟨by rw [EE.out.1]; rfl, by rw [EE.out.2]; exact H.out.still S3.out, S3.out.fr _⟩
end
end Go.Proofs.YtffjaaolcphonaaDoor
/- Life: Make. -/
namespace Go.Proofs.YtffjaaolcphonaaDoor
open Go.RowKit Go.Maps
set_option linter.unusedSimpArgs false
/-- Is this space refused? -/
def mkB (sp : Int) : Bool := decide (sp < 1) || decide (16 < sp)
def mkF (L : List Ac) (sp : Int) : Option Ac := L.find? fun x => x.sp == sp && x.s == 5
def mkE (s : SS) (L : List Ac) (sp : Int) : Int := if mkB sp = true then 2 else match mkF L sp with | some _ => 0 | none => takeE s
def mkV (s : SS) (L : List Ac) (sp : Int) : Int := if mkB sp = true then 0 else match mkF L sp with | some x => x.i | none => takeV s
def mkS (s : SS) (L : List Ac) (sp : Int) : SS := if mkB sp = true then s else match mkF L sp with | some _ => s | none => takeS s
def mkL (s : SS) (L : List Ac) (sp : Int) : List Ac := if mkB sp = true then L else match mkF L sp with | some x => actE.ins { x with s := 1 } L | none => if takeE s = 0 then actE.ins ⟨takeV s, 1, sp, -1, 0, c0⟩ L else L
theorem mk_bad {s : SS} {L : List Ac} {sp : Int} (h : mkB sp = true) : mkE s L sp = 2 ∧ mkV s L sp = 0 ∧ mkS s L sp = s ∧ mkL s L sp = L := by
  unfold mkE mkV mkS mkL; simp only [if_pos h]; exact ⟨trivial, trivial, trivial, trivial⟩
theorem mk_old {s : SS} {L : List Ac} {sp : Int} {x : Ac} (h : mkB sp = false) (hx : mkF L sp = some x) : mkE s L sp = 0 ∧ mkV s L sp = x.i ∧ mkS s L sp = s ∧ mkL s L sp = actE.ins { x with s := 1 } L := by
  unfold mkE mkV mkS mkL; simp only [h, hx, Bool.false_eq_true, if_false]; exact ⟨trivial, trivial, trivial, trivial⟩
theorem mk_new {s : SS} {L : List Ac} {sp : Int} (h : mkB sp = false) (hx : mkF L sp = none) : mkE s L sp = takeE s ∧ mkV s L sp = takeV s ∧ mkS s L sp = takeS s ∧ mkL s L sp = if takeE s = 0 then actE.ins ⟨takeV s, 1, sp, -1, 0, c0⟩ L else L := by
  unfold mkE mkV mkS mkL; simp only [h, hx, Bool.false_eq_true, if_false]; exact ⟨trivial, trivial, trivial, trivial⟩
theorem mkF_at {L : List Ac} {sp : Int} {j : Nat} (hj : j < L.length) (h1 : ∀ i (hi : i < j), (L[i].sp == sp && L[i].s == 5) = false) (h2 : (L[j].sp == sp && L[j].s == 5) = true) : mkF L sp = some L[j] := by
  unfold mkF
  rw [List.find?_eq_some_iff_getElem]
  exact ⟨h2, j, hj, rfl, fun i hi => by rw [h1 i hi]; rfl⟩
theorem mkF_no {L : List Ac} {sp : Int} (h1 : ∀ i (hi : i < L.length), (L[i].sp == sp && L[i].s == 5) = false) : mkF L sp = none := by
  unfold mkF
  rw [List.find?_eq_none]
  intro x hx
  obtain ⟨i, hi, rfl⟩ := List.getElem_of_mem hx
  rw [h1 i hi]; decide
section
variable {w w' : World} {P : Nat} {B : SB} {M : Nat} {s : SS} {L : List Ac}
set_option maxRecDepth 100000 in
set_option maxHeartbeats 4000000 in
theorem amake (h : AAt w P B M s L) (hl : L.length ≤ 100000) (hI : SI s) (hT : TabD w) (h7 : ¬ B.foot 7) (hw : ∀ x ∈ L, (Lit.int .i64 x.i).wf = true) (sp : Int) : Calls Tryd.prog 63 #[.pointer (some ⟨P, 0, none⟩), .int .i64 sp] w fun e w' =>
    e = .returned (.tuple #[.int .i64 (mkV s L sp), .int .i64 (mkE s L sp)]) ∧ AAt w' P B M (mkS s L sp) (mkL s L sp) ∧ Fr (fun k => B.foot k ∨ k = M) w w' := by
  have H := hid h
  have F0 := h.f0
  have F1 := h.f1
  have hPl := h.ltP
  have HI := hid hI
  have HT := hid hT
  have H7 := hid h7
  have HL := hid hl
  have HW := hid hw
  have ML : Hid (L.length < maxLen) := hid (by unfold maxLen; omega)
  clear h hI hT h7 hl hw
  by_cases hb : mkB sp = true
  · have EE := hid (mk_bad (s := s) (L := L) hb)
    have e1 : (decide (sp < 1) || decide (16 < sp)) = true := hb
    clear hb
    by_cases h1 : sp < 1
    · go_enter Tryd.func63, Tryd.ntmps63
      go_wp2_with fail
      refine (amade H.out).mono ?_
      rintro e w1 ⟨rfl, rfl⟩
      go_wp2_with fail
      go_ret2
      exact ⟨by rw [EE.out.1, EE.out.2.1]; rfl, by rw [EE.out.2.2.1, EE.out.2.2.2]; exact H.out, Fr.refl _ _⟩
    · have h2 : 16 < sp := by simpa [h1] using e1
      go_enter Tryd.func63, Tryd.ntmps63
      go_wp2_with fail
      refine (amade H.out).mono ?_
      rintro e w1 ⟨rfl, rfl⟩
      go_wp2_with fail
      go_ret2
      exact ⟨by rw [EE.out.1, EE.out.2.1]; rfl, by rw [EE.out.2.2.1, EE.out.2.2.2]; exact H.out, Fr.refl _ _⟩
  · have h1 : ¬ sp < 1 := fun h => hb (by simp [mkB, h])
    have h2 : ¬ 16 < sp := fun h => hb (by simp [mkB, h])
    have HB0 : Hid (mkB sp = false) := hid (by simpa using hb)
    clear hb
    go_enter Tryd.func63, Tryd.ntmps63
    go_wp2_with fail
    refine (amade H.out).mono ?_
    rintro e w1 ⟨rfl, rfl⟩
    go_wp2_with fail
    refine (aids H.out HL.out).mono ?_
    rintro e w2 ⟨v2, rfl, o2, s2⟩
    obtain ⟨a13, c13, rfl⟩ := own_shape o2 _ rfl
    have O2 := hid o2
    have S2 := hid s2
    clear o2 s2
    go_wp2_with fail
    go_loopw [7, 8, 25] (fun s7 s8 s25 wr => ∃ j : Nat, s25 = .int .i64 j ∧ j ≤ L.length ∧ Hid (∀ i (hi : i < L.length), i < j → (L[i].sp == sp && L[i].s == 5) = false) ∧ Hid (Still w2 wr)) (fun _ _ s25 _ => L.length - (intOf s25).toNat)
    case atStart => exact ⟨0, rfl, Nat.zero_le _, hid (fun i hi h0 => by omega), hid (Fr.refl _ _)⟩
    case round =>
      obtain ⟨j, rfl, hj, NO, SX⟩ := hrel
      by_cases hlt : j < L.length
      · have hlt' : (j : Int) < (L.length : Int) := by omega
        rcases own_cells O2.out (by simp) with ⟨_, _, _, m0⟩ | ⟨b2, q2, ev, m0, _, _, hc2⟩
        · omega
        obtain ⟨rfl, rfl⟩ : a13 = some ⟨b2, 0, none⟩ ∧ c13 = q2 := by injection ev with e1 _ e3; exact ⟨e1, e3⟩
        have c2 := Still.cell SX.out (hc2 j hlt)
        have hx : L[j] ∈ L := List.getElem_mem hlt
        obtain ⟨x, hxx⟩ : ∃ x, L[j] = x := ⟨_, rfl⟩
        rw [show (L.map actE.key).getD j 0 = x.i by simp [List.getD_eq_getElem?_getD, hlt, hxx, actE]] at c2
        rw [hxx] at hx
        have HX := hid hx
        have HXX := hid hxx
        have SW := hid (S2.out.trans SX.out)
        have G1 := Still.cell SW.out F1
        have HPl1 : P < wr.heap.size := Nat.lt_of_lt_of_le hPl SW.out.size
        have hbb := HL.out
        clear hc2 ev hx hxx
        by_cases hsp : x.sp = sp
        · have e1 : (x.sp == sp) = true := by simp [hsp]
          by_cases hs5 : x.s = 5
          · have e5 : (x.s == 5) = true := by simp [hs5]
            have EE := hid (mk_old (s := s) (L := L) (x := x) HB0.out (by rw [← HXX.out]; exact mkF_at hlt (fun i hi => NO.out i (by omega) hi) (by rw [HXX.out, e1, e5]; rfl)))
            clear hsp hs5
            have N1 : True := trivial
            have N2 : True := trivial
            go_wp2_with (first
              | (at_lookup; clear N1; refine wpList_lookA2 rfl (.tmp 32) (.tmp 33) rfl (H.out.m.still SW.out) rfl x HX.out (HW.out x HX.out) rfl ?_)
              | (clear N2; refine wpList_storeW rfl (.tmp 8) (.tmp 34) 111 rfl _ 111 [.int .i64 a0.i, .int .i64 a0.s, .int .i64 a0.sp, .int .i64 a0.co, .int .i64 a0.th, .int .i64 a0.c.p, .int .i64 a0.c.q, .int .i64 a0.c.r0, .int .i64 a0.c.r1, .int .i64 a0.c.r2, .int .i64 a0.c.r3, .int .i64 a0.c.r4, .int .i64 a0.c.r5, .int .i64 a0.c.r6, .int .i64 a0.c.r7, .int .i64 a0.c.d] [.int .i64 x.i, .int .i64 x.s, .int .i64 x.sp, .int .i64 x.co, .int .i64 x.th, .int .i64 x.c.p, .int .i64 x.c.q, .int .i64 x.c.r0, .int .i64 x.c.r1, .int .i64 x.c.r2, .int .i64 x.c.r3, .int .i64 x.c.r4, .int .i64 x.c.r5, .int .i64 x.c.r6, .int .i64 x.c.r7, .int .i64 x.c.d] I111 (onesA x) rfl rfl (new_a _) rfl ?_; intro w3 b3 f3; have B3 := hid b3; have d1 : w3.cell? ⟨wr.heap.size, 1, none⟩ = some (.int .i64 x.s) := b3.cell 1; have d2 : w3.cell? ⟨wr.heap.size, 2, none⟩ = some (.int .i64 x.sp) := b3.cell 2; have z1 := b3.frozen 1; have S3 : Hid (Still w w3) := hid (Still.next (SW.out.alloc _) f3 (fun k hk => by rw [hk]; exact SW.out.size)); have G3 : w3.cell? ⟨P, 1, none⟩ = some (.map (some M)) := Still.cell S3.out F1; clear b3 f3))
            obtain ⟨w7, hw7⟩ : ∃ w7, w3.setCell ⟨wr.heap.size, 1, none⟩ (.int .i64 1) = w7 := ⟨_, rfl⟩
            rw [hw7]
            have S7 : Hid (Still w w7) := hid (by rw [← hw7]; exact Fr.setCell S3.out (.inr SW.out.size) _)
            obtain ⟨z, hz⟩ : ∃ z : Ac, { x with s := 1 } = z := ⟨_, rfl⟩
            have B7 : Blk w7 wr.heap.size [.int .i64 z.i, .int .i64 z.s, .int .i64 z.sp, .int .i64 z.co, .int .i64 z.th, .int .i64 z.c.p, .int .i64 z.c.q, .int .i64 z.c.r0, .int .i64 z.c.r1, .int .i64 z.c.r2, .int .i64 z.c.r3, .int .i64 z.c.r4, .int .i64 z.c.r5, .int .i64 z.c.r6, .int .i64 z.c.r7, .int .i64 z.c.d] 111 := by subst hz; rw [← hw7]; exact B3.out.put 1 _
            have G7 : w7.cell? ⟨P, 1, none⟩ = some (.map (some M)) := by rw [← hw7]; exact put_far G3 (by omega)
            have zi : Hid (z.i = x.i) := hid (by subst hz; rfl)
            have R7 : w7.rangeAt wr.heap.size 0 [.int .i64 z.i, .int .i64 z.s, .int .i64 z.sp, .int .i64 z.co, .int .i64 z.th, .int .i64 z.c.p, .int .i64 z.c.q, .int .i64 z.c.r0, .int .i64 z.c.r1, .int .i64 z.c.r2, .int .i64 z.c.r3, .int .i64 z.c.r4, .int .i64 z.c.r5, .int .i64 z.c.r6, .int .i64 z.c.r7, .int .i64 z.c.d] := fun j v hv => by rw [Nat.zero_add, B7.cell j]; exact hv
            have HZZ := hid hz
            clear hz G3 B7 hw7 d1 d2 z1 e1 e5 G1 c2
            refine Held.wp_region_held_tail (S := (fun w' => w'.cell? ⟨P, 1, none⟩ = some (.map (some M)) ∧ w'.rangeAt wr.heap.size 0 [.int .i64 z.i, .int .i64 z.s, .int .i64 z.sp, .int .i64 z.co, .int .i64 z.th, .int .i64 z.c.p, .int .i64 z.c.q, .int .i64 z.c.r0, .int .i64 z.c.r1, .int .i64 z.c.r2, .int .i64 z.c.r3, .int .i64 z.c.r4, .int .i64 z.c.r5, .int .i64 z.c.r6, .int .i64 z.c.r7, .int .i64 z.c.d])) 6 (by kernel_rfl) (by kernel_rfl) (by decide) ?hS1 (fun hHeld => ?hR1)
            case hS1 =>
              exact ⟨G7, R7⟩
            simp only [List.take_succ_cons, List.take_zero, List.drop_succ_cons, List.drop_zero]
            refine wpAnyH_take (i := 0) (oi := _) (v := ?v2) rfl (by kernel_rfl) (by kernel_rfl) (by kernel_rfl) (fun _ _ _ h => h) (Or.inl ⟨by rfl, ?y2⟩) (by assumption) ?r2
            case y2 => ((intro w hSw); (try dsimp only at hSw); go_simp; (try with_reducible rfl))
            (try simp only [Act.put, List.setIfInBounds_toArray, List.set_cons_zero, List.set_cons_succ])
            refine wpAnyH_take (i := 5) (oi := _) (v := (Value.agg #[.int .i64 z.i, .int .i64 z.s, .int .i64 z.sp, .int .i64 z.co, .int .i64 z.th, .int .i64 z.c.p, .int .i64 z.c.q, .int .i64 z.c.r0, .int .i64 z.c.r1, .int .i64 z.c.r2, .int .i64 z.c.r3, .int .i64 z.c.r4, .int .i64 z.c.r5, .int .i64 z.c.r6, .int .i64 z.c.r7, .int .i64 z.c.d])) rfl (by kernel_rfl) (by kernel_rfl) (by kernel_rfl) (fun _ _ _ h => h) (yieldsIf_load_mid rfl 111 _ rfl wr.heap.size 0 rfl [.int .i64 z.i, .int .i64 z.s, .int .i64 z.sp, .int .i64 z.co, .int .i64 z.th, .int .i64 z.c.p, .int .i64 z.c.q, .int .i64 z.c.r0, .int .i64 z.c.r1, .int .i64 z.c.r2, .int .i64 z.c.r3, .int .i64 z.c.r4, .int .i64 z.c.r5, .int .i64 z.c.r6, .int .i64 z.c.r7, .int .i64 z.c.d] _ (fun w h => h.2) Tryd.underlying111 rfl I111) (by assumption) ?rM
            simp only [Act.put, List.setIfInBounds_toArray, List.set_cons_zero, List.set_cons_succ]
            refine wpAnyH_take (i := 1) (oi := _) (v := ?v3) rfl (by kernel_rfl) (by kernel_rfl) (by kernel_rfl) (fun _ _ _ h => h) (Or.inl ⟨by rfl, ?y3⟩) (by assumption) ?r3
            case y3 => ((intro w hSw); (try dsimp only at hSw); go_simp; (try with_reducible rfl))
            (try simp only [Act.put, List.setIfInBounds_toArray, List.set_cons_zero, List.set_cons_succ])
            refine wpAnyH_take (i := 2) (oi := _) (v := ?v4) rfl (by kernel_rfl) (by kernel_rfl) (by kernel_rfl) (fun _ _ _ h => h) (Or.inl ⟨by rfl, ?y4⟩) (by assumption) ?r4
            case y4 => ((intro w hSw); (try dsimp only at hSw); go_simp; (try with_reducible rfl))
            (try simp only [Act.put, List.setIfInBounds_toArray, List.set_cons_zero, List.set_cons_succ])
            refine wpAnyH_take (i := 3) (oi := _) (v := ?v5) rfl (by kernel_rfl) (by kernel_rfl) (by kernel_rfl) (fun _ _ _ h => h) (Or.inl ⟨by rfl, ?y5⟩) (by assumption) ?r5
            case y5 => ((intro w hSw); (try dsimp only at hSw); go_simp; (try with_reducible rfl))
            (try simp only [Act.put, List.setIfInBounds_toArray, List.set_cons_zero, List.set_cons_succ])
            refine wpAnyH_take (i := 4) (oi := _) (v := ?v6) rfl (by kernel_rfl) (by kernel_rfl) (by kernel_rfl) (fun _ _ _ h => h) (Or.inl ⟨by rfl, ?y6⟩) (by assumption) ?r6
            case y6 => ((intro w hSw); (try dsimp only at hSw); go_simp; (try with_reducible rfl))
            (try simp only [Act.put, List.setIfInBounds_toArray, List.set_cons_zero, List.set_cons_succ])
            refine wpAnyH_done (by kernel_rfl) (Held.tailQ_normal ?_) _
            simp only [Act.put, List.getElem_toArray, List.getElem_cons_zero, List.getElem_cons_succ, List.setIfInBounds_toArray, List.set_cons_zero, List.set_cons_succ]
            have T7 := hid (H.out.still S7.out)
            refine wpList_putA rfl (.tmp 48) (.tmp 49) (.tmp 50) rfl T7.out.m.drew ML.out z (by rw [zi.out]; exact HW.out x HX.out) rfl (by rw [zi.out]; rfl) rfl ?_
            intro w8 m8 f8
            have T8 := hid (T7.out.drew.put m8 f8)
            have F8 := hid (((S7.out.fr (fun k => B.foot k ∨ k = M)).drew).trans (f8.mono fun k _ h => .inr h))
            clear m8 f8
            go_wp2_with fail
            go_ret2
            exact ⟨by rw [EE.out.1, EE.out.2.1]; rfl, by rw [EE.out.2.2.1, EE.out.2.2.2, HZZ.out]; exact T8.out, F8.out⟩
          · have e5 : (x.s == 5) = false := by simp [hs5]
            have NP : Hid ((L[j].sp == sp && L[j].s == 5) = false) := hid (by rw [HXX.out, e5]; simp)
            clear hsp hs5
            have N1 : True := trivial
            have N2 : True := trivial
            go_wp2_with (first
              | (at_lookup; clear N1; refine wpList_lookA2 rfl (.tmp 32) (.tmp 33) rfl (H.out.m.still SW.out) rfl x HX.out (HW.out x HX.out) rfl ?_)
              | (clear N2; refine wpList_storeW rfl (.tmp 8) (.tmp 34) 111 rfl _ 111 [.int .i64 a0.i, .int .i64 a0.s, .int .i64 a0.sp, .int .i64 a0.co, .int .i64 a0.th, .int .i64 a0.c.p, .int .i64 a0.c.q, .int .i64 a0.c.r0, .int .i64 a0.c.r1, .int .i64 a0.c.r2, .int .i64 a0.c.r3, .int .i64 a0.c.r4, .int .i64 a0.c.r5, .int .i64 a0.c.r6, .int .i64 a0.c.r7, .int .i64 a0.c.d] [.int .i64 x.i, .int .i64 x.s, .int .i64 x.sp, .int .i64 x.co, .int .i64 x.th, .int .i64 x.c.p, .int .i64 x.c.q, .int .i64 x.c.r0, .int .i64 x.c.r1, .int .i64 x.c.r2, .int .i64 x.c.r3, .int .i64 x.c.r4, .int .i64 x.c.r5, .int .i64 x.c.r6, .int .i64 x.c.r7, .int .i64 x.c.d] I111 (onesA x) rfl rfl (new_a _) rfl ?_; intro w3 b3 f3; have d1 : w3.cell? ⟨wr.heap.size, 1, none⟩ = some (.int .i64 x.s) := b3.cell 1; have d2 : w3.cell? ⟨wr.heap.size, 2, none⟩ = some (.int .i64 x.sp) := b3.cell 2; have S3 : Hid (Still w2 w3) := hid (Still.next (SX.out.alloc _) f3 (fun k hk => by rw [hk]; exact SX.out.size)); clear b3 f3))
            go_roundw
            case rel => exact ⟨j + 1, by go_num, by omega, hid (fun i hi h1 => by
              by_cases e : i = j
              · subst e; exact NP.out
              · exact NO.out i hi (by omega)), S3⟩
            case measure => simp [intOf]; omega
        · have e1 : (x.sp == sp) = false := by simp [hsp]
          have NP : Hid ((L[j].sp == sp && L[j].s == 5) = false) := hid (by rw [HXX.out, e1]; rfl)
          clear hsp
          have N1 : True := trivial
          have N2 : True := trivial
          go_wp2_with (first
            | (at_lookup; clear N1; refine wpList_lookA2 rfl (.tmp 32) (.tmp 33) rfl (H.out.m.still SW.out) rfl x HX.out (HW.out x HX.out) rfl ?_)
            | (clear N2; refine wpList_storeW rfl (.tmp 8) (.tmp 34) 111 rfl _ 111 [.int .i64 a0.i, .int .i64 a0.s, .int .i64 a0.sp, .int .i64 a0.co, .int .i64 a0.th, .int .i64 a0.c.p, .int .i64 a0.c.q, .int .i64 a0.c.r0, .int .i64 a0.c.r1, .int .i64 a0.c.r2, .int .i64 a0.c.r3, .int .i64 a0.c.r4, .int .i64 a0.c.r5, .int .i64 a0.c.r6, .int .i64 a0.c.r7, .int .i64 a0.c.d] [.int .i64 x.i, .int .i64 x.s, .int .i64 x.sp, .int .i64 x.co, .int .i64 x.th, .int .i64 x.c.p, .int .i64 x.c.q, .int .i64 x.c.r0, .int .i64 x.c.r1, .int .i64 x.c.r2, .int .i64 x.c.r3, .int .i64 x.c.r4, .int .i64 x.c.r5, .int .i64 x.c.r6, .int .i64 x.c.r7, .int .i64 x.c.d] I111 (onesA x) rfl rfl (new_a _) rfl ?_; intro w3 b3 f3; have d2 : w3.cell? ⟨wr.heap.size, 2, none⟩ = some (.int .i64 x.sp) := b3.cell 2; have S3 : Hid (Still w2 w3) := hid (Still.next (SX.out.alloc _) f3 (fun k hk => by rw [hk]; exact SX.out.size)); clear b3 f3))
          go_roundw
          case rel => exact ⟨j + 1, by go_num, by omega, hid (fun i hi h1 => by
            by_cases e : i = j
            · subst e; exact NP.out
            · exact NO.out i hi (by omega)), S3⟩
          case measure => simp [intOf]; omega
      · have hlt' : ¬ (j : Int) < (L.length : Int) := by omega
        have EE := hid (mk_new (s := s) HB0.out (mkF_no (L := L) (sp := sp) (fun i hi => NO.out i hi (by omega))))
        have SW := hid (S2.out.trans SX.out)
        have G0 := Still.cell SW.out F0
        obtain ⟨tv, htv⟩ : ∃ tv, takeV s = tv := ⟨_, rfl⟩
        obtain ⟨te, hte⟩ : ∃ te, takeE s = te := ⟨_, rfl⟩
        have TEC := takeE_cases s
        rw [hte] at TEC
        have HTV := hid htv
        have HTE := hid hte
        clear htv hte
        go_wp2_with fail
        refine (stake' (H.out.sl.still SW.out) (HT.out.still SW.out) H7.out HI.out).mono ?_
        rintro e w5 ⟨he, l5, f5⟩
        rw [HTV.out, HTE.out] at he
        subst he
        have T5 : Hid (AAt w5 P B M (takeS s) L) := hid ⟨f5.cellK (Still.cell SW.out H.out.f0) H.out.nPB, f5.cellK (Still.cell SW.out H.out.f1) H.out.nPB, l5, (H.out.m.still SW.out).fr f5 H.out.nMB, H.out.nPM, H.out.nPB, H.out.nMB⟩
        have F5 := hid ((SW.out.fr B.foot).trans f5)
        have J1 := T5.out.f1
        clear l5 f5 G0
        rcases TEC with rfl | rfl
        · obtain ⟨z, hz⟩ : ∃ z : Ac, ⟨tv, 1, sp, -1, 0, c0⟩ = z := ⟨_, rfl⟩
          have HZ := hid hz
          have zi : Hid (z.i = tv) := hid (by rw [← hz])
          have zv : Hid (Value.agg #[.int .i64 tv, .int .i64 1, .int .i64 sp, .int .i64 (-1), .int .i64 0, .int .i64 0, .int .i64 0, .int .i64 0, .int .i64 0, .int .i64 0, .int .i64 0, .int .i64 0, .int .i64 0, .int .i64 0, .int .i64 0, .int .i64 0] = (Value.agg #[.int .i64 z.i, .int .i64 z.s, .int .i64 z.sp, .int .i64 z.co, .int .i64 z.th, .int .i64 z.c.p, .int .i64 z.c.q, .int .i64 z.c.r0, .int .i64 z.c.r1, .int .i64 z.c.r2, .int .i64 z.c.r3, .int .i64 z.c.r4, .int .i64 z.c.r5, .int .i64 z.c.r6, .int .i64 z.c.r7, .int .i64 z.c.d])) := hid (by rw [← hz]; rfl)
          clear hz
          go_wp2_with (at_mapUpdate; refine wpList_putA rfl (.tmp 66) (.tmp 67) (.tmp 70) rfl T5.out.m ML.out z (by rw [zi.out, ← HTV.out]; exact takeV_wf s) rfl (by rw [zi.out]; rfl) (by rw [← zv.out]; rfl) ?_; intro w6 m6 f6; have T6 := hid (T5.out.put m6 f6); have F6 := hid ((F5.out.mono fun k _ h => Or.inl h : Fr (fun k => B.foot k ∨ k = M) w w5).trans (f6.mono fun k _ h => .inr h)); clear m6 f6)
          go_ret2
          exact ⟨by rw [EE.out.1, EE.out.2.1, HTV.out, HTE.out]; rfl, by rw [EE.out.2.2.1, EE.out.2.2.2, HTV.out, if_pos HTE.out, HZ.out]; exact T6.out, F6.out⟩
        · go_wp2_with fail
          go_ret2
          exact ⟨by rw [EE.out.1, EE.out.2.1, HTV.out, HTE.out]; rfl, by rw [EE.out.2.2.1, EE.out.2.2.2, if_neg (by rw [HTE.out]; decide)]; exact T5.out, F5.out.mono fun k _ h => .inl h⟩
end
end Go.Proofs.YtffjaaolcphonaaDoor
/- Life: Count; law16.lives. -/
namespace Go.Proofs.YtffjaaolcphonaaDoor
open Go.RowKit Go.Maps
set_option linter.unusedSimpArgs false
def cntA (L : List Ac) (sp st : Int) : Nat := L.countP fun x => x.sp == sp && x.s == st
section
variable {w w' : World} {P : Nat} {B : SB} {M : Nat} {s : SS} {L : List Ac}
set_option maxRecDepth 100000 in
set_option maxHeartbeats 4000000 in
theorem acount (h : AAt w P B M s L) (hl : L.length ≤ 1000000) (sp st : Int) : Calls Tryd.prog 69 #[.pointer (some ⟨P, 0, none⟩), .int .i64 sp, .int .i64 st] w fun e w' => e = .returned (.int .i64 (cntA L sp st)) ∧ Still w w' := by
  have H := hid h
  have F1 := h.f1
  have HL := hid hl
  clear h hl
  obtain ⟨p, hp⟩ : ∃ p : Ac → Bool, (fun x : Ac => x.sp == sp && x.s == st) = p := ⟨_, rfl⟩
  have HP := hid hp
  have EC : Hid (cntA L sp st = L.countP p) := hid (by unfold cntA; rw [hp])
  have PX : Hid (∀ x : Ac, p x = (x.sp == sp && x.s == st)) := hid (fun x => by rw [← hp])
  clear hp
  go_enter Tryd.func69, Tryd.ntmps69
  go_wp2_with (first
    | (go_at_call 102; refine (amade H.out).mono ?_; rintro e w1 ⟨rfl, rfl⟩)
    | (at_range; refine wpList_rangeA rfl (.tmp 15) rfl H.out.m rfl ?_; intro w0 hrg0 hs0 hz0; have RG := hid hrg0; have S0 := hid hs0; have Z0 := hid hz0; clear hrg0 hs0 hz0))
  go_frame
  go_loopw [7, 9, 17] (fun s7 s9 s17 wr => ∃ left cnt, s7 = .int .i64 (actE.cnt L p left : Int) ∧ RangeL actE Tryd.prog wr M w.heap.size L left cnt ∧ Still w wr ∧ w.heap.size < wr.heap.size) (fun _ _ _ wr => wr.rangeLeft M w.heap.size)
  case atStart => exact ⟨_, _, by rw [actE.cnt_start RG.out.2]; rfl, RG.out, S0.out, by have := Z0.out; omega⟩
  case round =>
    obtain ⟨left, cnt, rfl, hrg, hst, hz⟩ := hrel
    have RX := hid hrg
    have SX := hid hst
    clear hrg hst
    go_wp2_with (at_next; refine wpList_nextA rfl (.tmp 16) rfl RX.out rfl ?_ ?_)
    · intro hl0
      have e : actE.cnt L p left = cntA L sp st := by rw [EC.out]; exact actE.cnt_end _ hl0
      rw [e]
      clear hl0
      go_wp2_with fail
      go_ret
      exact ⟨rfl, SX.out⟩
    · intro x w2 cnt1 hx hlx hrg1 hlt hf hsz hen
      have RX1 := hid hrg1
      have SX1 := hid (SX.out.next hf (fun k hk => by rw [hk]; exact Nat.le_refl _))
      have CS : Hid (actE.cnt L p (fun z => left z && !z.sameKey (.int .i64 x.i)) = actE.cnt L p left + if p x = true then 1 else 0) := hid (actE.cnt_step RX.out.2 p hx hlx)
      have CL2 := hid (Nat.le_trans (actE.cnt_le L p left) HL.out)
      have LT := hid hlt
      have hz2 : w.heap.size < w2.heap.size := by omega
      clear hrg1 hf hx hlx hlt hsz
      obtain ⟨n, hn⟩ : ∃ n, actE.cnt L p left = n := ⟨_, rfl⟩
      have HN := hid hn
      rw [hn]
      clear hn
      by_cases h1 : x.sp = sp
      · have e0 : (x.sp == sp) = true := by simp [h1]
        by_cases h2 : x.s = st
        · have e1 : (x.s == st) = true := by simp [h2]
          have PT : Hid (p x = true) := hid (by rw [PX.out, e0, e1]; rfl)
          clear h1 h2
          have N2 : True := trivial
          go_wp2_with (clear N2; refine wpList_storeW rfl (.tmp 9) (.tmp 20) 111 rfl _ 111 [.int .i64 a0.i, .int .i64 a0.s, .int .i64 a0.sp, .int .i64 a0.co, .int .i64 a0.th, .int .i64 a0.c.p, .int .i64 a0.c.q, .int .i64 a0.c.r0, .int .i64 a0.c.r1, .int .i64 a0.c.r2, .int .i64 a0.c.r3, .int .i64 a0.c.r4, .int .i64 a0.c.r5, .int .i64 a0.c.r6, .int .i64 a0.c.r7, .int .i64 a0.c.d] [.int .i64 x.i, .int .i64 x.s, .int .i64 x.sp, .int .i64 x.co, .int .i64 x.th, .int .i64 x.c.p, .int .i64 x.c.q, .int .i64 x.c.r0, .int .i64 x.c.r1, .int .i64 x.c.r2, .int .i64 x.c.r3, .int .i64 x.c.r4, .int .i64 x.c.r5, .int .i64 x.c.r6, .int .i64 x.c.r7, .int .i64 x.c.d] I111 (onesA x) rfl rfl (new_a _) rfl ?_; intro w3 b3 f3; have d1 : w3.cell? ⟨w2.heap.size, 1, none⟩ = some (.int .i64 x.s) := b3.cell 1; have d2 : w3.cell? ⟨w2.heap.size, 2, none⟩ = some (.int .i64 x.sp) := b3.cell 2; have S3 : Hid (Still w w3) := hid (Still.next (SX1.out.alloc _) f3 (fun k hk => by rw [hk]; exact SX1.out.size)); have R3 := hid ((RX1.out.still ((Fr.refl _ _).alloc _)).fr f3 (fun e => by have := RX1.out.map.lt; omega) (fun e => by have := RX1.out.1.lt; omega)); have z3 := f3.size; clear b3 f3)
          go_roundw
          case rel => exact ⟨_, _, by have := CS.out; rw [if_pos PT.out, HN.out] at this; have c2 := CL2.out; rw [HN.out] at c2; have hw : wrap64 ((n : Int) + 1) = ((n + 1 : Nat) : Int) := by { unfold wrap64; omega }; rw [this, hw], R3.out, S3.out, by simp at z3; omega⟩
          case measure => rw [R3.out.1.left_eq, RX.out.1.left_eq]; exact LT.out
        · have e1 : (x.s == st) = false := by simp [h2]
          have PT : Hid (¬ p x = true) := hid (by rw [PX.out, e0, e1]; decide)
          clear h1 h2
          have N2 : True := trivial
          go_wp2_with (clear N2; refine wpList_storeW rfl (.tmp 9) (.tmp 20) 111 rfl _ 111 [.int .i64 a0.i, .int .i64 a0.s, .int .i64 a0.sp, .int .i64 a0.co, .int .i64 a0.th, .int .i64 a0.c.p, .int .i64 a0.c.q, .int .i64 a0.c.r0, .int .i64 a0.c.r1, .int .i64 a0.c.r2, .int .i64 a0.c.r3, .int .i64 a0.c.r4, .int .i64 a0.c.r5, .int .i64 a0.c.r6, .int .i64 a0.c.r7, .int .i64 a0.c.d] [.int .i64 x.i, .int .i64 x.s, .int .i64 x.sp, .int .i64 x.co, .int .i64 x.th, .int .i64 x.c.p, .int .i64 x.c.q, .int .i64 x.c.r0, .int .i64 x.c.r1, .int .i64 x.c.r2, .int .i64 x.c.r3, .int .i64 x.c.r4, .int .i64 x.c.r5, .int .i64 x.c.r6, .int .i64 x.c.r7, .int .i64 x.c.d] I111 (onesA x) rfl rfl (new_a _) rfl ?_; intro w3 b3 f3; have d1 : w3.cell? ⟨w2.heap.size, 1, none⟩ = some (.int .i64 x.s) := b3.cell 1; have d2 : w3.cell? ⟨w2.heap.size, 2, none⟩ = some (.int .i64 x.sp) := b3.cell 2; have S3 : Hid (Still w w3) := hid (Still.next (SX1.out.alloc _) f3 (fun k hk => by rw [hk]; exact SX1.out.size)); have R3 := hid ((RX1.out.still ((Fr.refl _ _).alloc _)).fr f3 (fun e => by have := RX1.out.map.lt; omega) (fun e => by have := RX1.out.1.lt; omega)); have z3 := f3.size; clear b3 f3)
          go_roundw
          case rel => exact ⟨_, _, by have := CS.out; rw [if_neg PT.out, HN.out] at this; rw [this]; rfl, R3.out, S3.out, by simp at z3; omega⟩
          case measure => rw [R3.out.1.left_eq, RX.out.1.left_eq]; exact LT.out
      · have e0 : (x.sp == sp) = false := by simp [h1]
        have PT : Hid (¬ p x = true) := hid (by rw [PX.out, e0]; simp)
        clear h1
        have N2 : True := trivial
        go_wp2_with (clear N2; refine wpList_storeW rfl (.tmp 9) (.tmp 20) 111 rfl _ 111 [.int .i64 a0.i, .int .i64 a0.s, .int .i64 a0.sp, .int .i64 a0.co, .int .i64 a0.th, .int .i64 a0.c.p, .int .i64 a0.c.q, .int .i64 a0.c.r0, .int .i64 a0.c.r1, .int .i64 a0.c.r2, .int .i64 a0.c.r3, .int .i64 a0.c.r4, .int .i64 a0.c.r5, .int .i64 a0.c.r6, .int .i64 a0.c.r7, .int .i64 a0.c.d] [.int .i64 x.i, .int .i64 x.s, .int .i64 x.sp, .int .i64 x.co, .int .i64 x.th, .int .i64 x.c.p, .int .i64 x.c.q, .int .i64 x.c.r0, .int .i64 x.c.r1, .int .i64 x.c.r2, .int .i64 x.c.r3, .int .i64 x.c.r4, .int .i64 x.c.r5, .int .i64 x.c.r6, .int .i64 x.c.r7, .int .i64 x.c.d] I111 (onesA x) rfl rfl (new_a _) rfl ?_; intro w3 b3 f3; have d2 : w3.cell? ⟨w2.heap.size, 2, none⟩ = some (.int .i64 x.sp) := b3.cell 2; have S3 : Hid (Still w w3) := hid (Still.next (SX1.out.alloc _) f3 (fun k hk => by rw [hk]; exact SX1.out.size)); have R3 := hid ((RX1.out.still ((Fr.refl _ _).alloc _)).fr f3 (fun e => by have := RX1.out.map.lt; omega) (fun e => by have := RX1.out.1.lt; omega)); have z3 := f3.size; clear b3 f3)
        go_roundw
        case rel => exact ⟨_, _, by have := CS.out; rw [if_neg PT.out, HN.out] at this; rw [this]; rfl, R3.out, S3.out, by simp at z3; omega⟩
        case measure => rw [R3.out.1.left_eq, RX.out.1.left_eq]; exact LT.out
end
def m1 : List Ac := [⟨65536, 1, 1, -1, 0, c0⟩]
def m2 : List Ac := [⟨65536, 2, 1, 2, 0, c0⟩]
def m3 : List Ac := [⟨65536, 2, 1, 2, 7, c0⟩]
def m4 : List Ac := [⟨65536, 3, 1, -1, 7, c0⟩]
theorem v_mk : mkV (zeroS 4 4) [] 1 = 65536 ∧ mkE (zeroS 4 4) [] 1 = 0 ∧ mkL (zeroS 4 4) [] 1 = m1 := by decide +kernel
theorem v_run : tE m1 65536 2 (runC m1 2) = 0 ∧ tL m1 65536 2 2 (runC m1 2) { fndA m1 65536 with co := 2 } = m2 := by decide +kernel
theorem v_load : loadE m2 65536 7 = 0 ∧ loadL m2 65536 7 = m3 := by decide +kernel
theorem v_blk : tE m3 65536 4 (blkC m3 65536) = 0 ∧ tL m3 65536 4 3 (blkC m3 65536) { fndA m3 65536 with co := -1 } = m4 := by decide +kernel
theorem v_get : fndA m4 65536 = ⟨65536, 3, 1, -1, 7, c0⟩ ∧ fndO m4 65536 = true := by decide +kernel
theorem v_s : (∀ x ∈ m1, 1 ≤ x.s ∧ x.s ≤ 5) ∧ (∀ x ∈ m3, 1 ≤ x.s ∧ x.s ≤ 5) := by decide +kernel
set_option maxRecDepth 100000 in
set_option maxHeartbeats 4000000 in
theorem alives (w : World) (hT : TabD w) (hC : TabF w) : Calls Tryd.prog 71 #[] w fun e w' => e = .returned (.bool true) ∧ Still w w' := by
  have HT := hid hT
  have HC := hid hC
  have h7 := hid hT.lt
  have HN := hid (anew w 4 (by omega) (by omega))
  have wf : Hid ((Lit.int .i64 65536).wf = true) := hid (by decide)
  have ml : Hid ((1 : Nat) < maxLen) := hid (by decide)
  clear hT hC
  go_enter Tryd.func71, Tryd.ntmps71
  go_wp2_with fail
  refine HN.out.mono ?_
  rintro e w1 ⟨P, B, M, rfl, hA, hs, hn⟩
  have A1 := hid hA
  have S1 := hid hs
  have NN := hid hn
  have n7 : Hid (¬ B.foot 7) := hid (fun hf => by have := hn.b 7 hf; have := h7.out; omega)
  clear hA hs hn HN
  go_wp2_with fail
  refine (amake A1.out (by decide) (SI.zero 4 (by omega)) (HT.out.still S1.out) n7.out (by decide) 1).mono ?_
  rintro e w2 ⟨he, h2, f2⟩
  rw [v_mk.1, v_mk.2.1] at he
  rw [v_mk.2.2] at h2
  subst he
  have A2 := hid h2
  have S2 := hid (S1.out.next f2 (fun k hk => hk.elim (NN.out.b k) (fun h => h ▸ NN.out.m)))
  clear h2 f2
  go_wp2_with fail
  refine (arun A2.out ml.out (HC.out.still S2.out) 65536 wf.out v_s.1 2).mono ?_
  rintro e w3 ⟨he, h2, f2⟩
  rw [v_run.1] at he
  rw [v_run.2] at h2
  subst he
  have A3 := hid h2
  have S3 := hid (S2.out.next f2 (fun k hk => hk ▸ NN.out.m))
  clear h2 f2
  go_wp2_with fail
  refine (aload A3.out ml.out 65536 wf.out 7).mono ?_
  rintro e w4 ⟨he, h2, f2⟩
  rw [v_load.1] at he
  rw [v_load.2] at h2
  subst he
  have A4 := hid h2
  have S4 := hid (S3.out.next f2 (fun k hk => hk ▸ NN.out.m))
  clear h2 f2
  go_wp2_with fail
  refine (ablock A4.out ml.out (HC.out.still S4.out) 65536 wf.out v_s.2).mono ?_
  rintro e w5 ⟨he, h2, f2⟩
  rw [v_blk.1] at he
  rw [v_blk.2] at h2
  subst he
  have A5 := hid h2
  have S5 := hid (S4.out.next f2 (fun k hk => hk ▸ NN.out.m))
  clear h2 f2
  go_wp2_with fail
  refine (aget A5.out 65536 wf.out).mono ?_
  rintro e w6 ⟨he, s6⟩
  rw [v_get.1, v_get.2] at he
  subst he
  have S6 := hid (S5.out.trans s6)
  clear s6
  have N2 : True := trivial
  go_wp2_with (clear N2; refine wpList_storeW rfl (.tmp 7) (.tmp 28) 111 rfl _ 111 [.int .i64 a0.i, .int .i64 a0.s, .int .i64 a0.sp, .int .i64 a0.co, .int .i64 a0.th, .int .i64 a0.c.p, .int .i64 a0.c.q, .int .i64 a0.c.r0, .int .i64 a0.c.r1, .int .i64 a0.c.r2, .int .i64 a0.c.r3, .int .i64 a0.c.r4, .int .i64 a0.c.r5, .int .i64 a0.c.r6, .int .i64 a0.c.r7, .int .i64 a0.c.d] [.int .i64 65536, .int .i64 3, .int .i64 1, .int .i64 (-1), .int .i64 7, .int .i64 0, .int .i64 0, .int .i64 0, .int .i64 0, .int .i64 0, .int .i64 0, .int .i64 0, .int .i64 0, .int .i64 0, .int .i64 0, .int .i64 0] I111 (onesA ⟨65536, 3, 1, -1, 7, c0⟩) rfl rfl (new_a _) rfl ?_; intro w7 b7 f7; have d1 : w7.cell? ⟨w6.heap.size, 1, none⟩ = some (.int .i64 3) := b7.cell 1; have d3 : w7.cell? ⟨w6.heap.size, 3, none⟩ = some (.int .i64 (-1)) := b7.cell 3; have d4 : w7.cell? ⟨w6.heap.size, 4, none⟩ = some (.int .i64 7) := b7.cell 4; have S7 : Hid (Still w w7) := hid (Still.next (S6.out.alloc _) f7 (fun k hk => by rw [hk]; exact S6.out.size)); clear b7 f7)
  go_ret
  exact ⟨rfl, S7.out⟩
end Go.Proofs.YtffjaaolcphonaaDoor
