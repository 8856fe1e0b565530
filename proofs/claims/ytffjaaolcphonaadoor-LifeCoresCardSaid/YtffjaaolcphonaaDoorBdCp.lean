/- The document's slots: Copy. -/
import Derived.Test.YtffjaaolcphonaaDoorRef4e
import Derived.Test.YtffjaaolcphonaaDoorSRow
import Derived.Test.YtffjaaolcphonaaDoorHeldIn
import Derived.Test.YtffjaaolcphonaaDoorRThr8
namespace Go.Proofs.YtffjaaolcphonaaDoor
open Go.RowKit
set_option linter.unusedSimpArgs false
def SI1 : SK Int := ⟨31, 3, 1, 8, .int .i64 0, fun x => [.int .i64 x], Tryd.underlying31, by kernel_rfl, rfl, by decide, by decide, fun _ => rfl, fun _ v hv => by simp only [List.mem_cons, List.not_mem_nil, or_false] at hv; subst hv; rfl⟩
/-- Bools, turned over. -/
def SB1 : SK Bool := ⟨134, 4, 1, 1, .bool false, fun x => [.bool !x], Tryd.underlying134, by kernel_rfl, rfl, by decide, by decide, fun _ => rfl, fun _ v hv => by simp only [List.mem_cons, List.not_mem_nil, or_false] at hv; subst hv; rfl⟩
theorem own_fr {w w' : World} {base : Nat} {e : TypeId} {sz n : Nat} {v : Value} {xs : List Value} (h : w.ownsRow base e sz v n xs) {F : Nat → Prop} (hf : Fr F w w') (hd : ∀ b, v.ownBlock = some b → ¬ F b) : w'.ownsRow base e sz v n xs := by
  obtain ⟨e, ⟨rfl, h2⟩ | ⟨g, cap, cur, rfl, hg, hcur, r⟩⟩ := h
  · exact ⟨e, .inl ⟨rfl, h2⟩⟩
  · have hgl := (Array.getElem?_eq_some_iff.1 hcur).1
    exact ⟨e, .inr ⟨g, cap, cur, rfl, hg, (hf.block g hgl (hd g rfl)).trans hcur, r⟩⟩
theorem own_still {w w' : World} {base : Nat} {e : TypeId} {sz n : Nat} {v : Value} {xs : List Value} (h : w.ownsRow base e sz v n xs) (hf : Still w w') : w'.ownsRow base e sz v n xs := own_fr h hf (fun _ _ h => h)
theorem own_lt2 {w : World} {base : Nat} {e : TypeId} {sz n : Nat} {v : Value} {xs : List Value} (h : w.ownsRow base e sz v n xs) {b : Nat} (hb : v.ownBlock = some b) : base ≤ b ∧ b < w.heap.size := by
  obtain ⟨_, ⟨rfl, _⟩ | ⟨g, cap, cur, rfl, hg, hcur, _⟩⟩ := h
  · cases hb
  · injection hb with hb
    subst hb
    exact ⟨hg, (Array.getElem?_eq_some_iff.1 hcur).1⟩
section
variable {α : Type} {S : SK α}
theorem own_nil0 {w : World} {g base : Nat} (h : Blk w g [] S.Et) (hb : base ≤ g) : w.ownsRow base S.Et S.sz (.slice (some ⟨g, 0, none⟩) 0 0) 0 (S.row ([] : List α)) :=
  ⟨by simp [SK.row], .inr ⟨g, 0, #[], rfl, hb, h, Nat.le_refl _, by unfold maxLen; omega, by simp, by simp [SK.row]⟩⟩
/-- An append onto a new one of none. -/
theorem step_app0 {ops : Array Oper} {o : Oper} {a : Act} {w : World} {K : Act → World → Prop} {Q : Exit → Act → World → Prop} {E : Prop} (hgd : Region.wanted o (yielded ops a.tmps) = true) (s x : Operand)
    (ho : o.op = .call { callee := .builtin .append, args := #[s, x], argTypes := #[S.T, S.T] })
    (base g : Nat) (ys : List α) (u : Value) (hs : a.eval s = .slice (some ⟨g, 0, none⟩) 0 0) (hx : a.eval x = u) (hb : Blk w g [] S.Et) (hg : base ≤ g) (hr : SRow S w u ys) (hn : ys.length ≤ 1000000000)
    (h : ∀ v' w', w'.ownsRow base S.Et S.sz v' ys.length (S.row ys) → Fr (fun k => k = g) w w' → (∀ b, v'.ownBlock = some b → b = g ∨ w.heap.size ≤ b) → K (a.put o.dst v') w') :
    if Region.wanted o (yielded ops a.tmps) = true then Oper.wp Tryd.prog o a w K Q else E := by
  have hl := hb.lt
  refine step_append_srow hgd s x ho base 0 [] ys _ u hs hx (own_nil0 hb hg) hr (by omega) (by omega) fun v' w' h1 h2 h3 => h v' w' (by simpa using h1) (Fr.of_grownBy h2 fun k hk _ => ?_) fun b hb' => ?_
  · injection hk with hk; exact hk.symm
  · rcases h3 with h3 | h3
    · rw [h3] at hb'; injection hb' with hb'; exact .inl hb'.symm
    · rw [h3] at hb'; injection hb' with hb'; exact .inr (by omega)
end
theorem step_new31 {ops : Array Oper} {o : Oper} {a : Act} {w : World} {K : Act → World → Prop} {Q : Exit → Act → World → Prop} {E : Prop} (hgd : Region.wanted o (yielded ops a.tmps) = true) (ho : o.op = .buildSlice 31 0 #[])
    (h : ∀ g w', Blk w' g [] 3 → Still w w' → w.heap.size ≤ g → K (a.put o.dst (.slice (some ⟨g, 0, none⟩) 0 0)) w') : if Region.wanted o (yielded ops a.tmps) = true then Oper.wp Tryd.prog o a w K Q else E := by
  rw [if_pos hgd]
  have hrun : (Instr.buildSlice 31 0 #[]).run Tryd.prog w = .ok (.slice (some ⟨w.heap.size, 0, none⟩) 0 0) (w.alloc (.cells #[] 3)) := by kernel_rfl
  unfold Oper.wp execOp
  simp only [ho, Sem.run_bind, Sem.run_pure, Result.andThen_ok, List.map_toArray, List.map_nil, hrun]
  exact h _ _ (Blk.new w [] 3) ((Fr.refl _ _).alloc _) (Nat.le_refl _)
theorem step_new134 {ops : Array Oper} {o : Oper} {a : Act} {w : World} {K : Act → World → Prop} {Q : Exit → Act → World → Prop} {E : Prop} (hgd : Region.wanted o (yielded ops a.tmps) = true) (ho : o.op = .buildSlice 134 0 #[])
    (h : ∀ g w', Blk w' g [] 4 → Still w w' → w.heap.size ≤ g → K (a.put o.dst (.slice (some ⟨g, 0, none⟩) 0 0)) w') : if Region.wanted o (yielded ops a.tmps) = true then Oper.wp Tryd.prog o a w K Q else E := by
  rw [if_pos hgd]
  have hrun : (Instr.buildSlice 134 0 #[]).run Tryd.prog w = .ok (.slice (some ⟨w.heap.size, 0, none⟩) 0 0) (w.alloc (.cells #[] 4)) := by kernel_rfl
  unfold Oper.wp execOp
  simp only [ho, Sem.run_bind, Sem.run_pure, Result.andThen_ok, List.map_toArray, List.map_nil, hrun]
  exact h _ _ (Blk.new w [] 4) ((Fr.refl _ _).alloc _) (Nat.le_refl _)
theorem rowI_eq (xs : List Int) : SI1.row xs = xs.map (Value.int .i64) := by induction xs with | nil => rfl | cons x r ih => (show [Value.int .i64 x] ++ SI1.row r = _); rw [ih]; rfl
theorem rowB_eq (xs : List Bool) : SB1.row xs = xs.map (fun b => Value.bool !b) := by induction xs with | nil => rfl | cons x r ih => (show [Value.bool !x] ++ SB1.row r = _); rw [ih]; rfl
theorem BBlk.of_owns {w : World} {base : Nat} {v : Value} {xs : List Bool} {n : Nat} (h : w.ownsRow base 4 1 v n (xs.map fun b => Value.bool !b)) (hne : 0 < n) :
    ∃ g cap, v = .slice (some ⟨g, 0, none⟩) n cap ∧ base ≤ g ∧ n ≤ cap ∧ BBlk w g xs := by
  obtain ⟨h1, ⟨_, h2⟩ | ⟨g, cap, cur, hv, hg, hh, hc, _, hs, ht⟩⟩ := h
  · omega
  · refine ⟨g, cap, hv, hg, hc, cur.toList.drop (n * 1), ?_⟩
    unfold Blk
    rw [← ht, List.take_append_drop]
    simpa using hh
theorem RAt.rowA {w : World} {p A T cA cT : Nat} {s : SS} (h : RAt w p A T cA cT s) : SRow SI1 w (.slice (some ⟨A, 0, none⟩) s.ages.length cA) s.ages :=
  .inr ⟨h.T0, A, 0, cA, rfl, fun j v hv => by
    rw [rowI_eq, List.getElem?_map] at hv
    obtain ⟨x, hx, rfl⟩ := Option.map_eq_some_iff.1 hv
    have hj := (List.getElem?_eq_some_iff.1 hx).1
    rw [Nat.zero_add, h.cA hj]
    simp [hx]⟩
theorem RAt.rowT {w : World} {p A T cA cT : Nat} {s : SS} (h : RAt w p A T cA cT s) : SRow SB1 w (.slice (some ⟨T, 0, none⟩) s.ages.length cT) s.fr :=
  .inr ⟨by rw [h.lf]; exact h.T0, T, 0, cT, by rw [h.lf], fun j v hv => by
    rw [rowB_eq, List.getElem?_map] at hv
    obtain ⟨x, hx, rfl⟩ := Option.map_eq_some_iff.1 hv
    have hj := (List.getElem?_eq_some_iff.1 hx).1
    rw [Nat.zero_add, h.cT (by rw [← h.lf]; exact hj)]
    simp [hx]⟩
/-- The copy stands. -/
theorem rcopy_at {w u : World} {p A T cA cT : Nat} {s : SS} (h : RAt w p A T cA cT s) {v8 v14 : Value} (oA : u.ownsRow w.heap.size 3 1 v8 s.ages.length (SI1.row s.ages)) (oB : u.ownsRow w.heap.size 4 1 v14 s.fr.length (SB1.row s.fr)) (hd : ∀ b b', v8.ownBlock = some b → v14.ownBlock = some b' → b ≠ b') (hs : Still w u) :
    ∃ p' A' T' cA' cT', (u.alloc (.cells #[v8, v14] 136)).heap.size = p' + 1 ∧ p' = u.heap.size ∧ RAt (u.alloc (.cells #[v8, v14] 136)) p' A' T' cA' cT' s ∧ w.heap.size ≤ p' ∧ w.heap.size ≤ A' ∧ w.heap.size ≤ T' := by
  rw [rowI_eq] at oA
  rw [rowB_eq] at oB
  obtain ⟨gA, kA, rfl, hgA, _, bA⟩ := IBlk.of_owns oA h.T0
  obtain ⟨gB, kB, rfl, hgB, _, bB⟩ := BBlk.of_owns oB (by rw [h.lf]; exact h.T0)
  have hne := hd gA gB rfl rfl
  have lA := bA.lt
  have lB := bB.lt
  have hz := hs.size
  have hB := Blk.new u [.slice (some ⟨gA, 0, none⟩) s.ages.length kA, .slice (some ⟨gB, 0, none⟩) s.fr.length kB] 136
  rw [h.lf] at hB ⊢
  exact ⟨u.heap.size, gA, gB, kA, kB, by simp, rfl, ⟨hB, bA.alloc _, bB.fr ((Fr.refl (fun _ => False) _).alloc _) (fun h => h), h.lf, by omega, by omega, hne, h.T0, h.T1⟩, by omega, hgA, hgB⟩
set_option maxRecDepth 100000 in
set_option maxHeartbeats 4000000 in
theorem rcopy04 {w : World} {p A T cA cT : Nat} {s : SS} (h : RAt w p A T cA cT s) : Calls Tryd.prog 101 #[.pointer (some ⟨p, 0, none⟩)] w fun e w' =>
    ∃ p' A' T' cA' cT', e = .returned (.pointer (some ⟨p', 0, none⟩)) ∧ RAt w' p' A' T' cA' cT' s ∧ Still w w' ∧ w.heap.size ≤ p' ∧ w.heap.size ≤ A' ∧ w.heap.size ≤ T' := by
  have F0 := h.f0
  have F1 := h.f1
  have H := hid h
  have RA := hid h.rowA
  have RT := hid h.rowT
  have LF := hid h.lf
  have T1 := hid h.T1
  clear h
  go_enter Tryd.func101, Tryd.ntmps101
  go_wp2_with fail
  refine Held.wp_region_held_tail (S := (fun w' => w'.cell? ⟨p, 0, none⟩ = some (.slice (some ⟨A, 0, none⟩) s.ages.length cA) ∧ w'.cell? ⟨p, 1, none⟩ = some (.slice (some ⟨T, 0, none⟩) s.ages.length cT))) 14 (by kernel_rfl) (by kernel_rfl) (by decide) ?hS1 (fun hHeld => ?hR1)
  case hS1 =>
    exact ⟨F0, F1⟩
  simp only [List.take_succ_cons, List.take_zero, List.drop_succ_cons, List.drop_zero]
  refine wpAnyH_take (i := 1) (oi := _) (v := ?v2) rfl (by kernel_rfl) (by kernel_rfl) (by kernel_rfl) (fun _ _ _ h => h) (Or.inl ⟨by rfl, ?y2⟩) (by assumption) ?r2
  case y2 => ((intro w hSw); (try dsimp only at hSw); go_simp; (try with_reducible rfl))
  (try simp only [Act.put, List.setIfInBounds_toArray, List.set_cons_zero, List.set_cons_succ])
  refine wpAnyH_take (i := 2) (oi := _) (v := ?v3) rfl (by kernel_rfl) (by kernel_rfl) (by kernel_rfl) (fun _ _ _ h => h) (Or.inl ⟨by rfl, ?y3⟩) (by assumption) ?r3
  case y3 => ((intro w hSw); (try dsimp only at hSw); go_simp; (try with_reducible rfl))
  (try simp only [Act.put, List.setIfInBounds_toArray, List.set_cons_zero, List.set_cons_succ])
  refine wpAnyH_take (i := 3) (oi := _) (v := ?v4) rfl (by kernel_rfl) (by kernel_rfl) (by kernel_rfl) (fun _ _ _ h => h) (Or.inl ⟨by rfl, ?y4⟩) (by assumption) ?r4
  case y4 => ((intro w hSw); (try dsimp only at hSw); go_simp; (try with_reducible rfl))
  (try simp only [Act.put, List.setIfInBounds_toArray, List.set_cons_zero, List.set_cons_succ])
  refine wpAnyH_take (i := 4) (oi := _) (v := ?v5) rfl (by kernel_rfl) (by kernel_rfl) (by kernel_rfl) (fun _ _ _ h => h) (Or.inl ⟨by rfl, ?y5⟩) (by assumption) ?r5
  case y5 => ((intro w hSw); (try dsimp only at hSw); go_simp; (try with_reducible rfl))
  (try simp only [Act.put, List.setIfInBounds_toArray, List.set_cons_zero, List.set_cons_succ])
  simp only [Act.put, List.getElem_toArray, List.getElem_cons_zero, List.getElem_cons_succ, List.setIfInBounds_toArray, List.set_cons_zero, List.set_cons_succ]
  refine wpAnyH_take (i := 7) (oi := _) (v := ?v6) rfl (by kernel_rfl) (by kernel_rfl) (by kernel_rfl) (fun _ _ _ h => h) (Or.inl ⟨by rfl, ?y6⟩) (by assumption) ?r6
  case y6 => ((intro w hSw); (try dsimp only at hSw); go_simp; (try with_reducible rfl))
  (try simp only [Act.put, List.setIfInBounds_toArray, List.set_cons_zero, List.set_cons_succ])
  refine wpAnyH_take (i := 8) (oi := _) (v := ?v7) rfl (by kernel_rfl) (by kernel_rfl) (by kernel_rfl) (fun _ _ _ h => h) (Or.inl ⟨by rfl, ?y7⟩) (by assumption) ?r7
  case y7 => ((intro w hSw); (try dsimp only at hSw); go_simp; (try with_reducible rfl))
  (try simp only [Act.put, List.setIfInBounds_toArray, List.set_cons_zero, List.set_cons_succ])
  refine wpAnyH_take (i := 9) (oi := _) (v := ?v8) rfl (by kernel_rfl) (by kernel_rfl) (by kernel_rfl) (fun _ _ _ h => h) (Or.inl ⟨by rfl, ?y8⟩) (by assumption) ?r8
  case y8 => ((intro w hSw); (try dsimp only at hSw); go_simp; (try with_reducible rfl))
  (try simp only [Act.put, List.setIfInBounds_toArray, List.set_cons_zero, List.set_cons_succ])
  refine wpAnyH_take (i := 10) (oi := _) (v := ?v9) rfl (by kernel_rfl) (by kernel_rfl) (by kernel_rfl) (fun _ _ _ h => h) (Or.inl ⟨by rfl, ?y9⟩) (by assumption) ?r9
  case y9 => ((intro w hSw); (try dsimp only at hSw); go_simp; (try with_reducible rfl))
  (try simp only [Act.put, List.setIfInBounds_toArray, List.set_cons_zero, List.set_cons_succ])
  simp only [Act.put, List.getElem_toArray, List.getElem_cons_zero, List.getElem_cons_succ, List.setIfInBounds_toArray, List.set_cons_zero, List.set_cons_succ]
  refine wpAnyH_ready (rs := [0, 6]) (by kernel_rfl) (by simp) ?_
  refine AllReadyH.cons rfl (fun K hK => ?_) (AllReadyH.cons rfl (fun K hK => ?_) AllReadyH.nil)
  · skip
    refine step_new31 rfl rfl ?_
    intro gA u1 b0 f0 z0
    have NA := hid b0
    have V1 : Hid (Still w u1) := hid ((Still.trans (Fr.refl _ _).drew f0))
    have WA : Hid (w.heap.size ≤ gA) := hid (z0)
    clear b0 f0 z0
    refine hK.out _ _ ?k10 (fun hHeld10 => ?_)
    case k10 =>
      exact ⟨Still.cell V1.out F0, Still.cell V1.out F1⟩
    clear hK K
    (try simp only [Act.put, List.setIfInBounds_toArray, List.set_cons_zero, List.set_cons_succ])
    refine wpAnyH_ready (rs := [5, 6]) (by kernel_rfl) (by simp) ?_
    refine AllReadyH.cons rfl (fun K hK => ?_) (AllReadyH.cons rfl (fun K hK => ?_) AllReadyH.nil)
    · skip
      refine step_app0 (S := SI1) rfl (.tmp 3) (.tmp 7) rfl w.heap.size gA s.ages _ rfl rfl NA.out WA.out (RA.out.still V1.out) (by have := T1.out; omega) ?_
      intro vA u2 o1 f1 q1
      obtain ⟨aA, kA, rfl⟩ := own_shape o1 _ rfl
      have OA := hid o1
      have V2 : Hid (Still w u2) := hid (Still.next V1.out f1 (fun k hk => by rw [hk]; exact WA.out))
      clear o1 f1 q1
      refine hK.out _ _ ?k11 (fun hHeld11 => ?_)
      case k11 =>
        exact ⟨Still.cell V2.out F0, Still.cell V2.out F1⟩
      clear hK K
      (try simp only [Act.put, List.setIfInBounds_toArray, List.set_cons_zero, List.set_cons_succ])
      refine wpAnyH_ready (rs := [6]) (by kernel_rfl) (by simp) ?_
      refine AllReadyH.cons rfl (fun K hK => ?st12) AllReadyH.nil
      refine step_new134 rfl rfl ?_
      intro gB u3 b2 f2 z2
      have NB := hid b2
      have V3 : Hid (Still w u3) := hid (V2.out.trans f2)
      have WB : Hid (w.heap.size ≤ gB) := hid (Nat.le_trans V2.out.size z2)
      have DB : Hid (∀ b, (Value.slice aA s.ages.length kA).ownBlock = some b → b ≠ gB) := hid (fun b hb => by have := (own_lt2 OA.out hb).2; omega)
      have OA := hid (own_still OA.out f2)
      clear b2 f2 z2
      refine hK.out _ _ ?k12 (fun hHeld12 => ?_)
      case k12 =>
        exact ⟨Still.cell V3.out F0, Still.cell V3.out F1⟩
      clear hK K
      (try simp only [Act.put, List.setIfInBounds_toArray, List.set_cons_zero, List.set_cons_succ])
      refine wpAnyH_ready (rs := [11]) (by kernel_rfl) (by simp) ?_
      refine AllReadyH.cons rfl (fun K hK => ?st13) AllReadyH.nil
      refine step_app0 (S := SB1) rfl (.tmp 9) (.tmp 13) rfl w.heap.size gB s.fr _ rfl rfl NB.out WB.out (RT.out.still V3.out) (by have := T1.out; have := LF.out; omega) ?_
      intro vB u4 o3 f3 q3
      obtain ⟨aB, kB, rfl⟩ := own_shape o3 _ rfl
      have OB := hid o3
      have V4 : Hid (Still w u4) := hid (Still.next V3.out f3 (fun k hk => by rw [hk]; exact WB.out))
      have DD : Hid (∀ b b', (Value.slice aA s.ages.length kA).ownBlock = some b → (Value.slice aB s.fr.length kB).ownBlock = some b' → b ≠ b') := hid (fun b b' h1 h2 => by have h3 := DB.out _ h1; have h4 := (own_lt2 OA.out h1).2; rcases q3 _ h2 with e | e <;> omega)
      have OA := hid (own_fr OA.out f3 (fun b hb e => DB.out b hb e))
      clear o3 f3 q3
      refine hK.out _ _ ?k13 (fun hHeld13 => ?_)
      case k13 =>
        exact ⟨Still.cell V4.out F0, Still.cell V4.out F1⟩
      clear hK K
      (try simp only [Act.put, List.setIfInBounds_toArray, List.set_cons_zero, List.set_cons_succ])
      refine wpAnyH_take (i := 12) (oi := _) (v := ?v14) rfl (by kernel_rfl) (by kernel_rfl) (by kernel_rfl) (fun _ _ _ h => h) (Or.inl ⟨by rfl, ?y14⟩) (by assumption) ?r14
      case y14 => ((intro w hSw); (try dsimp only at hSw); go_simp; (try with_reducible rfl))
      (try simp only [Act.put, List.setIfInBounds_toArray, List.set_cons_zero, List.set_cons_succ])
      refine wpAnyH_ready (rs := [13]) (by kernel_rfl) (by simp) ?_
      refine AllReadyH.cons rfl (fun K hK => ?st15) AllReadyH.nil
      go_simp
      refine hK.out _ _ ?k15 (fun hHeld15 => ?_)
      case k15 =>
        exact ⟨Still.cell (V4.out.alloc _) F0, Still.cell (V4.out.alloc _) F1⟩
      clear hK K
      (try simp only [Act.put, List.setIfInBounds_toArray, List.set_cons_zero, List.set_cons_succ])
      refine wpAnyH_done (by kernel_rfl) (Held.tailQ_normal ?_) _
      go_wp2_with fail
      go_ret
      obtain ⟨p', A', T', cA', cT', _, rfl, hR, h1, h2, h3⟩ := rcopy_at H.out OA.out OB.out DD.out V4.out
      exact ⟨_, A', T', cA', cT', rfl, hR, V4.out.alloc _, h1, h2, h3⟩
    · skip
      refine step_new134 rfl rfl ?_
      intro gB u2 b1 f1 z1
      have NB := hid b1
      have V2 : Hid (Still w u2) := hid (V1.out.trans f1)
      have WB : Hid (w.heap.size ≤ gB) := hid (Nat.le_trans V1.out.size z1)
      have DN : Hid (gA ≠ gB) := hid (by have := NA.out.lt; omega)
      have NA := hid (NA.out.still f1)
      clear b1 f1 z1
      refine hK.out _ _ ?k16 (fun hHeld16 => ?_)
      case k16 =>
        exact ⟨Still.cell V2.out F0, Still.cell V2.out F1⟩
      clear hK K
      (try simp only [Act.put, List.setIfInBounds_toArray, List.set_cons_zero, List.set_cons_succ])
      refine wpAnyH_ready (rs := [5]) (by kernel_rfl) (by simp) ?_
      refine AllReadyH.cons rfl (fun K hK => ?st17) AllReadyH.nil
      refine step_app0 (S := SI1) rfl (.tmp 3) (.tmp 7) rfl w.heap.size gA s.ages _ rfl rfl NA.out WA.out (RA.out.still V2.out) (by have := T1.out; omega) ?_
      intro vA u3 o2 f2 q2
      obtain ⟨aA, kA, rfl⟩ := own_shape o2 _ rfl
      have OA := hid o2
      have V3 : Hid (Still w u3) := hid (Still.next V2.out f2 (fun k hk => by rw [hk]; exact WA.out))
      have DB : Hid (∀ b, (Value.slice aA s.ages.length kA).ownBlock = some b → b ≠ gB) := hid (fun b hb => by have h1 := DN.out; have h2 := NB.out.lt; rcases q2 b hb with e | e <;> omega)
      have NB := hid (NB.out.fr f2 (fun e => DN.out e.symm))
      clear o2 f2 q2
      refine hK.out _ _ ?k17 (fun hHeld17 => ?_)
      case k17 =>
        exact ⟨Still.cell V3.out F0, Still.cell V3.out F1⟩
      clear hK K
      (try simp only [Act.put, List.setIfInBounds_toArray, List.set_cons_zero, List.set_cons_succ])
      refine wpAnyH_ready (rs := [11]) (by kernel_rfl) (by simp) ?_
      refine AllReadyH.cons rfl (fun K hK => ?st18) AllReadyH.nil
      refine step_app0 (S := SB1) rfl (.tmp 9) (.tmp 13) rfl w.heap.size gB s.fr _ rfl rfl NB.out WB.out (RT.out.still V3.out) (by have := T1.out; have := LF.out; omega) ?_
      intro vB u4 o3 f3 q3
      obtain ⟨aB, kB, rfl⟩ := own_shape o3 _ rfl
      have OB := hid o3
      have V4 : Hid (Still w u4) := hid (Still.next V3.out f3 (fun k hk => by rw [hk]; exact WB.out))
      have DD : Hid (∀ b b', (Value.slice aA s.ages.length kA).ownBlock = some b → (Value.slice aB s.fr.length kB).ownBlock = some b' → b ≠ b') := hid (fun b b' h1 h2 => by have h3 := DB.out _ h1; have h4 := (own_lt2 OA.out h1).2; rcases q3 _ h2 with e | e <;> omega)
      have OA := hid (own_fr OA.out f3 (fun b hb e => DB.out b hb e))
      clear o3 f3 q3
      refine hK.out _ _ ?k18 (fun hHeld18 => ?_)
      case k18 =>
        exact ⟨Still.cell V4.out F0, Still.cell V4.out F1⟩
      clear hK K
      (try simp only [Act.put, List.setIfInBounds_toArray, List.set_cons_zero, List.set_cons_succ])
      refine wpAnyH_take (i := 12) (oi := _) (v := ?v19) rfl (by kernel_rfl) (by kernel_rfl) (by kernel_rfl) (fun _ _ _ h => h) (Or.inl ⟨by rfl, ?y19⟩) (by assumption) ?r19
      case y19 => ((intro w hSw); (try dsimp only at hSw); go_simp; (try with_reducible rfl))
      (try simp only [Act.put, List.setIfInBounds_toArray, List.set_cons_zero, List.set_cons_succ])
      refine wpAnyH_ready (rs := [13]) (by kernel_rfl) (by simp) ?_
      refine AllReadyH.cons rfl (fun K hK => ?st20) AllReadyH.nil
      go_simp
      refine hK.out _ _ ?k20 (fun hHeld20 => ?_)
      case k20 =>
        exact ⟨Still.cell (V4.out.alloc _) F0, Still.cell (V4.out.alloc _) F1⟩
      clear hK K
      (try simp only [Act.put, List.setIfInBounds_toArray, List.set_cons_zero, List.set_cons_succ])
      refine wpAnyH_done (by kernel_rfl) (Held.tailQ_normal ?_) _
      go_wp2_with fail
      go_ret
      obtain ⟨p', A', T', cA', cT', _, rfl, hR, h1, h2, h3⟩ := rcopy_at H.out OA.out OB.out DD.out V4.out
      exact ⟨_, A', T', cA', cT', rfl, hR, V4.out.alloc _, h1, h2, h3⟩
  · skip
    refine step_new134 rfl rfl ?_
    intro gB u1 b0 f0 z0
    have NB := hid b0
    have V1 : Hid (Still w u1) := hid ((Still.trans (Fr.refl _ _).drew f0))
    have WB : Hid (w.heap.size ≤ gB) := hid (z0)
    clear b0 f0 z0
    refine hK.out _ _ ?k21 (fun hHeld21 => ?_)
    case k21 =>
      exact ⟨Still.cell V1.out F0, Still.cell V1.out F1⟩
    clear hK K
    (try simp only [Act.put, List.setIfInBounds_toArray, List.set_cons_zero, List.set_cons_succ])
    refine wpAnyH_ready (rs := [0]) (by kernel_rfl) (by simp) ?_
    refine AllReadyH.cons rfl (fun K hK => ?st22) AllReadyH.nil
    refine step_new31 rfl rfl ?_
    intro gA u2 b1 f1 z1
    have NA := hid b1
    have V2 : Hid (Still w u2) := hid (V1.out.trans f1)
    have WA : Hid (w.heap.size ≤ gA) := hid (Nat.le_trans V1.out.size z1)
    have DN : Hid (gA ≠ gB) := hid (by have := NB.out.lt; omega)
    have NB := hid (NB.out.still f1)
    clear b1 f1 z1
    refine hK.out _ _ ?k22 (fun hHeld22 => ?_)
    case k22 =>
      exact ⟨Still.cell V2.out F0, Still.cell V2.out F1⟩
    clear hK K
    (try simp only [Act.put, List.setIfInBounds_toArray, List.set_cons_zero, List.set_cons_succ])
    refine wpAnyH_ready (rs := [5]) (by kernel_rfl) (by simp) ?_
    refine AllReadyH.cons rfl (fun K hK => ?st23) AllReadyH.nil
    refine step_app0 (S := SI1) rfl (.tmp 3) (.tmp 7) rfl w.heap.size gA s.ages _ rfl rfl NA.out WA.out (RA.out.still V2.out) (by have := T1.out; omega) ?_
    intro vA u3 o2 f2 q2
    obtain ⟨aA, kA, rfl⟩ := own_shape o2 _ rfl
    have OA := hid o2
    have V3 : Hid (Still w u3) := hid (Still.next V2.out f2 (fun k hk => by rw [hk]; exact WA.out))
    have DB : Hid (∀ b, (Value.slice aA s.ages.length kA).ownBlock = some b → b ≠ gB) := hid (fun b hb => by have h1 := DN.out; have h2 := NB.out.lt; rcases q2 b hb with e | e <;> omega)
    have NB := hid (NB.out.fr f2 (fun e => DN.out e.symm))
    clear o2 f2 q2
    refine hK.out _ _ ?k23 (fun hHeld23 => ?_)
    case k23 =>
      exact ⟨Still.cell V3.out F0, Still.cell V3.out F1⟩
    clear hK K
    (try simp only [Act.put, List.setIfInBounds_toArray, List.set_cons_zero, List.set_cons_succ])
    refine wpAnyH_ready (rs := [11]) (by kernel_rfl) (by simp) ?_
    refine AllReadyH.cons rfl (fun K hK => ?st24) AllReadyH.nil
    refine step_app0 (S := SB1) rfl (.tmp 9) (.tmp 13) rfl w.heap.size gB s.fr _ rfl rfl NB.out WB.out (RT.out.still V3.out) (by have := T1.out; have := LF.out; omega) ?_
    intro vB u4 o3 f3 q3
    obtain ⟨aB, kB, rfl⟩ := own_shape o3 _ rfl
    have OB := hid o3
    have V4 : Hid (Still w u4) := hid (Still.next V3.out f3 (fun k hk => by rw [hk]; exact WB.out))
    have DD : Hid (∀ b b', (Value.slice aA s.ages.length kA).ownBlock = some b → (Value.slice aB s.fr.length kB).ownBlock = some b' → b ≠ b') := hid (fun b b' h1 h2 => by have h3 := DB.out _ h1; have h4 := (own_lt2 OA.out h1).2; rcases q3 _ h2 with e | e <;> omega)
    have OA := hid (own_fr OA.out f3 (fun b hb e => DB.out b hb e))
    clear o3 f3 q3
    refine hK.out _ _ ?k24 (fun hHeld24 => ?_)
    case k24 =>
      exact ⟨Still.cell V4.out F0, Still.cell V4.out F1⟩
    clear hK K
    (try simp only [Act.put, List.setIfInBounds_toArray, List.set_cons_zero, List.set_cons_succ])
    refine wpAnyH_take (i := 12) (oi := _) (v := ?v25) rfl (by kernel_rfl) (by kernel_rfl) (by kernel_rfl) (fun _ _ _ h => h) (Or.inl ⟨by rfl, ?y25⟩) (by assumption) ?r25
    case y25 => ((intro w hSw); (try dsimp only at hSw); go_simp; (try with_reducible rfl))
    (try simp only [Act.put, List.setIfInBounds_toArray, List.set_cons_zero, List.set_cons_succ])
    refine wpAnyH_ready (rs := [13]) (by kernel_rfl) (by simp) ?_
    refine AllReadyH.cons rfl (fun K hK => ?st26) AllReadyH.nil
    go_simp
    refine hK.out _ _ ?k26 (fun hHeld26 => ?_)
    case k26 =>
      exact ⟨Still.cell (V4.out.alloc _) F0, Still.cell (V4.out.alloc _) F1⟩
    clear hK K
    (try simp only [Act.put, List.setIfInBounds_toArray, List.set_cons_zero, List.set_cons_succ])
    refine wpAnyH_done (by kernel_rfl) (Held.tailQ_normal ?_) _
    go_wp2_with fail
    go_ret
    obtain ⟨p', A', T', cA', cT', _, rfl, hR, h1, h2, h3⟩ := rcopy_at H.out OA.out OB.out DD.out V4.out
    exact ⟨_, A', T', cA', cT', rfl, hR, V4.out.alloc _, h1, h2, h3⟩
end Go.Proofs.YtffjaaolcphonaaDoor
/- The document's threads: Copy. -/
namespace Go.Proofs.YtffjaaolcphonaaDoor
open Go.RowKit Go.Maps
set_option linter.unusedSimpArgs false
theorem step_new66 {ops : Array Oper} {o : Oper} {a : Act} {w : World} {K : Act → World → Prop} {Q : Exit → Act → World → Prop} {E : Prop} (hgd : Region.wanted o (yielded ops a.tmps) = true) (ho : o.op = .buildSlice 66 0 #[])
    (h : ∀ g w', Blk w' g [] 80 → Still w w' → w.heap.size ≤ g → K (a.put o.dst (.slice (some ⟨g, 0, none⟩) 0 0)) w') : if Region.wanted o (yielded ops a.tmps) = true then Oper.wp Tryd.prog o a w K Q else E := by
  rw [if_pos hgd]
  have hrun : (Instr.buildSlice 66 0 #[]).run Tryd.prog w = .ok (.slice (some ⟨w.heap.size, 0, none⟩) 0 0) (w.alloc (.cells #[] 80)) := by kernel_rfl
  unfold Oper.wp execOp
  simp only [ho, Sem.run_bind, Sem.run_pure, Result.andThen_ok, List.map_toArray, List.map_nil, hrun]
  exact h _ _ (Blk.new w [] 80) ((Fr.refl _ _).alloc _) (Nat.le_refl _)
section
variable {w : World} {O : Nat → Prop} {Q p A T cA cT : Nat} {s : SS} {L : List Thr}
/-- The copy stands. -/
theorem rtcopy_at {u : World} (hu : thrE.Up L) (hl : L.length ≤ 100000) {p' A' T' cA' cT' : Nat} {v : Value} (hR : RAt u p' A' T' cA' cT' s) (oX : u.ownsRow w.heap.size 80 15 v L.length (S66.row L)) (hd : ∀ b, v.ownBlock = some b → b ≠ p' ∧ b ≠ A' ∧ b ≠ T') (hs : Still w u) (h1 : w.heap.size ≤ p') (h2 : w.heap.size ≤ A') (h3 : w.heap.size ≤ T') :
    RTAt (u.alloc (.cells #[.pointer (some ⟨p', 0, none⟩), v] 75)) (fun k => w.heap.size ≤ k ∧ k < (u.alloc (.cells #[.pointer (some ⟨p', 0, none⟩), v] 75)).heap.size) u.heap.size p' A' T' cA' cT' s L := by
  have hB := Blk.new u [.pointer (some ⟨p', 0, none⟩), v] 75
  have hz := hs.size
  have l1 := hR.hp.lt
  have l2 := hR.hA.lt
  have l3 := hR.hT.lt
  have zz : (u.alloc (.cells #[.pointer (some ⟨p', 0, none⟩), v] 75)).heap.size = u.heap.size + 1 := by simp
  rw [zz]
  refine ⟨hB.cell 0, ⟨v, hB.cell 1, own_still (ownsRow_base oX (Nat.zero_le _)) ((Fr.refl _ _).alloc _), fun b hb => ?_⟩, hB.frozen 1, hR.still ((Fr.refl _ _).alloc _), by omega, by omega, by omega, ⟨hz, by omega⟩, ⟨h1, by omega⟩, ⟨h2, by omega⟩, ⟨h3, by omega⟩, fun k hk => by rw [zz]; exact hk.2, hu, hl⟩
  have h4 := own_lt2 oX hb
  have h5 := hd b hb
  exact ⟨⟨h4.1, by omega⟩, by omega, h5.1, h5.2.1, h5.2.2⟩
set_option maxRecDepth 100000 in
set_option maxHeartbeats 4000000 in
theorem rtcopy (h : RTAt w O Q p A T cA cT s L) : Calls Tryd.prog 59 #[.pointer (some ⟨Q, 0, none⟩)] w fun e w' =>
    ∃ Q' p' A' T' cA' cT', e = .returned (.pointer (some ⟨Q', 0, none⟩)) ∧ RTAt w' (fun k => w.heap.size ≤ k ∧ k < w'.heap.size) Q' p' A' T' cA' cT' s L ∧ Still w w' := by
  have F0 := h.f0
  obtain ⟨v, F1, v2, _⟩ := h.ex
  have RX := hid (SRow.own (S := S66) v2 rfl)
  obtain ⟨a, c, rfl⟩ := own_shape v2 _ rfl
  have HU := hid h.up
  have HL := hid h.len
  have HR := hid (fun (u : World) (hu : Still w u) => rcopy04 (h.r.still hu))
  clear h v2
  go_enter Tryd.func59, Tryd.ntmps59
  go_wp2_with fail
  refine Held.wp_region_held_tail (S := (fun w' => w'.cell? ⟨Q, 0, none⟩ = some (.pointer (some ⟨p, 0, none⟩)) ∧ w'.cell? ⟨Q, 1, none⟩ = some (.slice a L.length c))) 13 (by kernel_rfl) (by kernel_rfl) (by decide) ?hS1 (fun hHeld => ?hR1)
  case hS1 =>
    exact ⟨F0, F1⟩
  simp only [List.take_succ_cons, List.take_zero, List.drop_succ_cons, List.drop_zero]
  refine wpAnyH_take (i := 0) (oi := _) (v := ?v2) rfl (by kernel_rfl) (by kernel_rfl) (by kernel_rfl) (fun _ _ _ h => h) (Or.inl ⟨by rfl, ?y2⟩) (by assumption) ?r2
  case y2 => ((intro w hSw); (try dsimp only at hSw); go_simp; (try with_reducible rfl))
  (try simp only [Act.put, List.setIfInBounds_toArray, List.set_cons_zero, List.set_cons_succ])
  refine wpAnyH_take (i := 1) (oi := _) (v := ?v3) rfl (by kernel_rfl) (by kernel_rfl) (by kernel_rfl) (fun _ _ _ h => h) (Or.inl ⟨by rfl, ?y3⟩) (by assumption) ?r3
  case y3 => ((intro w hSw); (try dsimp only at hSw); go_simp; (try with_reducible rfl))
  (try simp only [Act.put, List.setIfInBounds_toArray, List.set_cons_zero, List.set_cons_succ])
  refine wpAnyH_take (i := 2) (oi := _) (v := ?v4) rfl (by kernel_rfl) (by kernel_rfl) (by kernel_rfl) (fun _ _ _ h => h) (Or.inl ⟨by rfl, ?y4⟩) (by assumption) ?r4
  case y4 => ((intro w hSw); (try dsimp only at hSw); go_simp; (try with_reducible rfl))
  (try simp only [Act.put, List.setIfInBounds_toArray, List.set_cons_zero, List.set_cons_succ])
  refine wpAnyH_take (i := 3) (oi := _) (v := ?v5) rfl (by kernel_rfl) (by kernel_rfl) (by kernel_rfl) (fun _ _ _ h => h) (Or.inl ⟨by rfl, ?y5⟩) (by assumption) ?r5
  case y5 => ((intro w hSw); (try dsimp only at hSw); go_simp; (try with_reducible rfl))
  (try simp only [Act.put, List.setIfInBounds_toArray, List.set_cons_zero, List.set_cons_succ])
  simp only [Act.put, List.getElem_toArray, List.getElem_cons_zero, List.getElem_cons_succ, List.setIfInBounds_toArray, List.set_cons_zero, List.set_cons_succ]
  refine wpAnyH_take (i := 6) (oi := _) (v := ?v6) rfl (by kernel_rfl) (by kernel_rfl) (by kernel_rfl) (fun _ _ _ h => h) (Or.inl ⟨by rfl, ?y6⟩) (by assumption) ?r6
  case y6 => ((intro w hSw); (try dsimp only at hSw); go_simp; (try with_reducible rfl))
  (try simp only [Act.put, List.setIfInBounds_toArray, List.set_cons_zero, List.set_cons_succ])
  refine wpAnyH_take (i := 7) (oi := _) (v := ?v7) rfl (by kernel_rfl) (by kernel_rfl) (by kernel_rfl) (fun _ _ _ h => h) (Or.inl ⟨by rfl, ?y7⟩) (by assumption) ?r7
  case y7 => ((intro w hSw); (try dsimp only at hSw); go_simp; (try with_reducible rfl))
  (try simp only [Act.put, List.setIfInBounds_toArray, List.set_cons_zero, List.set_cons_succ])
  refine wpAnyH_take (i := 8) (oi := _) (v := ?v8) rfl (by kernel_rfl) (by kernel_rfl) (by kernel_rfl) (fun _ _ _ h => h) (Or.inl ⟨by rfl, ?y8⟩) (by assumption) ?r8
  case y8 => ((intro w hSw); (try dsimp only at hSw); go_simp; (try with_reducible rfl))
  (try simp only [Act.put, List.setIfInBounds_toArray, List.set_cons_zero, List.set_cons_succ])
  refine wpAnyH_take (i := 9) (oi := _) (v := ?v9) rfl (by kernel_rfl) (by kernel_rfl) (by kernel_rfl) (fun _ _ _ h => h) (Or.inl ⟨by rfl, ?y9⟩) (by assumption) ?r9
  case y9 => ((intro w hSw); (try dsimp only at hSw); go_simp; (try with_reducible rfl))
  (try simp only [Act.put, List.setIfInBounds_toArray, List.set_cons_zero, List.set_cons_succ])
  simp only [Act.put, List.getElem_toArray, List.getElem_cons_zero, List.getElem_cons_succ, List.setIfInBounds_toArray, List.set_cons_zero, List.set_cons_succ]
  refine wpAnyH_ready (rs := [4, 5]) (by kernel_rfl) (by simp) ?_
  refine AllReadyH.cons rfl (fun K hK => ?_) (AllReadyH.cons rfl (fun K hK => ?_) AllReadyH.nil)
  · skip
    go_simp
    go_at_call 101
    refine (HR.out _ (by exact (Fr.refl _ _).drew)).mono ?_
    rintro e u1 ⟨p', A', T', cA', cT', rfl, r0, f0, l1, l2, l3⟩
    have RC := hid r0
    have V1 : Hid (Still w u1) := hid (Still.trans (Fr.refl _ _).drew f0)
    have L1 : Hid (w.heap.size ≤ p') := hid l1
    have L2 : Hid (w.heap.size ≤ A') := hid l2
    have L3 : Hid (w.heap.size ≤ T') := hid l3
    clear r0 f0 l1 l2 l3
    refine hK.out _ _ ?k10 (fun hHeld10 => ?_)
    case k10 =>
      exact ⟨Still.cell V1.out F0, Still.cell V1.out F1⟩
    clear hK K
    (try simp only [Act.put, List.setIfInBounds_toArray, List.set_cons_zero, List.set_cons_succ])
    refine wpAnyH_ready (rs := [5]) (by kernel_rfl) (by simp) ?_
    refine AllReadyH.cons rfl (fun K hK => ?st11) AllReadyH.nil
    refine step_new66 rfl rfl ?_
    intro gX u2 b1 f1 z1
    have NX := hid b1
    have V2 : Hid (Still w u2) := hid (V1.out.trans f1)
    have WX : Hid (w.heap.size ≤ gX) := hid (Nat.le_trans V1.out.size z1)
    have DN : Hid (gX ≠ p' ∧ gX ≠ A' ∧ gX ≠ T') := hid (by have h1 := RC.out.hp.lt; have h2 := RC.out.hA.lt; have h3 := RC.out.hT.lt; refine ⟨?_, ?_, ?_⟩ <;> omega)
    have RC := hid (RC.out.still f1)
    clear b1 f1 z1
    refine hK.out _ _ ?k11 (fun hHeld11 => ?_)
    case k11 =>
      exact ⟨Still.cell V2.out F0, Still.cell V2.out F1⟩
    clear hK K
    (try simp only [Act.put, List.setIfInBounds_toArray, List.set_cons_zero, List.set_cons_succ])
    refine wpAnyH_ready (rs := [10]) (by kernel_rfl) (by simp) ?_
    refine AllReadyH.cons rfl (fun K hK => ?st12) AllReadyH.nil
    refine step_app0 (S := S66) rfl (.tmp 8) (.tmp 12) rfl w.heap.size gX L _ rfl rfl NX.out WX.out (RX.out.still V2.out) (by have := HL.out; omega) ?_
    intro vX u3 o2 f2 q2
    obtain ⟨aX, kX, rfl⟩ := own_shape o2 _ rfl
    have OX := hid o2
    have V3 : Hid (Still w u3) := hid (Still.next V2.out f2 (fun k hk => by rw [hk]; exact WX.out))
    have DX : Hid (∀ b, (Value.slice aX L.length kX).ownBlock = some b → b ≠ p' ∧ b ≠ A' ∧ b ≠ T') := hid (fun b hb => by have h1 := RC.out.hp.lt; have h2 := RC.out.hA.lt; have h3 := RC.out.hT.lt; have h4 := DN.out; rcases q2 b hb with e | e <;> (refine ⟨?_, ?_, ?_⟩ <;> omega))
    have RC := hid (RC.out.fr f2 (fun e => DN.out.1 e.symm) (fun e => DN.out.2.1 e.symm) (fun e => DN.out.2.2 e.symm))
    clear o2 f2 q2
    refine hK.out _ _ ?k12 (fun hHeld12 => ?_)
    case k12 =>
      exact ⟨Still.cell V3.out F0, Still.cell V3.out F1⟩
    clear hK K
    (try simp only [Act.put, List.setIfInBounds_toArray, List.set_cons_zero, List.set_cons_succ])
    refine wpAnyH_take (i := 11) (oi := _) (v := ?v13) rfl (by kernel_rfl) (by kernel_rfl) (by kernel_rfl) (fun _ _ _ h => h) (Or.inl ⟨by rfl, ?y13⟩) (by assumption) ?r13
    case y13 => ((intro w hSw); (try dsimp only at hSw); go_simp; (try with_reducible rfl))
    (try simp only [Act.put, List.setIfInBounds_toArray, List.set_cons_zero, List.set_cons_succ])
    refine wpAnyH_ready (rs := [12]) (by kernel_rfl) (by simp) ?_
    refine AllReadyH.cons rfl (fun K hK => ?st14) AllReadyH.nil
    go_simp
    refine hK.out _ _ ?k14 (fun hHeld14 => ?_)
    case k14 =>
      exact ⟨Still.cell (V3.out.alloc _) F0, Still.cell (V3.out.alloc _) F1⟩
    clear hK K
    (try simp only [Act.put, List.setIfInBounds_toArray, List.set_cons_zero, List.set_cons_succ])
    refine wpAnyH_done (by kernel_rfl) (Held.tailQ_normal ?_) _
    go_wp2_with fail
    go_ret
    exact ⟨_, p', A', T', cA', cT', rfl, rtcopy_at HU.out HL.out RC.out OX.out DX.out V3.out L1.out L2.out L3.out, V3.out.alloc _⟩
  · skip
    refine step_new66 rfl rfl ?_
    intro gX u1 b0 f0 z0
    have NX := hid b0
    have V1 : Hid (Still w u1) := hid (Still.trans (Fr.refl _ _).drew f0)
    have WX : Hid (w.heap.size ≤ gX) := hid (z0)
    clear b0 f0 z0
    refine hK.out _ _ ?k15 (fun hHeld15 => ?_)
    case k15 =>
      exact ⟨Still.cell V1.out F0, Still.cell V1.out F1⟩
    clear hK K
    (try simp only [Act.put, List.setIfInBounds_toArray, List.set_cons_zero, List.set_cons_succ])
    refine wpAnyH_ready (rs := [4]) (by kernel_rfl) (by simp) ?_
    refine AllReadyH.cons rfl (fun K hK => ?st16) AllReadyH.nil
    go_simp
    go_at_call 101
    refine (HR.out _ V1.out).mono ?_
    rintro e u2 ⟨p', A', T', cA', cT', rfl, r1, f1, l1, l2, l3⟩
    have RC := hid r1
    have V2 : Hid (Still w u2) := hid (V1.out.trans f1)
    have DN : Hid (gX ≠ p' ∧ gX ≠ A' ∧ gX ≠ T') := hid (by have := NX.out.lt; refine ⟨?_, ?_, ?_⟩ <;> omega)
    have L1 : Hid (w.heap.size ≤ p') := hid (Nat.le_trans V1.out.size l1)
    have L2 : Hid (w.heap.size ≤ A') := hid (Nat.le_trans V1.out.size l2)
    have L3 : Hid (w.heap.size ≤ T') := hid (Nat.le_trans V1.out.size l3)
    have NX := hid (NX.out.still f1)
    clear r1 f1 l1 l2 l3
    refine hK.out _ _ ?k16 (fun hHeld16 => ?_)
    case k16 =>
      exact ⟨Still.cell V2.out F0, Still.cell V2.out F1⟩
    clear hK K
    (try simp only [Act.put, List.setIfInBounds_toArray, List.set_cons_zero, List.set_cons_succ])
    refine wpAnyH_ready (rs := [10]) (by kernel_rfl) (by simp) ?_
    refine AllReadyH.cons rfl (fun K hK => ?st17) AllReadyH.nil
    refine step_app0 (S := S66) rfl (.tmp 8) (.tmp 12) rfl w.heap.size gX L _ rfl rfl NX.out WX.out (RX.out.still V2.out) (by have := HL.out; omega) ?_
    intro vX u3 o2 f2 q2
    obtain ⟨aX, kX, rfl⟩ := own_shape o2 _ rfl
    have OX := hid o2
    have V3 : Hid (Still w u3) := hid (Still.next V2.out f2 (fun k hk => by rw [hk]; exact WX.out))
    have DX : Hid (∀ b, (Value.slice aX L.length kX).ownBlock = some b → b ≠ p' ∧ b ≠ A' ∧ b ≠ T') := hid (fun b hb => by have h1 := RC.out.hp.lt; have h2 := RC.out.hA.lt; have h3 := RC.out.hT.lt; have h4 := DN.out; rcases q2 b hb with e | e <;> (refine ⟨?_, ?_, ?_⟩ <;> omega))
    have RC := hid (RC.out.fr f2 (fun e => DN.out.1 e.symm) (fun e => DN.out.2.1 e.symm) (fun e => DN.out.2.2 e.symm))
    clear o2 f2 q2
    refine hK.out _ _ ?k17 (fun hHeld17 => ?_)
    case k17 =>
      exact ⟨Still.cell V3.out F0, Still.cell V3.out F1⟩
    clear hK K
    (try simp only [Act.put, List.setIfInBounds_toArray, List.set_cons_zero, List.set_cons_succ])
    refine wpAnyH_take (i := 11) (oi := _) (v := ?v18) rfl (by kernel_rfl) (by kernel_rfl) (by kernel_rfl) (fun _ _ _ h => h) (Or.inl ⟨by rfl, ?y18⟩) (by assumption) ?r18
    case y18 => ((intro w hSw); (try dsimp only at hSw); go_simp; (try with_reducible rfl))
    (try simp only [Act.put, List.setIfInBounds_toArray, List.set_cons_zero, List.set_cons_succ])
    refine wpAnyH_ready (rs := [12]) (by kernel_rfl) (by simp) ?_
    refine AllReadyH.cons rfl (fun K hK => ?st19) AllReadyH.nil
    go_simp
    refine hK.out _ _ ?k19 (fun hHeld19 => ?_)
    case k19 =>
      exact ⟨Still.cell (V3.out.alloc _) F0, Still.cell (V3.out.alloc _) F1⟩
    clear hK K
    (try simp only [Act.put, List.setIfInBounds_toArray, List.set_cons_zero, List.set_cons_succ])
    refine wpAnyH_done (by kernel_rfl) (Held.tailQ_normal ?_) _
    go_wp2_with fail
    go_ret
    exact ⟨_, p', A', T', cA', cT', rfl, rtcopy_at HU.out HL.out RC.out OX.out DX.out V3.out L1.out L2.out L3.out, V3.out.alloc _⟩
end
end Go.Proofs.YtffjaaolcphonaaDoor
