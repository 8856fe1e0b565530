/- Copy. -/
import Derived.Test.YtffjaaolcphonaaDoorAll4
import Derived.Deep.RegionHeld3
import Derived.Test.YtffjaaolcphonaaDoorHeld
namespace Go.Proofs.YtffjaaolcphonaaDoor
open Go.RowKit
set_option linter.unusedSimpArgs false
set_option maxRecDepth 100000 in
theorem build53 (W : Nat → Nat) (a : Option Addr) (n c : Nat) (x : Int) : Tryd.prog.built 53 [(0, .slice a n c), (1, .agg (words W).toArray), (2, .int .i64 x)] = some (.slice a n c :: (words W ++ [.int .i64 x])).toArray := by
  kernel_rfl
theorem build_step {ops : Array Oper} {rest : List Oper} {o : Oper} {a : Act} {w : World} {Q : Exit → Act → World → Prop} (hg : o.guard = none) (t : TypeId) (parts : Array (Nat × Operand)) (ho : o.op = .build t parts) {cells : Array Value}
    (hb : Tryd.prog.built t (parts.map fun (i, x) => (i, a.eval x)).toList = some cells) (h : wpList Tryd.prog ops Q rest (a.put o.dst (.agg cells)) w) : wpList Tryd.prog ops Q (o :: rest) a w :=
  wpList_build hg t parts ho (by rw [hb]; rfl) (by rw [hb]; exact h)
set_option maxRecDepth 100000 in
set_option maxHeartbeats 4000000 in
theorem scopy (w : World) (B : SB) (s : SS) (h : SAt w B s) : Calls Tryd.prog 37 #[.pointer (some ⟨B.P, 0, none⟩)] w fun e w' =>
    ∃ C : SB, e = .returned (.pointer (some ⟨C.P, 0, none⟩)) ∧ SAt w' C s ∧ Still w w' ∧ ∀ k, C.foot k → w.heap.size ≤ k := by
  have M := hid (smade w B s h)
  have F0 := h.f0
  have FN := h.fn
  have t0 := h.T0
  have t1 := h.T1
  obtain ⟨W, hW, hb⟩ := h.hp
  have FR := range_words hb
  have HC := hid (fun (u : World) (hu : Still w u) => Tryd.slices_Clone_int B.A 0 s.ages.length B.c s.ages u (Nat.le_refl _) (by omega) (fun j hj => by have := Still.cell hu (h.cA hj); simpa using this))
  obtain ⟨ws, hws⟩ : ∃ ws, words W = ws := ⟨_, rfl⟩
  have HB := hid (build53 W)
  rw [hws] at HB
  have H51 : (Tryd.prog.info? 51).map (·.size) = some (words W).length := by rw [words_len]; kernel_rfl
  have U51 := Tryd.underlying51
  rw [hws] at FR H51
  have HW := hid hws
  have Hh := hid h
  have HWb := hid (And.intro hW hb)
  clear h hW hb hws
  go_enter Tryd.func37, Tryd.ntmps37
  go_wp2_with (go_at_call 85; refine M.out.mono ?_; rintro e w' ⟨rfl, rfl⟩)
  go_cut [2] (fun s2 wx => ∃ C : SB, s2 = .pointer (some ⟨C.P, 0, none⟩) ∧ SAt wx C s ∧ Still w wx ∧ ∀ k, C.foot k → w.heap.size ≤ k)
  case first =>
    refine Held.wp_region_held_tail (S := (fun w' => w'.cell? ⟨B.P, 0, none⟩ = some (.slice (some ⟨B.A, 0, none⟩) s.ages.length B.c) ∧ w'.rangeAt B.P 1 ws ∧ w'.cell? ⟨B.P, 65, none⟩ = some (.int .i64 s.n))) 13 (by kernel_rfl) (by kernel_rfl) (by decide) ?hS1 (fun hHeld => ?hR1)
    case hS1 =>
      exact ⟨F0, FR, FN⟩
    simp only [List.take_succ_cons, List.take_zero, List.drop_succ_cons, List.drop_zero]
    refine wpAnyH_take (i := 0) (oi := _) (v := ?v2) rfl (by kernel_rfl) (by kernel_rfl) (by kernel_rfl) (fun _ _ _ h => h) (Or.inl ⟨by rfl, ?y2⟩) (by assumption) ?r2
    case y2 => ((intro w hSw); (try dsimp only at hSw); go_simp; (try with_reducible rfl))
    (try simp only [Act.put, List.setIfInBounds_toArray, List.set_cons_zero, List.set_cons_succ])
    refine wpAnyH_take (i := 1) (oi := _) (v := ?v3) rfl (by kernel_rfl) (by kernel_rfl) (by kernel_rfl) (fun _ _ _ h => h) (Or.inl ⟨by rfl, ?y3⟩) (by assumption) ?r3
    case y3 => ((intro w hSw); (try dsimp only at hSw); go_simp; (try with_reducible rfl))
    (try simp only [Act.put, List.setIfInBounds_toArray, List.set_cons_zero, List.set_cons_succ])
    refine wpAnyH_take (i := 2) (oi := _) (v := ?v4) rfl (by kernel_rfl) (by kernel_rfl) (by kernel_rfl) (fun _ _ _ h => h) (Or.inl ⟨by rfl, ?y4⟩) (by assumption) ?r4
    case y4 => ((intro w hSw); (try dsimp only at hSw); go_simp; (try with_reducible rfl))
    (try simp only [Act.put, List.setIfInBounds_toArray, List.set_cons_zero, List.set_cons_succ])
    refine wpAnyH_take (i := 3) (oi := _) (v := ?v5) rfl (by kernel_rfl) (by kernel_rfl) (by kernel_rfl) (fun _ _ _ h => h) (Or.inl ⟨by rfl, ?y5⟩) (by assumption) ?r5
    case y5 => ((intro w hSw); (try dsimp only at hSw); go_simp; (try with_reducible rfl))
    (try simp only [Act.put, List.setIfInBounds_toArray, List.set_cons_zero, List.set_cons_succ])
    refine wpAnyH_take (i := 5) (oi := _) (v := ?v6) rfl (by kernel_rfl) (by kernel_rfl) (by kernel_rfl) (fun _ _ _ h => h) (Or.inl ⟨by rfl, ?y6⟩) (by assumption) ?r6
    case y6 => ((intro w hSw); (try dsimp only at hSw); go_simp; (try with_reducible rfl))
    (try simp only [Act.put, List.setIfInBounds_toArray, List.set_cons_zero, List.set_cons_succ])
    refine wpAnyH_take (i := 6) (oi := _) (v := ?v7) rfl (by kernel_rfl) (by kernel_rfl) (by kernel_rfl) (fun _ _ _ h => h) (Or.inl ⟨by rfl, ?y7⟩) (by assumption) ?r7
    case y7 => ((intro w hSw); (try dsimp only at hSw); go_simp; (try with_reducible rfl))
    (try simp only [Act.put, List.setIfInBounds_toArray, List.set_cons_zero, List.set_cons_succ])
    refine wpAnyH_take (i := 7) (oi := _) (v := ?v8) rfl (by kernel_rfl) (by kernel_rfl) (by kernel_rfl) (fun _ _ _ h => h) (Or.inl ⟨by rfl, ?y8⟩) (by assumption) ?r8
    case y8 => ((intro w hSw); (try dsimp only at hSw); go_simp; (try with_reducible rfl))
    (try simp only [Act.put, List.setIfInBounds_toArray, List.set_cons_zero, List.set_cons_succ])
    refine wpAnyH_take (i := 8) (oi := _) (v := .agg ws.toArray) rfl (by kernel_rfl) (by kernel_rfl) (by kernel_rfl) (fun _ _ _ h => h) (yieldsIf_load_mid rfl 51 _ rfl B.P 1 rfl ws _ (fun w h => h.2.1) U51 rfl H51) (by assumption) ?rM
    simp only [Act.put, List.setIfInBounds_toArray, List.set_cons_zero, List.set_cons_succ]
    refine wpAnyH_take (i := 9) (oi := _) (v := ?v9) rfl (by kernel_rfl) (by kernel_rfl) (by kernel_rfl) (fun _ _ _ h => h) (Or.inl ⟨by rfl, ?y9⟩) (by assumption) ?r9
    case y9 => ((intro w hSw); (try dsimp only at hSw); go_simp; (try with_reducible rfl))
    (try simp only [Act.put, List.setIfInBounds_toArray, List.set_cons_zero, List.set_cons_succ])
    refine wpAnyH_take (i := 10) (oi := _) (v := ?v10) rfl (by kernel_rfl) (by kernel_rfl) (by kernel_rfl) (fun _ _ _ h => h) (Or.inl ⟨by rfl, ?y10⟩) (by assumption) ?r10
    case y10 => ((intro w hSw); (try dsimp only at hSw); go_simp; (try with_reducible rfl))
    (try simp only [Act.put, List.setIfInBounds_toArray, List.set_cons_zero, List.set_cons_succ])
    refine wpAnyH_take (i := 11) (oi := _) (v := ?v11) rfl (by kernel_rfl) (by kernel_rfl) (by kernel_rfl) (fun _ _ _ h => h) (Or.inl ⟨by rfl, ?y11⟩) (by assumption) ?r11
    case y11 => ((intro w hSw); (try dsimp only at hSw); go_simp; (try with_reducible rfl))
    (try simp only [Act.put, List.setIfInBounds_toArray, List.set_cons_zero, List.set_cons_succ])
    refine wpAnyH_take (i := 12) (oi := _) (v := ?v12) rfl (by kernel_rfl) (by kernel_rfl) (by kernel_rfl) (fun _ _ _ h => h) (Or.inl ⟨by rfl, ?y12⟩) (by assumption) ?r12
    case y12 => ((intro w hSw); (try dsimp only at hSw); go_simp; (try with_reducible rfl))
    (try simp only [Act.put, List.setIfInBounds_toArray, List.set_cons_zero, List.set_cons_succ])
    refine wpAnyH_ready (rs := [4]) (by kernel_rfl) (by simp) ?_
    refine AllReadyH.cons rfl (fun K hK => ?st13) AllReadyH.nil
    go_simp
    go_at_call 88
    refine (HC.out _ (by exact (Fr.refl _ _).drew)).mono ?_
    rintro e w1 ⟨v1, rfl, hO, hnn, hBl⟩
    rcases hO.2 with ⟨hv, _⟩ | ⟨g, cap, cur, rfl, hg, hcur, h1, h2, h3, h4⟩
    · exact absurd hv hnn
    have hs := hid (Still.trans (Fr.refl _ _).drew (Fr.of_below0 hBl _))
    refine hK.out _ _ ?k13 (fun hHeld13 => ?_)
    case k13 =>
      exact ⟨Still.cell hs.out F0, fun j v hv => Still.cell hs.out (FR j v hv), Still.cell hs.out FN⟩
    clear hK K
    (try simp only [Act.put, List.setIfInBounds_toArray, List.set_cons_zero, List.set_cons_succ])
    refine wpAnyH_done (by kernel_rfl) (Held.tailQ_normal ?_) _
    refine build_step rfl 53 _ rfl (cells := (.slice (some ⟨g, 0, none⟩) s.ages.length cap :: (ws ++ [.int .i64 s.n])).toArray) (by simp only [List.map_toArray, List.map_cons, List.map_nil]; exact HB.out _ _ _ _) ?_
    go_wp2_with fail
    go_meet
    rw [List.take_length] at hO
    obtain ⟨g', cap', ev, hg', hc', hI⟩ := IBlk.of_owns hO t0
    injection ev with e1 e2 e3
    injection e1 with e1
    injection e1 with e1
    subst e1
    have hI2 := hI.lt
    have hgs : w.heap.size ≤ g := hg
    have hws := hs.out.size
    refine ⟨⟨w1.heap.size, g, cap⟩, rfl, ⟨⟨W, HWb.out.1, ?_⟩, hI.alloc _, by simp only []; omega, Hh.out.lf, t0, t1⟩, hs.out.alloc _, fun k hk => ?_⟩
    · have := Blk.new w1 (cellsS ⟨w1.heap.size, g, cap⟩ s W) 53
      unfold cellsS at this ⊢
      rw [HW.out] at this ⊢
      exact this
    · have q : k = w1.heap.size ∨ k = g := hk
      omega
  case rest =>
    obtain ⟨C, rfl, hC⟩ := hcut
    go_wp2
    go_ret
    exact ⟨C, rfl, hC⟩
end Go.Proofs.YtffjaaolcphonaaDoor
