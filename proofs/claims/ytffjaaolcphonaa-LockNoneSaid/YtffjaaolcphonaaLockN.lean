/- The locks' New. -/
import Derived.Test.YtffjaaolcphonaaLock4
import Derived.Test.YtffjaaolcphonaaRef5c
import Derived.Test.YtffjaaolcphonaaRep
import Derived.Test.YtffjaaolcphonaaHeld
namespace Go.Proofs.Ytffjaaolcphonaa
open Go.RowKit
set_option linter.unusedSimpArgs false
def newLS (n T : Nat) : LS := ⟨n, T, List.replicate n (-1), List.replicate T 0, List.replicate (2 * n) []⟩
def LNew (w : World) (n T : Nat) (e : Ending) (w' : World) : Prop := ∃ K : KB, e = .returned (.pointer (some ⟨K.P, 0, none⟩)) ∧ LkAt w' K (newLS n T) ∧ Still w w' ∧ ∀ k, K.all k → w.heap.size ≤ k
theorem lnew_fin {w W : World} {O A n T : Nat} {B : LB} (hs : Still w W) (hO : Blk W O (ints (List.replicate n (-1))) 3) (hA : Blk W A (ints (List.replicate T 0)) 3) (hB : LsAt W B T (List.replicate (2 * n) []))
    (fO : w.heap.size ≤ O) (fA : w.heap.size ≤ A) (fB : ∀ k, B.foot k → w.heap.size ≤ k) (OA : O ≠ A) (dO : ¬ B.foot O) (dA : ¬ B.foot A) (n0 : 1 ≤ n) (n1 : n ≤ 64) (T0 : 1 ≤ T) (T1 : T ≤ 1024) :
    LkAt (W.alloc (.cells #[.slice (some ⟨O, 0, none⟩) n n, .slice (some ⟨A, 0, none⟩) T T, .pointer (some ⟨B.p, 0, none⟩)] 114)) ⟨W.heap.size, O, A, n, T, B⟩ (newLS n T) ∧
      Still w (W.alloc (.cells #[.slice (some ⟨O, 0, none⟩) n n, .slice (some ⟨A, 0, none⟩) T T, .pointer (some ⟨B.p, 0, none⟩)] 114)) ∧ ∀ k, (⟨W.heap.size, O, A, n, T, B⟩ : KB).all k → w.heap.size ≤ k := by
  have lO := hO.lt
  have lA := hA.lt
  have ls := hs.size
  refine ⟨⟨Blk.new W [_, _, _] 114, ⟨[], by rw [List.append_nil]; exact hO.alloc _⟩, ⟨[], by rw [List.append_nil]; exact hA.alloc _⟩, hB.still ((Fr.refl _ _).alloc _), (by show W.heap.size ≠ O; omega), (by show W.heap.size ≠ A; omega), OA,
    (fun h => by have := hB.lt h; exact absurd this (Nat.lt_irrefl _)), dO, dA, by simp [newLS], by simp [newLS], by simp [newLS], n0, n1, T0, T1, fun t ht => ?_⟩, hs.alloc _, ?_⟩
  · have e : (newLS n T).ag.getD t 0 = 0 := by simp [newLS, List.getD, List.getElem?_replicate]; split <;> rfl
    rw [e]; exact ⟨by omega, by show (0 : Int) < (n : Int); omega⟩
  · rintro k (rfl | rfl | rfl | h)
    · exact ls
    · exact fO
    · exact fA
    · exact fB k h
theorem lknew_no (w : World) (o t : Int) (h : o < 1 ∨ 64 < o ∨ t < 1 ∨ 1024 < t) : Calls Try.prog 52 #[.int .i64 o, .int .i64 t] w fun e w' => e = .returned (.pointer none) ∧ w = w' := by
  by_cases h1 : o < 1
  · clear h
    go_enter Try.func52, Try.ntmps52
    go_wp2
    go_ret
    exact ⟨rfl, rfl⟩
  · by_cases h2 : 64 < o
    · clear h
      go_enter Try.func52, Try.ntmps52
      go_wp2
      go_ret
      exact ⟨rfl, rfl⟩
    · by_cases h3 : t < 1
      · clear h
        go_enter Try.func52, Try.ntmps52
        go_wp2
        go_ret
        exact ⟨rfl, rfl⟩
      · have h4 : 1024 < t := by omega
        clear h
        go_enter Try.func52, Try.ntmps52
        go_wp2
        go_ret
        exact ⟨rfl, rfl⟩
set_option maxRecDepth 100000 in
set_option maxHeartbeats 4000000 in
theorem lknew (w : World) (n T : Nat) (n0 : 1 ≤ n) (n1 : n ≤ 64) (T0 : 1 ≤ T) (T1 : T ≤ 1024) : Calls Try.prog 52 #[.int .i64 n, .int .i64 T] w (LNew w n T) := by
  have a1 : ¬ (n : Int) < 1 := by omega
  have a2 : ¬ (64 : Int) < (n : Int) := by omega
  have a3 : ¬ (T : Int) < 1 := by omega
  have a4 : ¬ (1024 : Int) < (T : Int) := by omega
  have HM := mk_ints T (by omega)
  have hw2 : IntKind.i64.wrap (2 * (n : Int)) = 2 * (n : Int) := IntWalk.i64_in _ (by omega)
  have CR := fun (W : World) (g : Nat) (hx : W.cell? ⟨g, 0, none⟩ = some (.int .i64 (-1))) => repeat_one W g 1 n (-1) n0 (by omega) hx
  have CN := fun (W : World) => new_ls W T (2 * n) T0 (by omega) (by omega) (by omega)
  rw [show ((2 * n : Nat) : Int) = 2 * (n : Int) by omega] at CN
  have HR := hid CR
  have HN := hid CN
  clear CR CN
  go_enter Try.func52, Try.ntmps52
  go_wp2_with fail
  refine Held.wp_region_held_tail (S := (fun _ => True)) 11 (by kernel_rfl) (by kernel_rfl) (by decide) ?hS1 (fun hHeld => ?hR1)
  case hS1 =>
    exact trivial
  simp only [List.take_succ_cons, List.take_zero, List.drop_succ_cons, List.drop_zero]
  refine wpAnyH_take (i := 1) (oi := _) (v := ?v2) rfl (by kernel_rfl) (by kernel_rfl) (by kernel_rfl) (fun _ _ _ h => h) (Or.inl ⟨by rfl, ?y2⟩) (by assumption) ?r2
  case y2 => ((intro w hSw); (try dsimp only at hSw); go_simp; (try with_reducible rfl))
  (try simp only [Act.put, List.setIfInBounds_toArray, List.set_cons_zero, List.set_cons_succ])
  refine wpAnyH_take (i := 3) (oi := _) (v := ?v3) rfl (by kernel_rfl) (by kernel_rfl) (by kernel_rfl) (fun _ _ _ h => h) (Or.inl ⟨by rfl, ?y3⟩) (by assumption) ?r3
  case y3 => ((intro w hSw); (try dsimp only at hSw); go_simp; (try with_reducible rfl))
  (try simp only [Act.put, List.setIfInBounds_toArray, List.set_cons_zero, List.set_cons_succ])
  refine wpAnyH_take (i := 5) (oi := _) (v := ?v4) rfl (by kernel_rfl) (by kernel_rfl) (by kernel_rfl) (fun _ _ _ h => h) (Or.inl ⟨by rfl, ?y4⟩) (by assumption) ?r4
  case y4 => ((intro w hSw); (try dsimp only at hSw); go_simp; (try with_reducible rfl))
  (try simp only [Act.put, List.setIfInBounds_toArray, List.set_cons_zero, List.set_cons_succ])
  refine wpAnyH_take (i := 6) (oi := _) (v := ?v5) rfl (by kernel_rfl) (by kernel_rfl) (by kernel_rfl) (fun _ _ _ h => h) (Or.inl ⟨by rfl, ?y5⟩) (by assumption) ?r5
  case y5 => ((intro w hSw); (try dsimp only at hSw); go_simp; (try with_reducible rfl))
  (try simp only [Act.put, List.setIfInBounds_toArray, List.set_cons_zero, List.set_cons_succ])
  refine wpAnyH_take (i := 7) (oi := _) (v := ?v6) rfl (by kernel_rfl) (by kernel_rfl) (by kernel_rfl) (fun _ _ _ h => h) (Or.inl ⟨by rfl, ?y6⟩) (by assumption) ?r6
  case y6 => ((intro w hSw); (try dsimp only at hSw); go_simp; (try with_reducible rfl))
  (try simp only [Act.put, List.setIfInBounds_toArray, List.set_cons_zero, List.set_cons_succ])
  refine wpAnyH_ready (rs := [0, 4]) (by kernel_rfl) (by simp) ?_
  refine AllReadyH.cons rfl (fun K hK => ?_) (AllReadyH.cons rfl (fun K hK => ?_) AllReadyH.nil)
  · skip
    go_simp
    refine hK.out _ _ ?k7 (fun hHeld7 => ?_)
    case k7 =>
      exact trivial
    clear hK K
    (try simp only [Act.put, List.setIfInBounds_toArray, List.set_cons_zero, List.set_cons_succ])
    refine wpAnyH_ready (rs := [2, 4]) (by kernel_rfl) (by simp) ?_
    refine AllReadyH.cons rfl (fun K hK => ?_) (AllReadyH.cons rfl (fun K hK => ?_) AllReadyH.nil)
    · skip
      go_simp
      go_at_call 106
      refine (HR.out _ _ ((Blk.new w [.int .i64 (-1)] 3).drew.cell 0)).mono ?_
      rintro e w1 ⟨rfl, hO', hs1'⟩
      have hs1 : Still w w1 := Still.trans (((Fr.refl _ w).alloc _).drew) hs1'
      have z1 := hs1'.size
      have eO : (w.alloc (.cells #[.int .i64 (-1)] 3)).drew.heap.size = w.heap.size + 1 := by simp
      rw [eO] at hO' z1 ⊢
      have hO : Blk w1 (w.heap.size + 1) (ints (List.replicate n (-1))) 3 := hO'
      have lO := hO.lt
      clear hO' eO
      refine hK.out _ _ ?k8 (fun hHeld8 => ?_)
      case k8 =>
        exact trivial
      clear hK K
      (try simp only [Act.put, List.setIfInBounds_toArray, List.set_cons_zero, List.set_cons_succ])
      refine wpAnyH_ready (rs := [4, 8]) (by kernel_rfl) (by simp) ?_
      refine AllReadyH.cons rfl (fun K hK => ?_) (AllReadyH.cons rfl (fun K hK => ?_) AllReadyH.nil)
      · skip
        go_simp
        refine hK.out _ _ ?k9 (fun hHeld9 => ?_)
        case k9 =>
          exact trivial
        clear hK K
        (try simp only [Act.put, List.setIfInBounds_toArray, List.set_cons_zero, List.set_cons_succ])
        have hA1 := Blk.new w1 (ints (List.replicate T 0)) 3
        refine wpAnyH_ready (rs := [8]) (by kernel_rfl) (by simp) ?_
        refine AllReadyH.cons rfl (fun K hK => ?st10) AllReadyH.nil
        go_simp
        go_at_call 19
        refine (HN.out _).mono ?_
        rintro e w2 ⟨B, rfl, hB, hs2', hnn'⟩
        have hs2 : Still w w2 := Still.trans (hs1.alloc _) hs2'
        have z2 := hs2.size
        refine hK.out _ _ ?k10 (fun hHeld10 => ?_)
        case k10 =>
          exact trivial
        clear hK K
        (try simp only [Act.put, List.setIfInBounds_toArray, List.set_cons_zero, List.set_cons_succ])
        have hnn : ∀ k, B.foot k → w1.heap.size + 1 ≤ k := fun k hk => by have := hnn' k hk; simpa using this
        have zz : w.heap.size ≤ w1.heap.size := by omega
        refine wpAnyH_take (i := 9) (oi := _) (v := ?v11) rfl (by kernel_rfl) (by kernel_rfl) (by kernel_rfl) (fun _ _ _ h => h) (Or.inl ⟨by rfl, ?y11⟩) (by assumption) ?r11
        case y11 => ((intro w hSw); (try dsimp only at hSw); go_simp; (try with_reducible rfl))
        (try simp only [Act.put, List.setIfInBounds_toArray, List.set_cons_zero, List.set_cons_succ])
        refine wpAnyH_ready (rs := [10]) (by kernel_rfl) (by simp) ?_
        refine AllReadyH.cons rfl (fun K hK => ?st12) AllReadyH.nil
        go_simp
        refine hK.out _ _ ?k12 (fun hHeld12 => ?_)
        case k12 =>
          exact trivial
        clear hK K
        (try simp only [Act.put, List.setIfInBounds_toArray, List.set_cons_zero, List.set_cons_succ])
        refine wpAnyH_done (by kernel_rfl) (Held.tailQ_normal ?_) _
        have hf := lnew_fin (w := w) hs2 ((hO.alloc _).still hs2') (hA1.still hs2') hB (by omega) (by omega) (fun k hk => by have := hnn k hk; omega) (by omega) (fun h => by have := hnn _ h; omega) (fun h => by have := hnn _ h; omega) n0 n1 T0 T1
        have HF := hid hf
        clear hf
        go_wp2
        go_ret
        exact ⟨_, rfl, HF.out.1, HF.out.2.1, HF.out.2.2⟩
      · skip
        go_simp
        go_at_call 19
        refine (HN.out _).mono ?_
        rintro e w2 ⟨B, rfl, hB, hs2', hnn'⟩
        have hs2 : Still w w2 := Still.trans (hs1) hs2'
        have z2 := hs2.size
        refine hK.out _ _ ?k13 (fun hHeld13 => ?_)
        case k13 =>
          exact trivial
        clear hK K
        (try simp only [Act.put, List.setIfInBounds_toArray, List.set_cons_zero, List.set_cons_succ])
        have hnn := hnn'
        have hA1 := Blk.new w2 (ints (List.replicate T 0)) 3
        have zz : w1.heap.size ≤ w2.heap.size := hs2'.size
        have lB := fun k hk => hB.lt (k := k) hk
        refine wpAnyH_ready (rs := [4]) (by kernel_rfl) (by simp) ?_
        refine AllReadyH.cons rfl (fun K hK => ?st14) AllReadyH.nil
        go_simp
        refine hK.out _ _ ?k14 (fun hHeld14 => ?_)
        case k14 =>
          exact trivial
        clear hK K
        (try simp only [Act.put, List.setIfInBounds_toArray, List.set_cons_zero, List.set_cons_succ])
        refine wpAnyH_take (i := 9) (oi := _) (v := ?v15) rfl (by kernel_rfl) (by kernel_rfl) (by kernel_rfl) (fun _ _ _ h => h) (Or.inl ⟨by rfl, ?y15⟩) (by assumption) ?r15
        case y15 => ((intro w hSw); (try dsimp only at hSw); go_simp; (try with_reducible rfl))
        (try simp only [Act.put, List.setIfInBounds_toArray, List.set_cons_zero, List.set_cons_succ])
        refine wpAnyH_ready (rs := [10]) (by kernel_rfl) (by simp) ?_
        refine AllReadyH.cons rfl (fun K hK => ?st16) AllReadyH.nil
        go_simp
        refine hK.out _ _ ?k16 (fun hHeld16 => ?_)
        case k16 =>
          exact trivial
        clear hK K
        (try simp only [Act.put, List.setIfInBounds_toArray, List.set_cons_zero, List.set_cons_succ])
        refine wpAnyH_done (by kernel_rfl) (Held.tailQ_normal ?_) _
        have hf := lnew_fin (w := w) (hs2.alloc _) ((hO.still hs2').alloc _) hA1 (hB.still ((Fr.refl _ _).alloc _)) (by omega) (by omega) (fun k hk => by have := hnn k hk; omega) (by omega) (fun h => by have := hnn _ h; omega) (fun h => by have := hB.lt h; omega) n0 n1 T0 T1
        rw [show (w2.alloc (.cells (ints (List.replicate T 0)).toArray 3)).heap.size = w2.heap.size + 1 from Array.size_push _] at hf
        have HF := hid hf
        clear hf
        go_wp2
        go_ret
        exact ⟨_, rfl, HF.out.1, HF.out.2.1, HF.out.2.2⟩
    · skip
      go_simp
      refine hK.out _ _ ?k17 (fun hHeld17 => ?_)
      case k17 =>
        exact trivial
      clear hK K
      (try simp only [Act.put, List.setIfInBounds_toArray, List.set_cons_zero, List.set_cons_succ])
      refine wpAnyH_ready (rs := [2]) (by kernel_rfl) (by simp) ?_
      refine AllReadyH.cons rfl (fun K hK => ?st18) AllReadyH.nil
      go_simp
      go_at_call 106
      refine (HR.out _ _ (((Blk.new w [.int .i64 (-1)] 3).alloc _).drew.cell 0)).mono ?_
      rintro e w1 ⟨rfl, hO', hs1'⟩
      have hs1 : Still w w1 := Still.trans ((((Fr.refl _ w).alloc _).alloc _).drew) hs1'
      have z1 := hs1'.size
      have eO : ((w.alloc (.cells #[.int .i64 (-1)] 3)).alloc (.cells (zr T) 3)).drew.heap.size = w.heap.size + 1 + 1 := by simp
      rw [eO] at hO' z1 ⊢
      have hO : Blk w1 (w.heap.size + 1 + 1) (ints (List.replicate n (-1))) 3 := hO'
      have lO := hO.lt
      clear hO' eO
      refine hK.out _ _ ?k18 (fun hHeld18 => ?_)
      case k18 =>
        exact trivial
      clear hK K
      (try simp only [Act.put, List.setIfInBounds_toArray, List.set_cons_zero, List.set_cons_succ])
      have hA1 : Blk w1 (w.heap.size + 1) (ints (List.replicate T 0)) 3 := ((blk_new1 w _ (ints (List.replicate T 0)) 3).drew).still hs1'
      refine wpAnyH_ready (rs := [8]) (by kernel_rfl) (by simp) ?_
      refine AllReadyH.cons rfl (fun K hK => ?st19) AllReadyH.nil
      go_simp
      go_at_call 19
      refine (HN.out _).mono ?_
      rintro e w2 ⟨B, rfl, hB, hs2', hnn'⟩
      have hs2 : Still w w2 := Still.trans (hs1) hs2'
      have z2 := hs2.size
      refine hK.out _ _ ?k19 (fun hHeld19 => ?_)
      case k19 =>
        exact trivial
      clear hK K
      (try simp only [Act.put, List.setIfInBounds_toArray, List.set_cons_zero, List.set_cons_succ])
      have hnn := hnn'
      refine wpAnyH_take (i := 9) (oi := _) (v := ?v20) rfl (by kernel_rfl) (by kernel_rfl) (by kernel_rfl) (fun _ _ _ h => h) (Or.inl ⟨by rfl, ?y20⟩) (by assumption) ?r20
      case y20 => ((intro w hSw); (try dsimp only at hSw); go_simp; (try with_reducible rfl))
      (try simp only [Act.put, List.setIfInBounds_toArray, List.set_cons_zero, List.set_cons_succ])
      refine wpAnyH_ready (rs := [10]) (by kernel_rfl) (by simp) ?_
      refine AllReadyH.cons rfl (fun K hK => ?st21) AllReadyH.nil
      go_simp
      refine hK.out _ _ ?k21 (fun hHeld21 => ?_)
      case k21 =>
        exact trivial
      clear hK K
      (try simp only [Act.put, List.setIfInBounds_toArray, List.set_cons_zero, List.set_cons_succ])
      refine wpAnyH_done (by kernel_rfl) (Held.tailQ_normal ?_) _
      have hf := lnew_fin (w := w) hs2 (hO.still hs2') (hA1.still hs2') hB (by omega) (by omega) (fun k hk => by have := hnn k hk; omega) (by omega) (fun h => by have := hnn _ h; omega) (fun h => by have := hnn _ h; omega) n0 n1 T0 T1
      have HF := hid hf
      clear hf
      go_wp2
      go_ret
      exact ⟨_, rfl, HF.out.1, HF.out.2.1, HF.out.2.2⟩
  · skip
    go_simp
    refine hK.out _ _ ?k22 (fun hHeld22 => ?_)
    case k22 =>
      exact trivial
    clear hK K
    (try simp only [Act.put, List.setIfInBounds_toArray, List.set_cons_zero, List.set_cons_succ])
    refine wpAnyH_ready (rs := [0]) (by kernel_rfl) (by simp) ?_
    refine AllReadyH.cons rfl (fun K hK => ?st23) AllReadyH.nil
    go_simp
    refine hK.out _ _ ?k23 (fun hHeld23 => ?_)
    case k23 =>
      exact trivial
    clear hK K
    (try simp only [Act.put, List.setIfInBounds_toArray, List.set_cons_zero, List.set_cons_succ])
    refine wpAnyH_ready (rs := [2]) (by kernel_rfl) (by simp) ?_
    refine AllReadyH.cons rfl (fun K hK => ?st24) AllReadyH.nil
    go_simp
    go_at_call 106
    refine (HR.out _ _ ((blk_new1 w _ [.int .i64 (-1)] 3).drew.cell 0)).mono ?_
    rintro e w1 ⟨rfl, hO', hs1'⟩
    have hs1 : Still w w1 := Still.trans ((((Fr.refl _ w).alloc _).alloc _).drew) hs1'
    have z1 := hs1'.size
    have eO : ((w.alloc (.cells (zr T) 3)).alloc (.cells #[.int .i64 (-1)] 3)).drew.heap.size = w.heap.size + 1 + 1 := by simp
    rw [eO] at hO' z1 ⊢
    have hO : Blk w1 (w.heap.size + 1 + 1) (ints (List.replicate n (-1))) 3 := hO'
    have lO := hO.lt
    clear hO' eO
    refine hK.out _ _ ?k24 (fun hHeld24 => ?_)
    case k24 =>
      exact trivial
    clear hK K
    (try simp only [Act.put, List.setIfInBounds_toArray, List.set_cons_zero, List.set_cons_succ])
    have hA1 : Blk w1 w.heap.size (ints (List.replicate T 0)) 3 := (((Blk.new w (ints (List.replicate T 0)) 3).alloc _).drew).still hs1'
    refine wpAnyH_ready (rs := [8]) (by kernel_rfl) (by simp) ?_
    refine AllReadyH.cons rfl (fun K hK => ?st25) AllReadyH.nil
    go_simp
    go_at_call 19
    refine (HN.out _).mono ?_
    rintro e w2 ⟨B, rfl, hB, hs2', hnn'⟩
    have hs2 : Still w w2 := Still.trans (hs1) hs2'
    have z2 := hs2.size
    refine hK.out _ _ ?k25 (fun hHeld25 => ?_)
    case k25 =>
      exact trivial
    clear hK K
    (try simp only [Act.put, List.setIfInBounds_toArray, List.set_cons_zero, List.set_cons_succ])
    have hnn := hnn'
    refine wpAnyH_take (i := 9) (oi := _) (v := ?v26) rfl (by kernel_rfl) (by kernel_rfl) (by kernel_rfl) (fun _ _ _ h => h) (Or.inl ⟨by rfl, ?y26⟩) (by assumption) ?r26
    case y26 => ((intro w hSw); (try dsimp only at hSw); go_simp; (try with_reducible rfl))
    (try simp only [Act.put, List.setIfInBounds_toArray, List.set_cons_zero, List.set_cons_succ])
    refine wpAnyH_ready (rs := [10]) (by kernel_rfl) (by simp) ?_
    refine AllReadyH.cons rfl (fun K hK => ?st27) AllReadyH.nil
    go_simp
    refine hK.out _ _ ?k27 (fun hHeld27 => ?_)
    case k27 =>
      exact trivial
    clear hK K
    (try simp only [Act.put, List.setIfInBounds_toArray, List.set_cons_zero, List.set_cons_succ])
    refine wpAnyH_done (by kernel_rfl) (Held.tailQ_normal ?_) _
    have hf := lnew_fin (w := w) hs2 (hO.still hs2') (hA1.still hs2') hB (by omega) (by omega) (fun k hk => by have := hnn k hk; omega) (by omega) (fun h => by have := hnn _ h; omega) (fun h => by have := hnn _ h; omega) n0 n1 T0 T1
    have HF := hid hf
    clear hf
    go_wp2
    go_ret
    exact ⟨_, rfl, HF.out.1, HF.out.2.1, HF.out.2.2⟩
end Go.Proofs.Ytffjaaolcphonaa
