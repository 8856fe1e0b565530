/- Threads: Copy. -/
import Derived.Test.YtffjaaolcphonaaDoorThr8
import Derived.Test.YtffjaaolcphonaaDoorCopy4
import Derived.Shelf.SlMaps.Clone
namespace Go.Proofs.YtffjaaolcphonaaDoor
open Go.RowKit Go.Maps Go.Shelf
set_option linter.unusedSimpArgs false
section
variable {w w' : World} {P : Nat} {B : SB} {M : Nat} {s : SS} {L : List Thr}
theorem cloneMapT {b : Nat} (h : MapL thrE Tryd.prog w b L) : Calls Tryd.prog 100 #[.map (some b)] w fun e w' => ∃ b', e = .returned (.map (some b')) ∧ MapL thrE Tryd.prog w' b' L ∧ Still w w' ∧ w.heap.size ≤ b' := by
  have hc := AnyW.maps_Clone_owns Tryd.cloneT 3 thrE.R b L.length (thrE.D L) w h.1
  change Calls Tryd.prog 100 _ _ _ at hc
  refine hc.mono ?_
  rintro e w' ⟨rfl, h1, _, h3⟩
  exact ⟨_, rfl, ⟨h1, h.2⟩, Fr.of_below0 h3 _, Nat.le_refl _⟩
set_option maxRecDepth 100000 in
set_option maxHeartbeats 4000000 in
theorem tcopy (h : TAt w P B M s L) : Calls Tryd.prog 58 #[.pointer (some ⟨P, 0, none⟩)] w fun e w' => ∃ P' B' M', e = .returned (.pointer (some ⟨P', 0, none⟩)) ∧ TAt w' P' B' M' s L ∧ Still w w' ∧ TNew w P' B' M' := by
  have H := hid h
  have F0 := h.f0
  have F1 := h.f1
  clear h
  go_enter Tryd.func58, Tryd.ntmps58
  go_wp2_with (go_at_call 94; refine (tmade H.out).mono ?_; rintro e w1 ⟨rfl, rfl⟩)
  refine Held.wp_region_held_tail (S := (fun w' => w'.cell? ⟨P, 0, none⟩ = some (.pointer (some ⟨B.P, 0, none⟩)) ∧ w'.cell? ⟨P, 1, none⟩ = some (.map (some M)))) 12 (by kernel_rfl) (by kernel_rfl) (by decide) ?hS1 (fun hHeld => ?hR1)
  case hS1 =>
    exact ⟨F0, F1⟩
  simp only [List.take_succ_cons, List.take_zero, List.drop_succ_cons, List.drop_zero]
  refine wpAnyH_take (i := 0) (oi := _) (v := ?v2) rfl (by kernel_rfl) (by kernel_rfl) (by kernel_rfl) (fun _ _ _ h => h) (Or.inl ⟨by rfl, ?y2⟩) (by assumption) ?r2
  case y2 => ((intro w hSw); (try dsimp only at hSw); go_simp; (try with_reducible rfl))
  (try simp only [Act.put, List.setIfInBounds_toArray, List.set_cons_zero, List.set_cons_succ])
  refine wpAnyH_take (i := 1) (oi := _) (v := ?v3) rfl (by kernel_rfl) (by kernel_rfl) (by kernel_rfl) (fun _ _ _ h => h) (Or.inl ⟨by rfl, ?y3⟩) (by assumption) ?r3
  case y3 => ((intro w hSw); (try dsimp only at hSw); go_simp; (try with_reducible rfl))
  (try simp only [Act.put, List.setIfInBounds_toArray, List.set_cons_zero, List.set_cons_succ])
  refine wpAnyH_take (i := 2) (oi := _) (v := ?v4) rfl (by kernel_rfl) (by kernel_rfl) (by kernel_rfl) (fun _ _ _ h => h) (Or.inl ⟨by rfl, ?y4⟩) (by assumption) ?r4
  case y4 => ((intro w hSw); (try dsimp only at hSw); go_simp; (try with_reducible rfl))
  (try simp only [Act.put, List.setIfInBounds_toArray, List.set_cons_zero, List.set_cons_succ])
  refine wpAnyH_take (i := 3) (oi := _) (v := ?v5) rfl (by kernel_rfl) (by kernel_rfl) (by kernel_rfl) (fun _ _ _ h => h) (Or.inl ⟨by rfl, ?y5⟩) (by assumption) ?r5
  case y5 => ((intro w hSw); (try dsimp only at hSw); go_simp; (try with_reducible rfl))
  (try simp only [Act.put, List.setIfInBounds_toArray, List.set_cons_zero, List.set_cons_succ])
  refine wpAnyH_take (i := 5) (oi := _) (v := ?v6) rfl (by kernel_rfl) (by kernel_rfl) (by kernel_rfl) (fun _ _ _ h => h) (Or.inl ⟨by rfl, ?y6⟩) (by assumption) ?r6
  case y6 => ((intro w hSw); (try dsimp only at hSw); go_simp; (try with_reducible rfl))
  (try simp only [Act.put, List.setIfInBounds_toArray, List.set_cons_zero, List.set_cons_succ])
  refine wpAnyH_take (i := 6) (oi := _) (v := ?v7) rfl (by kernel_rfl) (by kernel_rfl) (by kernel_rfl) (fun _ _ _ h => h) (Or.inl ⟨by rfl, ?y7⟩) (by assumption) ?r7
  case y7 => ((intro w hSw); (try dsimp only at hSw); go_simp; (try with_reducible rfl))
  (try simp only [Act.put, List.setIfInBounds_toArray, List.set_cons_zero, List.set_cons_succ])
  refine wpAnyH_take (i := 7) (oi := _) (v := ?v8) rfl (by kernel_rfl) (by kernel_rfl) (by kernel_rfl) (fun _ _ _ h => h) (Or.inl ⟨by rfl, ?y8⟩) (by assumption) ?r8
  case y8 => ((intro w hSw); (try dsimp only at hSw); go_simp; (try with_reducible rfl))
  (try simp only [Act.put, List.setIfInBounds_toArray, List.set_cons_zero, List.set_cons_succ])
  refine wpAnyH_take (i := 8) (oi := _) (v := ?v9) rfl (by kernel_rfl) (by kernel_rfl) (by kernel_rfl) (fun _ _ _ h => h) (Or.inl ⟨by rfl, ?y9⟩) (by assumption) ?r9
  case y9 => ((intro w hSw); (try dsimp only at hSw); go_simp; (try with_reducible rfl))
  (try simp only [Act.put, List.setIfInBounds_toArray, List.set_cons_zero, List.set_cons_succ])
  refine wpAnyH_ready (rs := [4]) (by kernel_rfl) (by simp) ?_
  refine AllReadyH.cons rfl (fun K hK => ?st10) AllReadyH.nil
  go_simp
  go_at_call 37
  refine (scopy _ B s (H.out.sl.still (by exact (Fr.refl _ _).drew))).mono ?_
  rintro e w1 ⟨C, rfl, hC, s1, n1⟩
  have HC := hid hC
  have S1 : Hid (Still w w1) := hid (Still.trans (Fr.refl _ _).drew s1)
  have N1 := hid n1
  clear hC s1 n1
  refine hK.out _ _ ?k10 (fun hHeld10 => ?_)
  case k10 =>
    exact ⟨Still.cell S1.out F0, Still.cell S1.out F1⟩
  clear hK K
  (try simp only [Act.put, List.setIfInBounds_toArray, List.set_cons_zero, List.set_cons_succ])
  refine wpAnyH_ready (rs := [9]) (by kernel_rfl) (by simp) ?_
  refine AllReadyH.cons rfl (fun K hK => ?st11) AllReadyH.nil
  go_simp
  go_at_call 100
  refine (cloneMapT (H.out.m.still S1.out)).mono ?_
  rintro e w2 ⟨b2, rfl, h2, s2, n2⟩
  have H2 := hid h2
  have S2 := hid (S1.out.trans s2)
  have N2 := hid (Nat.le_trans S1.out.size n2)
  have HC2 := hid (HC.out.still s2)
  have N3 : Hid (∀ k, C.foot k → k < w1.heap.size) := hid fun k hk => HC.out.lt hk
  have N4 := hid n2
  have N5 : Hid (b2 < w2.heap.size) := hid h2.lt
  clear h2 s2 n2
  refine hK.out _ _ ?k11 (fun hHeld11 => ?_)
  case k11 =>
    exact ⟨Still.cell S2.out F0, Still.cell S2.out F1⟩
  clear hK K
  (try simp only [Act.put, List.setIfInBounds_toArray, List.set_cons_zero, List.set_cons_succ])
  refine wpAnyH_take (i := 10) (oi := _) (v := ?v12) rfl (by kernel_rfl) (by kernel_rfl) (by kernel_rfl) (fun _ _ _ h => h) (Or.inl ⟨by rfl, ?y12⟩) (by assumption) ?r12
  case y12 => ((intro w hSw); (try dsimp only at hSw); go_simp; (try with_reducible rfl))
  (try simp only [Act.put, List.setIfInBounds_toArray, List.set_cons_zero, List.set_cons_succ])
  refine wpAnyH_ready (rs := [11]) (by kernel_rfl) (by simp) ?_
  refine AllReadyH.cons rfl (fun K hK => ?st13) AllReadyH.nil
  go_simp
  refine hK.out _ _ ?k13 (fun hHeld13 => ?_)
  case k13 =>
    exact ⟨Still.cell (S2.out.alloc _) F0, Still.cell (S2.out.alloc _) F1⟩
  clear hK K
  (try simp only [Act.put, List.setIfInBounds_toArray, List.set_cons_zero, List.set_cons_succ])
  refine wpAnyH_done (by kernel_rfl) (Held.tailQ_normal ?_) _
  go_wp2_with fail
  go_ret
  have z2 := S2.out.size
  refine ⟨w2.heap.size, C, b2, rfl, ⟨?_, ?_, HC2.out.still ((Fr.refl _ _).alloc _), H2.out.alloc _, by have := N5.out; omega, fun h => by have := HC2.out.lt h; omega, fun h => by have := N3.out _ h; have := N4.out; omega⟩, S2.out.alloc _, ⟨z2, N2.out, fun k hk => N1.out k hk⟩⟩
  · exact (Blk.new w2 [.pointer (some ⟨C.P, 0, none⟩), .map (some b2)] 90).cell 0
  · exact (Blk.new w2 [.pointer (some ⟨C.P, 0, none⟩), .map (some b2)] 90).cell 1
end
end Go.Proofs.YtffjaaolcphonaaDoor
