/- SemaNone: what was never made answers so. -/
import Derived.Test.YtffjaaolcphonaaSemaN
namespace Go.Proofs.Ytffjaaolcphonaa
open Go.RowKit
theorem Still.at {w w' : World} (hs : Still w w') {a : Addr} {v : Value} (h : w.cell? a = some v) : w'.cell? a = some v := ((hs.below (Nat.le_refl _) (fun _ h => h.elim)).cell (World.block_lt_of_cell? _ _ h)).trans h
theorem SNone.still {w w' : World} {v : Value} (h : SNone w v) (hs : Still w w') : SNone w' v := by
  rcases h with h | ⟨P, h, c⟩
  · exact .inl h
  · exact .inr ⟨P, h, hs.at c⟩
set_option maxRecDepth 100000 in
set_option maxHeartbeats 2000000 in
theorem semaNone (w : World) (k o t : Int) :
    Calls Try.prog 10 #[.agg #[.int .i64 k, .int .i64 o, .int .i64 t]] w fun e w' => e = .returned (.bool true) ∧ Still w w' := by
  go_enter Try.func10, Try.ntmps10
  go_wp2_with fail
  refine wp_abs (fun W => Still w W ∧ W.cell? ⟨w.heap.size, 1, none⟩ = some (.int .i64 o) ∧ W.cell? ⟨w.heap.size, 2, none⟩ = some (.int .i64 t) ∧ W.cell? ⟨w.heap.size + 1, 66, none⟩ = some (.pointer none)) ?_ ?_
  · have e := (Blk.new w [.int .i64 k, .int .i64 o, .int .i64 t] 59).alloc (Obj.cells Try.zeroCells69 69)
    refine ⟨((Fr.refl _ _).alloc _).alloc _, e.cell 1, e.cell 2, ?_⟩
    have e3 : Try.zeroCells69[66]? = some (.pointer none) := by kernel_rfl
    rw [show w.heap.size + 1 = (w.alloc (Obj.cells #[.int .i64 k, .int .i64 o, .int .i64 t] 59)).heap.size from (Array.size_push _).symm]
    exact (World.cell?_alloc_new ..).trans e3
  rintro W ⟨hW, c1, c2, c3⟩
  have hn : SNone W (.pointer (some ⟨w.heap.size + 1, 0, none⟩)) := .inr ⟨_, rfl, c3⟩
  have h0 : SNone W (.pointer none) := .inl rfl
  obtain ⟨v1, hv1⟩ : ∃ v, Value.pointer (some ⟨w.heap.size + 1, 0, none⟩) = v := ⟨_, rfl⟩
  rw [hv1] at hn ⊢
  clear hv1
  have i0 : ∀ w, (Instr.index 70 (.agg #[.pointer none, v1]) (.int .i64 0)).run Try.prog w = .ok (.pointer none) w := fun _ => by kernel_rfl
  have i1 : ∀ w, (Instr.index 70 (.agg #[.pointer none, v1]) (.int .i64 1)).run Try.prog w = .ok v1 w := fun _ => by kernel_rfl
  go_loopw [2, 11] (fun r i wr => r = .bool false ∧ (i = .int .i64 0 ∨ i = .int .i64 1 ∨ i = .int .i64 2) ∧ Still W wr) (fun _ i _ => 2 - (intOf i).toNat)
  case atStart => exact ⟨rfl, .inl rfl, Fr.refl _ _⟩
  case round =>
    obtain ⟨rfl, hi, hst⟩ := hrel
    replace hn := hn.still hst
    replace h0 := h0.still hst
    replace c1 := hst.at c1
    replace c2 := hst.at c2
    rcases hi with rfl | rfl | rfl
    · go_wp2_with (first | (go_at_call 33; refine (ndown _ _ h0 _ _).mono ?_; rintro e w' ⟨rfl, rfl⟩) | (go_at_call 35; refine (nup _ _ h0 _).mono ?_; rintro e w' ⟨rfl, rfl⟩))
      go_region_held3 (fun w' => w'.cell? ⟨w.heap.size, 1, none⟩ = some (.int .i64 o) ∧ w'.cell? ⟨w.heap.size, 2, none⟩ = some (.int .i64 t))
        (first | exact ⟨c1, c2⟩ | assumption | (rename_i hs7; exact ⟨Still.at (Still.trans (Fr.drew (Fr.refl _ _)) hs7) c1, Still.at (Still.trans (Fr.drew (Fr.refl _ _)) hs7) c2⟩))
        (first
          | (go_at_call 36; refine (nvalue _ _ (h0.still (Fr.drew (Fr.refl _ _))) _).mono ?_; rintro e w' ⟨rfl, rfl⟩)
          | (go_at_call 40; refine (nwaiters _ _ (h0.still (Fr.drew (Fr.refl _ _))) _).mono ?_; rintro e w7 ⟨rfl, hs7⟩)
          | (go_at_call 43; refine (nwhere _ _ (h0.still (Still.trans (Fr.drew (Fr.refl _ _)) (by assumption))) _).mono ?_; rintro e w' ⟨rfl, rfl⟩) | (go_at_call 34; refine (ndrop _ _ (h0.still (Still.trans (Fr.drew (Fr.refl _ _)) (by assumption))) _).mono ?_; rintro e w' ⟨rfl, rfl⟩) | (go_at_call 44; refine (ncopy _ _ (h0.still (Still.trans (Fr.drew (Fr.refl _ _)) (by assumption)))).mono ?_; rintro e w' ⟨rfl, rfl⟩))
      go_wp2_with fail
      go_roundw
      case rel => exact ⟨rfl, .inr (.inl rfl), hst.trans (Still.trans (Fr.drew (Fr.refl _ _)) (by assumption))⟩
      case measure => simp [intOf]
    · go_wp2_with (first | (go_at_call 33; refine (ndown _ _ hn _ _).mono ?_; rintro e w' ⟨rfl, rfl⟩) | (go_at_call 35; refine (nup _ _ hn _).mono ?_; rintro e w' ⟨rfl, rfl⟩))
      go_region_held3 (fun w' => w'.cell? ⟨w.heap.size, 1, none⟩ = some (.int .i64 o) ∧ w'.cell? ⟨w.heap.size, 2, none⟩ = some (.int .i64 t))
        (first | exact ⟨c1, c2⟩ | assumption | (rename_i hs7; exact ⟨Still.at (Still.trans (Fr.drew (Fr.refl _ _)) hs7) c1, Still.at (Still.trans (Fr.drew (Fr.refl _ _)) hs7) c2⟩))
        (first
          | (go_at_call 36; refine (nvalue _ _ (hn.still (Fr.drew (Fr.refl _ _))) _).mono ?_; rintro e w' ⟨rfl, rfl⟩)
          | (go_at_call 40; refine (nwaiters _ _ (hn.still (Fr.drew (Fr.refl _ _))) _).mono ?_; rintro e w7 ⟨rfl, hs7⟩)
          | (go_at_call 43; refine (nwhere _ _ (hn.still (Still.trans (Fr.drew (Fr.refl _ _)) (by assumption))) _).mono ?_; rintro e w' ⟨rfl, rfl⟩) | (go_at_call 34; refine (ndrop _ _ (hn.still (Still.trans (Fr.drew (Fr.refl _ _)) (by assumption))) _).mono ?_; rintro e w' ⟨rfl, rfl⟩) | (go_at_call 44; refine (ncopy _ _ (hn.still (Still.trans (Fr.drew (Fr.refl _ _)) (by assumption)))).mono ?_; rintro e w' ⟨rfl, rfl⟩))
      go_wp2_with fail
      go_roundw
      case rel => exact ⟨rfl, .inr (.inr rfl), hst.trans (Still.trans (Fr.drew (Fr.refl _ _)) (by assumption))⟩
      case measure => simp [intOf]
    · go_wp2_with (go_at_call 37; refine (slives _).mono ?_; rintro e w6 ⟨rfl, hs6⟩)
      go_ret
      exact ⟨rfl, (hW.trans hst).trans hs6⟩
end Go.Proofs.Ytffjaaolcphonaa
