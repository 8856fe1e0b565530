/- SlotsNone: the walk. -/
import Derived.Test.YtffjaaolcphonaaDoorNone4
namespace Go.Proofs.YtffjaaolcphonaaDoor
open Go.RowKit
theorem SNone.still {w w' : World} {v : Value} (h : SNone w v) (hs : Still w w') : SNone w' v := by
  rcases h with h | ⟨z, h, hc⟩
  · exact .inl h
  · exact .inr ⟨z, h, Still.cell hs hc⟩
theorem zero53 (w : World) : (w.alloc (.cells Tryd.zeroCells53 53)).cell? ⟨w.heap.size, 0, none⟩ = some (.slice none 0 0) := by
  have h := (Blk.new w Tryd.zeroCells53.toList 53).cell 0
  rw [Array.toArray_toList] at h
  rw [h]
  exact (show Tryd.zeroCells53.toList[0]? = some (.slice none 0 0) by kernel_rfl)
set_option maxRecDepth 100000 in
set_option maxHeartbeats 8000000 in
theorem slotsNone (w : World) (hT : TabD w) (id : Int) (hi : inI id) : Calls Tryd.prog 7 #[.int .i64 id] w fun e w' => e = .returned (.bool true) ∧ Still w w' := by
  have HT := hid hT
  clear hT
  go_enter Tryd.func7, Tryd.ntmps7
  go_wp2_with fail
  refine wp_abs (fun w1 => w1.cell? ⟨w.heap.size, 0, none⟩ = some (.slice none 0 0) ∧ Still w w1) ⟨zero53 w, (Fr.refl _ w).alloc _⟩ ?_
  rintro W ⟨cz, hs⟩
  obtain ⟨z, hz⟩ : ∃ z, w.heap.size = z := ⟨_, rfl⟩
  rw [hz] at cz ⊢
  clear hz
  go_loopw [5, 6, 7, 9] (fun s5 s6 s7 c wr => ∃ j : Nat, c = .int .i64 j ∧ j ≤ 2 ∧ wr = W) (fun s5 s6 s7 c _ => 2 - (intOf c).toNat)
  case atStart => exact ⟨0, rfl, by omega, rfl⟩
  case round =>
    obtain ⟨j, rfl, hj, rfl⟩ := hrel
    by_cases hlt : j < 2
    · have hlt' : (j : Int) < 2 := by omega
      obtain ⟨V, hV, HN⟩ : ∃ V, (∀ w, (Instr.index 54 (.agg #[.pointer none, .pointer (some ⟨z, 0, none⟩)]) (.int .i64 (j : Int))).run Tryd.prog w = .ok V w) ∧ SNone wr V := by
        rcases (show j = 0 ∨ j = 1 by omega) with rfl | rfl
        · exact ⟨_, idx54_0 _ _, .inl rfl⟩
        · exact ⟨_, idx54_1 _ _, .inr ⟨z, rfl, cz⟩⟩
      have H1 := hid (ktake wr V HN)
      have H2 := hid (kfree wr V HN id hi)
      have H3 := hid (klive wr V HN id hi)
      have H4 := hid (klen wr V HN)
      have H5 := hid (kall wr V HN)
      have H6 := hid (kcopy wr V HN)
      clear HN
      go_wp2_with (first
        | (go_at_call 27; refine H1.out.mono ?_; rintro e w' ⟨rfl, rfl⟩)
        | (go_at_call 29; refine H2.out.mono ?_; rintro e w' ⟨rfl, rfl⟩)
        | (go_at_call 31; refine H3.out.mono ?_; rintro e w' ⟨rfl, rfl⟩)
        | (go_at_call 33; refine H4.out.mono ?_; rintro e w' ⟨rfl, rfl⟩)
        | (go_at_call 36; refine H5.out.mono ?_; rintro e w' ⟨rfl, rfl⟩)
        | (go_at_call 37; refine H6.out.mono ?_; rintro e w' ⟨rfl, rfl⟩))
      go_roundw
      case rel => exact ⟨j + 1, by go_num, by omega, trivial⟩
      case measure => simp [intOf]; omega
    · have hlt' : ¬ (j : Int) < 2 := by omega
      go_wp2_with (go_at_call 24; refine (dlives _ (HT.out.still hs)).mono ?_; rintro e w' ⟨rfl, hs2⟩)
      go_ret
      exact ⟨rfl, hs.trans hs2⟩
end Go.Proofs.YtffjaaolcphonaaDoor
