/- The walk of SlotsIds. -/
import Derived.Test.YtffjaaolcphonaaDoorLivesD
namespace Go.Proofs.YtffjaaolcphonaaDoor
open Go.RowKit
theorem idMk_back {i a : Int} (h : idMk i a ≠ 0) : idxI (idMk i a) = i ∧ ageI (idMk i a) = a := by
  unfold idMk at *
  by_cases hc : i < 0 ∨ 65535 < i ∨ a < 1 ∨ 2147483647 < a
  · rw [if_pos hc] at h; exact absurd rfl h
  · rw [if_neg hc]
    have ok : idOk (a * 65536 + i) := ⟨by omega, by omega⟩
    exact ⟨by unfold idxI; rw [if_pos ok]; omega, by unfold ageI; rw [if_pos ok]; omega⟩
set_option maxRecDepth 100000 in
set_option maxHeartbeats 4000000 in
theorem slotsIds (w : World) (hT : TabD w) (i a d : Int) (hd : inI d) : Calls Tryd.prog 3 #[.int .i64 i, .int .i64 a, .int .i64 d] w fun e w' => e = .returned (.bool true) ∧ Still w w' := by
  have X1 := hid (xid w i a)
  have X2 := hid (rid w i a)
  have I1 := hid (xindex w d hd)
  have I2 := hid (rindex w d hd)
  have A1 := hid (xage w d hd)
  have A2 := hid (rage w d hd)
  have L := hid (dlives w hT)
  have J1 := hid (xindex w (idMk i a) (idMk_in i a))
  have J2 := hid (xage w (idMk i a) (idMk_in i a))
  by_cases h0 : idMk i a = 0
  · obtain ⟨x, hx⟩ : ∃ x, idMk i a = x := ⟨_, rfl⟩
    rw [hx] at X1 X2 J1 J2 h0
    have e0 : (x == 0) = true := by simp [h0]
    clear hx h0
    go_enter Tryd.func3, Tryd.ntmps3
    go_wp2_with (first | (go_at_call 18; refine X1.out.mono ?_; rintro e w' ⟨rfl, rfl⟩) | (go_at_call 19; refine X2.out.mono ?_; rintro e w' ⟨rfl, rfl⟩) | (go_at_call_of 20 (Value.int IntKind.i64 d); refine I1.out.mono ?_; rintro e w' ⟨rfl, rfl⟩) | (go_at_call 21; refine I2.out.mono ?_; rintro e w' ⟨rfl, rfl⟩) | (go_at_call_of 22 (Value.int IntKind.i64 d); refine A1.out.mono ?_; rintro e w' ⟨rfl, rfl⟩) | (go_at_call 23; refine A2.out.mono ?_; rintro e w' ⟨rfl, rfl⟩) | (go_at_call 24; refine L.out.mono ?_; rintro e w' ⟨rfl, hs⟩))
    go_ret
    exact ⟨rfl, hs⟩
  · obtain ⟨b1, b2⟩ := idMk_back h0
    rw [b1] at J1
    rw [b2] at J2
    obtain ⟨x, hx⟩ : ∃ x, idMk i a = x := ⟨_, rfl⟩
    rw [hx] at X1 X2 J1 J2 h0
    have e0 : (x == 0) = false := by simp [h0]
    clear hx h0 b1 b2
    go_enter Tryd.func3, Tryd.ntmps3
    go_wp2_with (first | (go_at_call 18; refine X1.out.mono ?_; rintro e w' ⟨rfl, rfl⟩) | (go_at_call 19; refine X2.out.mono ?_; rintro e w' ⟨rfl, rfl⟩) | (go_at_call_of 20 (Value.int IntKind.i64 d); refine I1.out.mono ?_; rintro e w' ⟨rfl, rfl⟩) | (go_at_call 21; refine I2.out.mono ?_; rintro e w' ⟨rfl, rfl⟩) | (go_at_call_of 22 (Value.int IntKind.i64 d); refine A1.out.mono ?_; rintro e w' ⟨rfl, rfl⟩) | (go_at_call 23; refine A2.out.mono ?_; rintro e w' ⟨rfl, rfl⟩) | (go_at_call_of 20 (Value.int IntKind.i64 x); refine J1.out.mono ?_; rintro e w' ⟨rfl, rfl⟩) | (go_at_call_of 22 (Value.int IntKind.i64 x); refine J2.out.mono ?_; rintro e w' ⟨rfl, rfl⟩) | (go_at_call 24; refine L.out.mono ?_; rintro e w' ⟨rfl, hs⟩))
    go_ret
    exact ⟨rfl, hs⟩
end Go.Proofs.YtffjaaolcphonaaDoor
