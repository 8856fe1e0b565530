/- The document's examples come out. -/
import Derived.Test.YtffjaaolcphonaaDoorSlot9
namespace Go.Proofs.YtffjaaolcphonaaDoor
open Go.RowKit
theorem TabD.lt {w : World} (h : TabD w) : 7 < w.heap.size := World.block_lt_of_cell? _ _ (h 0 (by decide))
theorem TabD.still {w w' : World} (h : TabD w) (hs : Still w w') : TabD w' := h.fr hs id
theorem Still.next {w a b : World} (h : Still w a) {F : Nat → Prop} (f : Fr F a b) (hF : ∀ k, F k → w.heap.size ≤ k) : Still w b :=
  Fr.then h f fun k hk hf => by have := hF k hf; omega
def q0 : SS := zeroS 2 2
def q1 : SS := ⟨[1, 0], [false, true], 1⟩
def q2 : SS := ⟨[1, 1], [false, false], 2⟩
def q3 : SS := ⟨[1, 1], [true, false], 1⟩
def q4 : SS := ⟨[2, 1], [false, false], 2⟩
theorem q0t : takeS q0 = q1 ∧ takeV q0 = 65536 ∧ takeE q0 = 0 := ⟨by kernel_rfl, by kernel_rfl, by kernel_rfl⟩
theorem q1t : takeS q1 = q2 ∧ takeV q1 = 65537 ∧ takeE q1 = 0 := ⟨by kernel_rfl, by kernel_rfl, by kernel_rfl⟩
theorem q2f : freeS q2 65536 = q3 ∧ freeE q2 65536 = 0 := ⟨by kernel_rfl, by kernel_rfl⟩
theorem q3t : takeS q3 = q4 ∧ takeV q3 = 131072 ∧ takeE q3 = 0 := ⟨by kernel_rfl, by kernel_rfl, by kernel_rfl⟩
set_option maxRecDepth 100000 in
set_option maxHeartbeats 4000000 in
theorem dlives (w : World) (hT : TabD w) : Calls Tryd.prog 24 #[] w fun e w' => e = .returned (.bool true) ∧ Still w w' := by
  have HT := hid hT
  have h7 := hid hT.lt
  have HN := hid (snew w 2 (by omega) (by omega))
  have T0 := fun (u : World) (B : SB) (h : SAt u B q0) (t : TabD u) (h7 : ¬ B.foot 7) => hid (stake u B q0 h t h7 (by decide) (by decide))
  have T1 := fun (u : World) (B : SB) (h : SAt u B q1) (t : TabD u) (h7 : ¬ B.foot 7) => hid (stake u B q1 h t h7 (by decide) (by decide))
  have T2 := fun (u : World) (B : SB) (h : SAt u B q2) => hid (sfree u B q2 h 65536 (by unfold inI; omega) (by decide))
  have T3 := fun (u : World) (B : SB) (h : SAt u B q3) (t : TabD u) (h7 : ¬ B.foot 7) => hid (stake u B q3 h t h7 (by decide) (by decide))
  rw [q0t.1, q0t.2.1, q0t.2.2] at T0
  rw [q1t.1, q1t.2.1, q1t.2.2] at T1
  rw [q2f.1, q2f.2] at T2
  rw [q3t.1, q3t.2.1, q3t.2.2] at T3
  clear hT
  go_enter Tryd.func24, Tryd.ntmps24
  go_wp2_with (first
    | (go_at_call 25; refine HN.out.mono ?_; rintro e w1 ⟨B, rfl, hB, hs, hnn⟩; have nn := hid hnn; have n7 : Hid (¬ B.foot 7) := hid (fun hf => by have := hnn 7 hf; have := h7.out; omega); clear hnn)
    | (go_at_call 27; refine (T0 _ B (by assumption) (HT.out.still (by assumption)) n7.out).out.mono ?_; rintro e w2 ⟨rfl, hB2, f2⟩; have hs2 := Still.next hs f2 nn.out; clear f2)
    | (go_at_call 27; refine (T1 _ B (by assumption) (HT.out.still (by assumption)) n7.out).out.mono ?_; rintro e w3 ⟨rfl, hB3, f3⟩; have hs3 := Still.next hs2 f3 nn.out; clear f3)
    | (go_at_call 29; refine (T2 _ B (by assumption)).out.mono ?_; rintro e w4 ⟨rfl, hB4, f4⟩; have hs4 := Still.next hs3 f4 (fun k hk => nn.out k (.inl hk)); clear f4)
    | (go_at_call 27; refine (T3 _ B (by assumption) (HT.out.still (by assumption)) n7.out).out.mono ?_; rintro e w5 ⟨rfl, hB5, f5⟩; have hs5 := Still.next hs4 f5 nn.out; clear f5))
  go_ret
  exact ⟨rfl, hs5⟩
end Go.Proofs.YtffjaaolcphonaaDoor
