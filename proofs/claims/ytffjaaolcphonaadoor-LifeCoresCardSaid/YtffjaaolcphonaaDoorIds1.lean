/- The parts of ids, by the program and by the document. -/
import Derived.Test.YtffjaaolcphonaaDoorBase
namespace Go.Proofs.YtffjaaolcphonaaDoor
open Go.RowKit
theorem xage (w : World) (id : Int) (hi : inI id) : Calls Tryd.prog 22 #[.int .i64 id] w fun e w' => e = .returned (.int .i64 (ageI id)) ∧ w = w' := by
  unfold inI at hi
  by_cases h0 : 65536 ≤ id
  · by_cases h1 : id / 65536 ≤ 2147483647
    · have HA : Hid (ageI id = id / 65536) := hid (if_pos ⟨h0, h1⟩)
      rw [HA.out]
      go_enter Tryd.func22, Tryd.ntmps22
      go_wp2
      go_ret
      exact ⟨rfl, rfl⟩
    · have HA : Hid (ageI id = 0) := hid (if_neg fun h => h1 h.2)
      rw [HA.out]
      have h1' : 2147483647 < id / 65536 := by omega
      clear h1
      go_enter Tryd.func22, Tryd.ntmps22
      go_wp2
      go_ret
      exact ⟨rfl, rfl⟩
  · have HA : Hid (ageI id = 0) := hid (if_neg fun h => h0 h.1)
    rw [HA.out]
    have h0' : id < 65536 := by omega
    clear h0
    go_enter Tryd.func22, Tryd.ntmps22
    go_wp2
    go_ret
    exact ⟨rfl, rfl⟩
theorem xindex (w : World) (id : Int) (hi : inI id) : Calls Tryd.prog 20 #[.int .i64 id] w fun e w' => e = .returned (.int .i64 (idxI id)) ∧ w = w' := by
  have A := xage w id hi
  unfold inI at hi
  rcases idxI_cases id with ⟨h, e⟩ | ⟨h, e, _, _⟩
  · rw [e]
    rw [show ageI id = 0 from if_neg h] at A
    have HA := hid A
    clear A h e
    go_enter Tryd.func20, Tryd.ntmps20
    go_wp2_with (go_at_call 22; refine HA.out.mono ?_; rintro e w' ⟨rfl, rfl⟩)
    go_ret
    exact ⟨rfl, rfl⟩
  · rw [e]
    have h0 := h.1
    have ha : ageI id = id / 65536 := if_pos h
    have hne : (id / 65536 == 0) = false := by simp; omega
    rw [ha] at A
    have HA := hid A
    clear A h e ha
    go_enter Tryd.func20, Tryd.ntmps20
    go_wp2_with (go_at_call 22; refine HA.out.mono ?_; rintro e w' ⟨rfl, rfl⟩)
    go_ret
    exact ⟨rfl, rfl⟩
theorem xid (w : World) (i a : Int) : Calls Tryd.prog 18 #[.int .i64 i, .int .i64 a] w fun e w' => e = .returned (.int .i64 (idMk i a)) ∧ w = w' := by
  by_cases h0 : i < 0 ∨ 65535 < i ∨ a < 1 ∨ 2147483647 < a
  · have HI : Hid (idMk i a = 0) := hid (if_pos h0)
    rw [HI.out]
    by_cases h1 : i < 0
    · clear h0
      go_enter Tryd.func18, Tryd.ntmps18
      go_wp2
      go_ret
      exact ⟨rfl, rfl⟩
    by_cases h2 : 65535 < i
    · clear h0
      go_enter Tryd.func18, Tryd.ntmps18
      go_wp2
      go_ret
      exact ⟨rfl, rfl⟩
    by_cases h3 : a < 1
    · clear h0
      go_enter Tryd.func18, Tryd.ntmps18
      go_wp2
      go_ret
      exact ⟨rfl, rfl⟩
    have h4 : 2147483647 < a := by omega
    clear h0
    go_enter Tryd.func18, Tryd.ntmps18
    go_wp2
    go_ret
    exact ⟨rfl, rfl⟩
  · have HI : Hid (idMk i a = a * 65536 + i) := hid (if_neg h0)
    rw [HI.out]
    have h1 : ¬ i < 0 := by omega
    have h2 : ¬ 65535 < i := by omega
    have h3 : ¬ a < 1 := by omega
    have h4 : ¬ 2147483647 < a := by omega
    clear h0
    go_enter Tryd.func18, Tryd.ntmps18
    go_wp2
    go_ret
    exact ⟨rfl, rfl⟩
theorem rright (w : World) (id : Int) (hi : inI id) : Calls Tryd.prog 83 #[.int .i64 id] w fun e w' => e = .returned (.bool (decide (idOk id))) ∧ w = w' := by
  unfold inI at hi
  by_cases h0 : 65536 ≤ id
  · by_cases h1 : id / 65536 ≤ 2147483647
    · have HA : Hid (decide (idOk id) = true) := hid (decide_eq_true ⟨h0, h1⟩)
      rw [HA.out]
      go_enter Tryd.func83, Tryd.ntmps83
      go_wp2
      go_ret
      exact ⟨rfl, rfl⟩
    · have HA : Hid (decide (idOk id) = false) := hid (decide_eq_false fun h => h1 h.2)
      rw [HA.out]
      go_enter Tryd.func83, Tryd.ntmps83
      go_wp2
      go_ret
      exact ⟨by first | rfl | (simp; omega), rfl⟩
  · have HA : Hid (decide (idOk id) = false) := hid (decide_eq_false fun h => h0 h.1)
    rw [HA.out]
    go_enter Tryd.func83, Tryd.ntmps83
    go_wp2
    go_ret
    exact ⟨by first | rfl | (simp; omega), rfl⟩
theorem rindex (w : World) (id : Int) (hi : inI id) : Calls Tryd.prog 21 #[.int .i64 id] w fun e w' => e = .returned (.int .i64 (idxI id)) ∧ w = w' := by
  have A := rright w id hi
  unfold inI at hi
  rcases idxI_cases id with ⟨h, e⟩ | ⟨h, e, _, _⟩
  · rw [e]
    rw [decide_eq_false h] at A
    have HA := hid A
    clear A h e
    go_enter Tryd.func21, Tryd.ntmps21
    go_wp2_with (go_at_call 83; refine HA.out.mono ?_; rintro e w' ⟨rfl, rfl⟩)
    go_ret
    exact ⟨rfl, rfl⟩
  · rw [e]
    rw [decide_eq_true h] at A
    have h0 := h.1
    have HA := hid A
    clear A h e
    go_enter Tryd.func21, Tryd.ntmps21
    go_wp2_with (go_at_call 83; refine HA.out.mono ?_; rintro e w' ⟨rfl, rfl⟩)
    go_ret
    exact ⟨rfl, rfl⟩
theorem rid (w : World) (i a : Int) : Calls Tryd.prog 19 #[.int .i64 i, .int .i64 a] w fun e w' => e = .returned (.int .i64 (idMk i a)) ∧ w = w' := by
  by_cases h0 : i < 0 ∨ 65535 < i ∨ a < 1 ∨ 2147483647 < a
  · have HI : Hid (idMk i a = 0) := hid (if_pos h0)
    rw [HI.out]
    by_cases h1 : i < 0
    · clear h0
      go_enter Tryd.func19, Tryd.ntmps19
      go_wp2
      go_ret
      exact ⟨rfl, rfl⟩
    by_cases h2 : 65535 < i
    · clear h0
      go_enter Tryd.func19, Tryd.ntmps19
      go_wp2
      go_ret
      exact ⟨rfl, rfl⟩
    by_cases h3 : a < 1
    · clear h0
      go_enter Tryd.func19, Tryd.ntmps19
      go_wp2
      go_ret
      exact ⟨rfl, rfl⟩
    have h4 : 2147483647 < a := by omega
    clear h0
    go_enter Tryd.func19, Tryd.ntmps19
    go_wp2
    go_ret
    exact ⟨rfl, rfl⟩
  · have HI : Hid (idMk i a = a * 65536 + i) := hid (if_neg h0)
    rw [HI.out]
    have h1 : ¬ i < 0 := by omega
    have h2 : ¬ 65535 < i := by omega
    have h3 : ¬ a < 1 := by omega
    have h4 : ¬ 2147483647 < a := by omega
    clear h0
    go_enter Tryd.func19, Tryd.ntmps19
    go_wp2
    go_ret
    exact ⟨rfl, rfl⟩
theorem rage (w : World) (id : Int) (hi : inI id) : Calls Tryd.prog 23 #[.int .i64 id] w fun e w' => e = .returned (.int .i64 (ageI id)) ∧ w = w' := by
  have A := rright w id hi
  unfold inI at hi
  by_cases h : idOk id
  · rw [show ageI id = id / 65536 from if_pos h]
    rw [decide_eq_true h] at A
    have h0 := h.1
    have HA := hid A
    clear A h
    go_enter Tryd.func23, Tryd.ntmps23
    go_wp2_with (go_at_call 83; refine HA.out.mono ?_; rintro e w' ⟨rfl, rfl⟩)
    go_ret
    exact ⟨rfl, rfl⟩
  · rw [show ageI id = 0 from if_neg h]
    rw [decide_eq_false h] at A
    have HA := hid A
    clear A h
    go_enter Tryd.func23, Tryd.ntmps23
    go_wp2_with (go_at_call 83; refine HA.out.mono ?_; rintro e w' ⟨rfl, rfl⟩)
    go_ret
    exact ⟨rfl, rfl⟩
end Go.Proofs.YtffjaaolcphonaaDoor
