/- The links' small reading functions. -/
import Derived.Test.YtffjaaolcphonaaRaw
namespace Go.Proofs.Ytffjaaolcphonaa
open Go.RowKit

theorem made_yes (w : World) (B : LB) (r : Raw) (h : RawAt w B r) : Calls Try.prog 83 #[.pointer (some ⟨B.p, 0, none⟩)] w fun e w' => e = .returned (.bool true) ∧ w = w' := by
  have F0 := h.f0
  have t0 : (0 : Int) < (r.things : Int) := by have := h.t0; omega
  go_enter Try.func83, Try.ntmps83
  go_wp2
  all_goals go_ret
  all_goals exact ⟨by simp; omega, rfl⟩
theorem end_any (w : World) (B : LB) (r : Raw) (h : RawAt w B r) (i : Int) (h0 : 0 ≤ i) (h1 : i ≤ 4096) : Calls Try.prog 77 #[.pointer (some ⟨B.p, 0, none⟩), .int .i64 i] w fun e w' => e = .returned (.int .i64 ((r.things : Int) + i)) ∧ w = w' := by
  have F0 := h.f0
  have t1 : (r.things : Int) ≤ 4096 := by have := h.t1; omega
  go_enter Try.func77, Try.ntmps77
  go_wp2
  go_ret
  exact ⟨rfl, rfl⟩
theorem isList_yes (w : World) (B : LB) (r : Raw) (h : RawAt w B r) (i : Int) (h0 : 0 ≤ i) (h1 : i < (r.count.length : Int)) : Calls Try.prog 81 #[.pointer (some ⟨B.p, 0, none⟩), .int .i64 i] w fun e w' => e = .returned (.bool true) ∧ w = w' := by
  have F4 := h.f4
  go_enter Try.func81, Try.ntmps81
  go_wp2
  go_ret
  exact ⟨by simp, rfl⟩
theorem isList_no (w : World) (B : LB) (r : Raw) (h : RawAt w B r) (i : Int) (h0 : i < 0 ∨ (r.count.length : Int) ≤ i) : Calls Try.prog 81 #[.pointer (some ⟨B.p, 0, none⟩), .int .i64 i] w fun e w' => e = .returned (.bool false) ∧ w = w' := by
  have F4 := h.f4
  rcases h0 with h0 | h0
  all_goals
    go_enter Try.func81, Try.ntmps81
    go_wp2
    all_goals go_ret
    all_goals exact ⟨by simp; try omega, rfl⟩
theorem isThing_yes (w : World) (B : LB) (r : Raw) (h : RawAt w B r) (i : Int) (h0 : 0 ≤ i) (h1 : i < (r.things : Int)) : Calls Try.prog 89 #[.pointer (some ⟨B.p, 0, none⟩), .int .i64 i] w fun e w' => e = .returned (.bool true) ∧ w = w' := by
  have F0 := h.f0
  go_enter Try.func89, Try.ntmps89
  go_wp2
  go_ret
  exact ⟨by simp, rfl⟩
theorem isThing_no (w : World) (B : LB) (r : Raw) (h : RawAt w B r) (i : Int) (h0 : i < 0 ∨ (r.things : Int) ≤ i) : Calls Try.prog 89 #[.pointer (some ⟨B.p, 0, none⟩), .int .i64 i] w fun e w' => e = .returned (.bool false) ∧ w = w' := by
  have F0 := h.f0
  rcases h0 with h0 | h0
  all_goals
    go_enter Try.func89, Try.ntmps89
    go_wp2
    all_goals go_ret
    all_goals exact ⟨by simp; try omega, rfl⟩
theorem where_yes (w : World) (B : LB) (r : Raw) (h : RawAt w B r) (t : Nat) (h1 : t < r.things) : Calls Try.prog 29 #[.pointer (some ⟨B.p, 0, none⟩), .int .i64 t] w fun e w' => e = .returned (.int .i64 (r.list.getD t 0)) ∧ w = w' := by
  have F3 := h.f3
  have t1 := h.t1
  have hi : (t : Int) < (r.things : Int) := by omega
  obtain ⟨c, hc⟩ : ∃ c, c = r.list.getD t 0 := ⟨_, rfl⟩
  have C : w.cell? ⟨B.l, t, none⟩ = some (.int .i64 c) := hc ▸ h.hl.cell (by rw [h.llist]; omega)
  rw [← hc]; clear hc
  go_enter Try.func29, Try.ntmps29
  go_wp2_with (first | (go_at_call 83; refine (made_yes _ B r h).mono ?_; rintro e w' ⟨rfl, rfl⟩) | (go_at_call 89; refine (isThing_yes _ B r h _ (by omega) (by omega)).mono ?_; rintro e w' ⟨rfl, rfl⟩))
  go_ret
  exact ⟨rfl, rfl⟩
theorem where_no (w : World) (B : LB) (r : Raw) (h : RawAt w B r) (t : Int) (h1 : t < 0 ∨ (r.things : Int) ≤ t) : Calls Try.prog 29 #[.pointer (some ⟨B.p, 0, none⟩), .int .i64 t] w fun e w' => e = .returned (.int .i64 (-1)) ∧ w = w' := by
  go_enter Try.func29, Try.ntmps29
  go_wp2_with (first | (go_at_call 83; refine (made_yes _ B r h).mono ?_; rintro e w' ⟨rfl, rfl⟩) | (go_at_call 89; refine (isThing_no _ B r h _ h1).mono ?_; rintro e w' ⟨rfl, rfl⟩))
  go_ret
  exact ⟨rfl, rfl⟩
theorem len_yes (w : World) (B : LB) (r : Raw) (h : RawAt w B r) (t : Nat) (h1 : t < r.count.length) : Calls Try.prog 25 #[.pointer (some ⟨B.p, 0, none⟩), .int .i64 t] w fun e w' => e = .returned (.int .i64 (r.count.getD t 0)) ∧ w = w' := by
  have F3 := h.f4
  have t1 := h.m1
  have hi : (t : Int) < (r.count.length : Int) := by omega
  obtain ⟨c, hc⟩ : ∃ c, c = r.count.getD t 0 := ⟨_, rfl⟩
  have C : w.cell? ⟨B.c, t, none⟩ = some (.int .i64 c) := hc ▸ h.hc.cell (by omega)
  rw [← hc]; clear hc
  go_enter Try.func25, Try.ntmps25
  go_wp2_with (first | (go_at_call 83; refine (made_yes _ B r h).mono ?_; rintro e w' ⟨rfl, rfl⟩) | (go_at_call 81; refine (isList_yes _ B r h _ (by omega) (by omega)).mono ?_; rintro e w' ⟨rfl, rfl⟩))
  go_ret
  exact ⟨rfl, rfl⟩
theorem len_no (w : World) (B : LB) (r : Raw) (h : RawAt w B r) (t : Int) (h1 : t < 0 ∨ (r.count.length : Int) ≤ t) : Calls Try.prog 25 #[.pointer (some ⟨B.p, 0, none⟩), .int .i64 t] w fun e w' => e = .returned (.int .i64 0) ∧ w = w' := by
  go_enter Try.func25, Try.ntmps25
  go_wp2_with (first | (go_at_call 83; refine (made_yes _ B r h).mono ?_; rintro e w' ⟨rfl, rfl⟩) | (go_at_call 81; refine (isList_no _ B r h _ h1).mono ?_; rintro e w' ⟨rfl, rfl⟩))
  go_ret
  exact ⟨rfl, rfl⟩
end Go.Proofs.Ytffjaaolcphonaa
