/- The locks' closures, made and called; ask. -/
import Derived.Test.YtffjaaolcphonaaLock1
namespace Go.Proofs.Ytffjaaolcphonaa
open Go.RowKit
set_option linter.unusedSimpArgs false
section
variable {w : World} {K : KB} {s : LS}
theorem are_made (w : World) (l v : Value) (hl : ∃ a, l = .pointer a) (hv : ∃ a n c, v = .slice a n c) : Calls Try.prog 108 #[l, v] w fun e w' =>
    e = .returned (.func (.func 138) #[] #[.pointer (some ⟨w.heap.size, 0, none⟩), .pointer (some ⟨w.heap.size + 1, 0, none⟩)]) ∧ w' = (w.alloc (.cells #[l] 80)).alloc (.cells #[v] 28) := by
  obtain ⟨a, rfl⟩ := hl
  obtain ⟨b, n, c, rfl⟩ := hv
  go_enter Try.func108, Try.ntmps108
  go_wp2
  go_ret
  exact ⟨rfl, rfl⟩
theorem idle_made (w : World) (a : Option Addr) (t : Int) : Calls Try.prog 109 #[.pointer a, .int .i64 t] w fun e w' =>
    e = .returned (.func (.func 141) #[] #[.pointer (some ⟨w.heap.size + 1, 0, none⟩), .pointer (some ⟨w.heap.size, 0, none⟩)]) ∧ w' = (w.alloc (.cells #[.pointer a] 80)).alloc (.cells #[.int .i64 t] 3) := by
  go_enter Try.func109, Try.ntmps109
  go_wp2
  go_ret
  exact ⟨rfl, rfl⟩
theorem owns_made (w : World) (a : Option Addr) (o t : Int) (b : Bool) (e0 : Int) : Calls Try.prog 110 #[.pointer a, .int .i64 o, .int .i64 t, .bool b, .int .i64 e0] w fun e w' =>
    e = .returned (.func (.func 142) #[] #[.pointer (some ⟨w.heap.size, 0, none⟩), .pointer (some ⟨w.heap.size + 1, 0, none⟩), .pointer (some ⟨w.heap.size + 2, 0, none⟩), .pointer (some ⟨w.heap.size + 3, 0, none⟩), .pointer (some ⟨w.heap.size + 4, 0, none⟩)]) ∧
      w' = ((((w.alloc (.cells #[.pointer a] 80)).alloc (.cells #[.int .i64 o] 3)).alloc (.cells #[.int .i64 t] 3)).alloc (.cells #[.bool b] 4)).alloc (.cells #[.int .i64 e0] 26) := by
  go_enter Try.func110, Try.ntmps110
  go_wp2
  go_ret
  exact ⟨rfl, rfl⟩
theorem are_tells (h : LkAt w K s) (bl bo : Nat) (v : Value) (xs : List Int) (hv : IRow w v xs) (hx : xs.length ≤ 8) (h1 : Box w bl (.pointer (some ⟨K.P, 0, none⟩)) 80) (h2 : Box w bo v 28) :
    Calls Try.prog 138 #[.pointer (some ⟨bl, 0, none⟩), .pointer (some ⟨bo, 0, none⟩)] w (Two (allR xs s.n) 8 w) := by
  have c1 := h1.c
  have c2 := h2.c
  obtain ⟨a, c, hva⟩ := hv.len
  subst hva
  have HV := hid hv
  have HB := hid c1
  clear hv
  go_enter Try.func138, Try.ntmps138
  go_wp2_with fail
  refine (lkcontains h bl HB.out _ xs HV.out hx).mono ?_
  rintro e w' ⟨rfl, rfl⟩
  go_wp2_with fail
  go_ret2
  exact ⟨by simp, Fr.refl _ _⟩
def idleR (s : LS) (t : Int) : Bool × Int := if inR t s.T then (decide (whI s.T s.L t < 0), 5) else (false, 8)
set_option maxHeartbeats 1000000 in
theorem idle_tells (h : LkAt w K s) (bl bt : Nat) (t : Int) (h1 : Box w bl (.pointer (some ⟨K.P, 0, none⟩)) 80) (h2 : Box w bt (.int .i64 t) 3) :
    Calls Try.prog 141 #[.pointer (some ⟨bt, 0, none⟩), .pointer (some ⟨bl, 0, none⟩)] w (Two (idleR s t).1 (idleR s t).2 w) := by
  have c1 := h1.c
  have c2 := h2.c
  have F1 := h.f1
  have F2 := h.f2
  by_cases ht : inR t s.T
  · have HI : Hid (idleR s t = (decide (whI s.T s.L t < 0), 5)) := by unfold idleR; rw [if_pos ht]; exact rfl
    obtain ⟨t0, t1⟩ := ht
    have d1 : decide (t < 0) = false := decide_eq_false (by omega)
    have d2 : decide ((s.T : Int) ≤ t) = false := decide_eq_false (by omega)
    rw [HI.out]
    go_enter Try.func141, Try.ntmps141
    go_wp2_with fail
    go_quiet (fail)
    go_wp2_with fail
    refine wp_abs (fun W => Still w W) ((Fr.refl _ _).drewN _) ?_
    intro W hs
    replace c1 := Still.cell hs c1
    replace c2 := Still.cell hs c2
    replace F2 := Still.cell hs F2
    have hW := (h.still hs).hl
    go_quiet ((go_at_call 29; exact Calls.quiet_of_same (calls_flip (where_ls (hW.still ((Fr.refl _ _).drewN _)) _))))
    go_wp2_with fail
    go_ret2
    exact ⟨by simp, hs.drewN _⟩
  · have HI : Hid (idleR s t = (false, 8)) := by unfold idleR; rw [if_neg ht]; exact rfl
    rw [HI.out]
    by_cases t0 : t < 0
    · have d1 : decide (t < 0) = true := decide_eq_true (by omega)
      clear ht
      go_enter Try.func141, Try.ntmps141
      go_wp2_with fail
      go_quiet (fail)
      go_wp2_with fail
      go_ret2
      exact ⟨by simp, (Fr.refl _ _).drewN _⟩
    · have t1 : (s.T : Int) ≤ t := by have := inR_no ht; omega
      have d1 : decide (t < 0) = false := decide_eq_false (by omega)
      have d2 : decide ((s.T : Int) ≤ t) = true := decide_eq_true (by omega)
      clear ht
      go_enter Try.func141, Try.ntmps141
      go_wp2_with fail
      go_quiet (fail)
      go_wp2_with fail
      go_ret2
      exact ⟨by simp, (Fr.refl _ _).drewN _⟩
theorem owns_tells (h : LkAt w K s) (b0 b1 b2 b3 b4 : Nat) (o : Nat) (t : Int) (b : Bool) (e0 : Int) (ho : o < s.n) (h0 : Box w b0 (.pointer (some ⟨K.P, 0, none⟩)) 80) (h1 : Box w b1 (.int .i64 o) 3) (h2 : Box w b2 (.int .i64 t) 3) (h3 : Box w b3 (.bool b) 4) (h4 : Box w b4 (.int .i64 e0) 26) :
    Calls Try.prog 142 #[.pointer (some ⟨b0, 0, none⟩), .pointer (some ⟨b1, 0, none⟩), .pointer (some ⟨b2, 0, none⟩), .pointer (some ⟨b3, 0, none⟩), .pointer (some ⟨b4, 0, none⟩)] w (Two ((s.ow.getD o 0 == t) == b) e0 w) := by
  have c0 := h0.c
  have c1 := h1.c
  have c2 := h2.c
  have c3 := h3.c
  have c4 := h4.c
  have F0 := h.f0
  have C : w.cell? ⟨K.O, o, none⟩ = some (.int .i64 (s.ow.getD o 0)) := h.ho.cell (by rw [h.lo]; exact ho)
  have hi : (o : Int) < (s.n : Int) := by omega
  go_enter Try.func142, Try.ntmps142
  go_wp2_with fail
  go_quiet (fail)
  go_wp2_with fail
  go_ret2
  exact ⟨by simp, (Fr.refl _ _).drewN _⟩
end
end Go.Proofs.Ytffjaaolcphonaa
