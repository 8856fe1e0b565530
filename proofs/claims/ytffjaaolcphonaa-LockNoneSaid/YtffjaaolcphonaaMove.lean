/- The links' Move. -/
import Derived.Test.YtffjaaolcphonaaColl
namespace Go.Proofs.Ytffjaaolcphonaa
open Go.RowKit Go.Shelf
attribute [local go_sem] Oper.semAt_some

def moveE (r : Raw) (f t : Int) : Int := if inR f r.count.length ∧ inR t r.count.length then (if f = t then 2 else 0) else 8

theorem move_first (w : World) (B : LB) (r : Raw) (h : RawAt w B r) (f t : Int) (b1 b2 b3 bs : Nat) (T : TypeId) (g1 : Box w b1 (.pointer (some ⟨B.p, 0, none⟩)) 23) (g2 : Box w b2 (.int .i64 f) 3) (g3 : Box w b3 (.int .i64 t) 3)
    (g4 : Blk w bs [.func (.func 80) #[] #[.pointer (some ⟨b1, 0, none⟩), .pointer (some ⟨b2, 0, none⟩), .pointer (some ⟨b3, 0, none⟩)], .func (.func 82) #[] #[.pointer (some ⟨b2, 0, none⟩), .pointer (some ⟨b3, 0, none⟩)]] T) :
    Calls Try.prog 79 #[.pointer (some ⟨B.p, 0, none⟩), .slice (some ⟨bs, 0, none⟩) 2 2] w fun e w' => e = .returned (.int .i64 (moveE r f t)) ∧ Still w w' := by
  refine first_two w B r h bs T 80 82 _ _ (decide (¬ inR f r.count.length ∨ ¬ inR t r.count.length)) (f == t) 8 2 (moveE r f t) ?_ g4 (enters_of Try.func80 (by kernel_rfl) rfl) (enters_of Try.func82 (by kernel_rfl) rfl) ?_ ?_
  · unfold moveE
    by_cases h1 : inR f r.count.length <;> by_cases h2 : inR t r.count.length <;> by_cases h3 : f = t <;> simp_all
  · intro w1 hs
    exact move1 w1 B r (h.still hs) _ _ _ f t (g1.still hs) (g2.still hs) (g3.still hs)
  · intro _ w1 hs
    exact move2 w1 _ _ f t (g2.still hs) (g3.still hs)

theorem move_err (w : World) (B : LB) (r : Raw) (h : RawAt w B r) (f t : Int) (v : Int) (hv : moveE r f t = v) (h0 : (v != 0) = true) :
    Calls Try.prog 24 #[.pointer (some ⟨B.p, 0, none⟩), .int .i64 f, .int .i64 t] w fun e w' => e = .returned (.tuple #[.int .i64 0, .int .i64 v]) ∧ Still w w' := by
  have HV := hid hv
  clear hv
  go_enter Try.func24, Try.ntmps24
  go_wp2_with fail
  refine calls_abs (fun W => Still w W ∧ Box W w.heap.size (.pointer (some ⟨B.p, 0, none⟩)) 23 ∧ Box W (w.heap.size + 1) (.int .i64 f) 3 ∧ Box W (w.heap.size + 1 + 1) (.int .i64 t) 3 ∧ Blk W (w.heap.size + 1 + 1 + 1) [_, _] 123) (lay4 w _ _ _ _ _ _ _ _ _) ?_
  rintro W ⟨hS, g1, g2, g3, g4⟩
  refine (move_first W B r (h.still hS) f t _ _ _ _ _ g1 g2 g3 g4).mono ?_
  rw [HV.out]
  rintro e w' ⟨rfl, hs⟩
  have c1 := (g1.still hs).c
  have c2 := (g2.still hs).c
  have F4 := ((h.still hS).still hs).f4
  go_wp2_with fail
  go_quiet (fail)
  go_wp2
  go_ret2
  exact ⟨rfl, (hS.trans hs).trans ((Fr.refl _ _).drewN _)⟩

theorem move_zero (w : World) (B : LB) (r : Raw) (h : RawAt w B r) (f t : Nat) (hf : f < r.count.length) (hv : moveE r f t = 0) (hc : r.count.getD f 0 = 0) :
    Calls Try.prog 24 #[.pointer (some ⟨B.p, 0, none⟩), .int .i64 f, .int .i64 t] w fun e w' => e = .returned (.tuple #[.int .i64 0, .int .i64 0]) ∧ Still w w' := by
  have HV := hid hv
  have HC := hid hc
  have hf' : (f : Int) < (r.count.length : Int) := by omega
  clear hv hc
  go_enter Try.func24, Try.ntmps24
  go_wp2_with fail
  refine calls_abs (fun W => Still w W ∧ Box W w.heap.size (.pointer (some ⟨B.p, 0, none⟩)) 23 ∧ Box W (w.heap.size + 1) (.int .i64 f) 3 ∧ Box W (w.heap.size + 1 + 1) (.int .i64 t) 3 ∧ Blk W (w.heap.size + 1 + 1 + 1) [_, _] 123) (lay4 w _ _ _ _ _ _ _ _ _) ?_
  rintro W ⟨hS, g1, g2, g3, g4⟩
  refine (move_first W B r (h.still hS) f t _ _ _ _ _ g1 g2 g3 g4).mono ?_
  rw [HV.out]
  rintro e w' ⟨rfl, hs⟩
  have c1 := (g1.still hs).c
  have c2 := (g2.still hs).c
  have h1 := ((h.still hS).still hs)
  have F4 := h1.f4
  have C : w'.cell? ⟨B.c, f, none⟩ = some (.int .i64 0) := by rw [h1.hc.cell hf, HC.out]
  go_wp2_with fail
  go_quiet (fail)
  go_wp2
  go_ret2
  exact ⟨rfl, (hS.trans hs).trans ((Fr.refl _ _).drewN _)⟩
end Go.Proofs.Ytffjaaolcphonaa
