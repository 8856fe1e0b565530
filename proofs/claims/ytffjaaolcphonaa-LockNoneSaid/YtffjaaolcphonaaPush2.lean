/- The links' Push and Front over their five blocks. -/
import Derived.Test.YtffjaaolcphonaaPush
namespace Go.Proofs.Ytffjaaolcphonaa
open Go.RowKit

/-- What 'in' makes of the five blocks. -/
def Raw.ins (r : Raw) (list thing place after : Nat) (c : Nat) : Raw :=
  { r with next := (r.next.set place thing).set thing after, back := (r.back.set thing place).set after thing, list := r.list.set thing list, count := r.count.set list ((c : Int) + 1) }

theorem end_nat (w : World) (B : LB) (r : Raw) (h : RawAt w B r) (i q : Nat) (hq : r.things + i = q) (h1 : i ≤ 4096) : Calls Try.prog 77 #[.pointer (some ⟨B.p, 0, none⟩), .int .i64 i] w fun e w' => e = .returned (.int .i64 q) ∧ w' = w :=
  (end_any w B r h i (by omega) (by omega)).mono fun e w' ⟨he, hw⟩ => ⟨by rw [he, ← hq]; rfl, hw.symm⟩

theorem push_err (w : World) (B : LB) (r : Raw) (h : RawAt w B r) (i t : Int) (v : Int) (hv : mayE r i t = v) (h0 : (v == 0) = false) :
    Calls Try.prog 21 #[.pointer (some ⟨B.p, 0, none⟩), .int .i64 i, .int .i64 t] w fun e w' => e = .returned (.int .i64 v) ∧ Still w w' := by
  go_enter Try.func21, Try.ntmps21
  go_wp2_with (go_at_call 75; refine (may_any _ B r h _ _).mono ?_; rw [hv]; rintro e w' ⟨rfl, hs⟩)
  go_ret
  exact ⟨rfl, hs⟩
theorem front_err (w : World) (B : LB) (r : Raw) (h : RawAt w B r) (i t : Int) (v : Int) (hv : mayE r i t = v) (h0 : (v == 0) = false) :
    Calls Try.prog 22 #[.pointer (some ⟨B.p, 0, none⟩), .int .i64 i, .int .i64 t] w fun e w' => e = .returned (.int .i64 v) ∧ Still w w' := by
  go_enter Try.func22, Try.ntmps22
  go_wp2_with (go_at_call 75; refine (may_any _ B r h _ _).mono ?_; rw [hv]; rintro e w' ⟨rfl, hs⟩)
  go_ret
  exact ⟨rfl, hs⟩
set_option maxRecDepth 100000 in
theorem push_ok (w : World) (B : LB) (r : Raw) (h : RawAt w B r) (i t place after c : Nat) (hv : mayE r i t = 0) (hi : i < r.count.length) (ht : t < r.things)
    (hp : r.back.getD (r.things + i) 0 = (place : Int)) (hp' : place < r.next.length) (ha : r.next.getD place 0 = (after : Int)) (ha' : after < r.next.length) (hc : r.count.getD i 0 = (c : Int)) (hc' : c ≤ 4096) :
    Calls Try.prog 21 #[.pointer (some ⟨B.p, 0, none⟩), .int .i64 i, .int .i64 t] w fun e w' => e = .returned (.int .i64 0) ∧ RawAt w' B (r.ins i t place after c) ∧ Fr B.foot w w' := by
  have HP := hid hp
  have HA := hid ha
  have HC := hid hc
  have HV := hid hv
  clear hp ha hc hv
  have lb := h.lback
  have hm := h.m1
  have ht1 := h.t1
  have ln := h.lnext
  obtain ⟨q, hq⟩ : ∃ q, r.things + i = q := ⟨_, rfl⟩
  have hb1 : (q : Int) < (r.next.length : Int) := by omega
  have hb2 : q < r.back.length := by omega
  rw [hq] at HP
  have HQ := hid hq
  clear lb ln hq
  go_enter Try.func21, Try.ntmps21
  go_wp2_with fail
  refine (may_any _ B r h _ _).mono ?_
  rw [HV.out]
  rintro e w1 ⟨rfl, hs⟩
  have h1 := h.still hs
  have F2 := h1.f2
  have C : w1.cell? ⟨B.b, q, none⟩ = some (.int .i64 place) := by rw [h1.hb.cell hb2, HP.out]
  go_wp2_with fail
  refine wp_region_still_tail 12 (by kernel_rfl) (by kernel_rfl) ?_
  simp only [List.take_succ_cons, List.take_zero, List.drop_succ_cons, List.drop_zero]
  iterate 9 still_step
  still_call (end_nat _ B r h1.drew i q HQ.out (by omega))
  repeat still_step
  refine wpStill_nil ?_
  change wpList _ _ _ _ _ w1.drew
  go_wp2_with fail
  refine (in_any _ B r h1.drew i t place after c hi ht hp' HA.out ha' HC.out hc').mono ?_
  rintro e w2 ⟨rfl, h2, f2⟩
  go_wp2_with fail
  go_ret
  exact ⟨rfl, h2, (hs.fr _).trans ((Fr.refl _ w1).drew.trans f2)⟩
set_option maxRecDepth 100000 in
theorem front_ok (w : World) (B : LB) (r : Raw) (h : RawAt w B r) (i t after c : Nat) (hv : mayE r i t = 0) (hi : i < r.count.length) (ht : t < r.things)
    (ha : r.next.getD (r.things + i) 0 = (after : Int)) (ha' : after < r.next.length) (hc : r.count.getD i 0 = (c : Int)) (hc' : c ≤ 4096) :
    Calls Try.prog 22 #[.pointer (some ⟨B.p, 0, none⟩), .int .i64 i, .int .i64 t] w fun e w' => e = .returned (.int .i64 0) ∧ RawAt w' B (r.ins i t (r.things + i) after c) ∧ Fr B.foot w w' := by
  have HA := hid ha
  have HC := hid hc
  have HV := hid hv
  clear ha hc hv
  have hm := h.m1
  have ht1 := h.t1
  have ln := h.lnext
  obtain ⟨q, hq⟩ : ∃ q, r.things + i = q := ⟨_, rfl⟩
  have hb1 : q < r.next.length := by omega
  rw [hq] at HA
  rw [hq]
  have HQ := hid hq
  clear ln hq
  go_enter Try.func22, Try.ntmps22
  go_wp2_with fail
  refine (may_any _ B r h _ _).mono ?_
  rw [HV.out]
  rintro e w1 ⟨rfl, hs⟩
  have h1 := h.still hs
  go_wp2_with fail
  refine (end_nat _ B r h1 i q HQ.out (by omega)).mono ?_
  rintro e w2 ⟨rfl, rfl⟩
  go_wp2_with fail
  refine (in_any _ B r h1 i t q after c hi ht hb1 HA.out ha' HC.out hc').mono ?_
  rintro e w3 ⟨rfl, h2, f2⟩
  go_wp2_with fail
  go_ret
  exact ⟨rfl, h2, (hs.fr _).trans f2⟩
end Go.Proofs.Ytffjaaolcphonaa
