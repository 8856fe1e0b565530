/- The links' 'out'; Remove and Pop. -/
import Derived.Test.YtffjaaolcphonaaPush2
namespace Go.Proofs.Ytffjaaolcphonaa
open Go.RowKit

/-- What 'out' makes of the five blocks. -/
def Raw.del (r : Raw) (thing a b i : Nat) (c : Nat) : Raw :=
  { r with next := r.next.set a b, back := r.back.set b a, list := r.list.set thing (-1), count := r.count.set i ((c : Int) - 1) }

set_option maxHeartbeats 400000 in
theorem out_any (w : World) (B : LB) (r : Raw) (h : RawAt w B r) (thing a b i c : Nat) (ht : thing < r.things) (hi : i < r.count.length) (ha' : a < r.next.length) (hb' : b < r.next.length)
    (ha : r.back.getD thing 0 = (a : Int)) (hb : r.next.getD thing 0 = (b : Int)) (hl : r.list.getD thing 0 = (i : Int)) (hc : r.count.getD i 0 = (c : Int)) (hc' : c ≤ 4096) :
    Calls Try.prog 96 #[.pointer (some ⟨B.p, 0, none⟩), .int .i64 thing] w fun e w' => e = .returned (.tuple #[]) ∧ RawAt w' B (r.del thing a b i c) ∧ Fr B.foot w w' := by
  obtain ⟨ln, lb, ll, t1, m1⟩ : r.next.length = r.things + r.count.length ∧ r.back.length = r.things + r.count.length ∧ r.list.length = r.things ∧ r.things ≤ 4096 ∧ r.count.length ≤ 4096 := ⟨h.lnext, h.lback, h.llist, h.t1, h.m1⟩
  have hn1 : (a : Int) < (r.next.length : Int) := by omega
  have hn2 : (thing : Int) < (r.next.length : Int) := by omega
  have hn3 : (b : Int) < (r.next.length : Int) := by omega
  have hn4 : (thing : Int) < (r.things : Int) := by omega
  have hn5 : (i : Int) < (r.count.length : Int) := by omega
  have hn6 : r.next.length ≤ 8192 := by omega
  have hn7 : b < r.back.length := by omega
  have hn8 : thing < r.list.length := by omega
  have F1 := h.f1
  have F2 := h.f2
  have C1 : w.cell? ⟨B.b, thing, none⟩ = some (.int .i64 a) := by rw [h.hb.cell (by omega), ha]
  have C2 : w.cell? ⟨B.n, thing, none⟩ = some (.int .i64 b) := by rw [h.hn.cell (by omega), hb]
  have HL := hid hl
  have HC := hid hc
  clear ln lb ll ha hb hl hc
  go_enter Try.func96, Try.ntmps96
  go_wp2
  go_quiet (fail)
  go_wp2
  refine wp_abs (fun w1 => RawAt w1 B r ∧ Fr B.foot w w1) ⟨h.still ((Fr.refl _ w).drewN _), (Fr.refl _ w).drewN _⟩ ?_
  clear F1 F2 C1 C2
  rintro w1 ⟨h1, f1⟩
  have F1 := h1.f1
  have F2 := h1.f2
  have C1 : w1.cell? ⟨B.n, a, none⟩ = some (.int .i64 (r.next.getD a 0)) := h1.hn.cell ha'
  have C2 : w1.cell? ⟨B.b, b, none⟩ = some (.int .i64 (r.back.getD b 0)) := h1.hb.cell hn7
  have Z1 := h1.zn a
  have Z2 := h1.zb b
  have d1 := h.nb
  go_region
  go_wp2
  refine wp_abs (fun w2 => RawAt w2 B { r with next := r.next.set a b, back := r.back.set b a } ∧ Fr B.foot w w2) ⟨((h1.setN a b).setB b a).drew, ((f1.setCell (.inl (by simp [LB.foot])) _).setCell (.inl (by simp [LB.foot])) _).drew⟩ ?_
  clear F1 F2 C1 C2 Z1 Z2 h1 f1
  rintro w2 ⟨h1, f1⟩
  have F3 := h1.f3
  have F4 := h1.f4
  have C3 : w2.cell? ⟨B.l, thing, none⟩ = some (.int .i64 i) := by rw [h1.hl.cell hn8, HL.out]
  have C4 : w2.cell? ⟨B.c, i, none⟩ = some (.int .i64 c) := by rw [h1.hc.cell hi, HC.out]
  have Z3 := h1.zl thing
  have Z4 := h1.zc i
  have d4 := h1.pl
  have d5 := h1.pc
  have d10 := h1.lc
  go_region
  go_wp2
  go_end0
  refine ⟨rfl, ?_, ?_⟩
  · exact ((h1.setC i (c - 1)).setL thing (-1)).drew
  · exact ((f1.setCell (.inl (by simp [LB.foot])) _).setCell (.inl (by simp [LB.foot])) _).drew

/-- What keeps a thing from being removed. -/
def remE (r : Raw) (t : Int) : Int := if inR t r.things then (if r.list.getD t.toNat 0 = -1 then 4 else 0) else 8
def popE (r : Raw) (i : Int) : Int := if inR i r.count.length then (if r.count.getD i.toNat 0 = 0 then 4 else 0) else 8

theorem rem_first (w : World) (B : LB) (r : Raw) (h : RawAt w B r) (t : Int) (b1 b2 bs : Nat) (T : TypeId) (g1 : Box w b1 (.pointer (some ⟨B.p, 0, none⟩)) 23) (g2 : Box w b2 (.int .i64 t) 3)
    (g4 : Blk w bs [.func (.func 97) #[] #[.pointer (some ⟨b1, 0, none⟩), .pointer (some ⟨b2, 0, none⟩)], .func (.func 98) #[] #[.pointer (some ⟨b1, 0, none⟩), .pointer (some ⟨b2, 0, none⟩)]] T) :
    Calls Try.prog 79 #[.pointer (some ⟨B.p, 0, none⟩), .slice (some ⟨bs, 0, none⟩) 2 2] w fun e w' => e = .returned (.int .i64 (remE r t)) ∧ Still w w' := by
  refine first_two w B r h bs T 97 98 _ _ (decide (¬ inR t r.things)) (r.list.getD t.toNat 0 == -1) 8 4 (remE r t) ?_ g4 (enters_of Try.func97 (by kernel_rfl) rfl) (enters_of Try.func98 (by kernel_rfl) rfl) ?_ ?_
  · unfold remE
    by_cases h2 : inR t r.things <;> by_cases h3 : r.list.getD t.toNat 0 = -1 <;> simp_all
  · intro w1 hs
    exact remove1 w1 B r (h.still hs) _ _ t (g1.still hs) (g2.still hs)
  · intro hb w1 hs
    have ht : inR t r.things := by simpa using hb
    obtain ⟨t, rfl⟩ := Int.eq_ofNat_of_zero_le ht.1
    rw [Int.toNat_natCast]
    exact remove2 w1 B r (h.still hs) _ _ t _ rfl (by have := ht.2; omega) (g1.still hs) (g2.still hs)
theorem pop_first (w : World) (B : LB) (r : Raw) (h : RawAt w B r) (t : Int) (b1 b2 bs : Nat) (T : TypeId) (g1 : Box w b1 (.pointer (some ⟨B.p, 0, none⟩)) 23) (g2 : Box w b2 (.int .i64 t) 3)
    (g4 : Blk w bs [.func (.func 94) #[] #[.pointer (some ⟨b1, 0, none⟩), .pointer (some ⟨b2, 0, none⟩)], .func (.func 95) #[] #[.pointer (some ⟨b1, 0, none⟩), .pointer (some ⟨b2, 0, none⟩)]] T) :
    Calls Try.prog 79 #[.pointer (some ⟨B.p, 0, none⟩), .slice (some ⟨bs, 0, none⟩) 2 2] w fun e w' => e = .returned (.int .i64 (popE r t)) ∧ Still w w' := by
  refine first_two w B r h bs T 94 95 _ _ (decide (¬ inR t r.count.length)) (r.count.getD t.toNat 0 == 0) 8 4 (popE r t) ?_ g4 (enters_of Try.func94 (by kernel_rfl) rfl) (enters_of Try.func95 (by kernel_rfl) rfl) ?_ ?_
  · unfold popE
    by_cases h2 : inR t r.count.length <;> by_cases h3 : r.count.getD t.toNat 0 = 0 <;> simp_all
  · intro w1 hs
    exact pop1 w1 B r (h.still hs) _ _ t (g1.still hs) (g2.still hs)
  · intro hb w1 hs
    have ht : inR t r.count.length := by simpa using hb
    obtain ⟨t, rfl⟩ := Int.eq_ofNat_of_zero_le ht.1
    rw [Int.toNat_natCast]
    exact pop2 w1 B r (h.still hs) _ _ t _ rfl (by have := ht.2; omega) (g1.still hs) (g2.still hs)

theorem remove_err (w : World) (B : LB) (r : Raw) (h : RawAt w B r) (t : Int) (v : Int) (hv : remE r t = v) (h0 : (v == 0) = false) :
    Calls Try.prog 42 #[.pointer (some ⟨B.p, 0, none⟩), .int .i64 t] w fun e w' => e = .returned (.int .i64 v) ∧ Still w w' := by
  have HV := hid hv
  clear hv
  go_enter Try.func42, Try.ntmps42
  go_wp2_with fail
  refine calls_abs (fun W => Still w W ∧ Box W w.heap.size (.pointer (some ⟨B.p, 0, none⟩)) 23 ∧ Box W (w.heap.size + 1) (.int .i64 t) 3 ∧ Blk W (w.heap.size + 1 + 1) [_, _] 123) (lay3 w _ _ _ _ _ _ _) ?_
  rintro W ⟨hS, g1, g2, g4⟩
  refine (rem_first W B r (h.still hS) t _ _ _ _ g1 g2 g4).mono ?_
  rw [HV.out]
  rintro e w' ⟨rfl, hs⟩
  go_wp2_with fail
  go_ret
  exact ⟨rfl, hS.trans hs⟩
theorem remove_ok (w : World) (B : LB) (r : Raw) (h : RawAt w B r) (thing a b i c : Nat) (ht : thing < r.things) (hi : i < r.count.length) (ha' : a < r.next.length) (hb' : b < r.next.length)
    (ha : r.back.getD thing 0 = (a : Int)) (hb : r.next.getD thing 0 = (b : Int)) (hl : r.list.getD thing 0 = (i : Int)) (hc : r.count.getD i 0 = (c : Int)) (hc' : c ≤ 4096) :
    Calls Try.prog 42 #[.pointer (some ⟨B.p, 0, none⟩), .int .i64 thing] w fun e w' => e = .returned (.int .i64 0) ∧ RawAt w' B (r.del thing a b i c) ∧ Fr B.foot w w' := by
  have HV : Hid (remE r thing = 0) := hid (by unfold remE; rw [if_pos ⟨by omega, by omega⟩, Int.toNat_natCast, hl, if_neg (by omega)])
  have HA := hid ha
  have HB := hid hb
  have HL := hid hl
  have HC := hid hc
  clear ha hb hl hc
  go_enter Try.func42, Try.ntmps42
  go_wp2_with fail
  refine calls_abs (fun W => Still w W ∧ Box W w.heap.size (.pointer (some ⟨B.p, 0, none⟩)) 23 ∧ Box W (w.heap.size + 1) (.int .i64 thing) 3 ∧ Blk W (w.heap.size + 1 + 1) [_, _] 123) (lay3 w _ _ _ _ _ _ _) ?_
  rintro W ⟨hS, g1, g2, g4⟩
  refine (rem_first W B r (h.still hS) thing _ _ _ _ g1 g2 g4).mono ?_
  rw [HV.out]
  rintro e w' ⟨rfl, hs⟩
  have c1 := (g1.still hs).c
  have c2 := (g2.still hs).c
  go_wp2_with fail
  refine (out_any _ B r ((h.still hS).still hs) thing a b i c ht hi ha' hb' HA.out HB.out HL.out HC.out hc').mono ?_
  rintro e w2 ⟨rfl, h2, f2⟩
  go_wp2_with fail
  go_ret
  exact ⟨rfl, h2, ((hS.trans hs).fr _).trans f2⟩
theorem pop_err (w : World) (B : LB) (r : Raw) (h : RawAt w B r) (t : Int) (v : Int) (hv : popE r t = v) (h0 : (v != 0) = true) :
    Calls Try.prog 41 #[.pointer (some ⟨B.p, 0, none⟩), .int .i64 t] w fun e w' => e = .returned (.tuple #[.int .i64 0, .int .i64 v]) ∧ Still w w' := by
  have HV := hid hv
  clear hv
  go_enter Try.func41, Try.ntmps41
  go_wp2_with fail
  refine calls_abs (fun W => Still w W ∧ Box W w.heap.size (.pointer (some ⟨B.p, 0, none⟩)) 23 ∧ Box W (w.heap.size + 1) (.int .i64 t) 3 ∧ Blk W (w.heap.size + 1 + 1) [_, _] 123) (lay3 w _ _ _ _ _ _ _) ?_
  rintro W ⟨hS, g1, g2, g4⟩
  refine (pop_first W B r (h.still hS) t _ _ _ _ g1 g2 g4).mono ?_
  rw [HV.out]
  rintro e w' ⟨rfl, hs⟩
  go_wp2_with fail
  go_ret2
  exact ⟨rfl, hS.trans hs⟩
theorem pop_ok (w : World) (B : LB) (r : Raw) (h : RawAt w B r) (i thing b c : Nat) (ht : thing < r.things) (hi : i < r.count.length) (hb' : b < r.next.length) (hn : r.next.getD (r.things + i) 0 = (thing : Int))
    (ha : r.back.getD thing 0 = ((r.things + i : Nat) : Int)) (hb : r.next.getD thing 0 = (b : Int)) (hl : r.list.getD thing 0 = (i : Int)) (hc : r.count.getD i 0 = (c : Int)) (hc' : c ≤ 4096) (hc0 : 0 < c) :
    Calls Try.prog 41 #[.pointer (some ⟨B.p, 0, none⟩), .int .i64 i] w fun e w' => e = .returned (.tuple #[.int .i64 thing, .int .i64 0]) ∧ RawAt w' B (r.del thing (r.things + i) b i c) ∧ Fr B.foot w w' := by
  have HV : Hid (popE r i = 0) := hid (by unfold popE; rw [if_pos ⟨by omega, by omega⟩, Int.toNat_natCast, hc, if_neg (by omega)])
  have ln := h.lnext
  have m1 := h.m1
  obtain ⟨q, hq⟩ : ∃ q, r.things + i = q := ⟨_, rfl⟩
  have hq1 : q < r.next.length := by omega
  have hq2 : (q : Int) < (r.next.length : Int) := by omega
  rw [hq] at hn ha ⊢
  have HQ := hid hq
  have HN := hid hn
  have HA := hid ha
  have HB := hid hb
  have HL := hid hl
  have HC := hid hc
  clear ha hb hl hc hn hq ln
  go_enter Try.func41, Try.ntmps41
  go_wp2_with fail
  refine calls_abs (fun W => Still w W ∧ Box W w.heap.size (.pointer (some ⟨B.p, 0, none⟩)) 23 ∧ Box W (w.heap.size + 1) (.int .i64 i) 3 ∧ Blk W (w.heap.size + 1 + 1) [_, _] 123) (lay3 w _ _ _ _ _ _ _) ?_
  rintro W ⟨hS, g1, g2, g4⟩
  refine (pop_first W B r (h.still hS) i _ _ _ _ g1 g2 g4).mono ?_
  rw [HV.out]
  rintro e w' ⟨rfl, hs⟩
  have c1 := (g1.still hs).c
  have c2 := (g2.still hs).c
  have h1 := (h.still hS).still hs
  have F1 := h1.f1
  have C : w'.cell? ⟨B.n, q, none⟩ = some (.int .i64 thing) := by rw [h1.hn.cell hq1, HN.out]
  go_wp2_with fail
  go_quiet ((go_at_call 77; exact Calls.quiet_of_same (end_nat _ B r (h1.still ((Fr.refl _ _).drewN _)) i q HQ.out (by omega))))
  go_wp2_with fail
  refine (out_any _ B r (h1.still ((Fr.refl _ _).drewN _)) thing q b i c ht hi hq1 hb' HA.out HB.out HL.out HC.out hc').mono ?_
  rintro e w2 ⟨rfl, h2, f2⟩
  go_wp2_with fail
  go_ret2
  exact ⟨rfl, h2, ((hS.trans hs).fr _).trans (((Fr.refl _ _).drewN _).trans f2)⟩
end Go.Proofs.Ytffjaaolcphonaa
