/- The ends: Join. -/
import Derived.Test.YtffjaaolcphonaaBdP
import Derived.Test.YtffjaaolcphonaaBdK
namespace Go.Proofs.Ytffjaaolcphonaa
open Go.RowKit
set_option linter.unusedSimpArgs false
def waB (s : JS) (y : Int) : Bool := decide (0 ≤ whI s.T s.L (idxI y))
def joinE (s : JS) (id y : Int) : Int := if plc s y then (if waB s y || (y == id) then 5 else if kn s id then (if s.rw.getD ((idxI id).toNat * 3 + 1) 0 = 2 then 0 else pushE s.T s.L (idxI id) (idxI y)) else 4) else 8
/-- Is a thread joined that has ended? -/
def joinD (s : JS) (id y : Int) : Bool := plc s y && (!(waB s y || (y == id)) && (kn s id && (s.rw.getD ((idxI id).toNat * 3 + 1) 0 == 2)))
def joinV (s : JS) (id y : Int) : Int := if joinD s id y then s.rw.getD ((idxI id).toNat * 3 + 2) 0 else 0
def joinW (s : JS) (id y : Int) : Bool := plc s y && (!(waB s y || (y == id)) && (kn s id && !(s.rw.getD ((idxI id).toNat * 3 + 1) 0 == 2)))
def joinS (s : JS) (id y : Int) : JS := if joinW s id y then { s with yb := s.yb.set (idxI y).toNat y, L := pushL s.T s.L (idxI id) (idxI y) } else s
section
variable {w : World} {J : JB} {s : JS}
theorem jwaits (h : JAt w J s) (b0 b9 : Nat) (p : Int) (h0 : w.cell? ⟨b0, 0, none⟩ = some (.pointer (some ⟨J.P, 0, none⟩))) (h9 : w.cell? ⟨b9, 0, none⟩ = some (.int .i64 p)) :
    Calls Try.prog 101 #[.pointer (some ⟨b0, 0, none⟩), .pointer (some ⟨b9, 0, none⟩)] w fun e w' => e = .returned (.bool (decide (0 ≤ whI s.T s.L p))) ∧ Still w w' := by
  have F2 := h.f2
  have W := hid (fun W hs => where_ls (h.still (w' := W) hs).hl p)
  go_enter Try.func101, Try.ntmps101
  go_wp2_with fail
  go_quiet ((go_at_call 29; exact Calls.quiet_of_same (calls_flip (W.out _ ((Fr.refl _ _).drewN _)))))
  go_wp2_with fail
  go_ret
  exact ⟨by simp, (Fr.refl _ _).drewN _⟩
theorem JAt.setY (h : JAt w J s) (i : Nat) (v : Int) : JAt (w.setCell ⟨J.Y, i, none⟩ (.int .i64 v)) J { s with yb := s.yb.set i v } := by
  have hf : Fr (fun k => k = J.Y) w (w.setCell ⟨J.Y, i, none⟩ (.int .i64 v)) := (Fr.refl (fun k => k = J.Y) w).setCell (p := ⟨J.Y, i, none⟩) (.inl rfl) _
  exact { h with hp := h.hp.fr hf h.PY, hr := h.hr.fr hf h.RY, hy := h.hy.put i v, hl := h.hl.fr hf (fun k hk e => h.dY (e ▸ hk)), ly := by simpa using h.ly }
set_option maxRecDepth 100000 in
set_option maxHeartbeats 2000000 in
theorem jjoin_no (h : JAt w J s) (id y : Int) (hi : inI id) (hy : inI y) (hp : plc s y = false) : Calls Try.prog 47 #[.pointer (some ⟨J.P, 0, none⟩), .int .i64 id, .int .i64 y] w fun e w' =>
    e = .returned (.tuple #[.int .i64 0, .bool false, .int .i64 8]) ∧ Still w w' := by
  have HA := hid (fun W (hs : Still w W) => jplace (h.still hs) y hy)
  have HF := hid (fun W (hs : Still w W) => jfind (h.still hs) id hi)
  have HM := hid (fun W (hs : Still w W) => jmade (h.still hs))
  have HH := hid h
  rw [hp] at HA
  obtain ⟨rp, hrp⟩ : ∃ x, rowP J s id = x := ⟨_, rfl⟩
  have hn : rp = .pointer none ∨ ∃ a, rp = .pointer (some a) := by rw [← hrp]; unfold rowP; split; exact .inr ⟨_, rfl⟩; exact .inl rfl
  rw [hrp] at HF
  clear hp hrp h
  go_enter Try.func47, Try.ntmps47
  go_wp2_with fail
  obtain ⟨W0, b0, hW0, hb0, hs0, c0⟩ : ∃ W b, W = w.alloc (.cells #[.pointer (some ⟨J.P, 0, none⟩)] 73) ∧ b = w.heap.size ∧ Still w W ∧ W.cell? ⟨b, 0, none⟩ = some (.pointer (some ⟨J.P, 0, none⟩)) :=
    ⟨_, _, rfl, rfl, (Fr.refl _ _).alloc _, (Blk.new w [_] 73).cell 0⟩
  rw [← hW0, ← hb0]
  have hB0 := hid hb0
  clear hW0 hb0
  have HC0 := hid c0
  refine (HM.out W0 hs0).mono ?_
  rintro e w' ⟨rfl, rfl⟩
  go_wp2_with fail
  refine (HA.out W0 hs0).mono ?_
  rintro e w1 ⟨rfl, hs1⟩
  have c1 := Still.cell hs1 c0
  have c2 : (w1.alloc (.cells #[.int .i64 (idxI y)] 3)).cell? ⟨b0, 0, none⟩ = some (.pointer (some ⟨J.P, 0, none⟩)) := Still.cell ((Fr.refl _ w1).alloc _) c1
  go_wp2_with fail
  obtain ⟨W1, b9, hW1, hb9, hs2, d0, d9⟩ : ∃ W b, W = w1.alloc (.cells #[.int .i64 (idxI y)] 3) ∧ b = w1.heap.size ∧ Still w W ∧ W.cell? ⟨b0, 0, none⟩ = some (.pointer (some ⟨J.P, 0, none⟩)) ∧ W.cell? ⟨b, 0, none⟩ = some (.int .i64 (idxI y)) :=
    ⟨_, _, rfl, rfl, (hs0.trans hs1).alloc _, c2, (Blk.new w1 [_] 3).cell 0⟩
  rw [← hW1, ← hb9]
  have hB9 := hid hb9
  clear hW1 c2 c1 hb9
  refine (HF.out W1 hs2).mono ?_
  rintro e w3 ⟨rfl, hs3⟩
  have g0 := Still.cell hs3 d0
  have g9 := Still.cell hs3 d9
  have hs4 := hs2.trans hs3
  rcases hn with rfl | ⟨a, rfl⟩
  all_goals
    go_wp2_with fail
    go_ret3
    exact ⟨rfl, hs4⟩
set_option maxRecDepth 100000 in
set_option maxHeartbeats 2000000 in
theorem jjoin_wa (h : JAt w J s) (id y : Int) (hi : inI id) (hy : inI y) (hp : plc s y = true) (hw : waB s y = true) : Calls Try.prog 47 #[.pointer (some ⟨J.P, 0, none⟩), .int .i64 id, .int .i64 y] w fun e w' =>
    e = .returned (.tuple #[.int .i64 0, .bool false, .int .i64 5]) ∧ Still w w' := by
  have HA := hid (fun W (hs : Still w W) => jplace (h.still hs) y hy)
  have HF := hid (fun W (hs : Still w W) => jfind (h.still hs) id hi)
  have HM := hid (fun W (hs : Still w W) => jmade (h.still hs))
  have HH := hid h
  obtain ⟨p, hx, hpT, _⟩ := plc_nat hp
  rw [hp, hx] at HA
  have HW := hid (fun W b0 b9 (hs : Still w W) h0 h9 => jwaits (h.still hs) b0 b9 (p : Int) h0 h9)
  have hwa : waB s y = decide (0 ≤ whI s.T s.L (p : Int)) := by unfold waB; rw [hx]
  rw [← hwa] at HW
  rw [hw] at HW
  obtain ⟨rp, hrp⟩ : ∃ x, rowP J s id = x := ⟨_, rfl⟩
  have hn : rp = .pointer none ∨ ∃ a, rp = .pointer (some a) := by rw [← hrp]; unfold rowP; split; exact .inr ⟨_, rfl⟩; exact .inl rfl
  rw [hrp] at HF
  clear hp hrp h hx hwa hw
  go_enter Try.func47, Try.ntmps47
  go_wp2_with fail
  obtain ⟨W0, b0, hW0, hb0, hs0, c0⟩ : ∃ W b, W = w.alloc (.cells #[.pointer (some ⟨J.P, 0, none⟩)] 73) ∧ b = w.heap.size ∧ Still w W ∧ W.cell? ⟨b, 0, none⟩ = some (.pointer (some ⟨J.P, 0, none⟩)) :=
    ⟨_, _, rfl, rfl, (Fr.refl _ _).alloc _, (Blk.new w [_] 73).cell 0⟩
  rw [← hW0, ← hb0]
  have hB0 := hid hb0
  clear hW0 hb0
  have HC0 := hid c0
  refine (HM.out W0 hs0).mono ?_
  rintro e w' ⟨rfl, rfl⟩
  go_wp2_with fail
  refine (HA.out W0 hs0).mono ?_
  rintro e w1 ⟨rfl, hs1⟩
  have c1 := Still.cell hs1 c0
  have c2 : (w1.alloc (.cells #[.int .i64 (p : Int)] 3)).cell? ⟨b0, 0, none⟩ = some (.pointer (some ⟨J.P, 0, none⟩)) := Still.cell ((Fr.refl _ w1).alloc _) c1
  go_wp2_with fail
  obtain ⟨W1, b9, hW1, hb9, hs2, d0, d9⟩ : ∃ W b, W = w1.alloc (.cells #[.int .i64 (p : Int)] 3) ∧ b = w1.heap.size ∧ Still w W ∧ W.cell? ⟨b0, 0, none⟩ = some (.pointer (some ⟨J.P, 0, none⟩)) ∧ W.cell? ⟨b, 0, none⟩ = some (.int .i64 (p : Int)) :=
    ⟨_, _, rfl, rfl, (hs0.trans hs1).alloc _, c2, (Blk.new w1 [_] 3).cell 0⟩
  rw [← hW1, ← hb9]
  have hB9 := hid hb9
  clear hW1 c2 c1 hb9
  refine (HF.out W1 hs2).mono ?_
  rintro e w3 ⟨rfl, hs3⟩
  have g0 := Still.cell hs3 d0
  have g9 := Still.cell hs3 d9
  have hs4 := hs2.trans hs3
  rcases hn with rfl | ⟨a, rfl⟩
  all_goals
    go_wp2_with (go_at_call 101; refine (HW.out w3 b0 b9 hs4 g0 g9).mono ?_; rintro e w4 ⟨rfl, hs5⟩)
    go_ret3
    exact ⟨rfl, hs4.trans hs5⟩
set_option maxRecDepth 100000 in
set_option maxHeartbeats 2000000 in
theorem jjoin_self (h : JAt w J s) (id y : Int) (hi : inI id) (hy : inI y) (hp : plc s y = true) (hw : waB s y = false) (he : y = id) : Calls Try.prog 47 #[.pointer (some ⟨J.P, 0, none⟩), .int .i64 id, .int .i64 y] w fun e w' =>
    e = .returned (.tuple #[.int .i64 0, .bool false, .int .i64 5]) ∧ Still w w' := by
  have HA := hid (fun W (hs : Still w W) => jplace (h.still hs) y hy)
  have HF := hid (fun W (hs : Still w W) => jfind (h.still hs) id hi)
  have HM := hid (fun W (hs : Still w W) => jmade (h.still hs))
  have HH := hid h
  obtain ⟨p, hx, hpT, _⟩ := plc_nat hp
  rw [hp, hx] at HA
  have HW := hid (fun W b0 b9 (hs : Still w W) h0 h9 => jwaits (h.still hs) b0 b9 (p : Int) h0 h9)
  have hwa : waB s y = decide (0 ≤ whI s.T s.L (p : Int)) := by unfold waB; rw [hx]
  rw [← hwa] at HW
  rw [hw] at HW
  obtain ⟨rp, hrp⟩ : ∃ x, rowP J s id = x := ⟨_, rfl⟩
  have hn : rp = .pointer none ∨ ∃ a, rp = .pointer (some a) := by rw [← hrp]; unfold rowP; split; exact .inr ⟨_, rfl⟩; exact .inl rfl
  rw [hrp] at HF
  have d : (y == id) = true := by simp [he]
  clear hp hrp h hx hwa hw he
  go_enter Try.func47, Try.ntmps47
  go_wp2_with fail
  obtain ⟨W0, b0, hW0, hb0, hs0, c0⟩ : ∃ W b, W = w.alloc (.cells #[.pointer (some ⟨J.P, 0, none⟩)] 73) ∧ b = w.heap.size ∧ Still w W ∧ W.cell? ⟨b, 0, none⟩ = some (.pointer (some ⟨J.P, 0, none⟩)) :=
    ⟨_, _, rfl, rfl, (Fr.refl _ _).alloc _, (Blk.new w [_] 73).cell 0⟩
  rw [← hW0, ← hb0]
  have hB0 := hid hb0
  clear hW0 hb0
  have HC0 := hid c0
  refine (HM.out W0 hs0).mono ?_
  rintro e w' ⟨rfl, rfl⟩
  go_wp2_with fail
  refine (HA.out W0 hs0).mono ?_
  rintro e w1 ⟨rfl, hs1⟩
  have c1 := Still.cell hs1 c0
  have c2 : (w1.alloc (.cells #[.int .i64 (p : Int)] 3)).cell? ⟨b0, 0, none⟩ = some (.pointer (some ⟨J.P, 0, none⟩)) := Still.cell ((Fr.refl _ w1).alloc _) c1
  go_wp2_with fail
  obtain ⟨W1, b9, hW1, hb9, hs2, d0, d9⟩ : ∃ W b, W = w1.alloc (.cells #[.int .i64 (p : Int)] 3) ∧ b = w1.heap.size ∧ Still w W ∧ W.cell? ⟨b0, 0, none⟩ = some (.pointer (some ⟨J.P, 0, none⟩)) ∧ W.cell? ⟨b, 0, none⟩ = some (.int .i64 (p : Int)) :=
    ⟨_, _, rfl, rfl, (hs0.trans hs1).alloc _, c2, (Blk.new w1 [_] 3).cell 0⟩
  rw [← hW1, ← hb9]
  have hB9 := hid hb9
  clear hW1 c2 c1 hb9
  refine (HF.out W1 hs2).mono ?_
  rintro e w3 ⟨rfl, hs3⟩
  have g0 := Still.cell hs3 d0
  have g9 := Still.cell hs3 d9
  have hs4 := hs2.trans hs3
  rcases hn with rfl | ⟨a, rfl⟩
  all_goals
    go_wp2_with (go_at_call 101; refine (HW.out w3 b0 b9 hs4 g0 g9).mono ?_; rintro e w4 ⟨rfl, hs5⟩)
    go_ret3
    exact ⟨rfl, hs4.trans hs5⟩
set_option maxRecDepth 100000 in
set_option maxHeartbeats 2000000 in
theorem jjoin_none (h : JAt w J s) (id y : Int) (hi : inI id) (hy : inI y) (hp : plc s y = true) (hw : waB s y = false) (he : y ≠ id) (hk : kn s id = false) : Calls Try.prog 47 #[.pointer (some ⟨J.P, 0, none⟩), .int .i64 id, .int .i64 y] w fun e w' =>
    e = .returned (.tuple #[.int .i64 0, .bool false, .int .i64 4]) ∧ Still w w' := by
  have HA := hid (fun W (hs : Still w W) => jplace (h.still hs) y hy)
  have HF := hid (fun W (hs : Still w W) => jfind (h.still hs) id hi)
  have HM := hid (fun W (hs : Still w W) => jmade (h.still hs))
  have HH := hid h
  obtain ⟨p, hx, hpT, _⟩ := plc_nat hp
  rw [hp, hx] at HA
  have HW := hid (fun W b0 b9 (hs : Still w W) h0 h9 => jwaits (h.still hs) b0 b9 (p : Int) h0 h9)
  have hwa : waB s y = decide (0 ≤ whI s.T s.L (p : Int)) := by unfold waB; rw [hx]
  rw [← hwa] at HW
  rw [hw] at HW
  have hr : rowP J s id = .pointer none := by unfold rowP; rw [hk]; rfl
  rw [hr] at HF
  have d : (y == id) = false := by simpa using he
  clear hp h hx hwa hw he hk hr
  go_enter Try.func47, Try.ntmps47
  go_wp2_with fail
  obtain ⟨W0, b0, hW0, hb0, hs0, c0⟩ : ∃ W b, W = w.alloc (.cells #[.pointer (some ⟨J.P, 0, none⟩)] 73) ∧ b = w.heap.size ∧ Still w W ∧ W.cell? ⟨b, 0, none⟩ = some (.pointer (some ⟨J.P, 0, none⟩)) :=
    ⟨_, _, rfl, rfl, (Fr.refl _ _).alloc _, (Blk.new w [_] 73).cell 0⟩
  rw [← hW0, ← hb0]
  have hB0 := hid hb0
  clear hW0 hb0
  have HC0 := hid c0
  refine (HM.out W0 hs0).mono ?_
  rintro e w' ⟨rfl, rfl⟩
  go_wp2_with fail
  refine (HA.out W0 hs0).mono ?_
  rintro e w1 ⟨rfl, hs1⟩
  have c1 := Still.cell hs1 c0
  have c2 : (w1.alloc (.cells #[.int .i64 (p : Int)] 3)).cell? ⟨b0, 0, none⟩ = some (.pointer (some ⟨J.P, 0, none⟩)) := Still.cell ((Fr.refl _ w1).alloc _) c1
  go_wp2_with fail
  obtain ⟨W1, b9, hW1, hb9, hs2, d0, d9⟩ : ∃ W b, W = w1.alloc (.cells #[.int .i64 (p : Int)] 3) ∧ b = w1.heap.size ∧ Still w W ∧ W.cell? ⟨b0, 0, none⟩ = some (.pointer (some ⟨J.P, 0, none⟩)) ∧ W.cell? ⟨b, 0, none⟩ = some (.int .i64 (p : Int)) :=
    ⟨_, _, rfl, rfl, (hs0.trans hs1).alloc _, c2, (Blk.new w1 [_] 3).cell 0⟩
  rw [← hW1, ← hb9]
  have hB9 := hid hb9
  clear hW1 c2 c1 hb9
  refine (HF.out W1 hs2).mono ?_
  rintro e w3 ⟨rfl, hs3⟩
  have g0 := Still.cell hs3 d0
  have g9 := Still.cell hs3 d9
  have hs4 := hs2.trans hs3
  go_wp2_with (go_at_call 101; refine (HW.out w3 b0 b9 hs4 g0 g9).mono ?_; rintro e w4 ⟨rfl, hs5⟩)
  go_ret3
  exact ⟨rfl, hs4.trans hs5⟩
set_option maxRecDepth 100000 in
set_option maxHeartbeats 2000000 in
theorem jjoin_end (h : JAt w J s) (id y : Int) (hi : inI id) (hy : inI y) (hp : plc s y = true) (hw : waB s y = false) (he : y ≠ id) (hk : kn s id = true) (hst : s.rw.getD ((idxI id).toNat * 3 + 1) 0 = 2) : Calls Try.prog 47 #[.pointer (some ⟨J.P, 0, none⟩), .int .i64 id, .int .i64 y] w fun e w' =>
    e = .returned (.tuple #[.int .i64 (s.rw.getD ((idxI id).toNat * 3 + 2) 0), .bool true, .int .i64 0]) ∧ Still w w' := by
  have HA := hid (fun W (hs : Still w W) => jplace (h.still hs) y hy)
  have HF := hid (fun W (hs : Still w W) => jfind (h.still hs) id hi)
  have HM := hid (fun W (hs : Still w W) => jmade (h.still hs))
  have HH := hid h
  obtain ⟨p, hx, hpT, _⟩ := plc_nat hp
  rw [hp, hx] at HA
  have HW := hid (fun W b0 b9 (hs : Still w W) h0 h9 => jwaits (h.still hs) b0 b9 (p : Int) h0 h9)
  have hwa : waB s y = decide (0 ≤ whI s.T s.L (p : Int)) := by unfold waB; rw [hx]
  rw [← hwa] at HW
  rw [hw] at HW
  obtain ⟨i, hxi, hiT, _, hid0⟩ := kn_nat hk
  have hr : rowP J s id = .pointer (some ⟨J.R, i * 3, none⟩) := by unfold rowP; rw [hk, hxi, Int.toNat_natCast]; rfl
  rw [hr] at HF
  have C1 := h.cR (i := i * 3 + 1) (by omega)
  have C2 := h.cR (i := i * 3 + 2) (by omega)
  rw [hxi, Int.toNat_natCast] at hst
  rw [hst] at C1
  rw [hxi, Int.toNat_natCast]
  generalize s.rw.getD (i * 3 + 2) 0 = v at C2 ⊢
  have d : (y == id) = false := by simpa using he
  clear hp h hx hwa hw he hk hr hxi hid0 hst
  go_enter Try.func47, Try.ntmps47
  go_wp2_with fail
  obtain ⟨W0, b0, hW0, hb0, hs0, c0⟩ : ∃ W b, W = w.alloc (.cells #[.pointer (some ⟨J.P, 0, none⟩)] 73) ∧ b = w.heap.size ∧ Still w W ∧ W.cell? ⟨b, 0, none⟩ = some (.pointer (some ⟨J.P, 0, none⟩)) :=
    ⟨_, _, rfl, rfl, (Fr.refl _ _).alloc _, (Blk.new w [_] 73).cell 0⟩
  rw [← hW0, ← hb0]
  have hB0 := hid hb0
  clear hW0 hb0
  have HC0 := hid c0
  refine (HM.out W0 hs0).mono ?_
  rintro e w' ⟨rfl, rfl⟩
  go_wp2_with fail
  refine (HA.out W0 hs0).mono ?_
  rintro e w1 ⟨rfl, hs1⟩
  have c1 := Still.cell hs1 c0
  have c2 : (w1.alloc (.cells #[.int .i64 (p : Int)] 3)).cell? ⟨b0, 0, none⟩ = some (.pointer (some ⟨J.P, 0, none⟩)) := Still.cell ((Fr.refl _ w1).alloc _) c1
  go_wp2_with fail
  obtain ⟨W1, b9, hW1, hb9, hs2, d0, d9⟩ : ∃ W b, W = w1.alloc (.cells #[.int .i64 (p : Int)] 3) ∧ b = w1.heap.size ∧ Still w W ∧ W.cell? ⟨b0, 0, none⟩ = some (.pointer (some ⟨J.P, 0, none⟩)) ∧ W.cell? ⟨b, 0, none⟩ = some (.int .i64 (p : Int)) :=
    ⟨_, _, rfl, rfl, (hs0.trans hs1).alloc _, c2, (Blk.new w1 [_] 3).cell 0⟩
  rw [← hW1, ← hb9]
  have hB9 := hid hb9
  clear hW1 c2 c1 hb9
  refine (HF.out W1 hs2).mono ?_
  rintro e w3 ⟨rfl, hs3⟩
  have g0 := Still.cell hs3 d0
  have g9 := Still.cell hs3 d9
  have hs4 := hs2.trans hs3
  have G1 := Still.cell hs4 C1
  have G2 := Still.cell hs4 C2
  go_wp2_with (go_at_call 101; refine (HW.out w3 b0 b9 hs4 g0 g9).mono ?_; rintro e w4 ⟨rfl, hs5⟩; have K1 := Still.cell hs5 G1; have K2 := Still.cell hs5 G2)
  go_ret3
  exact ⟨rfl, hs4.trans hs5⟩
set_option maxRecDepth 100000 in
set_option maxHeartbeats 2000000 in
theorem jjoin_wait (h : JAt w J s) (id y : Int) (hi : inI id) (hy : inI y) (hp : plc s y = true) (hw : waB s y = false) (he : y ≠ id) (hk : kn s id = true) (hst : s.rw.getD ((idxI id).toNat * 3 + 1) 0 ≠ 2) : Calls Try.prog 47 #[.pointer (some ⟨J.P, 0, none⟩), .int .i64 id, .int .i64 y] w fun e w' =>
    e = .returned (.tuple #[.int .i64 0, .bool false, .int .i64 (pushE s.T s.L (idxI id) (idxI y))]) ∧ JAt w' J { s with yb := s.yb.set (idxI y).toNat y, L := pushL s.T s.L (idxI id) (idxI y) } ∧ Fr J.foot w w' := by
  have HA := hid (fun W (hs : Still w W) => jplace (h.still hs) y hy)
  have HF := hid (fun W (hs : Still w W) => jfind (h.still hs) id hi)
  have HM := hid (fun W (hs : Still w W) => jmade (h.still hs))
  have HH := hid h
  obtain ⟨p, hx, hpT, _⟩ := plc_nat hp
  rw [hp, hx] at HA
  have HW := hid (fun W b0 b9 (hs : Still w W) h0 h9 => jwaits (h.still hs) b0 b9 (p : Int) h0 h9)
  have hwa : waB s y = decide (0 ≤ whI s.T s.L (p : Int)) := by unfold waB; rw [hx]
  rw [← hwa] at HW
  rw [hw] at HW
  obtain ⟨i, hxi, hiT, _, hid0⟩ := kn_nat hk
  have hr : rowP J s id = .pointer (some ⟨J.R, i * 3, none⟩) := by unfold rowP; rw [hk, hxi, Int.toNat_natCast]; rfl
  rw [hr] at HF
  have C1 := h.cR (i := i * 3 + 1) (by omega)
  have C2 := h.cR (i := i * 3 + 2) (by omega)
  rw [hxi, Int.toNat_natCast] at hst
  generalize s.rw.getD (i * 3 + 1) 0 = st at C1 hst
  have d2 : (st == 2) = false := by simpa using hst
  have d : (y == id) = false := by simpa using he
  have hplc : plc s id = true := by unfold kn at hk; rw [Bool.and_eq_true] at hk; exact hk.1
  have HP2 := hid (fun W (hs : Still w W) => jplace (h.still hs) id hi)
  rw [hplc, hxi] at HP2
  rw [hx, hxi, Int.toNat_natCast]
  have hpI : (p : Int) < (s.T : Int) := by omega
  have b0l : ∀ k, J.all k → k < w.heap.size := fun k hk => h.lt hk
  have F1 := h.f1
  have F2 := h.f2
  have CY := h.cY hpT
  have ZY : w.frozen? ⟨J.Y, p, none⟩ = false := IBlk.frozen h.hy p
  clear hp hx hwa hw he hk hr hxi hid0 hst hplc h
  go_enter Try.func47, Try.ntmps47
  go_wp2_with fail
  obtain ⟨W0, b0, hW0, hb0, hs0, c0⟩ : ∃ W b, W = w.alloc (.cells #[.pointer (some ⟨J.P, 0, none⟩)] 73) ∧ b = w.heap.size ∧ Still w W ∧ W.cell? ⟨b, 0, none⟩ = some (.pointer (some ⟨J.P, 0, none⟩)) :=
    ⟨_, _, rfl, rfl, (Fr.refl _ _).alloc _, (Blk.new w [_] 73).cell 0⟩
  rw [← hW0, ← hb0]
  have hB0 := hid hb0
  clear hW0 hb0
  have HC0 := hid c0
  refine (HM.out W0 hs0).mono ?_
  rintro e w' ⟨rfl, rfl⟩
  go_wp2_with fail
  refine (HA.out W0 hs0).mono ?_
  rintro e w1 ⟨rfl, hs1⟩
  have c1 := Still.cell hs1 c0
  have c2 : (w1.alloc (.cells #[.int .i64 (p : Int)] 3)).cell? ⟨b0, 0, none⟩ = some (.pointer (some ⟨J.P, 0, none⟩)) := Still.cell ((Fr.refl _ w1).alloc _) c1
  go_wp2_with fail
  obtain ⟨W1, b9, hW1, hb9, hs2, d0, d9⟩ : ∃ W b, W = w1.alloc (.cells #[.int .i64 (p : Int)] 3) ∧ b = w1.heap.size ∧ Still w W ∧ W.cell? ⟨b0, 0, none⟩ = some (.pointer (some ⟨J.P, 0, none⟩)) ∧ W.cell? ⟨b, 0, none⟩ = some (.int .i64 (p : Int)) :=
    ⟨_, _, rfl, rfl, (hs0.trans hs1).alloc _, c2, (Blk.new w1 [_] 3).cell 0⟩
  rw [← hW1, ← hb9]
  have hB9 := hid hb9
  clear hW1 c2 c1 hb9
  refine (HF.out W1 hs2).mono ?_
  rintro e w3 ⟨rfl, hs3⟩
  have g0 := Still.cell hs3 d0
  have g9 := Still.cell hs3 d9
  have hs4 := hs2.trans hs3
  have hb09 : b0 ≠ b9 := by have := hs1.size; have := hB9.out; have : b0 < W0.heap.size := World.block_lt_of_cell? _ _ HC0.out; omega
  have hb0w : w.heap.size ≤ b0 := by have := hB0.out; omega
  have hb9w : w.heap.size ≤ b9 := by have := hs1.size; have := hs0.size; have := hB9.out; omega
  have G1 := Still.cell hs4 C1
  go_wp2_with (first
    | (go_at_call 101; refine (HW.out w3 b0 b9 hs4 g0 g9).mono ?_; rintro e w4 ⟨rfl, hs5⟩; have K1 := Still.cell hs5 G1; have k0 := Still.cell hs5 g0; have k9 := Still.cell hs5 g9)
    | (go_at_call 100; refine (HP2.out w4 (hs4.trans hs5)).mono ?_; rintro e w6 ⟨rfl, hs6⟩; have m0 := Still.cell hs6 k0; have m9 := Still.cell hs6 k9))
  have hs7 := (hs4.trans hs5).trans hs6
  have N1 := Still.cell hs7 F1
  have N2 := Still.cell hs7 F2
  have NY := Still.cell hs7 CY
  have YY := Still.frz hs7 HH.out.hy.lt ZY
  have hJ6 := HH.out.still hs7
  clear g0 g9 d0 d9 k0 k9 C1 C2 G1 K1
  refine Held.wp_region_held_tail (S := (fun w' => w'.cell? ⟨b0, 0, none⟩ = some (.pointer (some ⟨J.P, 0, none⟩)) ∧ w'.cell? ⟨b9, 0, none⟩ = some (.int .i64 (p : Int)) ∧ w'.cell? ⟨J.P, 1, none⟩ = some (.slice (some ⟨J.Y, 0, none⟩) s.T J.kY))) 7 (by kernel_rfl) (by kernel_rfl) (by decide) ?hS1 (fun hHeld => ?hR1)
  case hS1 =>
    exact ⟨m0, m9, N1⟩
  simp only [List.take_succ_cons, List.take_zero, List.drop_succ_cons, List.drop_zero]
  refine wpAnyH_take (i := 0) (oi := _) (v := ?v2) rfl (by kernel_rfl) (by kernel_rfl) (by kernel_rfl) (fun _ _ _ h => h) (Or.inl ⟨by rfl, ?y2⟩) (by assumption) ?r2
  case y2 => ((intro w hSw); (try dsimp only at hSw); go_simp; (try with_reducible rfl))
  (try simp only [Act.put, List.setIfInBounds_toArray, List.set_cons_zero, List.set_cons_succ])
  refine wpAnyH_take (i := 1) (oi := _) (v := ?v3) rfl (by kernel_rfl) (by kernel_rfl) (by kernel_rfl) (fun _ _ _ h => h) (Or.inl ⟨by rfl, ?y3⟩) (by assumption) ?r3
  case y3 => ((intro w hSw); (try dsimp only at hSw); go_simp; (try with_reducible rfl))
  (try simp only [Act.put, List.setIfInBounds_toArray, List.set_cons_zero, List.set_cons_succ])
  refine wpAnyH_take (i := 2) (oi := _) (v := ?v4) rfl (by kernel_rfl) (by kernel_rfl) (by kernel_rfl) (fun _ _ _ h => h) (Or.inl ⟨by rfl, ?y4⟩) (by assumption) ?r4
  case y4 => ((intro w hSw); (try dsimp only at hSw); go_simp; (try with_reducible rfl))
  (try simp only [Act.put, List.setIfInBounds_toArray, List.set_cons_zero, List.set_cons_succ])
  refine wpAnyH_take (i := 3) (oi := _) (v := ?v5) rfl (by kernel_rfl) (by kernel_rfl) (by kernel_rfl) (fun _ _ _ h => h) (Or.inl ⟨by rfl, ?y5⟩) (by assumption) ?r5
  case y5 => ((intro w hSw); (try dsimp only at hSw); go_simp; (try with_reducible rfl))
  (try simp only [Act.put, List.setIfInBounds_toArray, List.set_cons_zero, List.set_cons_succ])
  refine wpAnyH_take (i := 4) (oi := _) (v := ?v6) rfl (by kernel_rfl) (by kernel_rfl) (by kernel_rfl) (fun _ _ _ h => h) (Or.inl ⟨by rfl, ?y6⟩) (by assumption) ?r6
  case y6 => ((intro w hSw); (try dsimp only at hSw); go_simp; (try with_reducible rfl))
  (try simp only [Act.put, List.setIfInBounds_toArray, List.set_cons_zero, List.set_cons_succ])
  refine wpAnyH_take (i := 5) (oi := _) (v := ?v7) rfl (by kernel_rfl) (by kernel_rfl) (by kernel_rfl) (fun _ _ _ h => h) (Or.inl ⟨by rfl, ?y7⟩) (by assumption) ?r7
  case y7 => ((intro w hSw); (try dsimp only at hSw); go_simp; (try with_reducible rfl))
  (try simp only [Act.put, List.setIfInBounds_toArray, List.set_cons_zero, List.set_cons_succ])
  refine wpAnyH_take (i := 6) (oi := _) (v := ?v8) rfl (by kernel_rfl) (by kernel_rfl) (by kernel_rfl) (fun _ _ _ h => h) (Or.inl ⟨by rfl, ?y8⟩) (by assumption) ?r8
  case y8 => ((intro w hSw); (try dsimp only at hSw); go_simp; (try with_reducible rfl))
  (try simp only [Act.put, List.setIfInBounds_toArray, List.set_cons_zero, List.set_cons_succ])
  refine wpAnyH_done (by kernel_rfl) (Held.tailQ_normal ?_) _
  have hJ7 := (hJ6.still (Fr.drew (Fr.refl _ w6))).setY p y
  have hF7 : Fr J.foot w (w6.drew.setCell ⟨J.Y, p, none⟩ (.int .i64 y)) := Fr.setCell (hs7.fr _).drew (p := ⟨J.Y, p, none⟩) (.inl (.inr (.inl rfl))) _
  have hYb0 : b0 ≠ J.Y := fun e => by have := b0l J.Y (.inr (.inr (.inl rfl))); omega
  have hYb9 : b9 ≠ J.Y := fun e => by have := b0l J.Y (.inr (.inr (.inl rfl))); omega
  have hPY := HH.out.PY
  have hb0Y : J.Y ≠ b0 := fun e => hYb0 e.symm
  go_wp2_with fail
  refine wp_abs (fun W => JAt W J { s with yb := s.yb.set p y } ∧ Fr J.foot w W ∧ W.cell? ⟨b0, 0, none⟩ = some (.pointer (some ⟨J.P, 0, none⟩)) ∧ W.cell? ⟨b9, 0, none⟩ = some (.int .i64 (p : Int))) ⟨hJ7, hF7, put_far m0 hYb0, put_far m9 hYb9⟩ ?_
  clear hJ7 hF7 m0 m9 N1 N2 NY YY hJ6 hs7 HW HP2
  rintro W7 ⟨hJ7, hF7, m0, m9⟩
  have N2 := hJ7.f2
  have HJ7 := hid hJ7
  have HPU := hid (fun W (hs : Still W7 W) => push_ls (HJ7.out.still hs).hl (i : Int) (p : Int))
  go_region_held3 (fun w' => w'.cell? ⟨b0, 0, none⟩ = some (.pointer (some ⟨J.P, 0, none⟩)) ∧ w'.cell? ⟨b9, 0, none⟩ = some (.int .i64 (p : Int)) ∧ w'.cell? ⟨J.P, 2, none⟩ = some (.pointer (some ⟨J.B.p, 0, none⟩)))
    (first | exact ⟨m0, m9, N2⟩ | exact ⟨Fr.cellK f8 m0 (fun hk => by have := b0l b0 (.inr (.inr (.inr hk))); omega), Fr.cellK f8 m9 (fun hk => by have := b0l b9 (.inr (.inr (.inr hk))); omega), Fr.cellK f8 N2 HJ7.out.dP⟩)
    (first | (go_at_call 21; refine (HPU.out _ (Fr.refl _ W7).drew).mono ?_; rintro e w8 ⟨rfl, hl8, f8⟩))
  have f8' : Fr J.B.foot W7 w8 := ((Fr.refl _ W7).drew).trans f8
  have hJ8 := HJ7.out.setL hl8 f8' (pushL_len' _ _ _ _)
  have HJ8 := hid hJ8
  have HF8 := hid (hF7.trans (f8'.mono fun _ _ h => .inr (.inr h)))
  clear hJ8 hF7 hl8 f8 f8' hJ7
  go_wp2_with fail
  go_ret3
  exact ⟨rfl, HJ8.out, HF8.out⟩
end
end Go.Proofs.Ytffjaaolcphonaa
/- The ends: Join, New. -/
namespace Go.Proofs.Ytffjaaolcphonaa
open Go.RowKit
set_option linter.unusedSimpArgs false
section
variable {w : World} {J : JB} {s : JS}
theorem jjoin (h : JAt w J s) (id y : Int) (hi : inI id) (hy : inI y) : Calls Try.prog 47 #[.pointer (some ⟨J.P, 0, none⟩), .int .i64 id, .int .i64 y] w fun e w' =>
    e = .returned (.tuple #[.int .i64 (joinV s id y), .bool (joinD s id y), .int .i64 (joinE s id y)]) ∧ JAt w' J (joinS s id y) ∧ Fr J.foot w w' := by
  unfold joinV joinS
  cases hp : plc s y with
  | false =>
    have hD : joinD s id y = false := by unfold joinD; rw [hp]; rfl
    have hW : joinW s id y = false := by unfold joinW; rw [hp]; rfl
    have hE : joinE s id y = 8 := by unfold joinE; rw [hp]; rfl
    rw [hD, hW, hE, if_neg (by decide), if_neg (by decide)]
    exact (jjoin_no h id y hi hy hp).mono fun e w' ⟨h1, h2⟩ => ⟨h1, h.still h2, h2.fr _⟩
  | true =>
    cases hw : waB s y with
    | true =>
      have hD : joinD s id y = false := by unfold joinD; rw [hp, hw]; rfl
      have hW : joinW s id y = false := by unfold joinW; rw [hp, hw]; rfl
      have hE : joinE s id y = 5 := by unfold joinE; rw [hp, hw]; rfl
      rw [hD, hW, hE, if_neg (by decide), if_neg (by decide)]
      exact (jjoin_wa h id y hi hy hp hw).mono fun e w' ⟨h1, h2⟩ => ⟨h1, h.still h2, h2.fr _⟩
    | false =>
      by_cases he : y = id
      · have hee : (y == id) = true := by simp [he]
        have hD : joinD s id y = false := by unfold joinD; rw [hp, hw, hee]; rfl
        have hW : joinW s id y = false := by unfold joinW; rw [hp, hw, hee]; rfl
        have hE : joinE s id y = 5 := by unfold joinE; rw [hp, hw, hee]; rfl
        rw [hD, hW, hE, if_neg (by decide), if_neg (by decide)]
        exact (jjoin_self h id y hi hy hp hw he).mono fun e w' ⟨h1, h2⟩ => ⟨h1, h.still h2, h2.fr _⟩
      · have hee : (y == id) = false := by simpa using he
        cases hk : kn s id with
        | false =>
          have hD : joinD s id y = false := by unfold joinD; rw [hp, hw, hee, hk]; rfl
          have hW : joinW s id y = false := by unfold joinW; rw [hp, hw, hee, hk]; rfl
          have hE : joinE s id y = 4 := by unfold joinE; rw [hp, hw, hee, hk]; rfl
          rw [hD, hW, hE, if_neg (by decide), if_neg (by decide)]
          exact (jjoin_none h id y hi hy hp hw he hk).mono fun e w' ⟨h1, h2⟩ => ⟨h1, h.still h2, h2.fr _⟩
        | true =>
          by_cases hst : s.rw.getD ((idxI id).toNat * 3 + 1) 0 = 2
          · have hD : joinD s id y = true := by unfold joinD; rw [hp, hw, hee, hk, hst]; rfl
            have hW : joinW s id y = false := by unfold joinW; rw [hp, hw, hee, hk, hst]; rfl
            have hE : joinE s id y = 0 := by unfold joinE; rw [hp, hw, hee, hk, hst]; rfl
            rw [hD, hW, hE, if_pos rfl, if_neg (by decide)]
            exact (jjoin_end h id y hi hy hp hw he hk hst).mono fun e w' ⟨h1, h2⟩ => ⟨h1, h.still h2, h2.fr _⟩
          · have hst' : (s.rw.getD ((idxI id).toNat * 3 + 1) 0 == 2) = false := by simpa using hst
            have hD : joinD s id y = false := by unfold joinD; rw [hp, hw, hee, hk, hst']; rfl
            have hW : joinW s id y = true := by unfold joinW; rw [hp, hw, hee, hk, hst']; rfl
            have hE : joinE s id y = pushE s.T s.L (idxI id) (idxI y) := by unfold joinE; rw [hp, hw, hee, hk, if_neg hst]; rfl
            rw [hD, hW, hE, if_neg (by decide), if_pos rfl]
            exact jjoin_wait h id y hi hy hp hw he hk hst
end
def newJS (T : Nat) : JS := ⟨T, List.replicate (T * 3) 0, List.replicate T 0, List.replicate T []⟩
def JNew (w : World) (T : Nat) (e : Ending) (w' : World) : Prop := ∃ J : JB, e = .returned (.pointer (some ⟨J.P, 0, none⟩)) ∧ JAt w' J (newJS T) ∧ Still w w' ∧ ∀ k, J.all k → w.heap.size ≤ k
theorem jnew_no (w : World) (t : Int) (h : t < 1 ∨ 1024 < t) : Calls Try.prog 45 #[.int .i64 t] w fun e w' => e = .returned (.pointer none) ∧ w = w' := by
  by_cases h1 : t < 1
  · clear h
    go_enter Try.func45, Try.ntmps45
    go_wp2
    go_ret
    exact ⟨rfl, rfl⟩
  · have h2 : 1024 < t := by omega
    clear h
    go_enter Try.func45, Try.ntmps45
    go_wp2
    go_ret
    exact ⟨rfl, rfl⟩
theorem info134 : (Try.prog.info? 134).map (fun i => (i.zero, i.size, i.bytes)) = some (some (.agg #[.int .i64 0, .int .i64 0, .int .i64 0]), 3, 24) := by kernel_rfl
theorem mk_rows (n : Nat) (hn : n ≤ 1000000) : ∀ w, (Instr.makeSlice 94 (.int .i64 (n : Int)) (.int .i64 (n : Int))).run Try.prog w = .ok (.slice (some ⟨w.heap.size, 0, none⟩) n n) (w.alloc (.cells (ints (List.replicate (n * 3) 0)).toArray 134)) := by
  intro w
  obtain ⟨i0, hi, hz0, hz1, hz2⟩ := info_parts info134
  have := run_make (P := Try.prog) w 94 134 i0 _ Try.underlying94 hi hz0 .i64 .i64 (n : Int) (n : Int) (by omega) (by omega) (by rw [hz2]; omega) (by omega)
  rw [this, hz1, Int.toNat_natCast]
  have e : madeCells (Value.agg #[.int .i64 0, .int .i64 0, .int .i64 0]).cells (n * 3) = (ints (List.replicate (n * 3) 0)).toArray := by
    show madeCells #[.int .i64 0, .int .i64 0, .int .i64 0] (n * 3) = _
    apply Array.ext
    · simp [madeCells, ints]
    · intro i h1 h2
      have h3 : i % 3 = 0 ∨ i % 3 = 1 ∨ i % 3 = 2 := by omega
      rcases h3 with h3 | h3 | h3 <;> simp [madeCells, ints, h3]
  rw [e]
theorem jnew_fin {w W : World} {R Y T P : Nat} {B : LB} (hP : P = W.heap.size) (hs : Still w W) (hR : Blk W R (ints (List.replicate (T * 3) 0)) 134) (hY : Blk W Y (ints (List.replicate T 0)) 3) (hB : LsAt W B T (List.replicate T []))
    (r0 : w.heap.size ≤ R) (y0 : w.heap.size ≤ Y) (b0 : ∀ k, B.foot k → w.heap.size ≤ k) (RY : R ≠ Y) (dR : ¬ B.foot R) (dY : ¬ B.foot Y) (T0 : 1 ≤ T) (T1 : T ≤ 1024) :
    JNew w T (.returned (.pointer (some ⟨P, 0, none⟩))) (W.alloc (.cells #[.slice (some ⟨R, 0, none⟩) T T, .slice (some ⟨Y, 0, none⟩) T T, .pointer (some ⟨B.p, 0, none⟩)] 96)) := by
  subst hP
  have hfl : ∀ k, B.foot k → k < W.heap.size := fun k hk => hB.lt hk
  have hst : Still W (W.alloc (.cells #[.slice (some ⟨R, 0, none⟩) T T, .slice (some ⟨Y, 0, none⟩) T T, .pointer (some ⟨B.p, 0, none⟩)] 96)) := (Fr.refl _ W).alloc _
  have lR := hR.lt
  have lY := hY.lt
  refine ⟨⟨W.heap.size, R, Y, T, T, B⟩, rfl, ?_, hs.trans hst, ?_⟩
  · exact { hp := Blk.new W [sl R T T, sl Y T T, .pointer (some ⟨B.p, 0, none⟩)] 96
            hr := hR.still hst
            hy := ⟨[], by rw [List.append_nil]; exact hY.still hst⟩
            hl := hB.still hst
            PR := (by intro e; have e' : W.heap.size = R := e; omega)
            PY := (by intro e; have e' : W.heap.size = Y := e; omega)
            RY := RY, dP := fun hk => (by have e' : W.heap.size < W.heap.size := hfl _ hk; omega)
            dR := dR, dY := dY, lr := by simp [newJS], ly := by simp [newJS], ll := by simp [newJS], T0 := T0, T1 := T1 }
  · rintro k (rfl | rfl | rfl | hk)
    · exact hs.size
    · exact r0
    · exact y0
    · exact b0 k hk
set_option maxRecDepth 100000 in
set_option maxHeartbeats 4000000 in
theorem jnew (w : World) (T : Nat) (T0 : 1 ≤ T) (T1 : T ≤ 1024) : Calls Try.prog 45 #[.int .i64 T] w (JNew w T) := by
  have a3 : ¬ (T : Int) < 1 := by omega
  have a4 : ¬ (1024 : Int) < (T : Int) := by omega
  have HM := mk_ints T (by omega)
  have HR := mk_rows T (by omega)
  have HN := hid (fun W => new_ls W T T T0 (by omega) T0 (by omega))
  go_enter Try.func45, Try.ntmps45
  go_upto_region 3 with fail
  go_cut [2] (fun s2 wx => JNew w T (.returned s2) wx)
  case first =>
    go_region_with (go_at_call 19; refine (HN.out _).mono ?_; rintro e w2 ⟨B, rfl, hB, hs2, hnn⟩)
    all_goals
      go_wp2_with fail
      go_meet
    · have zB : ∀ k, B.foot k → k < w2.heap.size := fun k hk => hB.lt hk
      have zN := hnn
      have z2 := hs2.size
      have hza : ∀ (x : World) (o : Obj), (x.alloc o).heap.size = x.heap.size + 1 := fun x o => by simp
      have hzd : ∀ (x : World), x.drew.heap.size = x.heap.size := fun _ => rfl
      try rw [hzd] at zN z2
      try rw [hza] at zN z2
      try rw [hza] at zN z2
      exact jnew_fin (W := w2) (by simp) (Still.trans (((Fr.refl _ w).alloc _).alloc _).drew hs2) (by have := (((Blk.new w (ints (List.replicate (T * 3) 0)) 134).alloc (.cells (ints (List.replicate T 0)).toArray 3)).drew.still hs2); simpa using this) (by have := ((Blk.new (w.alloc (.cells (ints (List.replicate (T * 3) 0)).toArray 134)) (ints (List.replicate T 0)) 3).drew.still hs2); simpa using this) hB (by omega) (by omega) (fun k hk => by have h2 := zN k hk; omega) (by omega) (fun hk => by have h1 := zB _ hk; have h2 := zN _ hk; omega) (fun hk => by have h1 := zB _ hk; have h2 := zN _ hk; omega) T0 T1
    · have zB : ∀ k, B.foot k → k < w2.heap.size := fun k hk => hB.lt hk
      have zN := hnn
      have z2 := hs2.size
      have hza : ∀ (x : World) (o : Obj), (x.alloc o).heap.size = x.heap.size + 1 := fun x o => by simp
      have hzd : ∀ (x : World), x.drew.heap.size = x.heap.size := fun _ => rfl
      try rw [hzd] at zN z2
      try rw [hza] at zN z2
      try rw [hza] at zN z2
      exact jnew_fin (W := (w2.alloc (.cells (ints (List.replicate T 0)).toArray 3))) (by simp) ((Still.trans ((Fr.refl _ w).alloc _).drew hs2).alloc _) (by have := (((Blk.new w (ints (List.replicate (T * 3) 0)) 134).drew.still hs2).alloc (.cells (ints (List.replicate T 0)).toArray 3)); simpa using this) (by have := (Blk.new w2 (ints (List.replicate T 0)) 3); simpa using this) (hB.still ((Fr.refl _ _).alloc _)) (by omega) (by omega) (fun k hk => by have h2 := zN k hk; omega) (by omega) (fun hk => by have h1 := zB _ hk; have h2 := zN _ hk; omega) (fun hk => by have h1 := zB _ hk; have h2 := zN _ hk; omega) T0 T1
    · have zB : ∀ k, B.foot k → k < w2.heap.size := fun k hk => hB.lt hk
      have zN := hnn
      have z2 := hs2.size
      have hza : ∀ (x : World) (o : Obj), (x.alloc o).heap.size = x.heap.size + 1 := fun x o => by simp
      have hzd : ∀ (x : World), x.drew.heap.size = x.heap.size := fun _ => rfl
      try rw [hzd] at zN z2
      try rw [hza] at zN z2
      try rw [hza] at zN z2
      exact jnew_fin (W := w2) (by simp) (Still.trans (((Fr.refl _ w).alloc _).alloc _).drew hs2) (by have := ((Blk.new (w.alloc (.cells (ints (List.replicate T 0)).toArray 3)) (ints (List.replicate (T * 3) 0)) 134).drew.still hs2); simpa using this) (by have := (((Blk.new w (ints (List.replicate T 0)) 3).alloc (.cells (ints (List.replicate (T * 3) 0)).toArray 134)).drew.still hs2); simpa using this) hB (by omega) (by omega) (fun k hk => by have h2 := zN k hk; omega) (by omega) (fun hk => by have h1 := zB _ hk; have h2 := zN _ hk; omega) (fun hk => by have h1 := zB _ hk; have h2 := zN _ hk; omega) T0 T1
    · have zB : ∀ k, B.foot k → k < w2.heap.size := fun k hk => hB.lt hk
      have zN := hnn
      have z2 := hs2.size
      have hza : ∀ (x : World) (o : Obj), (x.alloc o).heap.size = x.heap.size + 1 := fun x o => by simp
      have hzd : ∀ (x : World), x.drew.heap.size = x.heap.size := fun _ => rfl
      try rw [hzd] at zN z2
      try rw [hza] at zN z2
      try rw [hza] at zN z2
      exact jnew_fin (W := (w2.alloc (.cells (ints (List.replicate (T * 3) 0)).toArray 134))) (by simp) ((Still.trans ((Fr.refl _ w).alloc _).drew hs2).alloc _) (by have := (Blk.new w2 (ints (List.replicate (T * 3) 0)) 134); simpa using this) (by have := (((Blk.new w (ints (List.replicate T 0)) 3).drew.still hs2).alloc (.cells (ints (List.replicate (T * 3) 0)).toArray 134)); simpa using this) (hB.still ((Fr.refl _ _).alloc _)) (by omega) (by omega) (fun k hk => by have h2 := zN k hk; omega) (by omega) (fun hk => by have h1 := zB _ hk; have h2 := zN _ hk; omega) (fun hk => by have h1 := zB _ hk; have h2 := zN _ hk; omega) T0 T1
    · have zB : ∀ k, B.foot k → k < w2.heap.size := fun k hk => hB.lt hk
      have zN := hnn
      have z2 := hs2.size
      have hza : ∀ (x : World) (o : Obj), (x.alloc o).heap.size = x.heap.size + 1 := fun x o => by simp
      have hzd : ∀ (x : World), x.drew.heap.size = x.heap.size := fun _ => rfl
      try rw [hzd] at zN z2
      try rw [hza] at zN z2
      try rw [hza] at zN z2
      exact jnew_fin (W := ((w2.alloc (.cells (ints (List.replicate (T * 3) 0)).toArray 134)).alloc (.cells (ints (List.replicate T 0)).toArray 3))) (by simp) (((Still.trans (Fr.refl _ w).drew hs2).alloc _).alloc _) (by have := ((Blk.new w2 (ints (List.replicate (T * 3) 0)) 134).alloc (.cells (ints (List.replicate T 0)).toArray 3)); simpa using this) (by have := (Blk.new (w2.alloc (.cells (ints (List.replicate (T * 3) 0)).toArray 134)) (ints (List.replicate T 0)) 3); simpa using this) ((hB.still ((Fr.refl _ _).alloc _)).still ((Fr.refl _ _).alloc _)) (by omega) (by omega) (fun k hk => by have h2 := zN k hk; omega) (by omega) (fun hk => by have h1 := zB _ hk; have h2 := zN _ hk; omega) (fun hk => by have h1 := zB _ hk; have h2 := zN _ hk; omega) T0 T1
    · have zB : ∀ k, B.foot k → k < w2.heap.size := fun k hk => hB.lt hk
      have zN := hnn
      have z2 := hs2.size
      have hza : ∀ (x : World) (o : Obj), (x.alloc o).heap.size = x.heap.size + 1 := fun x o => by simp
      have hzd : ∀ (x : World), x.drew.heap.size = x.heap.size := fun _ => rfl
      try rw [hzd] at zN z2
      try rw [hza] at zN z2
      try rw [hza] at zN z2
      exact jnew_fin (W := ((w2.alloc (.cells (ints (List.replicate T 0)).toArray 3)).alloc (.cells (ints (List.replicate (T * 3) 0)).toArray 134))) (by simp) (((Still.trans (Fr.refl _ w).drew hs2).alloc _).alloc _) (by have := (Blk.new (w2.alloc (.cells (ints (List.replicate T 0)).toArray 3)) (ints (List.replicate (T * 3) 0)) 134); simpa using this) (by have := ((Blk.new w2 (ints (List.replicate T 0)) 3).alloc (.cells (ints (List.replicate (T * 3) 0)).toArray 134)); simpa using this) ((hB.still ((Fr.refl _ _).alloc _)).still ((Fr.refl _ _).alloc _)) (by omega) (by omega) (fun k hk => by have h2 := zN k hk; omega) (by omega) (fun hk => by have h1 := zB _ hk; have h2 := zN _ hk; omega) (fun hk => by have h1 := zB _ hk; have h2 := zN _ hk; omega) T0 T1
  case rest =>
    go_wp2
    go_ret
    exact hcut
end Go.Proofs.Ytffjaaolcphonaa
/- The law's lives; what holds of small ends. -/
namespace Go.Proofs.Ytffjaaolcphonaa
open Go.RowKit
set_option linter.unusedSimpArgs false
deriving instance DecidableEq for JS
def tY (k : Nat) : List Int := (List.range 12).map fun i => if 1 ≤ i ∧ i ≤ k then 65536 + (i : Int) else 0
/-- Who waits for the first one of twelve. -/
def tJ (k : Nat) : JS := ⟨12, [65536, 1, 0] ++ List.replicate 33 0, tY k, ((List.range k).map (· + 1)) :: List.replicate 11 []⟩
def uJ (k : Nat) (v : Int) : JS := ⟨12, [65536, 2, v] ++ List.replicate 33 0, tY k, List.replicate 12 []⟩
def xJ (k : Nat) : JS := ⟨12, [131072, 1, 0] ++ List.replicate 33 0, tY k, List.replicate 12 []⟩
def tW (k : Nat) : List Int := (List.range k).map fun i : Nat => 65537 + (i : Int)
theorem tJ_start : startE (newJS 12) 65536 = 0 ∧ startS (newJS 12) 65536 = tJ 0 := by decide +kernel
theorem tJ_join : ∀ k, k < 9 → joinD (tJ k) 65536 (65537 + (k : Int)) = false ∧ joinE (tJ k) 65536 (65537 + (k : Int)) = 0 ∧ joinV (tJ k) 65536 (65537 + (k : Int)) = 0 ∧ joinS (tJ k) 65536 (65537 + (k : Int)) = tJ (k + 1) ∧ whJ (tJ (k + 1)) (65537 + (k : Int)) = 65536 := by decide +kernel
theorem tJ_endB : ∀ k, k < 10 → endB (tJ k) 65536 = true ∧ idL (tJ k) 0 = tW k ∧ remAll 12 (tW k) (tJ k).L = List.replicate 12 [] := by decide +kernel
theorem tJ_end (k : Nat) (hk : k < 10) (v : Int) : endE (tJ k) 65536 = 0 ∧ endT (tJ k) 65536 = tW k ∧ endS (tJ k) 65536 v = uJ k v := by
  obtain ⟨h1, h2, h3⟩ := tJ_endB k hk
  have hi : (idxI 65536).toNat = 0 := by decide
  refine ⟨?_, ?_, ?_⟩
  · unfold endE; rw [if_pos h1]
  · unfold endT; rw [if_pos h1, hi, h2]
  · unfold endS; rw [if_pos h1, hi, h2]
    have hT : (tJ k).T = 12 := rfl
    rw [hT, h3]; rfl
theorem uJ_join (k : Nat) (v : Int) : joinD (uJ k v) 65536 65547 = true ∧ joinE (uJ k v) 65536 65547 = 0 ∧ joinV (uJ k v) 65536 65547 = v ∧ joinS (uJ k v) 65536 65547 = uJ k v := ⟨rfl, rfl, rfl, rfl⟩
theorem uJ_where (k : Nat) (v : Int) : whJ (uJ k v) 65537 = 0 := rfl
theorem uJ_start (k : Nat) (v : Int) : startE (uJ k v) 131072 = 0 ∧ startS (uJ k v) 131072 = xJ k := ⟨rfl, rfl⟩
theorem xJ_join (k : Nat) : joinD (xJ k) 65536 65537 = false ∧ joinE (xJ k) 65536 65537 = 4 ∧ joinV (xJ k) 65536 65537 = 0 ∧ joinS (xJ k) 65536 65537 = xJ k := ⟨rfl, rfl, rfl, rfl⟩
theorem xJ_state (k : Nat) : stI (xJ k) 65536 = 0 ∧ stI (xJ k) 131072 = 1 := ⟨rfl, rfl⟩
theorem tY_in (k p : Nat) : inI ((tY k).getD p 0) := by
  unfold inI tY
  rw [List.getD_eq_getElem?_getD]
  by_cases h : p < 12
  · rw [List.getElem?_eq_getElem (by simpa using h), Option.getD_some]; simp; split <;> omega
  · rw [List.getElem?_eq_none (by simpa using h)]; show (0 : Int) ≤ _; omega
/-- Behind steps on what is new, nothing has turned. -/
theorem jfresh {w a b : World} {J : JB} (hs : Still w a) (hf : Fr J.foot a b) (hK : ∀ k, J.all k → w.heap.size ≤ k) : Still w b := hs.then hf fun k hk e => by have := hK k (.inr e); omega
set_option maxRecDepth 100000 in
set_option maxHeartbeats 2000000 in
theorem jlives (w : World) : Calls Try.prog 51 #[] w fun e w' => e = .returned (.bool true) ∧ Still w w' := by
  have S1 := hid (show startE (newJS 2) 65536 = 0 ∧ startS (newJS 2) 65536 = ⟨2, [65536, 1, 0, 0, 0, 0], [0, 0], [[], []]⟩ by decide +kernel)
  have S2 := hid (show joinV ⟨2, [65536, 1, 0, 0, 0, 0], [0, 0], [[], []]⟩ 65536 65537 = 0 ∧ joinD ⟨2, [65536, 1, 0, 0, 0, 0], [0, 0], [[], []]⟩ 65536 65537 = false ∧ joinE ⟨2, [65536, 1, 0, 0, 0, 0], [0, 0], [[], []]⟩ 65536 65537 = 0 ∧ joinS ⟨2, [65536, 1, 0, 0, 0, 0], [0, 0], [[], []]⟩ 65536 65537 = ⟨2, [65536, 1, 0, 0, 0, 0], [0, 65537], [[1], []]⟩ by decide +kernel)
  have S3 := hid (show endE ⟨2, [65536, 1, 0, 0, 0, 0], [0, 65537], [[1], []]⟩ 65536 = 0 ∧ endT ⟨2, [65536, 1, 0, 0, 0, 0], [0, 65537], [[1], []]⟩ 65536 = [65537] by decide +kernel)
  generalize (⟨2, [65536, 1, 0, 0, 0, 0], [0, 0], [[], []]⟩ : JS) = s1 at S1 S2
  have hy2 : ∀ p, inI ((⟨2, [65536, 1, 0, 0, 0, 0], [0, 65537], [[1], []]⟩ : JS).yb.getD p 0) := fun p => by
    match p with
    | 0 => show (0 : Int) ≤ _; omega
    | 1 => show (65537 : Int) ≤ _; omega
    | p + 2 => show (0 : Int) ≤ _; omega
  generalize (⟨2, [65536, 1, 0, 0, 0, 0], [0, 65537], [[1], []]⟩ : JS) = s2 at S2 S3 hy2
  have HY2 := hid hy2
  clear hy2
  go_enter Try.func51, Try.ntmps51
  go_wp2_with fail
  refine (jnew _ 2 (by omega) (by omega)).mono ?_
  rintro e w1 ⟨J, rfl, h1, hs1, hK⟩
  go_wp2_with fail
  refine (jstart h1 65536 (by unfold inI; omega)).mono ?_
  rw [S1.out.1, S1.out.2]
  rintro e w2 ⟨rfl, h2, f2⟩
  go_wp2_with fail
  refine (jjoin h2 65536 65537 (by unfold inI; omega) (by unfold inI; omega)).mono ?_
  rw [S2.out.1, S2.out.2.1, S2.out.2.2.1, S2.out.2.2.2]
  rintro e w3 ⟨rfl, h3, f3⟩
  go_wp2_with fail
  refine (jend h3 HY2.out 65536 5 (by unfold inI; omega)).mono ?_
  unfold EndPost
  rw [S3.out.1, S3.out.2]
  rintro e w4 ⟨a4, c4, rfl, r4, h4, f4, _⟩
  have hst := jfresh (jfresh (jfresh hs1 f2 hK) f3 hK) f4 hK
  go_wp2_with fail
  refine (ints_ok _ _ _ [65537] [65537] (r4.alloc _) (one_new _ _ _) (by decide)).mono ?_
  rw [show decide (([65537] : List Int) = [65537]) = true from by decide]
  rintro e w6 ⟨rfl, hs6⟩
  go_wp2_with fail
  go_ret
  exact ⟨rfl, (hst.alloc _).trans hs6⟩
end Go.Proofs.Ytffjaaolcphonaa
