/- The ends in the world; the parts of ids. -/
import Derived.Test.YtffjaaolcphonaaBdK
import Derived.Test.YtffjaaolcphonaaBdG
import Derived.OrdersIn
import Derived.TacticsIn
import Derived.Test.YtffjaaolcphonaaBdJ
import Derived.Test.YtffjaaolcphonaaBdB
import Derived.Test.YtffjaaolcphonaaBdH
namespace Go.Proofs.Ytffjaaolcphonaa
open Go.RowKit
/-- Might a number be an id? -/
def idOk (id : Int) : Prop := 65536 ≤ id ∧ id / 65536 ≤ 2147483647
instance (id : Int) : Decidable (idOk id) := by unfold idOk; infer_instance
def ageI (id : Int) : Int := if idOk id then id / 65536 else 0
def idxI (id : Int) : Int := if idOk id then id % 65536 else -1
theorem idxI_cases (id : Int) : (¬ idOk id ∧ idxI id = -1) ∨ (idOk id ∧ idxI id = id % 65536 ∧ 0 ≤ id % 65536 ∧ id % 65536 < 65536) := by
  by_cases h : idOk id
  · exact .inr ⟨h, if_pos h, by omega, by omega⟩
  · exact .inl ⟨h, if_neg h⟩
def inI (id : Int) : Prop := id ≤ 9223372036854775807
theorem jage (w : World) (id : Int) (hi : inI id) : Calls Try.prog 136 #[.int .i64 id] w fun e w' => e = .returned (.int .i64 (ageI id)) ∧ w = w' := by
  unfold inI at hi
  by_cases h0 : 65536 ≤ id
  · by_cases h1 : id / 65536 ≤ 2147483647
    · have HA : Hid (ageI id = id / 65536) := hid (if_pos ⟨h0, h1⟩)
      rw [HA.out]
      go_enter Try.func136, Try.ntmps136
      go_wp2
      go_ret
      exact ⟨rfl, rfl⟩
    · have HA : Hid (ageI id = 0) := hid (if_neg fun h => h1 h.2)
      rw [HA.out]
      have h1' : 2147483647 < id / 65536 := by omega
      clear h1
      go_enter Try.func136, Try.ntmps136
      go_wp2
      go_ret
      exact ⟨rfl, rfl⟩
  · have HA : Hid (ageI id = 0) := hid (if_neg fun h => h0 h.1)
    rw [HA.out]
    have h0' : id < 65536 := by omega
    clear h0
    go_enter Try.func136, Try.ntmps136
    go_wp2
    go_ret
    exact ⟨rfl, rfl⟩
theorem jindex (w : World) (id : Int) (hi : inI id) : Calls Try.prog 105 #[.int .i64 id] w fun e w' => e = .returned (.int .i64 (idxI id)) ∧ w = w' := by
  have A := jage w id hi
  unfold inI at hi
  rcases idxI_cases id with ⟨h, e⟩ | ⟨h, e, _, _⟩
  · rw [e]
    rw [show ageI id = 0 from if_neg h] at A
    have HA := hid A
    clear A h e
    go_enter Try.func105, Try.ntmps105
    go_wp2_with (go_at_call 136; refine HA.out.mono ?_; rintro e w' ⟨rfl, rfl⟩)
    go_ret
    exact ⟨rfl, rfl⟩
  · rw [e]
    have h0 := h.1
    have ha : ageI id = id / 65536 := if_pos h
    have hne : (id / 65536 == 0) = false := by simp; omega
    rw [ha] at A
    have HA := hid A
    clear A h e ha
    go_enter Try.func105, Try.ntmps105
    go_wp2_with (go_at_call 136; refine HA.out.mono ?_; rintro e w' ⟨rfl, rfl⟩)
    go_ret
    exact ⟨rfl, rfl⟩
end Go.Proofs.Ytffjaaolcphonaa
/- The ends in the world: place, find, State. -/
namespace Go.Proofs.Ytffjaaolcphonaa
open Go.RowKit
/-- Ends: how many places; the rows, three numbers each; who waits, by places; who waits for each. -/
structure JS where
  T : Nat
  rw : List Int
  yb : List Int
  L : List (List Nat)
structure JB where
  P : Nat
  R : Nat
  Y : Nat
  kR : Nat
  kY : Nat
  B : LB
def JB.foot (J : JB) (k : Nat) : Prop := k = J.R ∨ k = J.Y ∨ J.B.foot k
def JB.all (J : JB) (k : Nat) : Prop := k = J.P ∨ J.foot k
structure JAt (w : World) (J : JB) (s : JS) : Prop where
  hp : Blk w J.P [sl J.R s.T J.kR, sl J.Y s.T J.kY, .pointer (some ⟨J.B.p, 0, none⟩)] 96
  hr : Blk w J.R (ints s.rw) 134
  hy : IBlk w J.Y s.yb
  hl : LsAt w J.B s.T s.L
  PR : J.P ≠ J.R
  PY : J.P ≠ J.Y
  RY : J.R ≠ J.Y
  dP : ¬ J.B.foot J.P
  dR : ¬ J.B.foot J.R
  dY : ¬ J.B.foot J.Y
  lr : s.rw.length = s.T * 3
  ly : s.yb.length = s.T
  ll : s.L.length = s.T
  T0 : 1 ≤ s.T
  T1 : s.T ≤ 1024
theorem JAt.fr {w w' : World} {J : JB} {s : JS} (h : JAt w J s) {F : Nat → Prop} (hf : Fr F w w') (hd : ∀ k, J.all k → ¬ F k) : JAt w' J s :=
  { h with hp := h.hp.fr hf (hd _ (.inl rfl)), hr := h.hr.fr hf (hd _ (.inr (.inl rfl))), hy := IBlk.fr h.hy hf (hd _ (.inr (.inr (.inl rfl)))), hl := h.hl.fr hf fun k hk => hd k (.inr (.inr (.inr hk))) }
theorem JAt.still {w w' : World} {J : JB} {s : JS} (h : JAt w J s) (hf : Still w w') : JAt w' J s := h.fr hf fun _ _ h => h
theorem JAt.lt {w : World} {J : JB} {s : JS} (h : JAt w J s) {k : Nat} (hk : J.all k) : k < w.heap.size := by
  rcases hk with rfl | rfl | rfl | hk
  · exact h.hp.lt
  · exact h.hr.lt
  · exact h.hy.lt
  · exact h.hl.lt hk
def plc (s : JS) (id : Int) : Bool := decide (inR (idxI id) s.T)
/-- Is a thread known? -/
def kn (s : JS) (id : Int) : Bool := plc s id && (s.rw.getD ((idxI id).toNat * 3) 0 == id)
def stI (s : JS) (id : Int) : Int := if kn s id then s.rw.getD ((idxI id).toNat * 3 + 1) 0 else 0
section
variable {w : World} {J : JB} {s : JS}
theorem JAt.f0 (h : JAt w J s) : w.cell? ⟨J.P, 0, none⟩ = some (.slice (some ⟨J.R, 0, none⟩) s.T J.kR) := by rw [h.hp.cell]; rfl
theorem JAt.f1 (h : JAt w J s) : w.cell? ⟨J.P, 1, none⟩ = some (.slice (some ⟨J.Y, 0, none⟩) s.T J.kY) := by rw [h.hp.cell]; rfl
theorem JAt.f2 (h : JAt w J s) : w.cell? ⟨J.P, 2, none⟩ = some (.pointer (some ⟨J.B.p, 0, none⟩)) := by rw [h.hp.cell]; rfl
theorem JAt.cR (h : JAt w J s) {i : Nat} (hi : i < s.T * 3) : w.cell? ⟨J.R, i, none⟩ = some (.int .i64 (s.rw.getD i 0)) := by
  rw [h.hr.cell]
  have hi' : i < s.rw.length := by rw [h.lr]; exact hi
  simp [ints, List.getD, hi']
theorem JAt.cY (h : JAt w J s) {i : Nat} (hi : i < s.T) : w.cell? ⟨J.Y, i, none⟩ = some (.int .i64 (s.yb.getD i 0)) := h.hy.cell (by rw [h.ly]; exact hi)
theorem jmade (h : JAt w J s) : Calls Try.prog 99 #[.pointer (some ⟨J.P, 0, none⟩)] w fun e w' => e = .returned (.bool true) ∧ w = w' := by
  have F2 := h.f2
  go_enter Try.func99, Try.ntmps99
  go_wp2
  go_ret
  exact ⟨rfl, rfl⟩
set_option maxRecDepth 100000 in
theorem jplace (h : JAt w J s) (id : Int) (hi : inI id) : Calls Try.prog 100 #[.pointer (some ⟨J.P, 0, none⟩), .int .i64 id] w fun e w' => e = .returned (.tuple #[.int .i64 (idxI id), .bool (plc s id)]) ∧ Still w w' := by
  have F0 := h.f0
  have A := hid (jindex w id hi)
  rcases idxI_cases id with ⟨h0, e⟩ | ⟨h0, e, b0, b1⟩
  · have HP : Hid (plc s id = false) := hid (decide_eq_false fun hr => by have := hr.1; omega)
    rw [e] at A
    rw [HP.out, e]
    have d : decide ((0 : Int) ≤ -1) = false := by decide
    clear h0 e
    go_enter Try.func100, Try.ntmps100
    go_wp2_with (go_at_call 105; refine A.out.mono ?_; rintro e w' ⟨rfl, rfl⟩)
    go_quiet (fail)
    go_wp2_with fail
    go_ret2
    exact ⟨rfl, (Fr.refl _ _).drewN _⟩
  · obtain ⟨x, hx⟩ : ∃ x, idxI id = x := ⟨_, rfl⟩
    rw [hx] at A e ⊢
    rw [← e] at b0 b1
    have d : decide (0 ≤ x) = true := decide_eq_true b0
    by_cases hlt : x < (s.T : Int)
    · have HP : Hid (plc s id = true) := hid (by unfold plc; rw [hx]; exact decide_eq_true ⟨b0, hlt⟩)
      have d2 : decide (x < (s.T : Int)) = true := decide_eq_true hlt
      rw [HP.out]
      clear h0 e hx b0 b1 hlt
      go_enter Try.func100, Try.ntmps100
      go_wp2_with (go_at_call 105; refine A.out.mono ?_; rintro e w' ⟨rfl, rfl⟩)
      go_quiet (fail)
      go_wp2_with fail
      go_ret2
      exact ⟨rfl, (Fr.refl _ _).drewN _⟩
    · have HP : Hid (plc s id = false) := hid (by unfold plc; rw [hx]; exact decide_eq_false fun hr => hlt hr.2)
      have d2 : decide (x < (s.T : Int)) = false := decide_eq_false hlt
      rw [HP.out]
      clear h0 e hx b0 b1 hlt
      go_enter Try.func100, Try.ntmps100
      go_wp2_with (go_at_call 105; refine A.out.mono ?_; rintro e w' ⟨rfl, rfl⟩)
      go_quiet (fail)
      go_wp2_with fail
      go_ret2
      exact ⟨rfl, (Fr.refl _ _).drewN _⟩
def rowP (J : JB) (s : JS) (id : Int) : Value := if kn s id then .pointer (some ⟨J.R, (idxI id).toNat * 3, none⟩) else .pointer none
theorem plc_nat {id : Int} (h : plc s id = true) : ∃ i : Nat, idxI id = (i : Int) ∧ i < s.T ∧ i < 65536 := by
  have hr := of_decide_eq_true h
  rcases idxI_cases id with ⟨_, e⟩ | ⟨_, e, b0, b1⟩
  · have := hr.1; omega
  · obtain ⟨i, hi⟩ := Int.eq_ofNat_of_zero_le hr.1
    exact ⟨i, hi, by have := hr.2; omega, by omega⟩
set_option maxRecDepth 100000 in
theorem jfind (h : JAt w J s) (id : Int) (hi : inI id) : Calls Try.prog 102 #[.pointer (some ⟨J.P, 0, none⟩), .int .i64 id] w fun e w' => e = .returned (rowP J s id) ∧ Still w w' := by
  have A := jplace h id hi
  unfold rowP
  cases hp : plc s id with
  | false =>
    have HK : Hid (kn s id = false) := hid (by unfold kn; rw [hp]; rfl)
    rw [HK.out]
    rw [hp] at A
    have HA := hid A
    clear A hp
    go_enter Try.func102, Try.ntmps102
    go_wp2_with (first
      | (go_at_call 99; refine (jmade h).mono ?_; rintro e w' ⟨rfl, rfl⟩)
      | (go_at_call 100; refine HA.out.mono ?_; rintro e w1 ⟨rfl, hs1⟩))
    go_ret
    exact ⟨rfl, hs1⟩
  | true =>
    obtain ⟨i, hx, hiT, hi6⟩ := plc_nat hp
    rw [hp, hx] at A
    have hiT' : (i : Int) < (s.T : Int) := by omega
    obtain ⟨v, hv⟩ : ∃ v, s.rw.getD (i * 3) 0 = v := ⟨_, rfl⟩
    have C := h.cR (i := i * 3) (by omega)
    rw [hv] at C
    have hK : kn s id = (v == id) := by unfold kn; rw [hp, hx, Int.toNat_natCast, hv]; rfl
    rw [hK, hx, Int.toNat_natCast]
    have HA := hid A
    have HH := hid h
    have F0 := h.f0
    have T1 := h.T1
    by_cases hvi : v = id
    · have d : (v != id) = false := by simp [hvi]
      have HD : Hid ((v == id) = true) := hid (by simp [hvi])
      rw [HD.out]
      clear hp hx hv hK hvi A h
      go_enter Try.func102, Try.ntmps102
      go_wp2_with (first
        | (go_at_call 99; refine (jmade HH.out).mono ?_; rintro e w' ⟨rfl, rfl⟩)
        | (go_at_call 100; refine HA.out.mono ?_; rintro e w1 ⟨rfl, hs1⟩; have G0 := Still.cell hs1 F0; have GC := Still.cell hs1 C))
      go_ret
      exact ⟨rfl, hs1⟩
    · have d : (v != id) = true := by simp [hvi]
      have HD : Hid ((v == id) = false) := hid (by simp [hvi])
      rw [HD.out]
      clear hp hx hv hK hvi A h
      go_enter Try.func102, Try.ntmps102
      go_wp2_with (first
        | (go_at_call 99; refine (jmade HH.out).mono ?_; rintro e w' ⟨rfl, rfl⟩)
        | (go_at_call 100; refine HA.out.mono ?_; rintro e w1 ⟨rfl, hs1⟩; have G0 := Still.cell hs1 F0; have GC := Still.cell hs1 C))
      go_ret
      exact ⟨rfl, hs1⟩
theorem kn_nat {id : Int} (h : kn s id = true) : ∃ i : Nat, idxI id = (i : Int) ∧ i < s.T ∧ i < 65536 ∧ s.rw.getD (i * 3) 0 = id := by
  unfold kn at h
  rw [Bool.and_eq_true] at h
  obtain ⟨i, hx, h1, h2⟩ := plc_nat h.1
  rw [hx, Int.toNat_natCast] at h
  exact ⟨i, hx, h1, h2, by simpa using h.2⟩
theorem jstate (h : JAt w J s) (id : Int) (hi : inI id) : Calls Try.prog 50 #[.pointer (some ⟨J.P, 0, none⟩), .int .i64 id] w fun e w' => e = .returned (.int .i64 (stI s id)) ∧ Still w w' := by
  have A := jfind h id hi
  unfold rowP at A
  unfold stI
  cases hk : kn s id with
  | false =>
    rw [hk] at A
    have HA := hid A
    clear A hk
    go_enter Try.func50, Try.ntmps50
    go_wp2_with (go_at_call 102; refine HA.out.mono ?_; rintro e w1 ⟨rfl, hs1⟩)
    go_ret
    exact ⟨rfl, hs1⟩
  | true =>
    obtain ⟨i, hx, h1, _, _⟩ := kn_nat hk
    have C := h.cR (i := i * 3 + 1) (by omega)
    rw [hk, hx, Int.toNat_natCast] at A
    rw [hx, Int.toNat_natCast]
    generalize s.rw.getD (i * 3 + 1) 0 = v at C ⊢
    have HA := hid A
    clear A hk hx
    go_enter Try.func50, Try.ntmps50
    go_wp2_with (go_at_call 102; refine HA.out.mono ?_; rintro e w1 ⟨rfl, hs1⟩; have GC := Still.cell hs1 C)
    go_ret
    exact ⟨rfl, hs1⟩
end
end Go.Proofs.Ytffjaaolcphonaa
/- The ends: Start, at, Where, Drop. -/
namespace Go.Proofs.Ytffjaaolcphonaa
open Go.RowKit
def setRow (l : List Int) (i : Nat) (a b c : Int) : List Int := ((l.set (i * 3) a).set (i * 3 + 1) b).set (i * 3 + 2) c
def startE (s : JS) (id : Int) : Int := if plc s id then (if s.rw.getD ((idxI id).toNat * 3 + 1) 0 = 1 then 5 else 0) else 8
def startS (s : JS) (id : Int) : JS := if startE s id = 0 then { s with rw := setRow s.rw (idxI id).toNat id 1 0 } else s
section
variable {w : World} {J : JB} {s : JS}
theorem ints_set (l : List Int) (i : Nat) (v : Int) : (ints l).set i (.int .i64 v) = ints (l.set i v) := by simp [ints]
def rowW (J : JB) (w : World) (i : Nat) (a b c : Int) : World := ((w.setCell ⟨J.R, i * 3, none⟩ (.int .i64 a)).setCell ⟨J.R, i * 3 + 1, none⟩ (.int .i64 b)).setCell ⟨J.R, i * 3 + 2, none⟩ (.int .i64 c)
theorem JB.frRow (J : JB) (w : World) (i : Nat) (a b c : Int) : Fr J.foot w (rowW J w i a b c) :=
  (((Fr.refl J.foot w).setCell (p := ⟨J.R, i * 3, none⟩) (.inl (.inl rfl)) _).setCell (p := ⟨J.R, i * 3 + 1, none⟩) (.inl (.inl rfl)) _).setCell (p := ⟨J.R, i * 3 + 2, none⟩) (.inl (.inl rfl)) _
theorem JAt.setRow (h : JAt w J s) (i : Nat) (a b c : Int) : JAt (rowW J w i a b c) J { s with rw := Go.Proofs.Ytffjaaolcphonaa.setRow s.rw i a b c } := by
  have hf : Fr (fun k => k = J.R) w (rowW J w i a b c) := (((Fr.refl (fun k => k = J.R) w).setCell (p := ⟨J.R, i * 3, none⟩) (.inl rfl) _).setCell (p := ⟨J.R, i * 3 + 1, none⟩) (.inl rfl) _).setCell (p := ⟨J.R, i * 3 + 2, none⟩) (.inl rfl) _
  have h1 := ((h.hr.put (i * 3) (.int .i64 a)).put (i * 3 + 1) (.int .i64 b)).put (i * 3 + 2) (.int .i64 c)
  rw [ints_set, ints_set, ints_set] at h1
  exact { h with hp := h.hp.fr hf h.PR, hr := h1, hy := IBlk.fr h.hy hf h.RY.symm, hl := h.hl.fr hf (fun k hk e => h.dR (e ▸ hk)), lr := by simpa [Go.Proofs.Ytffjaaolcphonaa.setRow] using h.lr }
set_option maxRecDepth 100000 in
theorem jstart (h : JAt w J s) (id : Int) (hi : inI id) : Calls Try.prog 46 #[.pointer (some ⟨J.P, 0, none⟩), .int .i64 id] w fun e w' =>
    e = .returned (.int .i64 (startE s id)) ∧ JAt w' J (startS s id) ∧ Fr J.foot w w' := by
  have A := jplace h id hi
  cases hp : plc s id with
  | false =>
    have HE : Hid (startE s id = 8) := hid (by unfold startE; rw [hp]; rfl)
    have HS : Hid (startS s id = s) := hid (by unfold startS; rw [HE.out, if_neg (by decide)])
    rw [HE.out, HS.out]
    rw [hp] at A
    have HA := hid A
    clear A hp
    go_enter Try.func46, Try.ntmps46
    go_wp2_with (first
      | (go_at_call 99; refine (jmade h).mono ?_; rintro e w' ⟨rfl, rfl⟩)
      | (go_at_call 100; refine HA.out.mono ?_; rintro e w1 ⟨rfl, hs1⟩))
    go_ret
    exact ⟨rfl, h.still hs1, hs1.fr _⟩
  | true =>
    obtain ⟨i, hx, hiT, hi6⟩ := plc_nat hp
    rw [hp, hx] at A
    have hiT' : (i : Int) < (s.T : Int) := by omega
    have C := h.cR (i := i * 3 + 1) (by omega)
    have C0 := h.cR (i := i * 3) (by omega)
    have C2 := h.cR (i := i * 3 + 2) (by omega)
    obtain ⟨v, hv⟩ : ∃ v, s.rw.getD (i * 3 + 1) 0 = v := ⟨_, rfl⟩
    rw [hv] at C
    have hE : startE s id = if v = 1 then 5 else 0 := by unfold startE; rw [hp, hx, Int.toNat_natCast, hv]; rfl
    have HA := hid A
    have HH := hid h
    have F0 := h.f0
    have T1 := h.T1
    by_cases hv1 : v = 1
    · have HE : Hid (startE s id = 5) := hid (by rw [hE, if_pos hv1])
      have HS : Hid (startS s id = s) := hid (by unfold startS; rw [HE.out, if_neg (by decide)])
      rw [HE.out, HS.out]
      subst hv1
      clear hp hx hv hE A
      go_enter Try.func46, Try.ntmps46
      go_wp2_with (first
        | (go_at_call 99; refine (jmade h).mono ?_; rintro e w' ⟨rfl, rfl⟩)
        | (go_at_call 100; refine HA.out.mono ?_; rintro e w1 ⟨rfl, hs1⟩; have G0 := Still.cell hs1 F0; have GC := Still.cell hs1 C))
      go_ret
      exact ⟨rfl, h.still hs1, hs1.fr _⟩
    · have HE : Hid (startE s id = 0) := hid (by rw [hE, if_neg hv1])
      have HS : Hid (startS s id = { s with rw := setRow s.rw i id 1 0 }) := hid (by unfold startS; rw [HE.out, if_pos rfl, hx, Int.toNat_natCast])
      rw [HE.out, HS.out]
      have d : (v == 1) = false := by simpa using hv1
      have Z0 : w.frozen? ⟨J.R, i * 3, none⟩ = false := h.hr.frozen _
      have Z1 : w.frozen? ⟨J.R, i * 3 + 1, none⟩ = false := h.hr.frozen _
      have Z2 : w.frozen? ⟨J.R, i * 3 + 2, none⟩ = false := h.hr.frozen _
      have hRl : J.R < w.heap.size := h.hr.lt
      generalize s.rw.getD (i * 3) 0 = v0 at C0
      generalize s.rw.getD (i * 3 + 2) 0 = v2 at C2
      clear hp hx hv hE hv1 A
      go_enter Try.func46, Try.ntmps46
      go_wp2_with (first
        | (go_at_call 99; refine (jmade h).mono ?_; rintro e w' ⟨rfl, rfl⟩)
        | (go_at_call 100; refine HA.out.mono ?_; rintro e w1 ⟨rfl, hs1⟩; have G0 := Still.cell hs1 F0; have GC := Still.cell hs1 C; have GC0 := Still.cell hs1 C0; have GC2 := Still.cell hs1 C2; have Y0 := Still.frz hs1 hRl Z0; have Y1 := Still.frz hs1 hRl Z1; have Y2 := Still.frz hs1 hRl Z2))

      go_ret
      exact ⟨rfl, (h.still hs1).setRow i id 1 0, (hs1.fr _).trans (J.frRow _ i _ _ _)⟩
def atB (s : JS) (y : Int) : Bool := plc s y && (decide (0 ≤ whI s.T s.L (idxI y)) && (s.yb.getD (idxI y).toNat 0 == y))
def atI (s : JS) (y : Int) : Int := if atB s y then whI s.T s.L (idxI y) else 0
theorem whI_lt {T : Nat} {L : List (List Nat)} (h : L.length = T) (t : Int) : whI T L t < (T : Int) := by
  unfold whI; split
  · rcases wh_cases L t.toNat with e | ⟨i, e⟩
    · omega
    · have := (wh_yes e).1; omega
  · omega
set_option maxRecDepth 100000 in
theorem jat (h : JAt w J s) (y : Int) (hy : inI y) : Calls Try.prog 103 #[.pointer (some ⟨J.P, 0, none⟩), .int .i64 y] w fun e w' => e = .returned (.tuple #[.int .i64 (atI s y), .bool (atB s y)]) ∧ Still w w' := by
  have A := jplace h y hy
  cases hp : plc s y with
  | false =>
    have HB : Hid (atB s y = false) := hid (by unfold atB; rw [hp]; rfl)
    have HI : Hid (atI s y = 0) := hid (by unfold atI; rw [HB.out]; rfl)
    rw [HB.out, HI.out]
    rw [hp] at A
    have HA := hid A
    clear A hp
    go_enter Try.func103, Try.ntmps103
    go_wp2_with (first
      | (go_at_call 99; refine (jmade h).mono ?_; rintro e w' ⟨rfl, rfl⟩)
      | (go_at_call 100; refine HA.out.mono ?_; rintro e w1 ⟨rfl, hs1⟩))
    go_ret2
    exact ⟨rfl, hs1⟩
  | true =>
    obtain ⟨i, hx, hiT, hi6⟩ := plc_nat hp
    rw [hp, hx] at A
    have hiT' : (i : Int) < (s.T : Int) := by omega
    have F1 := h.f1
    have F2 := h.f2
    have C := h.cY hiT
    have HH := hid h
    have T1 := h.T1
    have W := fun W hs => where_ls (h.still (w' := W) hs).hl (i : Int)
    have hB : atB s y = (decide (0 ≤ whI s.T s.L (i : Int)) && (s.yb.getD i 0 == y)) := by unfold atB; rw [hp, hx, Int.toNat_natCast]; rfl
    have hI : atI s y = if atB s y then whI s.T s.L (i : Int) else 0 := by unfold atI; rw [hx]
    obtain ⟨z, hz⟩ : ∃ z, whI s.T s.L (i : Int) = z := ⟨_, rfl⟩
    obtain ⟨v, hv⟩ : ∃ v, s.yb.getD i 0 = v := ⟨_, rfl⟩
    rw [hz] at W hB hI
    rw [hv] at C hB
    have HW := hid W
    have HA := hid A
    by_cases h0 : z < 0
    · have HB : Hid (atB s y = false) := hid (by rw [hB, decide_eq_false (by omega)]; rfl)
      have HI : Hid (atI s y = 0) := hid (by rw [hI, HB.out]; rfl)
      rw [HB.out, HI.out]
      clear A W hB hI hz hv hp hx
      go_enter Try.func103, Try.ntmps103
      go_wp2_with (first
        | (go_at_call 99; refine (jmade h).mono ?_; rintro e w' ⟨rfl, rfl⟩)
        | (go_at_call 100; refine HA.out.mono ?_; rintro e w1 ⟨rfl, hs1⟩; have G2 := Still.cell hs1 F2)
        | (go_at_call 29; refine (HW.out _ hs1).mono ?_; rintro e w' ⟨rfl, rfl⟩))
      go_ret2
      exact ⟨rfl, hs1⟩
    · by_cases hvy : v = y
      · have HB : Hid (atB s y = true) := hid (by rw [hB, decide_eq_true (by omega), hvy]; simp)
        have HI : Hid (atI s y = z) := hid (by rw [hI, HB.out]; rfl)
        rw [HB.out, HI.out]
        have d : (v != y) = false := by simp [hvy]
        clear A W hB hI hz hv hp hx hvy
        go_enter Try.func103, Try.ntmps103
        go_wp2_with (first
          | (go_at_call 99; refine (jmade h).mono ?_; rintro e w' ⟨rfl, rfl⟩)
          | (go_at_call 100; refine HA.out.mono ?_; rintro e w1 ⟨rfl, hs1⟩; have G2 := Still.cell hs1 F2; have G1 := Still.cell hs1 F1; have GC := Still.cell hs1 C)
          | (go_at_call 29; refine (HW.out _ hs1).mono ?_; rintro e w' ⟨rfl, rfl⟩))
        go_ret2
        exact ⟨rfl, hs1⟩
      · have HB : Hid (atB s y = false) := hid (by rw [hB, show (v == y) = false by simpa using hvy, Bool.and_false])
        have HI : Hid (atI s y = 0) := hid (by rw [hI, HB.out]; rfl)
        rw [HB.out, HI.out]
        have d : (v != y) = true := by simp [hvy]
        clear A W hB hI hz hv hp hx hvy
        go_enter Try.func103, Try.ntmps103
        go_wp2_with (first
          | (go_at_call 99; refine (jmade h).mono ?_; rintro e w' ⟨rfl, rfl⟩)
          | (go_at_call 100; refine HA.out.mono ?_; rintro e w1 ⟨rfl, hs1⟩; have G2 := Still.cell hs1 F2; have G1 := Still.cell hs1 F1; have GC := Still.cell hs1 C)
          | (go_at_call 29; refine (HW.out _ hs1).mono ?_; rintro e w' ⟨rfl, rfl⟩))
        go_ret2
        exact ⟨rfl, hs1⟩
/-- Where one waits: for the list at a place. -/
theorem atB_nat (hl : s.L.length = s.T) {y : Int} (h : atB s y = true) : ∃ p i : Nat, idxI y = (p : Int) ∧ p < s.T ∧ s.yb.getD p 0 = y ∧ whI s.T s.L (p : Int) = (i : Int) ∧ i < s.T ∧ atI s y = (i : Int) := by
  have h' := h
  unfold atB at h
  rw [Bool.and_eq_true, Bool.and_eq_true] at h
  obtain ⟨hp, h1, h2⟩ := h
  obtain ⟨p, hx, hpT, _⟩ := plc_nat hp
  rw [hx] at h1 h2
  obtain ⟨i, hi⟩ := Int.eq_ofNat_of_zero_le (of_decide_eq_true h1)
  refine ⟨p, i, hx, hpT, by simpa using h2, hi, ?_, ?_⟩
  · have := whI_lt hl (p : Int); omega
  · unfold atI; rw [h', if_pos rfl, hx, hi]
def whJ (s : JS) (y : Int) : Int := if atB s y then s.rw.getD ((atI s y).toNat * 3) 0 else 0
set_option maxRecDepth 100000 in
theorem jwhere (h : JAt w J s) (y : Int) (hy : inI y) : Calls Try.prog 48 #[.pointer (some ⟨J.P, 0, none⟩), .int .i64 y] w fun e w' => e = .returned (.int .i64 (whJ s y)) ∧ Still w w' := by
  have A := jat h y hy
  unfold whJ
  cases hb : atB s y with
  | false =>
    rw [hb] at A
    have HA := hid A
    clear A hb
    go_enter Try.func48, Try.ntmps48
    go_wp2_with (go_at_call 103; refine HA.out.mono ?_; rintro e w1 ⟨rfl, hs1⟩)
    go_ret
    exact ⟨rfl, hs1⟩
  | true =>
    obtain ⟨p, i, hx, hpT, _, hi, hiT, hai⟩ := atB_nat h.ll hb
    rw [hb, hai] at A
    rw [hai, Int.toNat_natCast]
    have C := h.cR (i := i * 3) (by omega)
    have F0 := h.f0
    have hiT' : (i : Int) < (s.T : Int) := by omega
    generalize s.rw.getD (i * 3) 0 = v at C ⊢
    have T1 := h.T1
    have HA := hid A
    clear A hb hai hx hi
    go_enter Try.func48, Try.ntmps48
    go_wp2_with (go_at_call 103; refine HA.out.mono ?_; rintro e w1 ⟨rfl, hs1⟩; have G0 := Still.cell hs1 F0; have GC := Still.cell hs1 C)
    go_ret
    exact ⟨rfl, hs1⟩
def dropJ (s : JS) (y : Int) : JS := if atB s y then { s with L := remL s.T s.L (idxI y) } else s
theorem JAt.setL {w' : World} {L' : List (List Nat)} (h : JAt w J s) (hl : LsAt w' J.B s.T L') (hf : Fr J.B.foot w w') (hn : L'.length = s.L.length) : JAt w' J { s with L := L' } :=
  { h with hp := h.hp.fr hf h.dP, hr := h.hr.fr hf h.dR, hy := IBlk.fr h.hy hf h.dY, hl := hl, ll := hn.trans h.ll }
theorem rem_ok {p i : Nat} (hpT : p < s.T) (hi : whI s.T s.L (p : Int) = (i : Int)) : remE' s.T s.L (p : Int) = 0 := by
  unfold remE'; rw [if_pos ⟨by omega, by omega⟩, Int.toNat_natCast]
  unfold whI at hi; rw [if_pos ⟨by omega, by omega⟩, Int.toNat_natCast] at hi
  rw [hi, if_neg (by omega)]
set_option maxRecDepth 100000 in
set_option maxHeartbeats 1000000 in
theorem jdrop (h : JAt w J s) (y : Int) (hy : inI y) : Calls Try.prog 62 #[.pointer (some ⟨J.P, 0, none⟩), .int .i64 y] w fun e w' => e = .returned (.bool (atB s y)) ∧ JAt w' J (dropJ s y) ∧ Fr J.foot w w' := by
  have A := jat h y hy
  unfold dropJ
  cases hb : atB s y with
  | false =>
    rw [if_neg (by decide)]
    rw [hb] at A
    have HA := hid A
    clear A hb
    go_enter Try.func62, Try.ntmps62
    go_wp2_with (go_at_call 103; refine HA.out.mono ?_; rintro e w1 ⟨rfl, hs1⟩)
    go_quiet (fail)
    go_wp2_with fail
    go_ret
    exact ⟨rfl, h.still (hs1.drewN _), (hs1.drewN _).fr _⟩
  | true =>
    obtain ⟨p, i, hx, hpT, _, hi, hiT, hai⟩ := atB_nat h.ll hb
    have hE := rem_ok hpT hi
    rw [hb] at A
    rw [hx, if_pos rfl]
    have X := fun W => jindex W y hy
    rw [hx] at X
    have HX := hid X
    have HR := hid (fun W (hs : Still w W) => remove_ls (h.still hs).hl (p : Int))
    rw [hE] at HR
    have F2 := h.f2
    have HA := hid A
    have HH := hid h
    clear A hb hai hx hi hE X
    go_enter Try.func62, Try.ntmps62
    go_wp2_with (go_at_call 103; refine HA.out.mono ?_; rintro e w1 ⟨rfl, hs1⟩)
    have G2 := Still.cell hs1 F2
    have HS1 := hid (show ∀ n, Still w (w1.drewN n) from fun n => hs1.drewN n)
    clear F2
    go_region_held3 (fun w' => w'.cell? ⟨J.P, 2, none⟩ = some (.pointer (some ⟨J.B.p, 0, none⟩)))
      (first | exact G2 | exact Fr.cellK f3 G2 HH.out.dP)
      (first
        | (go_at_call 105; refine (HX.out _).mono ?_; rintro e w' ⟨rfl, rfl⟩)
        | (go_at_call 42; refine (HR.out _ hs1.drew).mono ?_; rintro e w3 ⟨rfl, hl3, f3⟩))
    go_wp2_with fail
    go_ret
    have f3' : Fr J.B.foot w w3 := (hs1.fr _).drew.trans f3
    exact ⟨rfl, HH.out.setL hl3 f3' (remL_len _ _ _), f3'.mono fun _ _ h => .inr (.inr h)⟩
end
end Go.Proofs.Ytffjaaolcphonaa
/- A region that draws its order within a fence, whose operations call nothing: walked as one outside of it. -/
namespace Go.Proofs.Ytffjaaolcphonaa.Held
open Go
section
variable {P : Program} {md : Region.Mode}
/-- A result that enters nothing. -/
def Calm : Result Next → Prop
  | .ok (.value _) _ => True
  | .ok .skip _ => True
  | .halt _ _ => True
  | _ => False
theorem calm_v (s : Sem Value) (w : World) : Calm ((do pure (Next.value (← s)) : Sem Next).run P w) := by
  simp only [Sem.run_bind, Sem.run_pure]
  cases s.run P w <;> trivial
theorem calm_u (s : Sem Unit) (w : World) : Calm ((do s; pure Next.skip : Sem Next).run P w) := by
  simp only [Sem.run_bind, Sem.run_pure]
  cases s.run P w <;> trivial
/-- An operation that calls nothing. -/
def plainB (o : Oper) : Bool := match o.op with
  | .move _ | .assign _ | .load _ _ | .store _ _ _ | .buildSlice _ _ _ | .fieldAddr _ _ _ | .indexAddr _ _ _ | .binOp _ _ _ _ _ | .box _ _ | .build _ _ => true
  | .call c => (match c.callee with | .builtin .append => true | .builtin .len => true | _ => false)
  | .nilCheck _ => true
  | _ => false
theorem calm_rt (w : World) : Calm ((runtimePanic .nilDeref : Sem Next).run P w) := by
  unfold runtimePanic
  simp only [Sem.run_bind, run_program, Result.andThen_ok, run_goPanic]; trivial
theorem calm_w (r : Result Value) : Calm (r.andThen fun a w' => Result.ok (Next.value a) w') := by
  cases r <;> trivial
theorem calm_op (o : Oper) (ρ : Operand → Value) (w : World) (h : plainB o = true) : Calm ((execOp ρ o).run P w) := by
  unfold plainB at h
  unfold execOp
  split at h
  all_goals (try simp only [*])
  all_goals first
    | exact calm_v _ w
    | exact calm_u _ w
    | trivial
    | skip
  · rename_i c _
    split at h
    · rename_i hc
      simp only [resolve, hc, Sem.run_bind, Sem.run_pure, Result.andThen_ok, invoke, builtin]
      exact calm_w _
    · rename_i hc
      simp only [resolve, hc, Sem.run_bind, Sem.run_pure, Result.andThen_ok, invoke, builtin]
      exact calm_w _
    · cases h
  · split
    · exact calm_rt w
    · exact calm_rt w
    · exact calm_rt w
    · split
      · exact calm_rt w
      · rename_i t v _
        simp only [Sem.run_bind, run_program, Result.andThen_ok]
        cases (nilAhead _ t v _).run P w with
        | ok b w' =>
          simp only [Result.andThen_ok]
          split
          · simp only [Sem.run_bind, run_unsupported]; trivial
          · trivial
        | halt h w' => trivial
      · trivial
    · trivial
theorem upon_calm {F : Fence} {n : Nat} {o : Oper} {a : Act} {K K' : Act → World → Prop} {Q : Exit → Act → World → Prop} {R : Act → World → Prop} {r : Result Next} (hr : Calm r) (hK : ∀ a w, K a w → K' a w)
    (h : o.upon P a K (fun e a w => e = .normal ∧ R a w) r) : o.uponIn F n P a K' Q r := by
  cases r with
  | ok x w' =>
    cases x <;> simp only [Calm] at hr <;> simp only [Oper.upon, Oper.uponIn] at h ⊢
    case value u => exact hK _ _ h
    case skip => exact hK _ _ h
  | halt x w' =>
    cases x <;> simp only [Oper.upon, Oper.uponIn] at h ⊢
    case panic u => exact absurd h.1 (by intro e; cases e)
theorem wpOp_in {F : Fence} {n : Nat} (hF : ∀ f, F.fn f) {ops : Array Oper} {K K' : Act → World → Prop} {Q : Exit → Act → World → Prop} {R : Act → World → Prop} {i : Nat} {a : Act} {w : World} (hp : ops.all plainB = true) (hK : ∀ a w, K a w → K' a w)
    (h : wpOp P ops (fun e a w => e = .normal ∧ R a w) i K a w) : wpOpIn F n P ops Q i K' a w := by
  unfold wpOp at h
  unfold wpOpIn
  cases ho : ops[i]? with
  | none => rw [ho] at h; exact hK _ _ h
  | some o =>
    rw [ho] at h
    have hpo : plainB o = true := by
      obtain ⟨hi, e⟩ := Array.getElem?_eq_some_iff.1 ho
      exact e ▸ Array.all_eq_true.1 hp i hi
    simp only at h ⊢
    split
    · rename_i hw
      rw [if_pos hw] at h
      rcases h with h | ⟨_, a', w', h, _⟩
      · refine ⟨fun f _ => hF f, ?_⟩
        rw [Oper.semAt_eq F.round a.eval o (fun c e => by unfold plainB at hpo; rw [e] at hpo; cases hpo)]
        exact upon_calm (calm_op o a.eval w hpo) hK h
      · cases h
    · rename_i hw
      rw [if_neg hw] at h
      exact ⟨fun f _ => hF f, hK _ _ h⟩
theorem wpAny_in {F : Fence} {n : Nat} (hF : ∀ f, F.fn f) {ops : Array Oper} {Q : Exit → Act → World → Prop} {R : Act → World → Prop} (hp : ops.all plainB = true) (hQ : ∀ a w, R a w → Q .normal a w) :
    ∀ (f : Nat) (l : Array Bool) (a : Act) (w : World), wpAny P md ops (fun e a w => e = .normal ∧ R a w) f l a w → wpAnyIn F n P md ops Q f l a w
  | 0, _, _, _, h => ⟨h.1, hQ _ _ h.2.2⟩
  | f + 1, _, _, _, h => ⟨fun hr => hQ _ _ (h.1 hr).2, fun i hi => wpOp_in hF hp (fun a' w' h' => wpAny_in hF hp hQ f _ a' w' h') (h.2 i hi)⟩
/-- A drawn region within a fence, whose operations call nothing. -/
theorem wpIn_region_plain {F : Fence} {n : Nat} (hF : ∀ f, F.fn f) {id : Nat} {Q : Exit → Act → World → Prop} {a : Act} {w : World} {l : List Oper} (hm : P.follows .mixedOrders = true) (hp : l.toArray.all plainB = true)
    (h : ∀ R : Act → World → Prop, (∀ a w, Q .normal a w → R a w) → wpAny P .any l.toArray (fun e a w => e = .normal ∧ R a w) l.toArray.size (Array.replicate l.toArray.size false) a w.drew) : (Code.region id l.toArray true).wpIn F n P Q a w :=
  wpIn_region_any hm (wpAny_in (R := Q .normal) hF hp (fun _ _ h => h) _ _ _ _ (h _ (fun _ _ h => h)))
/-- The same, with a forced tail cut off (Held.wp_region_held_tail). -/
theorem wpIn_region_held_tail {F : Fence} {m : Nat} (hF : ∀ f, F.fn f) {id : Nat} {Q : Exit → Act → World → Prop} {a : Act} {w : World} {S : World → Prop} {l : List Oper} (n : Nat) (hm : P.follows .mixedOrders = true) (hp : l.toArray.all plainB = true) (hB : tailB (l.take n) (l.drop n) = true) (hn : n ≤ l.length)
    (hS : S w.drew) (h : S w.drew → wpAnyH P .any (l.take n).toArray (tailQ P l.toArray (fun e a w => e = .normal ∧ Q .normal a w) (l.drop n)) S n (Array.replicate n false) a w.drew) : (Code.region id l.toArray true).wpIn F m P Q a w := by
  refine wpIn_region_any hm (wpAny_in (R := Q .normal) hF hp (fun _ _ h => h) _ _ _ _ ?_)
  have hl : l.take n ++ l.drop n = l := List.take_append_drop n l
  have hlen : (l.take n).length = n := by simp [hn]
  have h0 := wpAny_of_held _ _ _ _ (h hS)
  have inv0 : HeadInv .any (l.take n ++ l.drop n).toArray (l.take n).length (Array.replicate l.length false) :=
    ⟨by simp, fun j oj _ hl => (by rw [getD_replicate_false] at hl; cases hl), fun t _ ht => getD_in (by simpa using ht) (getD_replicate_false _ _)⟩
  have := wpAny_tail (P := P) (Q := fun e a w => e = .normal ∧ Q .normal a w) hB n (Array.replicate n false) (Array.replicate l.length false) a w.drew (by simp [hn]) inv0 (fun i _ => by rw [getD_replicate_false, getD_replicate_false]) (by rw [hl]; exact h0)
  rw [hl] at this
  have e : n + (l.drop n).length = l.toArray.size := by simp; omega
  rw [e] at this
  exact this
end
end Go.Proofs.Ytffjaaolcphonaa.Held
/- The ends: who waits for what is at a place. -/
namespace Go.Proofs.Ytffjaaolcphonaa
open Go.RowKit Go.Shelf
attribute [local go_sem] Oper.semAt_some
set_option linter.unusedSimpArgs false
/-- The ids of those in a list. -/
def idL (s : JS) (i : Nat) : List Int := (gl s.L i).map fun p => s.yb.getD p 0
set_option maxRecDepth 100000 in
set_option maxHeartbeats 2000000 in
theorem jids0 (w : World) (J : JB) (s : JS) (h : JAt w J s) (i : Nat) (hi' : i < s.L.length) :
    Calls Try.prog 104 #[.pointer (some ⟨J.P, 0, none⟩), .int .i64 i] w fun e W' => ∃ v, e = .returned v ∧ W'.ownsRow w.heap.size 3 1 v (gl s.L i).length (ints (idL s i)) ∧ Below w.heap.size w W' := by
  obtain ⟨r, hR, hv, hrt⟩ := h.hl
  have hlen : (gl s.L i).length ≤ 10000 := by have := hv.le hi'; have := hR.t1; omega
  obtain ⟨q0, hq0, hseq⟩ := hv.seq hR.sz hi'
  have hxt := hid (fun x (hx : x ∈ gl s.L i) => (hv.yes i x hi' hx).1)
  have hic := hv.len ▸ hi'
  unfold idL
  obtain ⟨xs, hxs⟩ : ∃ xs, gl s.L i = xs := ⟨_, rfl⟩
  rw [hxs] at hlen hseq hxt ⊢
  have HQ := hid hq0
  have HL := hid hseq
  have HRT := hid hrt
  clear hq0 hseq hxs hrt
  have hRlt := hR.hp.lt
  have hNlt := hR.hn.lt
  have hPlt := h.hp.lt
  have hYlt := h.hy.lt
  refine (callsIn_wide (n := 4)).1 ?_
  refine callsIn_of_wp_marks Try.func104 rfl trivial ?_ rfl
  simp only [Try.ntmps104, List.size_toArray, List.length_cons, List.length_nil, Nat.reduceAdd, Nat.reduceSub, Array.replicate_succ, Array.replicate_zero, List.push_toArray, List.append_toArray, List.nil_append, List.cons_append]
  have h0 : JAt ((w.alloc (.cells #[.pointer (some ⟨J.P, 0, none⟩)] 73)).alloc (.cells #[.slice none 0 0] 28)) J s := h.still (((Still.refl w).alloc _).alloc _)
  have cl := h0.f2
  gi_wp2_with (first | (refine ⟨trivial, ?_⟩; gi_at_call 78; refine (callsIn_wide.2 (all_any _ _ _)).mono ?_; rintro e w' ⟨rfl, rfl⟩))
  obtain ⟨W0, hW0⟩ : ∃ W0, (((w.alloc (.cells #[.pointer (some ⟨J.P, 0, none⟩)] 73)).alloc (.cells #[.slice none 0 0] 28)).alloc (.cells #[.pointer (some ⟨J.B.p, 0, none⟩)] 23)).alloc (.cells #[.int .i64 (i : Int)] 3) = W0 := ⟨_, rfl⟩
  have hS0 : W0.heap.size = w.heap.size + 1 + 1 + 1 + 1 := by rw [← hW0]; simp
  have bE : Box W0 w.heap.size (.pointer (some ⟨J.P, 0, none⟩)) 73 := by rw [← hW0]; exact (((box_new w _ 73).alloc _).alloc _).alloc _
  have bO : Boxed W0 (w.heap.size + 1) 28 (.slice none 0 0) := by rw [← hW0]; have := ((Boxed.new (w.alloc (.cells #[.pointer (some ⟨J.P, 0, none⟩)] 73)) 28 (.slice none 0 0)).alloc (.cells #[.pointer (some ⟨J.B.p, 0, none⟩)] 23)).alloc (.cells #[.int .i64 (i : Int)] 3); simpa using this
  have bP : Box W0 (w.heap.size + 1 + 1) (.pointer (some ⟨J.B.p, 0, none⟩)) 23 := by rw [← hW0]; have := (box_new ((w.alloc (.cells #[.pointer (some ⟨J.P, 0, none⟩)] 73)).alloc (.cells #[.slice none 0 0] 28)) (.pointer (some ⟨J.B.p, 0, none⟩)) 23).alloc (.cells #[.int .i64 (i : Int)] 3); simpa using this
  have bI : Box W0 (w.heap.size + 1 + 1 + 1) (.int .i64 (i : Int)) 3 := by rw [← hW0]; have := box_new (((w.alloc (.cells #[.pointer (some ⟨J.P, 0, none⟩)] 73)).alloc (.cells #[.slice none 0 0] 28)).alloc (.cells #[.pointer (some ⟨J.B.p, 0, none⟩)] 23)) (.int .i64 (i : Int)) 3; simpa using this
  have hB0 : Below w.heap.size w W0 := by rw [← hW0]; exact ((((Below.refl _ w).alloc (Nat.le_refl _) _).alloc (by simp) _).alloc (by simp; omega) _).alloc (by simp; omega) _
  have hJ0 : JAt W0 J s := h.still (Fr.of_below0 hB0 _)
  have hR0 : RawAt W0 J.B r := hR.still (Fr.of_below0 hB0 _)
  rw [hW0]
  refine range_one (n := r.things) (xs := xs) rfl (by simp) (all_stops W0 (w.heap.size + 1 + 1) (w.heap.size + 1 + 1 + 1) i r.things J.B r xs bP bI hR0 hic q0 HQ.out HL.out hxt.out) Kb.trans (kb_b (fun k hk => by rw [hS0]; simp only [aK] at hk; omega))
    (fun pre W => (∃ v, Boxed W (w.heap.size + 1) 28 v ∧ W.ownsRow (w.heap.size + 1 + 1 + 1 + 1) 3 1 v pre.length (ints (pre.map fun p => s.yb.getD p 0)) ∧ True) ∧ Fr (fun k => k = w.heap.size + 1) W0 W)
    ?own ⟨⟨_, bO, World.ownsRow_nil _ _ _ _, trivial⟩, Fr.refl _ _⟩ ?body ?done
  case own =>
    refine OwnFrom.and (Own.from (holdsRow_own (w.heap.size + 1 + 1 + 1 + 1) (w.heap.size + 1) 28 3 1 List.length (fun pre => ints (pre.map fun p => s.yb.getD p 0)) (fun _ _ => True)) _) ?_
    intro pre A A' row hf hg hrow
    exact hf.then (Fr.of_grownBy hg (F := fun k => W0.heap.size ≤ k) (fun k e _ => (hrow k e).1)) (fun i hi h => by omega)
  case body =>
    rintro l pre x W ⟨⟨v, hv, hrow, _⟩, hB⟩ hlen2 hxr
    have hxT : x < s.T := by rw [← HRT.out]; exact hxr
    have hJ1 := hJ0.fr hB (fun k hk e => by have := h.lt hk; omega)
    have F1 := hJ1.f1
    have CY := hJ1.cY hxT
    have hxI : (x : Int) < (s.T : Int) := by omega
    obtain ⟨y, hy⟩ : ∃ y, s.yb.getD x 0 = y := ⟨_, rfl⟩
    rw [hy] at CY
    have HY := hid hy
    have cE : W.cell? ⟨w.heap.size, 0, none⟩ = some (.pointer (some ⟨J.P, 0, none⟩)) := (Blk.fr bE hB (by omega)).cell 0
    simp only [List.setIfInBounds_toArray, List.set_cons_succ, List.set_cons_zero]
    have hc := hv.cell
    have hf := hv.frozen
    have hz := hB.size
    obtain ⟨a5, c5, rfl⟩ := own_shape hrow pre.length rfl
    clear hy
    gi_wp2_with fail
    refine Held.wpIn_region_held_tail (fun _ => trivial) (S := fun w' => w'.cell? ⟨w.heap.size, 0, none⟩ = some (.pointer (some ⟨J.P, 0, none⟩)) ∧ w'.cell? ⟨w.heap.size + 1, 0, none⟩ = some (.slice a5 pre.length c5) ∧ w'.cell? ⟨J.P, 1, none⟩ = some (.slice (some ⟨J.Y, 0, none⟩) s.T J.kY) ∧ w'.cell? ⟨J.Y, x, none⟩ = some (.int .i64 y)) 10 (by kernel_rfl) (by kernel_rfl) (by kernel_rfl) (by decide) ?hS (fun hHeld => ?hR)
    case hS => exact ⟨cE, hc, F1, CY⟩
    simp only [List.take_succ_cons, List.take_zero, List.drop_succ_cons, List.drop_zero]
    refine wpAnyH_take (i := 0) (oi := _) (v := ?v1) rfl (by kernel_rfl) (by kernel_rfl) (by kernel_rfl) (fun _ _ _ h => h) (Or.inl ⟨by rfl, ?y1⟩) (by assumption) ?r1
    case y1 => ((intro w hSw); (try dsimp only at hSw); go_simp; (try with_reducible rfl))
    (try simp only [Act.put, List.setIfInBounds_toArray, List.set_cons_zero, List.set_cons_succ])
    refine wpAnyH_take (i := 1) (oi := _) (v := ?v2) rfl (by kernel_rfl) (by kernel_rfl) (by kernel_rfl) (fun _ _ _ h => h) (Or.inl ⟨by rfl, ?y2⟩) (by assumption) ?r2
    case y2 => ((intro w hSw); (try dsimp only at hSw); go_simp; (try with_reducible rfl))
    (try simp only [Act.put, List.setIfInBounds_toArray, List.set_cons_zero, List.set_cons_succ])
    refine wpAnyH_take (i := 2) (oi := _) (v := ?v3) rfl (by kernel_rfl) (by kernel_rfl) (by kernel_rfl) (fun _ _ _ h => h) (Or.inl ⟨by rfl, ?y3⟩) (by assumption) ?r3
    case y3 => ((intro w hSw); (try dsimp only at hSw); go_simp; (try with_reducible rfl))
    (try simp only [Act.put, List.setIfInBounds_toArray, List.set_cons_zero, List.set_cons_succ])
    refine wpAnyH_take (i := 3) (oi := _) (v := ?v4) rfl (by kernel_rfl) (by kernel_rfl) (by kernel_rfl) (fun _ _ _ h => h) (Or.inl ⟨by rfl, ?y4⟩) (by assumption) ?r4
    case y4 => ((intro w hSw); (try dsimp only at hSw); go_simp; (try with_reducible rfl))
    (try simp only [Act.put, List.setIfInBounds_toArray, List.set_cons_zero, List.set_cons_succ])
    refine wpAnyH_take (i := 4) (oi := _) (v := ?v5) rfl (by kernel_rfl) (by kernel_rfl) (by kernel_rfl) (fun _ _ _ h => h) (Or.inl ⟨by rfl, ?y5⟩) (by assumption) ?r5
    case y5 => ((intro w hSw); (try dsimp only at hSw); go_simp; (try with_reducible rfl))
    (try simp only [Act.put, List.setIfInBounds_toArray, List.set_cons_zero, List.set_cons_succ])
    refine wpAnyH_take (i := 5) (oi := _) (v := ?v6) rfl (by kernel_rfl) (by kernel_rfl) (by kernel_rfl) (fun _ _ _ h => h) (Or.inl ⟨by rfl, ?y6⟩) (by assumption) ?r6
    case y6 => ((intro w hSw); (try dsimp only at hSw); go_simp; (try with_reducible rfl))
    (try simp only [Act.put, List.setIfInBounds_toArray, List.set_cons_zero, List.set_cons_succ])
    refine wpAnyH_take (i := 6) (oi := _) (v := ?v7) rfl (by kernel_rfl) (by kernel_rfl) (by kernel_rfl) (fun _ _ _ h => h) (Or.inl ⟨by rfl, ?y7⟩) (by assumption) ?r7
    case y7 => ((intro w hSw); (try dsimp only at hSw); go_simp; (try with_reducible rfl))
    (try simp only [Act.put, List.setIfInBounds_toArray, List.set_cons_zero, List.set_cons_succ])
    refine wpAnyH_take (i := 7) (oi := _) (v := ?v8) rfl (by kernel_rfl) (by kernel_rfl) (by kernel_rfl) (fun _ _ _ h => h) (Or.inl ⟨by rfl, ?y8⟩) (by assumption) ?r8
    case y8 => ((intro w hSw); (try dsimp only at hSw); go_simp; (try with_reducible rfl))
    (try simp only [Act.put, List.setIfInBounds_toArray, List.set_cons_zero, List.set_cons_succ])
    refine wpAnyH_ready (rs := [8]) (by kernel_rfl) (by simp) ?_
    refine AllReadyH.cons rfl (fun K hK => ?st9) AllReadyH.nil
    go_simp
    refine hK.out _ _ ?k9 (fun hHeld9 => ?_)
    case k9 =>
      go_keep
    clear hK K
    (try simp only [Act.put, List.setIfInBounds_toArray, List.set_cons_zero, List.set_cons_succ])
    refine wpAnyH_ready (rs := [9]) (by kernel_rfl) (by simp) ?_
    refine AllReadyH.cons rfl (fun K hK => ?st10) AllReadyH.nil
    refine step_append_irow rfl (.tmp 14) (.tmp 22) rfl (w.heap.size + 1 + 1 + 1 + 1) pre.length (pre.map fun p => s.yb.getD p 0) [y] _ _ rfl rfl ?_ ?_ ?_ ?_ ?_
    · exact (hrow.alloc _).drew
    · exact IRow.drew (one_new _ _ _)
    · simp only [List.length_cons, List.length_nil]; omega
    · simp; omega
    intro v1 w1 ho1 hg1 _
    obtain ⟨a6, c6, rfl⟩ := own_shape ho1 (pre.length + 1) (by simp)
    have hap := appended_fr (W := W.drew) (t := 28) (e := 3) (show Boxed W.drew _ _ _ from hv) (by decide) (World.ownsRow.drew hrow) (by simp; omega) ho1 hg1
    obtain ⟨hv1, hv2, hr2, hk2, hf2⟩ := hap
    have fr1 : Fr (fun k => w.heap.size + 1 + 1 + 1 + 1 ≤ k) W w1 := ((((Fr.refl (fun k => w.heap.size + 1 + 1 + 1 + 1 ≤ k) W).drew).alloc _)).trans (Fr.own_fr (World.ownsRow.drew (hrow.alloc _)) hg1)
    have e1 := fr1.cellK cE (by omega)
    have e2 := hv1.cell
    have z2 := hv1.frozen
    have e3 := fr1.cellK F1 (by have := h.lt (k := J.P) (.inl rfl); omega)
    have e4 := fr1.cellK CY (by have := h.lt (k := J.Y) (.inr (.inr (.inl rfl))); omega)
    refine hK.out _ _ ?k10 (fun hHeld10 => ?_)
    case k10 =>
      exact ⟨e1, e2, e3, e4⟩
    clear hK K
    (try simp only [Act.put, List.setIfInBounds_toArray, List.set_cons_zero, List.set_cons_succ])
    refine wpAnyH_done (by kernel_rfl) (Held.tailQ_normal ?_) _
    go_wp2
    refine ⟨rfl, ⟨hk2.size, fun k o _ hk ho => hk2.same k o hk ho⟩, ?_, ⟨_, hv2, ?_, trivial⟩, hB.then (Fr.trans (Fr.drew (Fr.refl (fun k => k = w.heap.size + 1 ∨ w.heap.size + 1 + 1 + 1 + 1 ≤ k) W)) hf2) (fun k hk h => by rcases h with h | h <;> omega)⟩
    · exact Kb.of_fr (Fr.trans (Fr.drew (Fr.refl (fun k => k = w.heap.size + 1 ∨ w.heap.size + 1 + 1 + 1 + 1 ≤ k) W)) hf2) (fun k hk => ⟨by simp only [aK] at hk; omega, by simp only [aK] at hk; omega⟩)
    · rw [List.map_append, List.length_append]
      show World.ownsRow _ _ _ _ _ _ (ints (List.map _ pre ++ [s.yb.getD x 0]))
      rw [HY.out]; exact hr2
  case done =>
    rintro D W hD ⟨⟨v, hv, hrow, _⟩, hB⟩ hK
    have hc := hv.cell
    gi_wp2
    refine ⟨by simp, .inl ⟨_, _, rfl, run_takeDeferred hK, ?_⟩⟩
    refine ⟨_, results_tmp rfl _ _ _, v, rfl, ownsRow_base (ownsRow_putObj hrow _ hK rfl) (by omega), hB0.trans (Below.trans ?_ (belowK_b (w := w) (Nat.le_refl _) W D _ _ (by omega) hK rfl rfl))⟩
    exact (hB.below (B := w.heap.size) (by omega) (fun k h => by omega))
theorem jids {w : World} {J : JB} {s : JS} (h : JAt w J s) (i : Nat) (hi : i < s.T) :
    Calls Try.prog 104 #[.pointer (some ⟨J.P, 0, none⟩), .int .i64 i] w fun e W' => ∃ a c, e = .returned (.slice a (idL s i).length c) ∧ IRow W' (.slice a (idL s i).length c) (idL s i) ∧ Still w W' ∧ (∀ b o, a = some ⟨b, o, none⟩ → w.heap.size ≤ b) := by
  refine (jids0 w J s h i (by rw [h.ll]; exact hi)).mono ?_
  rintro e W' ⟨v, rfl, h1, h2⟩
  have hr : IRow W' v (idL s i) := IRow.of_owns h1 (by simp [idL])
  obtain ⟨a, c, hv⟩ := hr.len
  subst hv
  exact ⟨a, c, rfl, hr, Fr.of_below0 h2 _, own_addr h1⟩
end Go.Proofs.Ytffjaaolcphonaa
/- The ends: Waiters, End. -/
namespace Go.Proofs.Ytffjaaolcphonaa
open Go.RowKit
set_option linter.unusedSimpArgs false
def goB (s : JS) (id : Int) : Bool := kn s id && (s.rw.getD ((idxI id).toNat * 3 + 1) 0 == 1 && s.rw.getD ((idxI id).toNat * 3 + 2) 0 == 0)
def wtJ (s : JS) (id : Int) : List Int := if goB s id then idL s (idxI id).toNat else []
section
variable {w : World} {J : JB} {s : JS}
theorem agg3_eq (a b c d e f : Int) : ((Value.agg #[.int .i64 a, .int .i64 b, .int .i64 c]) = .agg #[.int .i64 d, .int .i64 e, .int .i64 f]) ↔ (a = d ∧ b = e ∧ c = f) := by
  constructor
  · intro h; injection h with h; injection h with h; simp at h; exact h
  · rintro ⟨rfl, rfl, rfl⟩; rfl
set_option maxRecDepth 100000 in
set_option maxHeartbeats 1000000 in
theorem jwaiters (h : JAt w J s) (id : Int) (hi : inI id) : Calls Try.prog 59 #[.pointer (some ⟨J.P, 0, none⟩), .int .i64 id] w (fun e W' => ∃ a c, e = .returned (.slice a (wtJ s id).length c) ∧ IRow W' (.slice a (wtJ s id).length c) (wtJ s id) ∧ Still w W' ∧ (0 < (wtJ s id).length → ∀ b o, a = some ⟨b, o, none⟩ → w.heap.size ≤ b)) := by
  have A := jfind h id hi
  unfold rowP at A
  cases hk : kn s id with
  | false =>
    have HW : Hid (wtJ s id = []) := hid (by unfold wtJ goB; rw [hk]; rfl)
    rw [HW.out]
    rw [hk] at A
    have HA := hid A
    clear A hk
    go_enter Try.func59, Try.ntmps59
    go_wp2_with (go_at_call 102; refine HA.out.mono ?_; rintro e w1 ⟨rfl, hs1⟩)
    go_ret
    exact ⟨none, 0, rfl, .inl ⟨rfl, _, _, rfl⟩, hs1, fun h => absurd h (by simp)⟩
  | true =>
    obtain ⟨i, hx, h1, _, hid0⟩ := kn_nat hk
    have C0 := h.cR (i := i * 3) (by omega)
    have C1 := h.cR (i := i * 3 + 1) (by omega)
    have C2 := h.cR (i := i * 3 + 2) (by omega)
    have hG : goB s id = (s.rw.getD (i * 3 + 1) 0 == 1 && s.rw.getD (i * 3 + 2) 0 == 0) := by unfold goB; rw [hk, hx, Int.toNat_natCast]; rfl
    have hWT : wtJ s id = if goB s id then idL s i else [] := by unfold wtJ; rw [hx, Int.toNat_natCast]
    have hplc : plc s id = true := by unfold kn at hk; rw [Bool.and_eq_true] at hk; exact hk.1
    have HPL := hid (fun W (hs : Still w W) => jplace (h.still hs) id hi)
    have HID := hid (fun W (hs : Still w W) => jids (h.still hs) i h1)
    rw [hx, hplc] at HPL
    rw [hk, hx, Int.toNat_natCast] at A
    rw [hid0] at C0
    generalize s.rw.getD (i * 3 + 1) 0 = st at C1 hG
    generalize s.rw.getD (i * 3 + 2) 0 = v at C2 hG
    have HA := hid A
    have HWT := hid hWT
    by_cases hg : st = 1 ∧ v = 0
    · obtain ⟨rfl, rfl⟩ := hg
      have HW : Hid (wtJ s id = idL s i) := hid (by rw [hWT, hG]; rfl)
      rw [HW.out]
      generalize idL s i = l at HID
      clear A hk hx hG hWT hid0 hplc
      go_enter Try.func59, Try.ntmps59
      go_wp2_with (first
        | (go_at_call 102; refine HA.out.mono ?_; rintro e w1 ⟨rfl, hs1⟩; have G0 := Still.cell hs1 C0; have G1 := Still.cell hs1 C1; have G2 := Still.cell hs1 C2)
        | (go_at_call 100; refine (HPL.out _ hs1).mono ?_; rintro e w2 ⟨rfl, hs2⟩)
        | (go_at_call 104; refine (HID.out _ (hs1.trans hs2)).mono ?_; rintro e w3 ⟨a3, c3, rfl, r3, hs3, n3⟩))
      go_ret
      exact ⟨a3, c3, rfl, r3, (hs1.trans hs2).trans hs3, fun _ b o e => Nat.le_trans (hs1.trans hs2).size (n3 b o e)⟩
    · have HW : Hid (wtJ s id = []) := hid (by rw [hWT, hG, if_neg (by simpa using hg)])
      rw [HW.out]
      clear A hk hx hG hWT hid0 hplc
      rcases (show ¬ st = 1 ∨ (st = 1 ∧ ¬ v = 0) by by_cases e : st = 1; exact .inr ⟨e, fun e2 => hg ⟨e, e2⟩⟩; exact .inl e) with h2 | ⟨rfl, h2⟩
      all_goals
        clear hg
        go_enter Try.func59, Try.ntmps59
        go_wp2_with (first
          | (go_at_call 102; refine HA.out.mono ?_; rintro e w1 ⟨rfl, hs1⟩; have G0 := Still.cell hs1 C0; have G1 := Still.cell hs1 C1; have G2 := Still.cell hs1 C2))
        go_ret
        exact ⟨none, 0, rfl, .inl ⟨rfl, _, _, rfl⟩, hs1, fun h => absurd h (by simp)⟩
end
end Go.Proofs.Ytffjaaolcphonaa
/- The ends: End. -/
namespace Go.Proofs.Ytffjaaolcphonaa
open Go.RowKit
set_option linter.unusedSimpArgs false
def endB (s : JS) (id : Int) : Bool := kn s id && (s.rw.getD ((idxI id).toNat * 3 + 1) 0 == 1)
def remAll (T : Nat) : List Int → List (List Nat) → List (List Nat)
  | [], L => L
  | y :: ys, L => remAll T ys (remL T L (idxI y))
theorem remAll_snoc (T : Nat) (ys : List Int) (y : Int) : ∀ L, remAll T (ys ++ [y]) L = remL T (remAll T ys L) (idxI y) := by
  induction ys with
  | nil => intro L; rfl
  | cons z ys ih => intro L; exact ih _
theorem remAll_len (T : Nat) (ys : List Int) : ∀ L, (remAll T ys L).length = L.length := by
  induction ys with
  | nil => intro L; rfl
  | cons z ys ih => intro L; exact (ih _).trans (remL_len _ _ _)
def endT (s : JS) (id : Int) : List Int := if endB s id then idL s (idxI id).toNat else []
def endE (s : JS) (id : Int) : Int := if endB s id then 0 else 4
def endS (s : JS) (id v : Int) : JS := if endB s id then { s with rw := setRow s.rw (idxI id).toNat id 2 v, L := remAll s.T (idL s (idxI id).toNat) s.L } else s
def EndPost (w : World) (J : JB) (s : JS) (id v : Int) (e : Ending) (w' : World) : Prop := ∃ a c, e = .returned (.tuple #[.slice a (endT s id).length c, .int .i64 (endE s id)]) ∧ IRow w' (.slice a (endT s id).length c) (endT s id) ∧ JAt w' J (endS s id v) ∧ Fr J.foot w w' ∧ (0 < (endT s id).length → ∀ b o, a = some ⟨b, o, none⟩ → w.heap.size ≤ b)
theorem row_keep {w1 w2 : World} {n : Nat} {a : Option Addr} {cp : Nat} {xs : List Int} (h : IRow w1 (.slice a xs.length cp) xs) (hnew : 0 < xs.length → ∀ b o, a = some ⟨b, o, none⟩ → n ≤ b) {X : Nat → Prop} (hX : ∀ k, X k → k < n) (hf : Fr X w1 w2) : IRow w2 (.slice a xs.length cp) xs := by
  by_cases h0 : 0 < xs.length
  · refine h.fr hf fun b off c n e hx => ?_
    injection e with e1 _ _
    have := hnew h0 b off e1
    have := hX b hx
    omega
  · have : xs = [] := List.eq_nil_of_length_eq_zero (by omega)
    subst this
    exact .inl ⟨rfl, _, _, rfl⟩
section
variable {w : World} {J : JB} {s : JS}
set_option maxRecDepth 100000 in
set_option maxHeartbeats 4000000 in
theorem jend (h : JAt w J s) (hiy : ∀ p, inI (s.yb.getD p 0)) (id v : Int) (hi : inI id) : Calls Try.prog 49 #[.pointer (some ⟨J.P, 0, none⟩), .int .i64 id, .int .i64 v] w (EndPost w J s id v) := by
  have A := jfind h id hi
  unfold rowP at A
  unfold EndPost
  by_cases hb : endB s id = true
  case neg =>
    have hb' : endB s id = false := by simpa using hb
    have HT : Hid (endT s id = []) := hid (by unfold endT; rw [hb']; rfl)
    have HE : Hid (endE s id = 4) := hid (by unfold endE; rw [hb']; rfl)
    have HS : Hid (endS s id v = s) := hid (by unfold endS; rw [hb', if_neg (by decide)])
    rw [HT.out, HE.out, HS.out]
    cases hk : kn s id with
    | false =>
      rw [hk] at A
      have HA := hid A
      clear A hk hb hb'
      go_enter Try.func49, Try.ntmps49
      go_wp2_with (first
        | (go_at_call 99; refine (jmade h).mono ?_; rintro e w' ⟨rfl, rfl⟩)
        | (go_at_call 102; refine HA.out.mono ?_; rintro e w1 ⟨rfl, hs1⟩))
      go_ret2
      exact ⟨none, 0, rfl, .inl ⟨rfl, _, _, rfl⟩, h.still hs1, hs1.fr _, fun h => absurd h (by simp)⟩
    | true =>
      obtain ⟨i, hx, h1, _, hid0⟩ := kn_nat hk
      have C1 := h.cR (i := i * 3 + 1) (by omega)
      unfold endB at hb'
      rw [hk, hx, Int.toNat_natCast, Bool.true_and] at hb'
      rw [hk, hx, Int.toNat_natCast] at A
      generalize s.rw.getD (i * 3 + 1) 0 = st at C1 hb'
      have d : (st != 1) = true := by simpa using hb'
      have HA := hid A
      clear A hk hx hid0 hb hb'
      go_enter Try.func49, Try.ntmps49
      go_wp2_with (first
        | (go_at_call 99; refine (jmade h).mono ?_; rintro e w' ⟨rfl, rfl⟩)
        | (go_at_call 102; refine HA.out.mono ?_; rintro e w1 ⟨rfl, hs1⟩; have G1 := Still.cell hs1 C1))
      go_ret2
      exact ⟨none, 0, rfl, .inl ⟨rfl, _, _, rfl⟩, h.still hs1, hs1.fr _, fun h => absurd h (by simp)⟩
  have hk : kn s id = true := by unfold endB at hb; rw [Bool.and_eq_true] at hb; exact hb.1
  obtain ⟨i, hx, h1, _, hid0⟩ := kn_nat hk
  have hst : s.rw.getD (i * 3 + 1) 0 = 1 := by unfold endB at hb; rw [Bool.and_eq_true, hx, Int.toNat_natCast] at hb; simpa using hb.2
  have HT : Hid (endT s id = idL s i) := hid (by unfold endT; rw [if_pos hb, hx, Int.toNat_natCast])
  have HE : Hid (endE s id = 0) := hid (by unfold endE; rw [if_pos hb])
  have HS : Hid (endS s id v = { s with rw := setRow s.rw i id 2 v, L := remAll s.T (idL s i) s.L }) := hid (by unfold endS; rw [if_pos hb, hx, Int.toNat_natCast])
  rw [HT.out, HE.out, HS.out]
  have C0 := h.cR (i := i * 3) (by omega)
  have C1 := h.cR (i := i * 3 + 1) (by omega)
  have C2 := h.cR (i := i * 3 + 2) (by omega)
  have Z0 : w.frozen? ⟨J.R, i * 3, none⟩ = false := h.hr.frozen _
  have Z1 : w.frozen? ⟨J.R, i * 3 + 1, none⟩ = false := h.hr.frozen _
  have Z2 : w.frozen? ⟨J.R, i * 3 + 2, none⟩ = false := h.hr.frozen _
  have hRl : J.R < w.heap.size := h.hr.lt
  rw [hst] at C1
  have hplc : plc s id = true := by unfold kn at hk; rw [Bool.and_eq_true] at hk; exact hk.1
  have hsr : ∀ w1, Still w w1 → JAt (rowW J w1 i id 2 v) J { s with rw := setRow s.rw i id 2 v } := fun w1 hs => (h.still hs).setRow i id 2 v
  have HSR := hid hsr
  have HPL := hid (fun W (hW : JAt W J { s with rw := setRow s.rw i id 2 v }) => jplace hW id hi)
  have HID := hid (fun W (hW : JAt W J { s with rw := setRow s.rw i id 2 v }) => jids hW i h1)
  have hidl : idL { s with rw := setRow s.rw i id 2 v } i = idL s i := rfl
  have hpl2 : plc { s with rw := setRow s.rw i id 2 v } id = plc s id := rfl
  rw [hidl] at HID
  rw [hpl2, hx, hplc] at HPL
  have hlen : (idL s i).length ≤ 10000 := by
    unfold idL; rw [List.length_map]
    have := ls_short h.hl i (by rw [h.ll]; exact h1); omega
  have hiyl : ∀ y ∈ idL s i, inI y := fun y hy => by
    unfold idL at hy; obtain ⟨p, _, rfl⟩ := List.mem_map.1 hy; exact hiy p
  have hFoot : ∀ k, J.foot k → k < w.heap.size := fun k hk => h.lt (.inr hk)
  generalize s.rw.getD (i * 3) 0 = v0 at C0
  generalize s.rw.getD (i * 3 + 2) 0 = v2 at C2
  generalize idL s i = told at HID hlen hiyl ⊢
  rw [hk, hx, Int.toNat_natCast] at A
  have HA := hid A
  have HH := hid h
  have HIY := hid hiyl
  clear A hk hx hid0 hb hst HT HE HS hplc hidl hpl2 hsr hiyl h
  go_enter Try.func49, Try.ntmps49
  go_wp2_with (first
    | (go_at_call 99; refine (jmade HH.out).mono ?_; rintro e w' ⟨rfl, rfl⟩)
    | (go_at_call 102; refine HA.out.mono ?_; rintro e w1 ⟨rfl, hs1⟩; have GC := Still.cell hs1 C1; have GC0 := Still.cell hs1 C0; have GC2 := Still.cell hs1 C2; have Y0 := Still.frz hs1 hRl Z0; have Y1 := Still.frz hs1 hRl Z1; have Y2 := Still.frz hs1 hRl Z2)
    | (go_at_call 100; refine (HPL.out _ (HSR.out w1 hs1)).mono ?_; rintro e w2 ⟨rfl, hs2⟩)
    | (go_at_call 104; refine (HID.out _ ((HSR.out w1 hs1).still hs2)).mono ?_; rintro e w3 ⟨a3, c3, rfl, r3, hs3, n3⟩))
  have hF3 : Fr J.foot w w3 := ((hs1.fr _).trans (J.frRow w1 i id 2 v)).trans ((hs2.trans hs3).fr _)
  have hJ3 := (HSR.out w1 hs1).still (hs2.trans hs3)
  have n3' : ∀ b o, a3 = some ⟨b, o, none⟩ → w.heap.size ≤ b := fun b o e => by
    have h1 := n3 b o e
    have h2 := ((hs1.fr J.foot).trans (J.frRow w1 i id 2 v)).size
    have h3 := hs2.size
    omega
  have R3 : Hid (∀ W, Fr J.foot w3 W → IRow W (.slice a3 told.length c3) told) := hid fun W hf => row_keep r3 (fun _ => n3') hFoot hf
  clear r3 n3 C0 C1 C2 Z0 Z1 Z2 GC GC0 GC2 Y0 Y1 Y2
  go_loopw [45] (fun c wr => ∃ j : Nat, c = .int .i64 j ∧ j ≤ told.length ∧ JAt wr J { s with rw := setRow s.rw i id 2 v, L := remAll s.T (told.take j) s.L } ∧ Fr J.foot w3 wr) (fun c _ => told.length - (intOf c).toNat)
  case atStart => exact ⟨0, rfl, Nat.zero_le _, hJ3, Fr.refl _ _⟩
  case round =>
    clear hJ3
    obtain ⟨j, rfl, hj, hJ, hfr⟩ := hrel
    by_cases hlt : j < told.length
    · have hlt' : (j : Int) < (told.length : Int) := by omega
      rcases R3.out wr hfr with ⟨e0, _⟩ | ⟨_, bb, off, c', hv, hcell⟩
      · exfalso; have e1 := congrArg List.length e0; have e2 : told.length = 0 := e1; omega
      obtain rfl : a3 = some ⟨bb, off, none⟩ := by injection hv
      clear hv
      have hy := hcell j hlt
      rw [show told.getD j 0 = told[j] by simp [List.getD, hlt]] at hy
      clear hcell
      have hyi := HIY.out told[j] (List.getElem_mem _)
      have hsn : Hid (remL s.T (remAll s.T (told.take j) s.L) (idxI told[j]) = remAll s.T (told.take (j + 1)) s.L) := hid (by rw [List.take_succ_eq_append_getElem hlt, remAll_snoc])
      have G2 : wr.cell? ⟨J.P, 2, none⟩ = some (.pointer (some ⟨J.B.p, 0, none⟩)) := hJ.f2
      have HJ := hid hJ
      have hdP : ¬ J.B.foot J.P := HH.out.dP
      generalize told[j] = y at *
      have HX := hid (fun W => jindex W y hyi)
      have HR := hid (fun W (hs : Still wr W) => remove_ls (HJ.out.still hs).hl (idxI y))
      clear hJ
      go_wp2_with fail
      go_region_held3 (fun w' => w'.cell? ⟨J.P, 2, none⟩ = some (.pointer (some ⟨J.B.p, 0, none⟩)))
        (first | exact G2 | exact Fr.cellK f4 G2 hdP)
        (first
          | (go_at_call 105; refine (HX.out _).mono ?_; rintro e w' ⟨rfl, rfl⟩)
          | (go_at_call 42; refine (HR.out _ (Fr.refl _ wr).drew).mono ?_; rintro e w4 ⟨rfl, hl4, f4⟩))
      have f4' : Fr J.B.foot wr w4 := ((Fr.refl _ wr).drew).trans f4
      have hJ4 := HJ.out.setL hl4 f4' (remL_len _ _ _)
      have HJ4 := hid hJ4
      have HF4 := hid (hfr.trans (f4'.mono fun _ _ h => .inr (.inr h)))
      clear hJ4 hl4 f4 f4'
      go_wp2_with fail
      go_roundw
      case rel => exact ⟨j + 1, by go_num, by omega, by rw [← hsn.out]; exact HJ4.out, HF4.out⟩
      case measure => simp [intOf]; omega
    · have hlt' : ¬ (j : Int) < (told.length : Int) := by omega
      obtain rfl : told.length = j := by omega
      rw [List.take_length] at hJ
      have HJ := hid hJ
      clear hJ
      go_wp2_with fail
      go_ret2
      exact ⟨a3, c3, rfl, R3.out _ hfr, HJ.out, hF3.trans hfr, fun _ => n3'⟩
end
end Go.Proofs.Ytffjaaolcphonaa
