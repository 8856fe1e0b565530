/- The locks: signal, Signal, Owner, Where, Waiters, Sleepers. -/
import Derived.Test.YtffjaaolcphonaaLock6
namespace Go.Proofs.Ytffjaaolcphonaa
open Go.RowKit
/-- What a signal makes, whom it tells, whether there was one. -/
def sigH (s : LS) (c : Nat) : Nat := (gl s.L (s.n + c)).head?.getD 0
def sigB (s : LS) (c : Nat) : Bool := !(gl s.L (s.n + c)).isEmpty
def sigT (s : LS) (c : Nat) : Int := if gl s.L (s.n + c) = [] then -1 else if getB s (s.ag.getD (sigH s c) 0).toNat then (sigH s c : Int) else -1
def sigS (s : LS) (c : Nat) : LS := if gl s.L (s.n + c) = [] then s else getS { s with L := popL s.L ((s.n + c : Nat) : Int) } (s.ag.getD (sigH s c) 0).toNat (sigH s c)
def ask1E (s : LS) (c : Int) : Int := if allR [c] s.n then 0 else 8
theorem ask1E_ok {s : LS} {c : Int} (h : ask1E s c = 0) : inR c s.n := by
  unfold ask1E at h; split at h
  · rename_i h1; simpa [allR] using h1
  · omega
theorem ls_bd' {w : World} {B : LB} {T : Nat} {L : List (List Nat)} (h : LsAt w B T L) {i x : Nat} (hi : i < L.length) (hx : x ∈ gl L i) : x < T := by
  obtain ⟨r, _, hv, rfl⟩ := h; exact (hv.yes i x hi hx).1
theorem wrap_small {x : Int} (h0 : -1000000 ≤ x) (h1 : x ≤ 1000000) : wrap64 x = x := by unfold wrap64; omega
section
variable {w : World} {K : KB} {s : LS}
set_option maxRecDepth 100000 in
set_option maxHeartbeats 2000000 in
theorem lksignal (h : LkAt w K s) (c : Nat) (hc : c < s.n) : Calls Try.prog 122 #[.pointer (some ⟨K.P, 0, none⟩), .int .i64 c] w fun e w' =>
    e = .returned (.tuple #[.int .i64 (sigT s c), .bool (sigB s c)]) ∧ LkAt w' K (sigS s c) ∧ Fr K.foot w w' := by
  have G2 := h.f2
  have hPB := h.dP
  have hc' : c ≤ 64 := by have := h.n1; omega
  have hcL : inR ((s.n + c : Nat) : Int) s.L.length := ⟨by omega, by rw [h.ll]; omega⟩
  have hst : ∀ w1, LsAt w1 K.B s.T (popL s.L ((s.n + c : Nat) : Int)) → Fr K.B.foot w.drew w1 → LkAt w1 K { s with L := popL s.L ((s.n + c : Nat) : Int) } := fun w1 hl hf => (h.still (Fr.drew (Fr.refl _ _))).setL hl hf (popL_len _ _)
  have HST := hid hst
  clear hst
  by_cases h0 : gl s.L (s.n + c) = []
  · have HP : Hid (popE' s.L ((s.n + c : Nat) : Int) = 4) := by unfold popE'; rw [if_pos hcL, Int.toNat_natCast, if_pos h0]; exact rfl
    have HQ : Hid (popT s.L ((s.n + c : Nat) : Int) = 0) := by unfold popT; rw [if_pos hcL, Int.toNat_natCast, h0]; exact rfl
    have HL : Hid (popL s.L ((s.n + c : Nat) : Int) = s.L) := by unfold popL; rw [HP.out, if_neg (by decide)]; exact rfl
    have HT : Hid (sigT s c = -1) := by unfold sigT; rw [if_pos h0]; exact rfl
    have HB : Hid (sigB s c = false) := by unfold sigB; rw [h0]; exact rfl
    have HS : Hid (sigS s c = s) := by unfold sigS; rw [if_pos h0]; exact rfl
    rw [HT.out, HB.out, HS.out]
    clear h0 hcL
    go_enter Try.func122, Try.ntmps122
    go_wp2_with fail
    go_region_held3 (fun w' => w'.cell? ⟨K.P, 2, none⟩ = some (.pointer (some ⟨K.B.p, 0, none⟩)))
      (first | exact G2 | exact Fr.cellK f3 G2 hPB)
      (first
        | (go_at_call 120; refine (lkcond (h.still (Fr.drew (Fr.refl _ _))) c hc').mono ?_; rintro e w' ⟨rfl, rfl⟩)
        | (go_at_call 41; refine (pop_ls (h.still (Fr.drew (Fr.refl _ _))).hl ((s.n + c : Nat) : Int)).mono ?_; rw [HP.out, HQ.out]; rintro e w3 ⟨rfl, hl3, f3⟩; have h3 := HST.out w3 hl3 f3))
    go_wp2_with fail
    go_ret2
    refine ⟨rfl, ?_, (Fr.drew (Fr.refl K.foot w)).then f3 (fun _ _ h => .inr (.inr h))⟩
    rw [HL.out] at h3
    exact h3
  · obtain ⟨x, ys, hxy⟩ := List.exists_cons_of_ne_nil h0
    have hxs : sigH s c = x := by unfold sigH; rw [hxy]; rfl
    have hxT : x < s.T := ls_bd' h.hl (i := s.n + c) (by rw [h.ll]; omega) (by rw [hxy]; simp)
    have hwf := h.wf x hxT
    have HP : Hid (popE' s.L ((s.n + c : Nat) : Int) = 0) := by unfold popE'; rw [if_pos hcL, Int.toNat_natCast, if_neg h0]; exact rfl
    have HQ : Hid (popT s.L ((s.n + c : Nat) : Int) = x) := by unfold popT; rw [if_pos hcL, Int.toNat_natCast, hxy]; exact rfl
    obtain ⟨o, ho⟩ := Int.eq_ofNat_of_zero_le hwf.1
    have ho' : o < s.n := by have := hwf.2; omega
    have HT : Hid (sigT s c = if getB s o then (x : Int) else -1) := by unfold sigT; rw [if_neg h0, hxs, ho, Int.toNat_natCast]; exact rfl
    have HB : Hid (sigB s c = true) := by unfold sigB; rw [hxy]; exact rfl
    have HS : Hid (sigS s c = getS { s with L := popL s.L ((s.n + c : Nat) : Int) } o x) := by unfold sigS; rw [if_neg h0, hxs, ho, Int.toNat_natCast]; exact rfl
    have HO := hid ho
    rw [HT.out, HB.out, HS.out]
    have hx' : (x : Int) < (s.T : Int) := by omega
    clear h0 hcL hxy hxs hwf ho
    have HG : Hid (∀ L', getB { s with L := L' } o = getB s o) := fun _ => rfl
    cases hb : getB s o
    all_goals
      have HBB := hid hb
      clear hb
      go_enter Try.func122, Try.ntmps122
      go_wp2_with fail
      go_region_held3 (fun w' => w'.cell? ⟨K.P, 2, none⟩ = some (.pointer (some ⟨K.B.p, 0, none⟩)))
        (first | exact G2 | exact Fr.cellK f3 G2 hPB)
        (first
          | (go_at_call 120; refine (lkcond (h.still (Fr.drew (Fr.refl _ _))) c hc').mono ?_; rintro e w' ⟨rfl, rfl⟩)
          | (go_at_call 41; refine (pop_ls (h.still (Fr.drew (Fr.refl _ _))).hl ((s.n + c : Nat) : Int)).mono ?_; rw [HP.out, HQ.out]; rintro e w3 ⟨rfl, hl3, f3⟩; have h3 := HST.out w3 hl3 f3))
      have G1 := h3.f1
      have C := h3.cA hxT
      simp only [HO.out] at C
      go_wp2_with fail
      refine (lkget h3 o x ho').mono ?_
      rw [HG.out, HBB.out]
      rintro e w4 ⟨rfl, h4, f4⟩
      go_wp2_with fail
      go_ret2
      exact ⟨rfl, h4, ((Fr.drew (Fr.refl K.foot w)).then f3 (fun _ _ h => .inr (.inr h))).trans f4⟩
def signalT (s : LS) (c : Int) : Int := if ask1E s c = 0 then sigT s c.toNat else -1
def signalS (s : LS) (c : Int) : LS := if ask1E s c = 0 then sigS s c.toNat else s
set_option maxRecDepth 100000 in
set_option maxHeartbeats 1000000 in
theorem lkSignal (h : LkAt w K s) (c : Int) : Calls Try.prog 72 #[.pointer (some ⟨K.P, 0, none⟩), .int .i64 c] w fun e w' =>
    e = .returned (.tuple #[.int .i64 (signalT s c), .int .i64 (ask1E s c)]) ∧ LkAt w' K (signalS s c) ∧ Fr K.foot w w' := by
  have A1 := ask1 h [c] (by simp) (by simp)
  rw [show (if allR [c] s.n then (0 : Int) else 8) = ask1E s c from rfl] at A1
  by_cases h0 : ask1E s c = 0
  · have hc := ask1E_ok h0
    have HT : Hid (signalT s c = sigT s c.toNat) := by unfold signalT; rw [if_pos h0]; exact rfl
    have HS : Hid (signalS s c = sigS s c.toNat) := by unfold signalS; rw [if_pos h0]; exact rfl
    rw [HT.out, HS.out, h0]
    rw [h0] at A1
    obtain ⟨c, rfl⟩ := Int.eq_ofNat_of_zero_le hc.1
    have hc' : c < s.n := by have := hc.2; omega
    rw [Int.toNat_natCast] at HT HS ⊢
    have HA := hid A1
    clear h0 hc A1
    go_enter Try.func72, Try.ntmps72
    go_wp2_with (first
      | (go_at_call 108; refine (are_made _ _ _ ⟨_, rfl⟩ ⟨_, _, _, rfl⟩).mono ?_; rintro e w' ⟨rfl, rfl⟩)
      | (go_at_call 107; refine HA.out.mono ?_; rintro e w1 ⟨rfl, hs1⟩; have h1 := h.still hs1)
      | (go_at_call 122; refine (lksignal h1 c hc').mono ?_; rintro e w2 ⟨rfl, h2, f2⟩))
    go_ret2
    exact ⟨rfl, h2, (hs1.fr _).trans f2⟩
  · have HT : Hid (signalT s c = -1) := by unfold signalT; rw [if_neg h0]; exact rfl
    have HS : Hid (signalS s c = s) := by unfold signalS; rw [if_neg h0]; exact rfl
    rw [HT.out, HS.out]
    obtain ⟨z, hz⟩ : ∃ z, ask1E s c = z := ⟨_, rfl⟩
    rw [hz] at h0 A1 ⊢
    have HA := hid A1
    clear A1 hz
    go_enter Try.func72, Try.ntmps72
    go_wp2_with (first
      | (go_at_call 108; refine (are_made _ _ _ ⟨_, rfl⟩ ⟨_, _, _, rfl⟩).mono ?_; rintro e w' ⟨rfl, rfl⟩)
      | (go_at_call 107; refine HA.out.mono ?_; rintro e w1 ⟨rfl, hs1⟩; have h1 := h.still hs1))
    go_ret2
    exact ⟨rfl, h1, hs1.fr _⟩
def ownerI (s : LS) (o : Int) : Int := if ask1E s o = 0 then s.ow.getD o.toNat 0 else -1
set_option maxRecDepth 100000 in
set_option maxHeartbeats 1000000 in
theorem lkowner (h : LkAt w K s) (c : Int) : Calls Try.prog 56 #[.pointer (some ⟨K.P, 0, none⟩), .int .i64 c] w fun e w' => e = .returned (.int .i64 (ownerI s c)) ∧ Still w w' := by
  have A1 := ask1 h [c] (by simp) (by simp)
  rw [show (if allR [c] s.n then (0 : Int) else 8) = ask1E s c from rfl] at A1
  by_cases h0 : ask1E s c = 0
  · have hc := ask1E_ok h0
    have HT : Hid (ownerI s c = s.ow.getD c.toNat 0) := by unfold ownerI; rw [if_pos h0]; exact rfl
    rw [HT.out]
    rw [h0] at A1
    obtain ⟨c, rfl⟩ := Int.eq_ofNat_of_zero_le hc.1
    have hc' : c < s.n := by have := hc.2; omega
    have hci : (c : Int) < (s.n : Int) := hc.2
    rw [Int.toNat_natCast] at HT ⊢
    have HA := hid A1
    clear h0 hc A1
    go_enter Try.func56, Try.ntmps56
    go_wp2_with (first
      | (go_at_call 108; refine (are_made _ _ _ ⟨_, rfl⟩ ⟨_, _, _, rfl⟩).mono ?_; rintro e w' ⟨rfl, rfl⟩)
      | (go_at_call 107; refine HA.out.mono ?_; rintro e w1 ⟨rfl, hs1⟩; have h1 := h.still hs1; have G0 := h1.f0; have C := h1.cO hc'))
    go_ret
    exact ⟨rfl, hs1⟩
  · have HT : Hid (ownerI s c = -1) := by unfold ownerI; rw [if_neg h0]; exact rfl
    rw [HT.out]
    obtain ⟨z, hz⟩ : ∃ z, ask1E s c = z := ⟨_, rfl⟩
    rw [hz] at h0 A1
    have HA := hid A1
    clear A1 hz
    go_enter Try.func56, Try.ntmps56
    go_wp2_with (first
      | (go_at_call 108; refine (are_made _ _ _ ⟨_, rfl⟩ ⟨_, _, _, rfl⟩).mono ?_; rintro e w' ⟨rfl, rfl⟩)
      | (go_at_call 107; refine HA.out.mono ?_; rintro e w1 ⟨rfl, hs1⟩; have h1 := h.still hs1))
    go_ret
    exact ⟨rfl, hs1⟩
/-- Who stands in a list of objects from k on. -/
def rowOf (s : LS) (k : Nat) (o : Int) : List Nat := if ask1E s o = 0 then gl s.L (k + o.toNat) else []
def RowPost (w : World) (l : List Nat) (e : Ending) (W' : World) : Prop := ∃ a c, e = .returned (.slice a l.length c) ∧ IRow W' (.slice a l.length c) (zi l) ∧ Still w W' ∧ (0 < l.length → ∀ b o, a = some ⟨b, o, none⟩ → w.heap.size ≤ b)
set_option maxRecDepth 100000 in
set_option maxHeartbeats 1000000 in
theorem lkwaiters (h : LkAt w K s) (c : Int) : Calls Try.prog 70 #[.pointer (some ⟨K.P, 0, none⟩), .int .i64 c] w (RowPost w (rowOf s 0 c)) := by
  have A1 := ask1 h [c] (by simp) (by simp)
  rw [show (if allR [c] s.n then (0 : Int) else 8) = ask1E s c from rfl] at A1
  by_cases h0 : ask1E s c = 0
  · have hc := ask1E_ok h0
    have HT : Hid (rowOf s 0 c = gl s.L c.toNat) := by unfold rowOf; rw [if_pos h0, Nat.zero_add]; exact rfl
    rw [HT.out]
    rw [h0] at A1
    obtain ⟨c, rfl⟩ := Int.eq_ofNat_of_zero_le hc.1
    have hc' : c < s.L.length := by have := hc.2; rw [h.ll]; omega
    rw [Int.toNat_natCast] at HT ⊢
    have HA := hid A1
    clear h0 hc A1
    go_enter Try.func70, Try.ntmps70
    go_wp2_with (first
      | (go_at_call 108; refine (are_made _ _ _ ⟨_, rfl⟩ ⟨_, _, _, rfl⟩).mono ?_; rintro e w' ⟨rfl, rfl⟩)
      | (go_at_call 107; refine HA.out.mono ?_; rintro e w1 ⟨rfl, hs1⟩; have h1 := h.still hs1)
      | (go_at_call 121; refine (lkrow h1 c hc').mono ?_; rintro e w5 ⟨a5, c5, rfl, hr5, hs5, hb5⟩))
    go_ret
    exact ⟨a5, c5, rfl, hr5, hs1.trans hs5, fun _ b o e => Nat.le_trans hs1.size (hb5 b o e)⟩
  · have HT : Hid (rowOf s 0 c = []) := by unfold rowOf; rw [if_neg h0]; exact rfl
    rw [HT.out]
    obtain ⟨z, hz⟩ : ∃ z, ask1E s c = z := ⟨_, rfl⟩
    rw [hz] at h0 A1
    have HA := hid A1
    clear A1 hz
    go_enter Try.func70, Try.ntmps70
    go_wp2_with (first
      | (go_at_call 108; refine (are_made _ _ _ ⟨_, rfl⟩ ⟨_, _, _, rfl⟩).mono ?_; rintro e w' ⟨rfl, rfl⟩)
      | (go_at_call 107; refine HA.out.mono ?_; rintro e w1 ⟨rfl, hs1⟩; have h1 := h.still hs1))
    go_ret
    exact ⟨none, 0, rfl, .inl ⟨rfl, _, _, rfl⟩, hs1, fun h => absurd h (by simp)⟩
set_option maxRecDepth 100000 in
set_option maxHeartbeats 1000000 in
theorem lksleepers (h : LkAt w K s) (c : Int) : Calls Try.prog 65 #[.pointer (some ⟨K.P, 0, none⟩), .int .i64 c] w (RowPost w (rowOf s s.n c)) := by
  have A1 := ask1 h [c] (by simp) (by simp)
  rw [show (if allR [c] s.n then (0 : Int) else 8) = ask1E s c from rfl] at A1
  by_cases h0 : ask1E s c = 0
  · have hc := ask1E_ok h0
    have HT : Hid (rowOf s s.n c = gl s.L (s.n + c.toNat)) := by unfold rowOf; rw [if_pos h0]; exact rfl
    rw [HT.out]
    rw [h0] at A1
    obtain ⟨c, rfl⟩ := Int.eq_ofNat_of_zero_le hc.1
    have hc' : s.n + c < s.L.length := by have := hc.2; rw [h.ll]; omega
    have hc2 : c ≤ 64 := by have := hc.2; have := h.n1; omega
    rw [Int.toNat_natCast] at HT ⊢
    have HA := hid A1
    clear h0 hc A1
    go_enter Try.func65, Try.ntmps65
    go_wp2_with (first
      | (go_at_call 108; refine (are_made _ _ _ ⟨_, rfl⟩ ⟨_, _, _, rfl⟩).mono ?_; rintro e w' ⟨rfl, rfl⟩)
      | (go_at_call 107; refine HA.out.mono ?_; rintro e w1 ⟨rfl, hs1⟩; have h1 := h.still hs1)
      | (go_at_call 120; refine (lkcond h1 c hc2).mono ?_; rintro e w' ⟨rfl, rfl⟩)
      | (go_at_call 121; refine (lkrow h1 (s.n + c) hc').mono ?_; rintro e w5 ⟨a5, c5, rfl, hr5, hs5, hb5⟩))
    go_ret
    exact ⟨a5, c5, rfl, hr5, hs1.trans hs5, fun _ b o e => Nat.le_trans hs1.size (hb5 b o e)⟩
  · have HT : Hid (rowOf s s.n c = []) := by unfold rowOf; rw [if_neg h0]; exact rfl
    rw [HT.out]
    obtain ⟨z, hz⟩ : ∃ z, ask1E s c = z := ⟨_, rfl⟩
    rw [hz] at h0 A1
    have HA := hid A1
    clear A1 hz
    go_enter Try.func65, Try.ntmps65
    go_wp2_with (first
      | (go_at_call 108; refine (are_made _ _ _ ⟨_, rfl⟩ ⟨_, _, _, rfl⟩).mono ?_; rintro e w' ⟨rfl, rfl⟩)
      | (go_at_call 107; refine HA.out.mono ?_; rintro e w1 ⟨rfl, hs1⟩; have h1 := h.still hs1))
    go_ret
    exact ⟨none, 0, rfl, .inl ⟨rfl, _, _, rfl⟩, hs1, fun h => absurd h (by simp)⟩
def whereK (s : LS) (t : Int) : Int := if whI s.T s.L t < 0 then 0 else if whI s.T s.L t < s.n then 1 else 2
def whereO (s : LS) (t : Int) : Int := if whI s.T s.L t < 0 then -1 else if whI s.T s.L t < s.n then whI s.T s.L t else whI s.T s.L t - s.n
theorem lkwhere (h : LkAt w K s) (t : Int) : Calls Try.prog 71 #[.pointer (some ⟨K.P, 0, none⟩), .int .i64 t] w fun e w' =>
    e = .returned (.tuple #[.int .i64 (whereK s t), .int .i64 (whereO s t)]) ∧ Still w w' := by
  have F0 := h.f0
  have F2 := h.f2
  have n1 := h.n1
  have A := where_ls h.hl t
  have hz4 : whI s.T s.L t ≤ 4096 := by
    unfold whI; split
    · rcases wh_cases s.L t.toNat with e | ⟨i, e⟩
      · omega
      · have := (wh_yes e).1; have := h.ll; omega
    · omega
  obtain ⟨z, hz⟩ : ∃ z, whI s.T s.L t = z := ⟨_, rfl⟩
  have HK : Hid (whereK s t = if z < 0 then 0 else if z < s.n then 1 else 2) := by unfold whereK; rw [hz]; exact rfl
  have HO : Hid (whereO s t = if z < 0 then -1 else if z < s.n then z else z - s.n) := by unfold whereO; rw [hz]; exact rfl
  rw [hz] at A hz4
  have HA := hid A
  clear A hz
  rw [HK.out, HO.out]
  by_cases h0 : z < 0
  · rw [if_pos h0, if_pos h0]
    go_enter Try.func71, Try.ntmps71
    go_wp2_with (first
      | (go_at_call 130; refine (lkmade h).mono ?_; rintro e w' ⟨rfl, rfl⟩)
      | (go_at_call 29; refine HA.out.mono ?_; rintro e w' ⟨rfl, rfl⟩))
    go_ret2
    exact ⟨rfl, Fr.refl _ _⟩
  · rw [if_neg h0, if_neg h0]
    by_cases h1 : z < s.n
    · rw [if_pos h1, if_pos h1]
      go_enter Try.func71, Try.ntmps71
      go_wp2_with (first
        | (go_at_call 130; refine (lkmade h).mono ?_; rintro e w' ⟨rfl, rfl⟩)
        | (go_at_call 29; refine HA.out.mono ?_; rintro e w' ⟨rfl, rfl⟩))
      go_ret2
      exact ⟨rfl, Fr.refl _ _⟩
    · rw [if_neg h1, if_neg h1]
      have hd1 : (0 : Int) ≤ z := by omega
      have hd2 : (s.n : Int) ≤ z := by omega
      go_enter Try.func71, Try.ntmps71
      go_wp2_with (first
        | (go_at_call 130; refine (lkmade h).mono ?_; rintro e w' ⟨rfl, rfl⟩)
        | (go_at_call 29; refine HA.out.mono ?_; rintro e w' ⟨rfl, rfl⟩))
      go_quiet (fail)
      go_wp2
      go_ret2
      exact ⟨rfl, (Fr.refl _ _).drewN _⟩
end
end Go.Proofs.Ytffjaaolcphonaa
