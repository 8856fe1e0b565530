/- The locks: Unlock, Wait, signal, Signal, Owner, Where, Waiters, Sleepers. -/
import Derived.Test.YtffjaaolcphonaaLock5
import Derived.Test.YtffjaaolcphonaaLockR
import Derived.Test.YtffjaaolcphonaaAllOut
namespace Go.Proofs.Ytffjaaolcphonaa
open Go.RowKit
theorem Fr.cellK {F : Nat → Prop} {w w' : World} (hf : Fr F w w') {b i : Nat} {v : Value} (h : w.cell? ⟨b, i, none⟩ = some v) (hn : ¬ F b) : w'.cell? ⟨b, i, none⟩ = some v := by
  rw [← h]; exact World.cell?_of_block (hf.block b (World.block_lt_of_cell? _ _ h) hn)
section
variable {w : World} {K : KB} {s : LS}
def unlockE (s : LS) (o t : Int) : Int := askE [(allR [o] s.n, 8), idleR s t, ((s.ow.getD o.toNat 0 == t) == true, 6)]
def unlockT (s : LS) (o t : Int) : Int := if unlockE s o t = 0 then passT s o.toNat else -1
def unlockS (s : LS) (o t : Int) : LS := if unlockE s o t = 0 then passS s o.toNat else s
theorem unlockE_ok {s : LS} {o t : Int} (h : unlockE s o t = 0) : inR o s.n ∧ inR t s.T ∧ whI s.T s.L t < 0 ∧ s.ow.getD o.toNat 0 = t := by
  obtain ⟨h1, h2, h3, h4⟩ := ask3_ok (by omega) h
  exact ⟨by simpa [allR] using h1, h2, h3, by simpa using h4⟩

set_option maxRecDepth 100000 in
set_option maxHeartbeats 1000000 in
theorem lkunlock (h : LkAt w K s) (o t : Int) : Calls Try.prog 55 #[.pointer (some ⟨K.P, 0, none⟩), .int .i64 o, .int .i64 t] w fun e w' =>
    e = .returned (.tuple #[.int .i64 (unlockT s o t), .int .i64 (unlockE s o t)]) ∧ LkAt w' K (unlockS s o t) ∧ Fr K.foot w w' := by
  by_cases h0 : unlockE s o t = 0
  · obtain ⟨ho, _, _, _⟩ := unlockE_ok h0
    have HB : Hid (unlockT s o t = passT s o.toNat) := by unfold unlockT; rw [if_pos h0]; exact rfl
    have HS : Hid (unlockS s o t = passS s o.toNat) := by unfold unlockS; rw [if_pos h0]; exact rfl
    rw [HB.out, HS.out, h0]
    have A3 := ask3 h [o] o t true 6 (by simp) (by simp) (by simp)
    rw [show askE [(allR [o] s.n, 8), idleR s t, ((s.ow.getD o.toNat 0 == t) == true, 6)] = 0 from h0] at A3
    obtain ⟨o, rfl⟩ := Int.eq_ofNat_of_zero_le ho.1
    have ho' : o < s.n := by have := ho.2; omega
    rw [Int.toNat_natCast] at HB HS ⊢
    have HA := hid A3
    clear h0 ho A3
    go_enter Try.func55, Try.ntmps55
    go_wp2_with (first
      | (go_at_call 108; refine (are_made _ _ _ ⟨_, rfl⟩ ⟨_, _, _, rfl⟩).mono ?_; rintro e w' ⟨rfl, rfl⟩)
      | (go_at_call 109; refine (idle_made _ _ _).mono ?_; rintro e w' ⟨rfl, rfl⟩)
      | (go_at_call 110; refine (owns_made _ _ _ _ _ _).mono ?_; rintro e w' ⟨rfl, rfl⟩)
      | (go_at_call 107; refine HA.out.mono ?_; rintro e w1 ⟨rfl, hs1⟩; have h1 := h.still hs1)
      | (go_at_call 112; refine (lkpass h1 o ho').mono ?_; rintro e w2 ⟨rfl, h2, f2⟩))
    go_ret2
    exact ⟨rfl, h2, (hs1.fr _).trans f2⟩
  · have HB : Hid (unlockT s o t = -1) := by unfold unlockT; rw [if_neg h0]; exact rfl
    have HS : Hid (unlockS s o t = s) := by unfold unlockS; rw [if_neg h0]; exact rfl
    rw [HB.out, HS.out]
    have A3 := ask3 h [o] o t true 6 (by simp) (by simp) (by simp)
    obtain ⟨z, hz⟩ : ∃ z, unlockE s o t = z := ⟨_, rfl⟩
    rw [show askE [(allR [o] s.n, 8), idleR s t, ((s.ow.getD o.toNat 0 == t) == true, 6)] = z from hz] at A3
    rw [hz] at h0 ⊢
    have HA := hid A3
    clear A3 hz
    go_enter Try.func55, Try.ntmps55
    go_wp2_with (first
      | (go_at_call 108; refine (are_made _ _ _ ⟨_, rfl⟩ ⟨_, _, _, rfl⟩).mono ?_; rintro e w' ⟨rfl, rfl⟩)
      | (go_at_call 109; refine (idle_made _ _ _).mono ?_; rintro e w' ⟨rfl, rfl⟩)
      | (go_at_call 110; refine (owns_made _ _ _ _ _ _).mono ?_; rintro e w' ⟨rfl, rfl⟩)
      | (go_at_call 107; refine HA.out.mono ?_; rintro e w1 ⟨rfl, hs1⟩; have h1 := h.still hs1))
    go_ret2
    exact ⟨rfl, h1, hs1.fr _⟩
def waitE (s : LS) (c o t : Int) : Int := askE [(allR [c, o] s.n, 8), idleR s t, ((s.ow.getD o.toNat 0 == t) == true, 6)]
def waitT (s : LS) (c o t : Int) : Int := if waitE s c o t = 0 then passT s o.toNat else -1
def waitS (s : LS) (c o t : Int) : LS := if waitE s c o t = 0 then { passS s o.toNat with L := pushL s.T (passS s o.toNat).L (s.n + c) t, ag := s.ag.set t.toNat o } else s
theorem waitE_ok {s : LS} {c o t : Int} (h : waitE s c o t = 0) : inR c s.n ∧ inR o s.n ∧ inR t s.T ∧ whI s.T s.L t < 0 ∧ s.ow.getD o.toNat 0 = t := by
  obtain ⟨h1, h2, h3, h4⟩ := ask3_ok (by omega) h
  have h5 : inR c s.n ∧ inR o s.n := by simpa [allR] using h1
  exact ⟨h5.1, h5.2, h2, h3, by simpa using h4⟩
set_option maxRecDepth 100000 in
set_option maxHeartbeats 2000000 in
theorem lkwait (h : LkAt w K s) (c o t : Int) : Calls Try.prog 64 #[.pointer (some ⟨K.P, 0, none⟩), .int .i64 c, .int .i64 o, .int .i64 t] w fun e w' =>
    e = .returned (.tuple #[.int .i64 (waitT s c o t), .int .i64 (waitE s c o t)]) ∧ LkAt w' K (waitS s c o t) ∧ Fr K.foot w w' := by
  by_cases h0 : waitE s c o t = 0
  · obtain ⟨hc, ho, ht, _, _⟩ := waitE_ok h0
    have HB : Hid (waitT s c o t = passT s o.toNat) := by unfold waitT; rw [if_pos h0]; exact rfl
    have HS : Hid (waitS s c o t = { passS s o.toNat with L := pushL s.T (passS s o.toNat).L (s.n + c) t, ag := s.ag.set t.toNat o }) := by unfold waitS; rw [if_pos h0]; exact rfl
    rw [HB.out, HS.out, h0]
    have A3 := ask3 h [c, o] o t true 6 (by simp) (by simp) (by simp)
    rw [show askE [(allR [c, o] s.n, 8), idleR s t, ((s.ow.getD o.toNat 0 == t) == true, 6)] = 0 from h0] at A3
    have hoi := hid ho
    obtain ⟨o, rfl⟩ := Int.eq_ofNat_of_zero_le ho.1
    obtain ⟨c, rfl⟩ := Int.eq_ofNat_of_zero_le hc.1
    obtain ⟨t, rfl⟩ := Int.eq_ofNat_of_zero_le ht.1
    have ho' : o < s.n := by have := ho.2; omega
    have hc' : c ≤ 64 := by have := hc.2; have := h.n1; omega
    have hti : (t : Int) < (s.T : Int) := ht.2
    have ht' : t < s.T := by omega
    rw [Int.toNat_natCast] at HB HS ⊢
    simp only [Int.toNat_natCast] at HS ⊢
    have HA := hid A3
    have hPB := h.dP
    clear h0 ho A3 hc ht
    go_enter Try.func64, Try.ntmps64
    go_wp2_with (first
      | (go_at_call 108; refine (are_made _ _ _ ⟨_, rfl⟩ ⟨_, _, _, rfl⟩).mono ?_; rintro e w' ⟨rfl, rfl⟩)
      | (go_at_call 109; refine (idle_made _ _ _).mono ?_; rintro e w' ⟨rfl, rfl⟩)
      | (go_at_call 110; refine (owns_made _ _ _ _ _ _).mono ?_; rintro e w' ⟨rfl, rfl⟩)
      | (go_at_call 107; refine HA.out.mono ?_; rintro e w1 ⟨rfl, hs1⟩; have h1 := h.still hs1)
      | (go_at_call 112; refine (lkpass h1 o ho').mono ?_; rintro e w2 ⟨rfl, h2, f2⟩))
    have G2 := h2.f2
    go_region_held3 (fun w' => w'.cell? ⟨K.P, 2, none⟩ = some (.pointer (some ⟨K.B.p, 0, none⟩)))
      (first | exact G2 | exact Fr.cellK f3 G2 hPB)
      (first
        | (go_at_call 120; refine (lkcond (h2.still (Fr.drew (Fr.refl _ _))) c hc').mono ?_; rintro e w' ⟨rfl, rfl⟩)
        | (go_at_call 21; refine (push_ls (h2.still (Fr.drew (Fr.refl _ _))).hl _ _).mono ?_; rintro e w3 ⟨rfl, hl3, f3⟩; have h3 := (h2.still (Fr.drew (Fr.refl _ _))).setL hl3 f3 (pushL_len' _ _ _ _)))
    have G1 := h3.f1
    have C := h3.cA ht'
    have Z := h3.zA t
    go_wp2_with fail
    go_ret2
    exact ⟨rfl, h3.setA t o hoi.out, ((((hs1.fr K.foot).trans f2).drew).then f3 (fun _ _ h => .inr (.inr h))).setCell (p := ⟨K.A, t, none⟩) (.inl (.inr (.inl rfl))) _⟩
  · have HB : Hid (waitT s c o t = -1) := by unfold waitT; rw [if_neg h0]; exact rfl
    have HS : Hid (waitS s c o t = s) := by unfold waitS; rw [if_neg h0]; exact rfl
    rw [HB.out, HS.out]
    have A3 := ask3 h [c, o] o t true 6 (by simp) (by simp) (by simp)
    obtain ⟨z, hz⟩ : ∃ z, waitE s c o t = z := ⟨_, rfl⟩
    rw [show askE [(allR [c, o] s.n, 8), idleR s t, ((s.ow.getD o.toNat 0 == t) == true, 6)] = z from hz] at A3
    rw [hz] at h0 ⊢
    have HA := hid A3
    clear A3 hz
    go_enter Try.func64, Try.ntmps64
    go_wp2_with (first
      | (go_at_call 108; refine (are_made _ _ _ ⟨_, rfl⟩ ⟨_, _, _, rfl⟩).mono ?_; rintro e w' ⟨rfl, rfl⟩)
      | (go_at_call 109; refine (idle_made _ _ _).mono ?_; rintro e w' ⟨rfl, rfl⟩)
      | (go_at_call 110; refine (owns_made _ _ _ _ _ _).mono ?_; rintro e w' ⟨rfl, rfl⟩)
      | (go_at_call 107; refine HA.out.mono ?_; rintro e w1 ⟨rfl, hs1⟩; have h1 := h.still hs1))
    go_ret2
    exact ⟨rfl, h1, hs1.fr _⟩
end
end Go.Proofs.Ytffjaaolcphonaa