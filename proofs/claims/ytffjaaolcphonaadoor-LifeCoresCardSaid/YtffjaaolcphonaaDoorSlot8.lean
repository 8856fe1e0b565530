/- Take, Free, Len. -/
import Derived.Test.YtffjaaolcphonaaDoorSlot7
namespace Go.Proofs.YtffjaaolcphonaaDoor
open Go.RowKit
def takeS (s : SS) : SS := match leastS s with | none => s | some i => ⟨s.ages.set i (s.ages.getD i 0 + 1), s.fr.set i false, s.n + 1⟩
def takeV (s : SS) : Int := match leastS s with | none => 0 | some i => idMk i (s.ages.getD i 0 + 1)
def takeE (s : SS) : Int := match leastS s with | none => 3 | some _ => 0
theorem leastFrom_lt (s : SS) : ∀ k i j, leastFrom s i k = some j → i ≤ j ∧ j < i + k ∧ may s j = true ∧ ∀ m, i ≤ m → m < j → may s m = false := by
  intro k
  induction k with
  | zero => intro i j h; cases h
  | succ k ih =>
    intro i j h
    rw [leastFrom] at h
    by_cases e : may s i
    · rw [if_pos e] at h
      obtain rfl := Option.some.inj h
      exact ⟨Nat.le_refl _, by omega, e, fun m _ _ => by omega⟩
    · rw [if_neg e] at h
      obtain ⟨h1, h2, h3, h4⟩ := ih _ _ h
      exact ⟨by omega, by omega, h3, fun m m1 m2 => by
        by_cases em : m = i
        · subst em; simpa using e
        · exact h4 m (by omega) m2⟩
theorem leastS_lt {s : SS} {j : Nat} (h : leastS s = some j) : j < s.ages.length ∧ may s j = true ∧ ∀ m, m < j → may s m = false := by
  obtain ⟨_, h2, h3, h4⟩ := leastFrom_lt s _ _ _ h
  exact ⟨by omega, h3, fun m hm => h4 m (Nat.zero_le _) hm⟩
theorem SAt.putN {w : World} {B : SB} {s : SS} (h : SAt w B s) (v : Int) : SAt (w.setCell ⟨B.P, 65, none⟩ (.int .i64 v)) B { s with n := v } := by
  obtain ⟨W, h1, h2⟩ := h.hp
  refine { h with hp := ⟨W, h1, ?_⟩, ha := h.ha.other (fun e => h.PA e.symm) _ }
  have := h2.put 65 (.int .i64 v)
  have e : (cellsS B s W).set 65 (.int .i64 v) = cellsS B { s with n := v } W := by
    unfold cellsS
    rw [List.set_cons_succ, List.set_append_right _ _ (by rw [words_len]; omega), words_len]; rfl
  rwa [e] at this
theorem SAt.putA {w : World} {B : SB} {s : SS} (h : SAt w B s) (i : Nat) (v : Int) : SAt (w.setCell ⟨B.A, i, none⟩ (.int .i64 v)) B { s with ages := s.ages.set i v } := by
  obtain ⟨W, h1, h2⟩ := h.hp
  refine ⟨⟨W, h1, ?_⟩, h.ha.put i v, h.PA, by simp [h.lf], by simpa using h.T0, by simpa using h.T1⟩
  have := h2.other (p := ⟨B.A, i, none⟩) h.PA (.int .i64 v)
  have e : cellsS B { s with ages := s.ages.set i v } W = cellsS B s W := by unfold cellsS; simp
  rwa [e]
theorem SAt.fz {w : World} {B : SB} {s : SS} (h : SAt w B s) : w.frozen? ⟨B.P, 65, none⟩ = false := by
  obtain ⟨W, _, h2⟩ := h.hp
  exact h2.frozen 65
theorem getD_set_at {l : List Int} {i : Nat} (h : i < l.length) (v : Int) : (l.set i v).getD i 0 = v := by simp [List.getD_eq_getElem?_getD, h]
/-- What holds of slots: each age stands in its bounds; how many are taken. -/
structure SOk (s : SS) : Prop where
  n0 : 0 ≤ s.n
  n1 : s.n ≤ 1000000
set_option maxRecDepth 100000 in
set_option maxHeartbeats 4000000 in
theorem stake (w : World) (B : SB) (s : SS) (h : SAt w B s) (hT : TabD w) (h7 : ¬ B.foot 7) (ho : ∀ i, i < s.ages.length → 0 ≤ s.ages.getD i 0) (hn : 0 ≤ s.n ∧ s.n ≤ 1000000) : Calls Tryd.prog 27 #[.pointer (some ⟨B.P, 0, none⟩)] w fun e w' =>
    e = .returned (.tuple #[.int .i64 (takeV s), .int .i64 (takeE s)]) ∧ SAt w' B (takeS s) ∧ Fr B.foot w w' := by
  have M := hid (smade w B s h)
  have L := hid (sleast w B s h hT)
  cases hl : leastS s with
  | none =>
    rw [hl] at L
    have e1 : takeV s = 0 := by unfold takeV; rw [hl]
    have e2 : takeE s = 3 := by unfold takeE; rw [hl]
    have e3 : takeS s = s := by unfold takeS; rw [hl]
    rw [e1, e2, e3]
    have H := hid h
    clear h e1 e2 e3 hl hT ho hn
    go_enter Tryd.func27, Tryd.ntmps27
    go_wp2_with (first | (go_at_call 85; refine M.out.mono ?_; rintro e w' ⟨rfl, rfl⟩) | (go_at_call 86; refine L.out.mono ?_; rintro e w' ⟨rfl, rfl⟩))
    go_ret2
    exact ⟨rfl, H.out, Fr.refl _ _⟩
  | some i =>
    obtain ⟨hi, hm, _⟩ := leastS_lt hl
    have i0 := ho i hi
    have i1 : s.ages.getD i 0 < 2147483647 := by unfold may at hm; simp at hm; simpa using hm.2
    have e1 : takeV s = idMk i (s.ages.getD i 0 + 1) := by unfold takeV; rw [hl]
    have e2 : takeE s = 0 := by unfold takeE; rw [hl]
    have e3 : takeS s = ⟨s.ages.set i (s.ages.getD i 0 + 1), s.fr.set i false, s.n + 1⟩ := by unfold takeS; rw [hl]
    rw [e1, e2, e3]
    rw [hl] at L
    have F0 := h.f0
    have C1 := h.cA hi
    have Z1 := h.ha.frozen i
    have hlt : (i : Int) < (s.ages.length : Int) := by omega
    have H := hid h
    obtain ⟨a, ha⟩ : ∃ a, s.ages.getD i 0 = a := ⟨_, rfl⟩
    rw [ha] at C1 i0 i1 ⊢
    have h7' := hid h7
    clear h e1 e2 e3 hl hT ho ha hm h7
    go_enter Tryd.func27, Tryd.ntmps27
    go_wp2_with (first | (go_at_call 85; refine M.out.mono ?_; rintro e w' ⟨rfl, rfl⟩) | (go_at_call 86; refine L.out.mono ?_; rintro e w' ⟨rfl, rfl⟩) | (go_at_call 84; refine (sunmark _ B _ (H.out.putA i (a + 1)) i (by simpa using hi)).mono ?_; rintro e w2 ⟨rfl, A2, G2⟩; have F2 := A2.f0; have N2 := A2.fn; have C2 := A2.cA (i := i) (by simpa using hi); have Y2 := A2.fz; have d := A2.PA; have HA2 := hid A2; have HG2 := hid G2; simp only [List.length_set, getD_set_at hi] at F2 N2 C2; clear A2 G2) | (go_at_call 18; refine (xid _ _ _).mono ?_; rintro e w' ⟨rfl, rfl⟩))
    go_ret2
    refine ⟨rfl, HA2.out.putN _, ?_⟩
    have f1 : Fr B.foot w (w.setCell ⟨B.A, i, none⟩ (.int .i64 (a + 1))) := (Fr.refl _ w).setCell (.inl (.inr rfl)) _
    exact (f1.trans (HG2.out.mono fun k _ hk => .inl hk)).setCell (.inl (.inl rfl)) _
end Go.Proofs.YtffjaaolcphonaaDoor
