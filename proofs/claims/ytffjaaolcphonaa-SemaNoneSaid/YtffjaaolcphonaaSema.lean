/- Semaphores: values, and who waits in lists. -/
import Derived.Test.YtffjaaolcphonaaLs
namespace Go.Proofs.Ytffjaaolcphonaa
open Go.RowKit

structure SS where
  o : Nat
  t : Nat
  V : List Int
  L : List (List Nat)
/-- Semaphores at block P, their lists at B. -/
structure SAt (w : World) (P : Nat) (B : LB) (s : SS) : Prop where
  blk : Blk w P (.int .i64 s.o :: .int .i64 s.t :: (s.V.map (Value.int .i64) ++ [.pointer (some ⟨B.p, 0, none⟩)])) 69
  ls : LsAt w B s.t s.L
  len : s.L.length = s.o
  vlen : s.V.length = 64
  v0 : ∀ i, 0 ≤ s.V.getD i 0 ∧ s.V.getD i 0 ≤ 1000000
  o0 : 1 ≤ s.o
  o1 : s.o ≤ 64
  t0 : 1 ≤ s.t
  t1 : s.t ≤ 1024
  np : ¬ B.foot P
def sfoot (P : Nat) (B : LB) (k : Nat) : Prop := k = P ∨ B.foot k
theorem SAt.fr {w w' : World} {P : Nat} {B : LB} {s : SS} (h : SAt w P B s) {F : Nat → Prop} (hf : Fr F w w') (hd : ∀ k, sfoot P B k → ¬ F k) : SAt w' P B s :=
  { h with blk := h.blk.fr hf (hd P (.inl rfl)), ls := h.ls.fr hf fun k hk => hd k (.inr hk) }
theorem SAt.still {w w' : World} {P : Nat} {B : LB} {s : SS} (h : SAt w P B s) (hf : Still w w') : SAt w' P B s := h.fr hf fun _ _ h => h
theorem SAt.c0 {w : World} {P : Nat} {B : LB} {s : SS} (h : SAt w P B s) : w.cell? ⟨P, 0, none⟩ = some (.int .i64 s.o) := by rw [h.blk.cell]; rfl
theorem SAt.c1 {w : World} {P : Nat} {B : LB} {s : SS} (h : SAt w P B s) : w.cell? ⟨P, 1, none⟩ = some (.int .i64 s.t) := by rw [h.blk.cell]; rfl
theorem SAt.cv {w : World} {P : Nat} {B : LB} {s : SS} (h : SAt w P B s) {i : Nat} (hi : i < 64) : w.cell? ⟨P, 2 + i, none⟩ = some (.int .i64 (s.V.getD i 0)) := by
  have hl := h.vlen
  rw [h.blk.cell, show 2 + i = i + 1 + 1 by omega, List.getElem?_cons_succ, List.getElem?_cons_succ, List.getElem?_append_left (by simp; omega)]
  simp [show i < s.V.length by omega]
theorem SAt.cl {w : World} {P : Nat} {B : LB} {s : SS} (h : SAt w P B s) : w.cell? ⟨P, 66, none⟩ = some (.pointer (some ⟨B.p, 0, none⟩)) := by
  have hl := h.vlen
  rw [h.blk.cell, List.getElem?_cons_succ, List.getElem?_cons_succ, List.getElem?_append_right (by simp; omega)]
  simp [hl]
theorem SAt.setV {w : World} {P : Nat} {B : LB} {s : SS} (h : SAt w P B s) {i : Nat} (hi : i < 64) (v : Int) (h0 : 0 ≤ v) (h1 : v ≤ 1000000) : SAt (w.setCell ⟨P, 2 + i, none⟩ (.int .i64 v)) P B { s with V := s.V.set i v } := by
  have hl := h.vlen
  refine { h with blk := ?_, ls := ?_, vlen := by simpa using hl, v0 := ?_ }
  · have := h.blk.put (2 + i) (.int .i64 v)
    rw [show 2 + i = i + 1 + 1 by omega, List.set_cons_succ, List.set_cons_succ, List.set_append_left _ _ (by simp; omega), ← List.map_set] at this
    rw [show 2 + i = i + 1 + 1 by omega]
    exact this
  · exact h.ls.fr ((Fr.refl (fun k => k = P) w).setCell (.inl rfl) _) fun k hk e => h.np (e ▸ hk)
  · intro j
    rw [getD_set' _ _ _ _ (by omega)]
    split
    · exact ⟨h0, h1⟩
    · exact h.v0 j

theorem smade (w : World) (P : Nat) (B : LB) (s : SS) (h : SAt w P B s) : Calls Try.prog 91 #[.pointer (some ⟨P, 0, none⟩)] w fun e w' => e = .returned (.bool true) ∧ w = w' := by
  have cl := h.cl
  go_enter Try.func91, Try.ntmps91
  go_wp2
  go_ret
  exact ⟨rfl, rfl⟩
theorem sis (w : World) (P : Nat) (B : LB) (s : SS) (h : SAt w P B s) (o : Int) : Calls Try.prog 92 #[.pointer (some ⟨P, 0, none⟩), .int .i64 o] w fun e w' => e = .returned (.bool (decide (inR o s.o))) ∧ w = w' := by
  have c0 := h.c0
  by_cases h0 : 0 ≤ o
  · by_cases h1 : o < (s.o : Int)
    · have hd := hid (decide_eq_true (p := inR o s.o) ⟨h0, h1⟩)
      go_enter Try.func92, Try.ntmps92
      go_wp2
      go_ret
      exact ⟨by rw [hd.out]; simp, rfl⟩
    · have hd := hid (decide_eq_false (p := inR o s.o) (fun h => h1 h.2))
      go_enter Try.func92, Try.ntmps92
      go_wp2
      all_goals go_ret
      all_goals exact ⟨by rw [hd.out]; simp, rfl⟩
  · have hd := hid (decide_eq_false (p := inR o s.o) (fun h => h0 h.1))
    have h2 : o < 0 := by omega
    go_enter Try.func92, Try.ntmps92
    go_wp2
    all_goals go_ret
    all_goals exact ⟨by rw [hd.out]; try simp, rfl⟩

theorem swhere (w : World) (P : Nat) (B : LB) (s : SS) (h : SAt w P B s) (t : Int) : Calls Try.prog 43 #[.pointer (some ⟨P, 0, none⟩), .int .i64 t] w fun e w' => e = .returned (.int .i64 (whI s.t s.L t)) ∧ w = w' := by
  have cl := h.cl
  go_enter Try.func43, Try.ntmps43
  go_wp2_with (first | (go_at_call 91; refine (smade _ P B s h).mono ?_; rintro e w' ⟨rfl, rfl⟩) | (go_at_call 29; refine (where_ls h.ls _).mono ?_; rintro e w' ⟨rfl, rfl⟩))
  go_ret
  exact ⟨rfl, rfl⟩
def svalI (s : SS) (o : Int) : Int := if inR o s.o then s.V.getD o.toNat 0 else 0
theorem svalue (w : World) (P : Nat) (B : LB) (s : SS) (h : SAt w P B s) (o : Int) : Calls Try.prog 36 #[.pointer (some ⟨P, 0, none⟩), .int .i64 o] w fun e w' => e = .returned (.int .i64 (svalI s o)) ∧ w = w' := by
  by_cases ho : inR o s.o
  · obtain ⟨v, hv⟩ : ∃ v, svalI s o = v := ⟨_, rfl⟩
    rw [hv]
    unfold svalI at hv; rw [if_pos ho] at hv
    obtain ⟨o, rfl⟩ := Int.eq_ofNat_of_zero_le ho.1
    rw [Int.toNat_natCast] at hv
    have ho1 := h.o1
    have ho2 : (o : Int) < 64 := by have := ho.2; omega
    have cv : w.cell? ⟨P, 2 + o, none⟩ = some (.int .i64 v) := hv ▸ h.cv (by have := ho.2; omega)
    have hd := decide_eq_true ho
    clear hv ho1
    go_enter Try.func36, Try.ntmps36
    go_wp2_with (first | (go_at_call 91; refine (smade _ P B s h).mono ?_; rintro e w' ⟨rfl, rfl⟩) | (go_at_call 92; refine (sis _ P B s h _).mono ?_; rw [hd]; rintro e w' ⟨rfl, rfl⟩))
    go_ret
    exact ⟨rfl, rfl⟩
  · have hd := decide_eq_false ho
    have hv : Hid (svalI s o = 0) := hid (by unfold svalI; rw [if_neg ho])
    clear ho
    go_enter Try.func36, Try.ntmps36
    go_wp2_with (first | (go_at_call 91; refine (smade _ P B s h).mono ?_; rintro e w' ⟨rfl, rfl⟩) | (go_at_call 92; refine (sis _ P B s h _).mono ?_; rw [hd]; rintro e w' ⟨rfl, rfl⟩))
    go_ret
    exact ⟨by rw [hv.out]; rfl, rfl⟩

def sdownB (s : SS) (o t : Int) : Bool := decide (inR o s.o ∧ inR t s.t ∧ whI s.t s.L t = -1 ∧ 0 < s.V.getD o.toNat 0)
def sdownE (s : SS) (o t : Int) : Int := if inR o s.o ∧ inR t s.t then (if whI s.t s.L t = -1 then 0 else 5) else 8
def sdownS (s : SS) (o t : Int) : SS :=
  if inR o s.o ∧ inR t s.t ∧ whI s.t s.L t = -1 then (if 0 < s.V.getD o.toNat 0 then { s with V := s.V.set o.toNat (s.V.getD o.toNat 0 - 1) } else { s with L := pushL s.t s.L o t }) else s
theorem whI_cases (T : Nat) (L : List (List Nat)) (t : Int) : whI T L t = -1 ∨ 0 ≤ whI T L t := by
  unfold whI; split
  · rcases wh_cases L t.toNat with h | ⟨i, h⟩
    · exact .inl h
    · right; rw [h]; omega
  · exact .inl rfl
theorem pushL_len (T : Nat) (L : List (List Nat)) (i t : Int) : (pushL T L i t).length = L.length := by unfold pushL; split <;> simp

theorem sdown (w : World) (P : Nat) (B : LB) (s : SS) (h : SAt w P B s) (o t : Int) : Calls Try.prog 33 #[.pointer (some ⟨P, 0, none⟩), .int .i64 o, .int .i64 t] w fun e w' =>
    e = .returned (.tuple #[.bool (sdownB s o t), .int .i64 (sdownE s o t)]) ∧ SAt w' P B (sdownS s o t) ∧ Fr (sfoot P B) w w' := by
  have c1 := h.c1
  have cl := h.cl
  by_cases ho : inR o s.o
  · have hdo := decide_eq_true ho
    by_cases ht : inR t s.t
    · have ht0 : 0 ≤ t := ht.1
      have ht1 : t < (s.t : Int) := ht.2
      by_cases hw : whI s.t s.L t = -1
      · have hw' : Hid (whI s.t s.L t = -1) := hid hw
        have hwd : decide (0 ≤ whI s.t s.L t) = false := by rw [hw]; rfl
        clear hw
        obtain ⟨o, rfl⟩ := Int.eq_ofNat_of_zero_le ho.1
        obtain ⟨v, hv⟩ : ∃ v, s.V.getD o 0 = v := ⟨_, rfl⟩
        have ho1 := h.o1
        have ho2 : (o : Int) < 64 := by have := ho.2; omega
        have ho3 : o < 64 := by omega
        have cv : w.cell? ⟨P, 2 + o, none⟩ = some (.int .i64 v) := hv ▸ h.cv ho3
        have fz : w.frozen? ⟨P, 2 + o, none⟩ = false := h.blk.frozen _
        have hv0 := h.v0 o
        rw [hv] at hv0
        obtain ⟨hv1, hv2⟩ := hv0
        have HE : Hid (sdownE s o t = 0) := hid (by unfold sdownE; rw [if_pos ⟨ho, ht⟩, if_pos hw'.out])
        by_cases hv3 : 0 < v
        · have HB : Hid (sdownB s o t = true) := hid (decide_eq_true ⟨ho, ht, hw'.out, by rw [Int.toNat_natCast, hv]; exact hv3⟩)
          have HS : Hid (sdownS s o t = { s with V := s.V.set o (v - 1) }) := hid (by unfold sdownS; rw [if_pos ⟨ho, ht, hw'.out⟩, Int.toNat_natCast, hv, if_pos hv3])
          clear hv ho1 ho
          go_enter Try.func33, Try.ntmps33
          go_wp2_with (first | (go_at_call 91; refine (smade _ P B s h).mono ?_; rintro e w' ⟨rfl, rfl⟩) | (go_at_call 92; refine (sis _ P B s h _).mono ?_; rw [hdo]; rintro e w' ⟨rfl, rfl⟩) | (go_at_call 29; refine (where_ls h.ls _).mono ?_; rintro e w' ⟨rfl, rfl⟩))
          go_region
          go_wp2
          go_ret2
          refine ⟨by rw [HB.out, HE.out]; rfl, ?_, ?_⟩
          · rw [HS.out]; exact (h.setV ho3 (v - 1) (by omega) (by omega)).still ((Fr.refl _ _).drew)
          · exact ((Fr.refl _ _).setCell (.inl (.inl rfl)) _).drew
        · have HB : Hid (sdownB s o t = false) := hid (decide_eq_false (fun hh => hv3 (by have := hh.2.2.2; rwa [Int.toNat_natCast, hv] at this)))
          have HS : Hid (sdownS s o t = { s with L := pushL s.t s.L o t }) := hid (by unfold sdownS; rw [if_pos ⟨ho, ht, hw'.out⟩, Int.toNat_natCast, hv, if_neg hv3])
          have HP : Hid (pushE s.t s.L o t = 0) := hid (by unfold pushE; rw [if_pos ⟨h.len ▸ ho, ht⟩, if_pos (by have := hw'.out; unfold whI at this; rwa [if_pos ht] at this)])
          clear hv ho1 ho
          go_enter Try.func33, Try.ntmps33
          go_wp2_with (first | (go_at_call 91; refine (smade _ P B s h).mono ?_; rintro e w' ⟨rfl, rfl⟩) | (go_at_call 92; refine (sis _ P B s h _).mono ?_; rw [hdo]; rintro e w' ⟨rfl, rfl⟩) | (go_at_call 29; refine (where_ls h.ls _).mono ?_; rintro e w' ⟨rfl, rfl⟩) | (go_at_call 21; refine (push_ls h.ls _ _).mono ?_; rintro e w2 ⟨rfl, hl2, hf2⟩))
          go_ret2
          refine ⟨by rw [HB.out, HE.out]; simp [HP.out], ?_, hf2.mono fun k _ hk => .inr hk⟩
          rw [HS.out]
          exact { h with blk := h.blk.fr hf2 h.np, ls := hl2, len := by simpa [pushL_len] using h.len }
      · have hw0 : 0 ≤ whI s.t s.L t := (whI_cases s.t s.L t).resolve_left hw
        have HB : Hid (sdownB s o t = false) := hid (decide_eq_false (fun hh => hw hh.2.2.1))
        have HE : Hid (sdownE s o t = 5) := hid (by unfold sdownE; rw [if_pos ⟨ho, ht⟩, if_neg hw])
        have HS : Hid (sdownS s o t = s) := hid (by unfold sdownS; rw [if_neg (fun hh => hw hh.2.2)])
        clear hw ho
        go_enter Try.func33, Try.ntmps33
        go_wp2_with (first | (go_at_call 91; refine (smade _ P B s h).mono ?_; rintro e w' ⟨rfl, rfl⟩) | (go_at_call 92; refine (sis _ P B s h _).mono ?_; rw [hdo]; rintro e w' ⟨rfl, rfl⟩) | (go_at_call 29; refine (where_ls h.ls _).mono ?_; rintro e w' ⟨rfl, rfl⟩))
        go_ret2
        exact ⟨by rw [HB.out, HE.out]; rfl, by rw [HS.out]; exact h, Fr.refl _ _⟩
    · have HB : Hid (sdownB s o t = false) := hid (decide_eq_false (fun hh => ht hh.2.1))
      have HE : Hid (sdownE s o t = 8) := hid (by unfold sdownE; rw [if_neg (fun hh => ht hh.2)])
      have HS : Hid (sdownS s o t = s) := hid (by unfold sdownS; rw [if_neg (fun hh => ht hh.2.1)])
      rcases inR_no ht with ht1 | ht1
      all_goals
        clear ht ho
        go_enter Try.func33, Try.ntmps33
        go_wp2_with (first | (go_at_call 91; refine (smade _ P B s h).mono ?_; rintro e w' ⟨rfl, rfl⟩) | (go_at_call 92; refine (sis _ P B s h _).mono ?_; rw [hdo]; rintro e w' ⟨rfl, rfl⟩))
        all_goals go_ret2
        all_goals exact ⟨by rw [HB.out, HE.out]; rfl, by rw [HS.out]; exact h, Fr.refl _ _⟩
  · have hdo := decide_eq_false ho
    have HB : Hid (sdownB s o t = false) := hid (decide_eq_false (fun hh => ho hh.1))
    have HE : Hid (sdownE s o t = 8) := hid (by unfold sdownE; rw [if_neg (fun hh => ho hh.1)])
    have HS : Hid (sdownS s o t = s) := hid (by unfold sdownS; rw [if_neg (fun hh => ho hh.1)])
    clear ho
    go_enter Try.func33, Try.ntmps33
    go_wp2_with (first | (go_at_call 91; refine (smade _ P B s h).mono ?_; rintro e w' ⟨rfl, rfl⟩) | (go_at_call 92; refine (sis _ P B s h _).mono ?_; rw [hdo]; rintro e w' ⟨rfl, rfl⟩))
    go_ret2
    exact ⟨by rw [HB.out, HE.out]; rfl, by rw [HS.out]; exact h, Fr.refl _ _⟩
end Go.Proofs.Ytffjaaolcphonaa
