/- Semaphores: Up, Drop, New. -/
import Derived.Test.YtffjaaolcphonaaSema
namespace Go.Proofs.Ytffjaaolcphonaa
open Go.RowKit

def supT (s : SS) (o : Int) : Int := if inR o s.o ∧ gl s.L o.toNat ≠ [] then popT s.L o else -1
def supE (s : SS) (o : Int) : Int := if inR o s.o then (if gl s.L o.toNat ≠ [] then 0 else if 1000000 ≤ s.V.getD o.toNat 0 then 3 else 0) else 8
def supS (s : SS) (o : Int) : SS :=
  if inR o s.o then (if gl s.L o.toNat ≠ [] then { s with L := popL s.L o } else if 1000000 ≤ s.V.getD o.toNat 0 then s else { s with V := s.V.set o.toNat (s.V.getD o.toNat 0 + 1) }) else s
theorem popL_len (L : List (List Nat)) (i : Int) : (popL L i).length = L.length := by unfold popL; split <;> simp
theorem remL_len (T : Nat) (L : List (List Nat)) (t : Int) : (remL T L t).length = L.length := by unfold remL; split <;> simp

theorem sup (w : World) (P : Nat) (B : LB) (s : SS) (h : SAt w P B s) (o : Int) : Calls Try.prog 35 #[.pointer (some ⟨P, 0, none⟩), .int .i64 o] w fun e w' =>
    e = .returned (.tuple #[.int .i64 (supT s o), .int .i64 (supE s o)]) ∧ SAt w' P B (supS s o) ∧ Fr (sfoot P B) w w' := by
  have cl := h.cl
  by_cases ho : inR o s.o
  · have hdo := decide_eq_true ho
    by_cases hL : gl s.L o.toNat = []
    · have HPE : Hid (popE' s.L o = 4) := hid (by unfold popE'; rw [if_pos (h.len ▸ ho), if_pos hL])
      have HPL : Hid (popL s.L o = s.L) := hid (by unfold popL; rw [HPE.out]; rfl)
      have HT : Hid (supT s o = -1) := hid (by unfold supT; rw [if_neg (fun hh => hh.2 hL)])
      obtain ⟨o, rfl⟩ := Int.eq_ofNat_of_zero_le ho.1
      obtain ⟨v, hv⟩ : ∃ v, s.V.getD o 0 = v := ⟨_, rfl⟩
      have ho1 := h.o1
      have ho2 : (o : Int) < 64 := by have := ho.2; omega
      have ho3 : o < 64 := by omega
      have hv0 := h.v0 o
      rw [hv] at hv0
      obtain ⟨hv1, hv2⟩ := hv0
      have HV := hid hv
      by_cases hv3 : 1000000 ≤ v
      · have HE : Hid (supE s o = 3) := hid (by unfold supE; rw [if_pos ho, if_neg (fun hh => hh hL), Int.toNat_natCast, hv, if_pos hv3])
        have HS : Hid (supS s o = s) := hid (by unfold supS; rw [if_pos ho, if_neg (fun hh => hh hL), Int.toNat_natCast, hv, if_pos hv3])
        clear hv ho1 ho hL
        go_enter Try.func35, Try.ntmps35
        go_wp2_with (first | (go_at_call 91; refine (smade _ P B s h).mono ?_; rintro e w' ⟨rfl, rfl⟩) | (go_at_call 92; refine (sis _ P B s h _).mono ?_; rw [hdo]; rintro e w' ⟨rfl, rfl⟩) | (go_at_call 41; refine (pop_ls h.ls _).mono ?_; rw [HPE.out, HPL.out]; rintro e w2 ⟨rfl, hl2, hf2⟩; have cv : w2.cell? ⟨P, 2 + o, none⟩ = some (.int .i64 v) := HV.out ▸ (show w2.cell? ⟨P, 2 + o, none⟩ = some (.int .i64 (s.V.getD o 0)) from ({ h with blk := h.blk.fr hf2 h.np, ls := hl2 } : SAt w2 P B s).cv ho3)))
        go_ret2
        refine ⟨by rw [HT.out, HE.out]; rfl, ?_, hf2.mono fun k _ hk => .inr hk⟩
        rw [HS.out]; exact { h with blk := h.blk.fr hf2 h.np, ls := hl2 }
      · have HE : Hid (supE s o = 0) := hid (by unfold supE; rw [if_pos ho, if_neg (fun hh => hh hL), Int.toNat_natCast, hv, if_neg hv3])
        have HS : Hid (supS s o = { s with V := s.V.set o (v + 1) }) := hid (by unfold supS; rw [if_pos ho, if_neg (fun hh => hh hL), Int.toNat_natCast, hv, if_neg hv3])
        clear hv ho1 ho hL
        go_enter Try.func35, Try.ntmps35
        go_wp2_with (first | (go_at_call 91; refine (smade _ P B s h).mono ?_; rintro e w' ⟨rfl, rfl⟩) | (go_at_call 92; refine (sis _ P B s h _).mono ?_; rw [hdo]; rintro e w' ⟨rfl, rfl⟩) | (go_at_call 41; refine (pop_ls h.ls _).mono ?_; rw [HPE.out, HPL.out]; rintro e w2 ⟨rfl, hl2, hf2⟩; have h2 : SAt w2 P B s := { h with blk := h.blk.fr hf2 h.np, ls := hl2 }; have cv : w2.cell? ⟨P, 2 + o, none⟩ = some (.int .i64 v) := HV.out ▸ h2.cv ho3; have fz : w2.frozen? ⟨P, 2 + o, none⟩ = false := h2.blk.frozen _))
        go_region
        go_wp2
        go_ret2
        refine ⟨by rw [HT.out, HE.out]; rfl, ?_, ?_⟩
        · rw [HS.out]; exact (h2.setV ho3 (v + 1) (by omega) (by omega)).still ((Fr.refl _ _).drew)
        · exact ((hf2.mono fun k _ hk => (.inr hk : sfoot P B k)).setCell (.inl (.inl rfl)) _).drew
    · have HPE : Hid (popE' s.L o = 0) := hid (by unfold popE'; rw [if_pos (h.len ▸ ho), if_neg hL])
      have HT : Hid (supT s o = popT s.L o) := hid (by unfold supT; rw [if_pos ⟨ho, hL⟩])
      have HE : Hid (supE s o = 0) := hid (by unfold supE; rw [if_pos ho, if_pos hL])
      have HS : Hid (supS s o = { s with L := popL s.L o }) := hid (by unfold supS; rw [if_pos ho, if_pos hL])
      clear ho hL
      go_enter Try.func35, Try.ntmps35
      go_wp2_with (first | (go_at_call 91; refine (smade _ P B s h).mono ?_; rintro e w' ⟨rfl, rfl⟩) | (go_at_call 92; refine (sis _ P B s h _).mono ?_; rw [hdo]; rintro e w' ⟨rfl, rfl⟩) | (go_at_call 41; refine (pop_ls h.ls _).mono ?_; rw [HPE.out]; rintro e w2 ⟨rfl, hl2, hf2⟩))
      go_ret2
      refine ⟨by rw [HT.out, HE.out]; rfl, ?_, hf2.mono fun k _ hk => .inr hk⟩
      rw [HS.out]; exact { h with blk := h.blk.fr hf2 h.np, ls := hl2, len := by simpa [popL_len] using h.len }
  · have hdo := decide_eq_false ho
    have HT : Hid (supT s o = -1) := hid (by unfold supT; rw [if_neg (fun hh => ho hh.1)])
    have HE : Hid (supE s o = 8) := hid (by unfold supE; rw [if_neg ho])
    have HS : Hid (supS s o = s) := hid (by unfold supS; rw [if_neg ho])
    clear ho
    go_enter Try.func35, Try.ntmps35
    go_wp2_with (first | (go_at_call 91; refine (smade _ P B s h).mono ?_; rintro e w' ⟨rfl, rfl⟩) | (go_at_call 92; refine (sis _ P B s h _).mono ?_; rw [hdo]; rintro e w' ⟨rfl, rfl⟩))
    go_ret2
    exact ⟨by rw [HT.out, HE.out]; rfl, by rw [HS.out]; exact h, Fr.refl _ _⟩

theorem sdrop (w : World) (P : Nat) (B : LB) (s : SS) (h : SAt w P B s) (t : Int) : Calls Try.prog 34 #[.pointer (some ⟨P, 0, none⟩), .int .i64 t] w fun e w' =>
    e = .returned (.bool (remE' s.t s.L t == 0)) ∧ SAt w' P B { s with L := remL s.t s.L t } ∧ Fr (sfoot P B) w w' := by
  have cl := h.cl
  go_enter Try.func34, Try.ntmps34
  go_wp2_with (first | (go_at_call 91; refine (smade _ P B s h).mono ?_; rintro e w' ⟨rfl, rfl⟩) | (go_at_call 42; refine (remove_ls h.ls _).mono ?_; rintro e w2 ⟨rfl, hl2, hf2⟩))
  go_ret
  exact ⟨rfl, { h with blk := h.blk.fr hf2 h.np, ls := hl2, len := by simpa [remL_len] using h.len }, hf2.mono fun k _ hk => .inr hk⟩

theorem snew (w : World) (o t : Nat) (o0 : 1 ≤ o) (o1 : o ≤ 64) (t0 : 1 ≤ t) (t1 : t ≤ 1024) : Calls Try.prog 32 #[.int .i64 o, .int .i64 t] w fun e w' =>
    ∃ (P : Nat) (B : LB), e = .returned (.pointer (some ⟨P, 0, none⟩)) ∧ SAt w' P B ⟨o, t, List.replicate 64 0, List.replicate o []⟩ ∧ Still w w' ∧ ∀ k, sfoot P B k → w.heap.size ≤ k := by
  go_enter Try.func32, Try.ntmps32
  go_wp2_with (go_at_call 19; refine (new_ls _ t o t0 (by omega) o0 (by omega)).mono ?_; rintro e w2 ⟨B, rfl, hl, hs, hf⟩)
  go_ret
  refine ⟨_, B, rfl, ⟨Blk.new _ _ _, hl.still ((Still.refl _).alloc _), by simp, by simp, ?_, o0, o1, t0, t1, ?_⟩, hs.alloc _, ?_⟩
  · intro i
    show 0 ≤ (List.replicate 64 (0 : Int)).getD i 0 ∧ (List.replicate 64 (0 : Int)).getD i 0 ≤ 1000000
    simp only [List.getD_eq_getElem?_getD, List.getElem?_replicate]
    split <;> simp
  · intro hk; have := hl.lt hk; omega
  · rintro k (rfl | hk)
    · exact hs.size
    · exact hf k hk
end Go.Proofs.Ytffjaaolcphonaa
