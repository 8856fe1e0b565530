/- The locks: get, pass, Lock, Unlock, Owner. -/
import Derived.Test.YtffjaaolcphonaaLock3
namespace Go.Proofs.Ytffjaaolcphonaa
open Go.RowKit
theorem gl_set_self' (L : List (List Nat)) (i : Nat) (l : List Nat) (h : i < L.length) : gl (L.set i l) i = l := by simp [gl, h]
theorem gl_set_ne' (L : List (List Nat)) {i j : Nat} (l : List Nat) (h : i ≠ j) : gl (L.set i l) j = gl L j := by simp [gl, h]
section
variable {w : World} {K : KB} {s : LS}
theorem LkAt.zO (h : LkAt w K s) (i : Nat) : w.frozen? ⟨K.O, i, none⟩ = false := IBlk.frozen h.ho i
theorem LkAt.zA (h : LkAt w K s) (i : Nat) : w.frozen? ⟨K.A, i, none⟩ = false := IBlk.frozen h.ha i
theorem LkAt.cO (h : LkAt w K s) {i : Nat} (hi : i < s.n) : w.cell? ⟨K.O, i, none⟩ = some (.int .i64 (s.ow.getD i 0)) := h.ho.cell (by rw [h.lo]; exact hi)
theorem LkAt.cA (h : LkAt w K s) {i : Nat} (hi : i < s.T) : w.cell? ⟨K.A, i, none⟩ = some (.int .i64 (s.ag.getD i 0)) := h.ha.cell (by rw [h.la]; exact hi)
theorem LkAt.setO (h : LkAt w K s) (i : Nat) (v : Int) : LkAt (w.setCell ⟨K.O, i, none⟩ (.int .i64 v)) K { s with ow := s.ow.set i v } :=
  { h with hp := h.hp.other (p := ⟨K.O, i, none⟩) h.PO _, ho := h.ho.put i v, ha := IBlk.other h.ha (p := ⟨K.O, i, none⟩) h.OA.symm _,
           hl := h.hl.fr (F := fun k => k = K.O) ((Fr.refl (fun k => k = K.O) w).setCell (p := ⟨K.O, i, none⟩) (.inl rfl) _) (fun k hk e => by subst e; exact h.dO hk), lo := by simpa using h.lo }
theorem LkAt.setA (h : LkAt w K s) (i : Nat) (v : Int) (hv : inR v s.n) : LkAt (w.setCell ⟨K.A, i, none⟩ (.int .i64 v)) K { s with ag := s.ag.set i v } :=
  { h with hp := h.hp.other (p := ⟨K.A, i, none⟩) h.PA _, ha := h.ha.put i v, ho := IBlk.other h.ho (p := ⟨K.A, i, none⟩) h.OA _,
           hl := h.hl.fr (F := fun k => k = K.A) ((Fr.refl (fun k => k = K.A) w).setCell (p := ⟨K.A, i, none⟩) (.inl rfl) _) (fun k hk e => by subst e; exact h.dA hk), la := by simpa using h.la,
           wf := fun t ht => by
             have := h.wf t ht
             by_cases e : i = t
             · subst e
               by_cases hi : i < s.ag.length
               · simpa [List.getD, hi] using hv
               · rw [List.set_eq_of_length_le (by omega)]; exact this
             · simpa [List.getD, e] using this }
theorem LkAt.setL {w' : World} {L' : List (List Nat)} (h : LkAt w K s) (hl : LsAt w' K.B s.T L') (hf : Fr K.B.foot w w') (hn : L'.length = s.L.length) : LkAt w' K { s with L := L' } :=
  { h with hp := h.hp.fr hf h.dP, ho := IBlk.fr h.ho hf h.dO, ha := IBlk.fr h.ha hf h.dA, hl := hl, ll := hn.trans h.ll }
theorem popL_len (L : List (List Nat)) (i : Int) : (popL L i).length = L.length := by unfold popL; split <;> simp
theorem pushL_len' (T : Nat) (L : List (List Nat)) (i t : Int) : (pushL T L i t).length = L.length := by unfold pushL; split <;> simp
theorem remL_len (T : Nat) (L : List (List Nat)) (t : Int) : (remL T L t).length = L.length := by unfold remL; split <;> simp
/-- What stands in a list behind a pop stood there before. -/
theorem popL_mem {L : List (List Nat)} {i : Int} {j t : Nat} (h : t ∈ gl (popL L i) j) : t ∈ gl L j := by
  unfold popL at h
  split at h
  · by_cases e : i.toNat = j
    · subst e
      by_cases hl : i.toNat < L.length
      · rw [gl_set_self' _ _ _ hl] at h; exact List.mem_of_mem_tail h
      · rw [List.set_eq_of_length_le (by omega)] at h; exact h
    · rw [gl_set_ne' _ _ e] at h; exact h
  · exact h
theorem remL_mem {T : Nat} {L : List (List Nat)} {t : Int} {j x : Nat} (h : x ∈ gl (remL T L t) j) : x ∈ gl L j := by
  unfold remL at h
  split at h
  · by_cases e : (wh L t.toNat).toNat = j
    · subst e
      by_cases hl : (wh L t.toNat).toNat < L.length
      · rw [gl_set_self' _ _ _ hl] at h; exact List.mem_of_mem_erase h
      · rw [List.set_eq_of_length_le (by omega)] at h; exact h
    · rw [gl_set_ne' _ _ e] at h; exact h
  · exact h
theorem pushL_mem {T : Nat} {L : List (List Nat)} {i t : Int} {j x : Nat} (h : x ∈ gl (pushL T L i t) j) : x ∈ gl L j ∨ (i.toNat = j ∧ x = t.toNat ∧ pushE T L i t = 0) := by
  unfold pushL at h
  split at h
  · rename_i h0
    by_cases e : i.toNat = j
    · subst e
      by_cases hl : i.toNat < L.length
      · rw [gl_set_self' _ _ _ hl] at h
        rcases List.mem_append.1 h with h | h
        · exact .inl h
        · exact .inr ⟨rfl, by simpa using h, h0⟩
      · rw [List.set_eq_of_length_le (by omega)] at h; exact .inl h
    · rw [gl_set_ne' _ _ e] at h; exact .inl h
  · exact .inl h

/-- A thread has a lock, or stands behind those that wait for it. -/
def getS (s : LS) (o : Nat) (t : Int) : LS := if s.ow.getD o 0 = -1 then { s with ow := s.ow.set o t } else { s with L := pushL s.T s.L o t }
def getB (s : LS) (o : Nat) : Bool := s.ow.getD o 0 == -1
theorem lkget (h : LkAt w K s) (o : Nat) (t : Int) (ho : o < s.n) : Calls Try.prog 111 #[.pointer (some ⟨K.P, 0, none⟩), .int .i64 o, .int .i64 t] w fun e w' =>
    e = .returned (.bool (getB s o)) ∧ LkAt w' K (getS s o t) ∧ Fr K.foot w w' := by
  have F0 := h.f0
  have F2 := h.f2
  have C := h.cO ho
  have Z := h.zO o
  have hi : (o : Int) < (s.n : Int) := by omega
  obtain ⟨x, hx⟩ : ∃ x, s.ow.getD o 0 = x := ⟨_, rfl⟩
  rw [hx] at C
  have HX := hid hx
  clear hx
  by_cases h0 : x = -1
  · subst h0
    have HB : Hid (getB s o = true) := by unfold getB; rw [HX.out]; exact rfl
    have HS : Hid (getS s o t = { s with ow := s.ow.set o t }) := by unfold getS; rw [if_pos HX.out]; exact rfl
    rw [HB.out, HS.out]
    go_enter Try.func111, Try.ntmps111
    go_wp2
    go_ret
    exact ⟨rfl, h.setO o t, (Fr.refl K.foot w).setCell (p := ⟨K.O, o, none⟩) (.inl (.inl rfl)) _⟩
  · have hd : (x == -1) = false := by simpa using h0
    have HB : Hid (getB s o = false) := by unfold getB; rw [HX.out, hd]; exact rfl
    have HS : Hid (getS s o t = { s with L := pushL s.T s.L o t }) := by unfold getS; rw [if_neg (by rw [HX.out]; exact h0)]; exact rfl
    rw [HB.out, HS.out]
    clear h0
    go_enter Try.func111, Try.ntmps111
    go_wp2_with fail
    refine (push_ls h.hl o t).mono ?_
    rintro e w' ⟨rfl, hl, hf⟩
    go_wp2_with fail
    go_ret
    exact ⟨rfl, h.setL hl hf (pushL_len' _ _ _ _), hf.mono fun _ _ h => .inr (.inr h)⟩
/-- A lock goes to who waits first. -/
def passT (s : LS) (o : Nat) : Int := if gl s.L o = [] then -1 else (((gl s.L o).head?.getD 0 : Nat) : Int)
def passS (s : LS) (o : Nat) : LS := { s with ow := s.ow.set o (passT s o), L := popL s.L o }
theorem lkpass (h : LkAt w K s) (o : Nat) (ho : o < s.n) : Calls Try.prog 112 #[.pointer (some ⟨K.P, 0, none⟩), .int .i64 o] w fun e w' =>
    e = .returned (.int .i64 (passT s o)) ∧ LkAt w' K (passS s o) ∧ Fr K.foot w w' := by
  have F0 := h.f0
  have F2 := h.f2
  have hi : (o : Int) < (s.n : Int) := by omega
  have hoL : inR (o : Int) s.L.length := ⟨by omega, by rw [h.ll]; omega⟩
  have hfin : ∀ w1 (v : Int), LsAt w1 K.B s.T (popL s.L o) → Fr K.B.foot w w1 → v = passT s o → LkAt (w1.setCell ⟨K.O, o, none⟩ (.int .i64 v)) K (passS s o) ∧ Fr K.foot w (w1.setCell ⟨K.O, o, none⟩ (.int .i64 v)) := fun w1 v hl hf hv => by
    subst hv
    have h1 := h.setL hl hf (popL_len _ _)
    exact ⟨h1.setO o _, (hf.mono fun _ _ h => .inr (.inr h)).setCell (p := ⟨K.O, o, none⟩) (.inl (.inl rfl)) _⟩
  have hst : ∀ w1, LsAt w1 K.B s.T (popL s.L o) → Fr K.B.foot w w1 → LkAt w1 K { s with L := popL s.L o } := fun w1 hl hf => h.setL hl hf (popL_len _ _)
  have HF := hid hfin
  have HS := hid hst
  clear hfin hst
  by_cases h0 : gl s.L o = []
  · have HP : Hid (popE' s.L o = 4) := by unfold popE'; rw [if_pos hoL, Int.toNat_natCast, if_pos h0]; exact rfl
    have HT : Hid (passT s o = -1) := by unfold passT; rw [if_pos h0]; exact rfl
    clear h0 hoL
    go_enter Try.func112, Try.ntmps112
    go_wp2_with fail
    refine (pop_ls h.hl o).mono ?_
    rw [HP.out]
    rintro e w1 ⟨rfl, hl, hf⟩
    have h1 := HS.out w1 hl hf
    have G0 := h1.f0
    have G2 := h1.cO ho
    have Z := h1.zO o
    go_wp2_with fail
    go_ret
    exact ⟨by rw [HT.out]; rfl, HF.out w1 _ hl hf HT.out.symm⟩
  · have HP : Hid (popE' s.L o = 0) := by unfold popE'; rw [if_pos hoL, Int.toNat_natCast, if_neg h0]; exact rfl
    have HT : Hid (passT s o = popT s.L o) := by unfold passT popT; rw [if_neg h0, if_pos hoL, Int.toNat_natCast]; exact rfl
    clear h0 hoL
    go_enter Try.func112, Try.ntmps112
    go_wp2_with fail
    refine (pop_ls h.hl o).mono ?_
    rw [HP.out]
    rintro e w1 ⟨rfl, hl, hf⟩
    have h1 := HS.out w1 hl hf
    have G0 := h1.f0
    have G2 := h1.cO ho
    have Z := h1.zO o
    go_wp2_with fail
    go_ret
    exact ⟨by rw [HT.out]; rfl, HF.out w1 _ hl hf HT.out.symm⟩
end
end Go.Proofs.Ytffjaaolcphonaa
