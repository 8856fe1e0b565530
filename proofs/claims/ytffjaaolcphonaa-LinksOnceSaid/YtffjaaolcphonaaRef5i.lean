/- The document's links: each call, whatever comes in. -/
import Derived.Test.YtffjaaolcphonaaRef5h
namespace Go.Proofs.Ytffjaaolcphonaa
open Go.RowKit
structure Nice (L : List (List Nat)) : Prop where
  nd : ∀ i, i < L.length → (gl L i).Nodup
  uq : ∀ i j x, i < L.length → j < L.length → x ∈ gl L i → x ∈ gl L j → i = j
theorem LsAt.nice {w : World} {B : LB} {T : Nat} {L : List (List Nat)} (h : LsAt w B T L) : Nice L := by
  obtain ⟨r, _, hv, _⟩ := h
  exact ⟨hv.nd, fun i j x a b c d => hv.uniq a b c d⟩
theorem nice_rep (m : Nat) : Nice (List.replicate m []) := ⟨fun i _ => by rw [gl_rep]; simp, fun i j x _ _ h => by rw [gl_rep] at h; simp at h⟩
section
variable {w : World} {lo p R T : Nat} {L : List (List Nat)}
theorem RefAt.short (h : RefAt w lo p R T L) (hn : Nice L) {i t : Nat} (hi : i < L.length) (ht : t < T) (hw : wh L t = -1) : (gl L i).length < 4096 := by
  have h1 := nodup_le T (t :: gl L i) (List.nodup_cons.2 ⟨wh_no.1 hw i hi, hn.nd i hi⟩) (fun x hx => by
    rcases List.mem_cons.1 hx with rfl | hx
    · exact ht
    · exact h.bd i hi x hx)
  have := h.t1
  simp at h1; omega
theorem RefAt.short2 (h : RefAt w lo p R T L) (hn : Nice L) {i j : Nat} (hi : i < L.length) (hj : j < L.length) (hij : i ≠ j) : (gl L i).length + (gl L j).length ≤ 4096 := by
  have h1 := nodup_le T (gl L i ++ gl L j) (List.nodup_append.2 ⟨hn.nd i hi, hn.nd j hj, fun a ha b hb e => by subst e; exact hij (hn.uq i j a hi hj ha hb)⟩) (fun x hx => by
    rcases List.mem_append.1 hx with hx | hx
    · exact h.bd i hi x hx
    · exact h.bd j hj x hx)
  have := h.t1
  simp at h1; omega
theorem rpush_err (h : RefAt w lo p R T L) (i t z : Int) (hz : pushE T L i t = z) (hz0 : z ≠ 0) (f : Nat) (hf : f = 84 ∨ f = 85) : Calls Try.prog f #[.pointer (some ⟨p, 0, none⟩), .int .i64 i, .int .i64 t] w fun e w' => e = .returned (.int .i64 z) ∧ w = w' := by
  have HZ := hid hz
  clear hz
  rcases hf with rfl | rfl
  · go_enter Try.func84, Try.ntmps84
    go_wp2_with (go_at_call 134; refine (rmay h _ _).mono ?_; rw [HZ.out]; rintro e w' ⟨rfl, rfl⟩)
    go_ret
    exact ⟨rfl, rfl⟩
  · go_enter Try.func85, Try.ntmps85
    go_wp2_with (go_at_call 134; refine (rmay h _ _).mono ?_; rw [HZ.out]; rintro e w' ⟨rfl, rfl⟩)
    go_ret
    exact ⟨rfl, rfl⟩
theorem rpush (h : RefAt w lo p R T L) (hn : Nice L) (i t : Int) : Calls Try.prog 84 #[.pointer (some ⟨p, 0, none⟩), .int .i64 i, .int .i64 t] w fun e w' => e = .returned (.int .i64 (pushE T L i t)) ∧ RefAt w' lo p R T (pushL T L i t) ∧ Fr (fun k => k = R) w w' := by
  by_cases h0 : pushE T L i t = 0
  · obtain ⟨hi, ht, hw⟩ := pushE_zero h0
    obtain ⟨i, rfl⟩ := Int.eq_ofNat_of_zero_le hi.1
    obtain ⟨t, rfl⟩ := Int.eq_ofNat_of_zero_le ht.1
    have hi' : i < L.length := by have := hi.2; omega
    have ht' : t < T := by have := ht.2; omega
    refine (rpush_ok h i t h0 hi' ht' (h.short hn hi' ht' (by simpa using hw))).mono ?_
    rintro e w' ⟨rfl, h1, h2⟩
    exact ⟨by rw [h0], by unfold pushL; rw [if_pos h0, Int.toNat_natCast, Int.toNat_natCast]; exact h1, h2⟩
  · refine (rpush_err h i t _ rfl h0 84 (.inl rfl)).mono ?_
    rintro e w' ⟨rfl, rfl⟩
    exact ⟨rfl, by unfold pushL; rw [if_neg h0]; exact h, Fr.refl _ _⟩
theorem rfront (h : RefAt w lo p R T L) (hn : Nice L) (i t : Int) : Calls Try.prog 85 #[.pointer (some ⟨p, 0, none⟩), .int .i64 i, .int .i64 t] w fun e w' => e = .returned (.int .i64 (pushE T L i t)) ∧ RefAt w' lo p R T (frontL T L i t) ∧ Fr (fun k => k = R) w w' := by
  by_cases h0 : pushE T L i t = 0
  · obtain ⟨hi, ht, hw⟩ := pushE_zero h0
    obtain ⟨i, rfl⟩ := Int.eq_ofNat_of_zero_le hi.1
    obtain ⟨t, rfl⟩ := Int.eq_ofNat_of_zero_le ht.1
    have hi' : i < L.length := by have := hi.2; omega
    have ht' : t < T := by have := ht.2; omega
    refine (rfront_ok h i t h0 hi' ht' (h.short hn hi' ht' (by simpa using hw))).mono ?_
    rintro e w' ⟨rfl, h1, h2⟩
    exact ⟨by rw [h0], by unfold frontL; rw [if_pos h0, Int.toNat_natCast, Int.toNat_natCast]; exact h1, h2⟩
  · refine (rpush_err h i t _ rfl h0 85 (.inr rfl)).mono ?_
    rintro e w' ⟨rfl, rfl⟩
    exact ⟨rfl, by unfold frontL; rw [if_neg h0]; exact h, Fr.refl _ _⟩
theorem rremove_err (h : RefAt w lo p R T L) (t z : Int) (hz : remE' T L t = z) (hz0 : z ≠ 0) : Calls Try.prog 86 #[.pointer (some ⟨p, 0, none⟩), .int .i64 t] w fun e w' => e = .returned (.int .i64 z) ∧ w = w' := by
  by_cases ht : inR t T
  · have HT := hid (decide_eq_true ht)
    have hz' := hz
    unfold remE' at hz'
    rw [if_pos ht] at hz'
    by_cases hw : wh L t.toNat = -1
    · rw [if_pos hw] at hz'
      subst hz'
      have HW : Hid (whI T L t = -1) := by unfold whI; rw [if_pos ht, hw]; exact rfl
      clear hz hz0 hw ht
      go_enter Try.func86, Try.ntmps86
      go_wp2_with (first | (go_at_call 135; refine (rthing h _).mono ?_; rw [HT.out]; rintro e w' ⟨rfl, rfl⟩) | (go_at_call 30; refine (rwhere h _).mono ?_; rw [HW.out]; rintro e w' ⟨rfl, rfl⟩))
      go_ret
      exact ⟨rfl, rfl⟩
    · rw [if_neg hw] at hz'; exact absurd hz'.symm hz0
  · have HT := hid (decide_eq_false ht)
    have hz' := hz
    unfold remE' at hz'
    rw [if_neg ht] at hz'
    subst hz'
    clear hz hz0 ht
    go_enter Try.func86, Try.ntmps86
    go_wp2_with (first | (go_at_call 135; refine (rthing h _).mono ?_; rw [HT.out]; rintro e w' ⟨rfl, rfl⟩))
    go_ret
    exact ⟨rfl, rfl⟩
theorem rremove (h : RefAt w lo p R T L) (hn : Nice L) (t : Int) : Calls Try.prog 86 #[.pointer (some ⟨p, 0, none⟩), .int .i64 t] w fun e w' => e = .returned (.int .i64 (remE' T L t)) ∧ RefAt w' lo p R T (remL T L t) ∧ Fr (fun k => k = R) w w' := by
  by_cases h0 : remE' T L t = 0
  · have ht : inR t T ∧ wh L t.toNat ≠ -1 := by
      unfold remE' at h0
      split at h0
      · rename_i h1
        split at h0
        · omega
        · rename_i h2; exact ⟨h1, h2⟩
      · omega
    obtain ⟨ht, hw⟩ := ht
    obtain ⟨t, rfl⟩ := Int.eq_ofNat_of_zero_le ht.1
    rw [Int.toNat_natCast] at hw
    obtain ⟨i, hi⟩ := (wh_cases L t).resolve_left hw
    obtain ⟨hil, him⟩ := wh_yes hi
    refine (rremove_ok h i t hil (by have := ht.2; omega) (by unfold whI; rw [if_pos ht, Int.toNat_natCast, hi]) (hn.nd i hil)).mono ?_
    rintro e w' ⟨rfl, h1, h2⟩
    exact ⟨by rw [h0], by unfold remL; rw [if_pos h0, Int.toNat_natCast, hi, Int.toNat_natCast]; exact h1, h2⟩
  · refine (rremove_err h t _ rfl h0).mono ?_
    rintro e w' ⟨rfl, rfl⟩
    exact ⟨rfl, by unfold remL; rw [if_neg h0]; exact h, Fr.refl _ _⟩
theorem rpop_err (h : RefAt w lo p R T L) (i z : Int) (hz : popE' L i = z) (hz0 : z ≠ 0) : Calls Try.prog 87 #[.pointer (some ⟨p, 0, none⟩), .int .i64 i] w fun e w' => e = .returned (.tuple #[.int .i64 0, .int .i64 z]) ∧ w = w' := by
  by_cases ht : inR i L.length
  · have HT := hid (decide_eq_true ht)
    have hz' := hz
    unfold popE' at hz'
    rw [if_pos ht] at hz'
    by_cases hw : gl L i.toNat = []
    · rw [if_pos hw] at hz'
      subst hz'
      obtain ⟨i, rfl⟩ := Int.eq_ofNat_of_zero_le ht.1
      have hi' := ht.2
      rw [Int.toNat_natCast] at hw
      have F1 := h.f1
      obtain ⟨a, c, C1, _⟩ := h.row (i := i) (by omega)
      rw [hw] at C1
      simp only [List.length_nil] at C1
      clear hz hz0 hw ht
      go_enter Try.func87, Try.ntmps87
      go_wp2_with (first | (go_at_call 90; refine (rlist h _).mono ?_; rw [HT.out]; rintro e w' ⟨rfl, rfl⟩))
      go_ret2
      exact ⟨rfl, rfl⟩
    · rw [if_neg hw] at hz'; exact absurd hz'.symm hz0
  · have HT := hid (decide_eq_false ht)
    have hz' := hz
    unfold popE' at hz'
    rw [if_neg ht] at hz'
    subst hz'
    clear hz hz0 ht
    go_enter Try.func87, Try.ntmps87
    go_wp2_with (first | (go_at_call 90; refine (rlist h _).mono ?_; rw [HT.out]; rintro e w' ⟨rfl, rfl⟩))
    go_ret2
    exact ⟨rfl, rfl⟩
theorem rpop (h : RefAt w lo p R T L) (i : Int) : Calls Try.prog 87 #[.pointer (some ⟨p, 0, none⟩), .int .i64 i] w fun e w' => e = .returned (.tuple #[.int .i64 (popT L i), .int .i64 (popE' L i)]) ∧ RefAt w' lo p R T (popL L i) ∧ Fr (fun k => k = R) w w' := by
  by_cases h0 : popE' L i = 0
  · have ht : inR i L.length ∧ gl L i.toNat ≠ [] := by
      unfold popE' at h0
      split at h0
      · rename_i h1
        split at h0
        · omega
        · rename_i h2; exact ⟨h1, h2⟩
      · omega
    obtain ⟨hi, hne⟩ := ht
    obtain ⟨i, rfl⟩ := Int.eq_ofNat_of_zero_le hi.1
    rw [Int.toNat_natCast] at hne
    obtain ⟨x, ys, hL⟩ := List.exists_cons_of_ne_nil hne
    refine (rpop_ok h i x ys (by have := hi.2; omega) hL).mono ?_
    rintro e w' ⟨rfl, h1, h2⟩
    refine ⟨?_, by unfold popL; rw [if_pos h0, Int.toNat_natCast, hL]; exact h1, h2⟩
    rw [h0]; unfold popT; rw [if_pos hi, Int.toNat_natCast, hL]; rfl
  · refine (rpop_err h i _ rfl h0).mono ?_
    rintro e w' ⟨rfl, rfl⟩
    refine ⟨?_, by unfold popL; rw [if_neg h0]; exact h, Fr.refl _ _⟩
    unfold popT
    by_cases hi : inR i L.length
    · have : gl L i.toNat = [] := by
        unfold popE' at h0; rw [if_pos hi] at h0
        by_cases h2 : gl L i.toNat = []
        · exact h2
        · rw [if_neg h2] at h0; exact absurd rfl h0
      rw [if_pos hi, this]; rfl
    · rw [if_neg hi]
theorem rmove_err (h : RefAt w lo p R T L) (f t z : Int) (hz : moveLE L f t = z) (hz0 : z ≠ 0) : Calls Try.prog 88 #[.pointer (some ⟨p, 0, none⟩), .int .i64 f, .int .i64 t] w fun e w' => e = .returned (.tuple #[.int .i64 0, .int .i64 z]) ∧ w = w' := by
  unfold moveLE at hz
  by_cases hf : inR f L.length
  · have HF := hid (decide_eq_true hf)
    by_cases ht : inR t L.length
    · have HT := hid (decide_eq_true ht)
      rw [if_pos ⟨hf, ht⟩] at hz
      by_cases hft : f = t
      · rw [if_pos hft] at hz
        subst hz hft
        clear hz0 hf ht
        go_enter Try.func88, Try.ntmps88
        go_wp2_with (first | (go_at_call 90; refine (rlist h _).mono ?_; rw [HF.out]; rintro e w' ⟨rfl, rfl⟩))
        go_ret2
        exact ⟨rfl, rfl⟩
      · rw [if_neg hft] at hz; exact absurd hz.symm hz0
    · have HT := hid (decide_eq_false ht)
      rw [if_neg (fun h => ht h.2)] at hz
      subst hz
      clear hz0 hf ht
      go_enter Try.func88, Try.ntmps88
      go_wp2_with (first | (go_at_call 90; refine (rlist h _).mono ?_; (first | rw [HF.out] | rw [HT.out]); rintro e w' ⟨rfl, rfl⟩))
      go_ret2
      exact ⟨rfl, rfl⟩
  · have HF := hid (decide_eq_false hf)
    rw [if_neg (fun h => hf h.1)] at hz
    subst hz
    clear hz0 hf
    go_enter Try.func88, Try.ntmps88
    go_wp2_with (first | (go_at_call 90; refine (rlist h _).mono ?_; (first | rw [HF.out]); rintro e w' ⟨rfl, rfl⟩))
    go_ret2
    exact ⟨rfl, rfl⟩
theorem rmove (h : RefAt w lo p R T L) (hn : Nice L) (f t : Int) : Calls Try.prog 88 #[.pointer (some ⟨p, 0, none⟩), .int .i64 f, .int .i64 t] w fun e w' => e = .returned (.tuple #[.int .i64 (moveN L f t), .int .i64 (moveLE L f t)]) ∧ RefAt w' lo p R T (moveL L f t) ∧ Fr (fun k => k = R) w w' := by
  by_cases h0 : moveLE L f t = 0
  · have hh : inR f L.length ∧ inR t L.length ∧ f ≠ t := by
      unfold moveLE at h0
      split at h0
      · rename_i h1
        split at h0
        · omega
        · rename_i h2; exact ⟨h1.1, h1.2, h2⟩
      · omega
    obtain ⟨hf, ht, hft⟩ := hh
    obtain ⟨f, rfl⟩ := Int.eq_ofNat_of_zero_le hf.1
    obtain ⟨t, rfl⟩ := Int.eq_ofNat_of_zero_le ht.1
    have hf' : f < L.length := by have := hf.2; omega
    have ht' : t < L.length := by have := ht.2; omega
    have hft' : f ≠ t := by omega
    refine (rmove_ok h f t hf' ht' hft' (h.short2 hn ht' hf' (fun e => hft' e.symm))).mono ?_
    rintro e w' ⟨rfl, h1, h2⟩
    refine ⟨by unfold moveN; rw [if_pos h0, h0, Int.toNat_natCast], ?_, h2⟩
    unfold moveL; rw [if_pos h0, Int.toNat_natCast, Int.toNat_natCast, List.set_comm _ _ hft']
    exact h1
  · refine (rmove_err h f t _ rfl h0).mono ?_
    rintro e w' ⟨rfl, rfl⟩
    exact ⟨by unfold moveN; rw [if_neg h0], by unfold moveL; rw [if_neg h0]; exact h, Fr.refl _ _⟩
end
end Go.Proofs.Ytffjaaolcphonaa
