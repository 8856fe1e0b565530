/- The document's links: Where, may. -/
import Derived.Test.YtffjaaolcphonaaRef5
namespace Go.Proofs.Ytffjaaolcphonaa
open Go.RowKit

theorem whI_no {T : Nat} {L : List (List Nat)} {t : Int} (h : ∀ i, i < L.length → ∀ x ∈ gl L i, (x : Int) ≠ t) : whI T L t = -1 := by
  unfold whI; split
  · rename_i ht
    refine wh_no.2 fun i hi hm => h i hi _ hm ?_
    unfold inR at ht; omega
  · rfl
theorem whI_yes {T : Nat} {L : List (List Nat)} {t : Int} {i x : Nat} (hi : i < L.length) (h : ∀ k, k < i → ∀ x ∈ gl L k, (x : Int) ≠ t) (hx : x ∈ gl L i) (hxt : (x : Int) = t) (hT : x < T) : whI T L t = i := by
  subst hxt
  unfold whI; rw [if_pos ⟨by omega, by omega⟩, Int.toNat_natCast]
  unfold wh
  have e : L.findIdx? (fun l => decide (x ∈ l)) = some i := by
    rw [List.findIdx?_eq_some_iff_getElem]
    refine ⟨hi, by simpa [gl, hi] using hx, fun j hj => ?_⟩
    have := h j hj
    have hj' : j < L.length := by omega
    simp only [gl, List.getD_eq_getElem?_getD, List.getElem?_eq_getElem hj', Option.getD_some] at this
    simp only [decide_eq_true_eq]
    intro hm; exact this x hm rfl
  rw [e]
section
variable {w : World} {lo p R T : Nat} {L : List (List Nat)}
set_option maxHeartbeats 1000000 in
theorem rwhere (h : RefAt w lo p R T L) (t : Int) : Calls Try.prog 30 #[.pointer (some ⟨p, 0, none⟩), .int .i64 t] w fun e w' => e = .returned (.int .i64 (whI T L t)) ∧ w = w' := by
  have F1 := h.f1
  have m1 := h.m1
  have H := hid h
  go_enter Try.func30, Try.ntmps30
  go_wp2
  go_loop [14] (fun c => ∃ i : Nat, c = .int .i64 i ∧ i ≤ L.length ∧ ∀ k, k < i → ∀ x ∈ gl L k, (x : Int) ≠ t) (fun c => L.length - (intOf c).toNat)
  case atStart => exact ⟨0, rfl, Nat.zero_le _, fun _ h => absurd h (Nat.not_lt_zero _)⟩
  case round =>
    obtain ⟨i, rfl, hi, hno⟩ := hrel
    have HN := hid hno
    clear hno
    by_cases hlt : i < L.length
    · have hlt' : (i : Int) < (L.length : Int) := by omega
      obtain ⟨a, c, hc, hr⟩ := H.out.row hlt
      have hs := H.out.sh i hlt
      have HR := hid hr
      have HB := hid (H.out.bd i hlt)
      clear hr
      obtain ⟨l, hl⟩ : ∃ l, gl L i = l := ⟨_, rfl⟩
      rw [hl] at hc hs
      have HL := hid hl
      clear hl
      go_wp2
      go_loop [21] (fun c => ∃ j : Nat, c = .int .i64 j ∧ j ≤ l.length ∧ ∀ k, k < j → ((l.getD k 0 : Nat) : Int) ≠ t) (fun c => l.length - (intOf c).toNat)
      case atStart => exact ⟨0, rfl, Nat.zero_le _, fun _ h => absurd h (Nat.not_lt_zero _)⟩
      case round =>
        obtain ⟨j, rfl, hj, hnj⟩ := hrel
        have HJ := hid hnj
        clear hnj
        by_cases hjl : j < l.length
        · have hjl' : (j : Int) < (l.length : Int) := by omega
          rcases HR.out.1 with ⟨h0, _⟩ | ⟨_, b, off, c', hv, hcell⟩
          · rw [HL.out] at h0; simp [zi] at h0; subst h0; simp at hjl
          · injection hv with hv _ _
            subst hv
            have hx := hcell j (by rw [zi_len, HL.out]; exact hjl)
            rw [show (zi (gl L i)).getD j 0 = ((l.getD j 0 : Nat) : Int) by rw [HL.out]; simp [zi, hjl]] at hx
            clear hcell
            obtain ⟨x, hxe⟩ : ∃ x, l.getD j 0 = x := ⟨_, rfl⟩
            rw [hxe] at hx
            have HX := hid hxe
            clear hxe
            by_cases hxt : (x : Int) = t
            · have hd : ((x : Int) == t) = true := by simpa using hxt
              have HT := hid hxt
              clear hxt
              go_wp2
              go_ret
              have hm : x ∈ gl L i := by
                rw [HL.out, ← HX.out, List.getD_eq_getElem?_getD, List.getElem?_eq_getElem hjl, Option.getD_some]; exact List.getElem_mem _
              exact ⟨by rw [whI_yes hlt HN.out hm HT.out (HB.out x hm)]; rfl, rfl⟩
            · have hd : ((x : Int) == t) = false := by simpa using hxt
              have HT := hid hxt
              clear hxt
              go_wp2
              go_round
              case rel =>
                refine ⟨j + 1, by go_num, by omega, fun k hk => ?_⟩
                by_cases e : k = j
                · subst e; rw [HX.out]; exact HT.out
                · exact HJ.out k (by omega)
              case measure => simp [intOf]; omega
        · have hjl' : ¬ (j : Int) < (l.length : Int) := by omega
          go_wp2
          go_round
          case rel =>
            refine ⟨i + 1, by go_num, by omega, fun k hk x hx => ?_⟩
            by_cases e : k = i
            · subst e
              rw [HL.out] at hx
              obtain ⟨n, hn, rfl⟩ := List.getElem_of_mem hx
              have := HJ.out n (by omega)
              rwa [List.getD_eq_getElem?_getD, List.getElem?_eq_getElem hn, Option.getD_some] at this
            · exact HN.out k (by omega) x hx
          case measure => simp [intOf]; omega
    · have hlt' : ¬ (i : Int) < (L.length : Int) := by omega
      go_wp2
      go_ret
      exact ⟨by rw [whI_no fun k hk => HN.out k (by omega)]; rfl, rfl⟩
theorem wh_ge (L : List (List Nat)) (t : Nat) : wh L t = -1 ∨ 0 ≤ wh L t := by
  rcases wh_cases L t with h | ⟨i, h⟩
  · exact .inl h
  · exact .inr (by omega)
theorem rmay (h : RefAt w lo p R T L) (i t : Int) : Calls Try.prog 134 #[.pointer (some ⟨p, 0, none⟩), .int .i64 i, .int .i64 t] w fun e w' => e = .returned (.int .i64 (pushE T L i t)) ∧ w = w' := by
  by_cases hi : inR i L.length
  · have hi' := hid (decide_eq_true hi)
    by_cases ht : inR t T
    · have ht' := hid (decide_eq_true ht)
      have hw : whI T L t = wh L t.toNat := by unfold whI; rw [if_pos ht]
      have hc := wh_ge L t.toNat
      obtain ⟨z, hz⟩ : ∃ z, whI T L t = z := ⟨_, rfl⟩
      have HE : Hid (pushE T L i t = if z = -1 then 0 else 5) := by unfold pushE; rw [if_pos ⟨hi, ht⟩, ← hw, hz]; exact rfl
      rw [← hw, hz] at hc
      have HZ := hid hz
      clear hz hw hi ht
      by_cases hz : z = -1
      · subst hz
        go_enter Try.func134, Try.ntmps134
        go_wp2_with (first | (go_at_call 90; refine (rlist h _).mono ?_; rw [hi'.out]; rintro e w' ⟨rfl, rfl⟩) | (go_at_call 135; refine (rthing h _).mono ?_; rw [ht'.out]; rintro e w' ⟨rfl, rfl⟩) | (go_at_call 30; refine (rwhere h _).mono ?_; rw [HZ.out]; rintro e w' ⟨rfl, rfl⟩))
        go_ret
        exact ⟨by rw [HE.out]; rfl, rfl⟩
      · have hz0 : 0 ≤ z := by omega
        have HZ' := hid hz
        clear hz hc
        go_enter Try.func134, Try.ntmps134
        go_wp2_with (first | (go_at_call 90; refine (rlist h _).mono ?_; rw [hi'.out]; rintro e w' ⟨rfl, rfl⟩) | (go_at_call 135; refine (rthing h _).mono ?_; rw [ht'.out]; rintro e w' ⟨rfl, rfl⟩) | (go_at_call 30; refine (rwhere h _).mono ?_; rw [HZ.out]; rintro e w' ⟨rfl, rfl⟩))
        go_ret
        exact ⟨by rw [HE.out, if_neg HZ'.out]; rfl, rfl⟩
    · have ht' := hid (decide_eq_false ht)
      have HE : Hid (pushE T L i t = 8) := by unfold pushE; rw [if_neg (fun h => ht h.2)]; exact rfl
      clear hi ht
      go_enter Try.func134, Try.ntmps134
      go_wp2_with (first | (go_at_call 90; refine (rlist h _).mono ?_; rw [hi'.out]; rintro e w' ⟨rfl, rfl⟩) | (go_at_call 135; refine (rthing h _).mono ?_; rw [ht'.out]; rintro e w' ⟨rfl, rfl⟩))
      go_ret
      exact ⟨by rw [HE.out]; rfl, rfl⟩
  · have hi' := hid (decide_eq_false hi)
    have HE : Hid (pushE T L i t = 8) := by unfold pushE; rw [if_neg (fun h => hi h.1)]; exact rfl
    clear hi
    go_enter Try.func134, Try.ntmps134
    go_wp2_with (first | (go_at_call 90; refine (rlist h _).mono ?_; rw [hi'.out]; rintro e w' ⟨rfl, rfl⟩))
    go_ret
    exact ⟨by rw [HE.out]; rfl, rfl⟩
end
end Go.Proofs.Ytffjaaolcphonaa
