/- The document's links: Remove. -/
import Derived.Test.YtffjaaolcphonaaRef5f
namespace Go.Proofs.Ytffjaaolcphonaa
open Go.RowKit
theorem filter_step (l : List Nat) (t j : Nat) (hj : j < l.length) : (l.take (j + 1)).filter (fun y => y != t) = (l.take j).filter (fun y => y != t) ++ (if l.getD j 0 ≠ t then [l.getD j 0] else []) := by
  rw [List.take_succ_eq_append_getElem hj, List.filter_append]
  congr 1
  have : l.getD j 0 = l[j] := by simp [List.getD, hj]
  rw [this]
  by_cases e : l[j] = t <;> simp [e]
section
variable {w : World} {lo p R T : Nat} {L : List (List Nat)}
set_option maxRecDepth 100000 in
set_option maxHeartbeats 4000000 in
theorem rremove_ok (h : RefAt w lo p R T L) (i t : Nat) (hi : i < L.length) (ht : t < T) (hw : whI T L t = i) (hnd : (gl L i).Nodup) :
    Calls Try.prog 86 #[.pointer (some ⟨p, 0, none⟩), .int .i64 t] w fun e w' => e = .returned (.int .i64 0) ∧
      RefAt w' lo p R T (L.set i ((gl L i).erase t)) ∧ Fr (fun k => k = R) w w' := by
  have F1 := h.f1
  have hi' : (i : Int) < (L.length : Int) := by omega
  have HD := hid (decide_eq_true (p := inR t T) ⟨by omega, by omega⟩)
  have HW := hid hw
  obtain ⟨a, c, Ct, hr⟩ := h.row hi
  have Z := h.frz i
  have hs := h.sh i hi
  have hRl : R < w.heap.size := World.block_lt_of_cell? _ _ Ct
  have hr1 := hid hr.1
  have HN := hid (List.Nodup.erase_eq_filter hnd t)
  obtain ⟨l, hl⟩ : ∃ l, gl L i = l := ⟨_, rfl⟩
  have HL := hid hl
  rw [hl] at Ct hs hr1 HN
  rw [hl]
  clear hl hw hr hnd
  go_enter Try.func86, Try.ntmps86
  go_wp2_with (first | (go_at_call 135; refine (rthing h _).mono ?_; rw [HD.out]; rintro e w' ⟨rfl, rfl⟩) | (go_at_call 30; refine (rwhere h _).mono ?_; rw [HW.out]; rintro e w' ⟨rfl, rfl⟩))
  go_loopw [6, 26] (fun x c wr => ∃ j : Nat, c = .int .i64 j ∧ j ≤ l.length ∧ wr.ownsRow w.heap.size 3 1 x ((l.take j).filter fun y => y != t).length (ints (zi ((l.take j).filter fun y => y != t))) ∧ Still w wr) (fun _ c _ => l.length - (intOf c).toNat)
  case atStart => exact ⟨0, rfl, Nat.zero_le _, by simpa [ints, zi] using World.ownsRow_nil _ _ _ _, Fr.refl _ _⟩
  case round =>
    obtain ⟨j, rfl, hj, hown, hst⟩ := hrel
    have hfl : ((l.take j).filter fun y => y != t).length ≤ j := Nat.le_trans (List.length_filter_le _ _) (List.length_take_le _ _)
    by_cases hlt : j < l.length
    · have hlt' : (j : Int) < (l.length : Int) := by omega
      have HS := hid (filter_step l t j hlt)
      rcases hr1.out with ⟨h0, _⟩ | ⟨_, b, off, c', hv, hcell⟩
      · simp [zi] at h0; subst h0; simp at hlt
      obtain rfl : a = some ⟨b, off, none⟩ := by injection hv
      clear hv
      have hx := Still.cell hst (hcell j (by rw [zi_len]; exact hlt))
      rw [show (zi l).getD j 0 = ((l.getD j 0 : Nat) : Int) by simp [zi, hlt]] at hx
      clear hcell
      obtain ⟨x, hxe⟩ : ∃ x, l.getD j 0 = x := ⟨_, rfl⟩
      rw [hxe] at hx HS
      clear hxe
      obtain ⟨A, hA⟩ : ∃ A, (l.take j).filter (fun y => y != t) = A := ⟨_, rfl⟩
      rw [hA] at hown hfl HS
      clear hA
      have hz1 := hst.size
      by_cases hxt : x = t
      · have hd : ((x : Int) != (t : Int)) = false := by simp [hxt]
        have HS' : Hid ((l.take (j + 1)).filter (fun y => y != t) = A) := hid (by rw [HS.out, if_neg (fun h => h hxt), List.append_nil])
        clear hxt
        go_wp2
        go_roundw
        case rel => exact ⟨j + 1, by go_num, by omega, by rw [HS'.out]; exact hown, hst⟩
        case measure => simp [intOf]; omega
      · have hd : ((x : Int) != (t : Int)) = true := by simp; omega
        have HS' : Hid ((l.take (j + 1)).filter (fun y => y != t) = A ++ [x]) := hid (by rw [HS.out, if_pos hxt])
        clear hxt
        go_wp2_with (at_builtin; refine wpList_append_irow rfl (.tmp 33) (.tmp 35) rfl w.heap.size A.length (zi A) [(x : Int)] _ _ rfl rfl (hown.alloc _) (one_new _ _ _) (by simp; omega) (by simp; omega) ?_; intro v2 w2 ho2 hg2 _; have s2 : Still w w2 := Fr.of_own (hst.alloc _) (hown.alloc _) hg2 (Nat.le_refl _))
        go_roundw
        case rel => exact ⟨j + 1, by go_num, by omega, by rw [HS'.out]; simpa [zi] using ho2, s2⟩
        case measure => simp [intOf]; omega
    · have hjl : j = l.length := by omega
      subst hjl
      rw [List.take_length] at hown hfl
      rw [← HN.out] at hown hfl
      have hz1 := hst.size
      have F1' := Still.cell hst F1
      have Ct' := Still.cell hst Ct
      have Z' := Still.frz hst hRl Z
      obtain ⟨a2, c2, rfl⟩ := own_shape hown _ rfl
      go_wp2
      go_ret
      refine ⟨rfl, ?_, Fr.putR (hst.fr _) _ _⟩
      refine (h.still hst).put (RowIn.own hown (by simp [zi_len]) hRl (by have := h.lp; have := h.hp.lt; omega) rfl) (fun x hx => ?_) (by omega)
      exact h.bd i hi x (by rw [HL.out]; exact List.mem_of_mem_erase hx)
end
end Go.Proofs.Ytffjaaolcphonaa
