/- SlotsCopies: the walk. -/
import Derived.Test.YtffjaaolcphonaaDoorCopy4
import Derived.Test.YtffjaaolcphonaaDoorSInv
import Derived.Test.YtffjaaolcphonaaDoorLivesD
import Derived.Test.YtffjaaolcphonaaDoorActs
namespace Go.Proofs.YtffjaaolcphonaaDoor
open Go.RowKit
set_option linter.unusedSimpArgs false
theorem slotsCopies_big (w : World) (hT : TabD w) (a : Option Addr) (n c : Nat) (hn : 200 < n) : Calls Tryd.prog 6 #[.slice a n c] w fun e w' => e = .returned (.bool true) ∧ Still w w' := by
  have hn' : (200 : Int) < (n : Int) := by omega
  have HT := hid hT
  have HN := hid (snew w 6 (by omega) (by omega))
  clear hn hT
  go_enter Tryd.func6, Tryd.ntmps6
  go_wp2_with (first | (go_at_call 25; refine HN.out.mono ?_; rintro e w1 ⟨B, rfl, hB, hs, hnn⟩) | (go_at_call 24; refine (dlives _ (HT.out.still hs)).mono ?_; rintro e w' ⟨rfl, hs2⟩))
  go_ret
  exact ⟨rfl, hs.trans hs2⟩
theorem act_cells (w : World) (x y : Int) : (w.alloc (.cells #[.int .i64 x, .int .i64 y] 33)).cell? ⟨w.heap.size, 1, none⟩ = some (.int .i64 y) := by
  have h := (Blk.new w [.int .i64 x, .int .i64 y] 33).cell 1
  exact h
theorem IRow.far {w0 w w' : World} {v : Value} {xs : List Int} (h0 : IRow w0 v xs) (h : IRow w v xs) {F : Nat → Prop} (hf : Fr F w w') (hF : ∀ k, F k → w0.heap.size ≤ k) : IRow w' v xs := by
  by_cases hl : 0 < xs.length
  · exact h.fr hf fun b off c n hv hb => by
      have h1 := IRow.below h0 hl hv
      have h2 := hF b hb
      omega
  · rcases h with h | ⟨h, _⟩
    · exact .inl h
    · exact absurd h hl
theorem wrap_mod' (z : Int) {m : Nat} (h : 0 < m) : 0 ≤ (IntKind.u64.wrap z).tmod (m : Int) ∧ (IntKind.u64.wrap z).tmod (m : Int) < (m : Int) := by
  have h0 : 0 ≤ IntKind.u64.wrap z := by rw [IntKind.wrap_u64]; omega
  rw [Int.tmod_eq_emod_of_nonneg h0]
  exact ⟨Int.emod_nonneg _ (by omega), Int.emod_lt_of_pos (IntKind.u64.wrap z) (show (0 : Int) < (m : Int) by omega)⟩
theorem wrap_mod (z : Int) {m : Nat} (h : 0 < m) : ((IntKind.u64.wrap z).tmod (m : Int)).toNat < m := by
  have h0 : 0 ≤ IntKind.u64.wrap z := by rw [IntKind.wrap_u64]; omega
  rw [Int.tmod_eq_emod_of_nonneg h0]
  have h1 := Int.emod_lt_of_pos (IntKind.u64.wrap z) (show (0 : Int) < (m : Int) by omega)
  omega
set_option maxRecDepth 100000 in
set_option maxHeartbeats 4000000 in
theorem slotsCopies_ok (w : World) (hT : TabD w) (a : Option Addr) (n c : Nat) (F : Nat → Nat → Int) (hF : IsRow3 2 w a n c F) (hn : n ≤ 200) :
    Calls Tryd.prog 6 #[.slice a n c] w fun e w' => e = .returned (.bool true) ∧ Still w w' := by
  have hn' : (n : Int) ≤ 200 := by omega
  have HF := hid hF
  have HT := hid hT
  have h7 := hid hT.lt
  have HN := hid (snew w 6 (by omega) (by omega))
  clear hF hT
  go_enter Tryd.func6, Tryd.ntmps6
  go_wp2_with (go_at_call 25; refine HN.out.mono ?_; rintro e w1 ⟨B, rfl, hB, hs, hnn⟩)
  have nn := hid hnn
  have n7 : Hid (¬ B.foot 7) := hid (fun hf => by have := hnn 7 hf; have := h7.out; omega)
  have hB0 := hid hB
  have hs0 := hid hs
  clear hB hs hnn
  go_loopw [5, 6, 30] (fun s5 s6 c wr => ∃ (j : Nat) (s : SS), c = .int .i64 j ∧ j ≤ n ∧ SAt wr B s ∧ SI s ∧ Still w wr) (fun s5 s6 c _ => n - (intOf c).toNat)
  case atStart => exact ⟨0, _, rfl, Nat.zero_le _, hB0.out, SI.zero 6 (by omega), hs0.out⟩
  case round =>
    clear hB0 hs0
    obtain ⟨j, s, rfl, hj, hA, hI, hst⟩ := hrel
    have HA := hid hA
    have HI := hid hI
    have HS := hid hst
    by_cases hlt : j < n
    · have hlt' : (j : Int) < (n : Int) := by omega
      rcases HF.out with h0 | ⟨b1, o1, rfl, _, _, _, _, hc⟩
      · omega
      have g0 := Still.cell hst (hc j hlt 0 (by omega)).1
      have g1 := Still.cell hst (hc j hlt 1 (by omega)).1
      clear hc hA hI hst
      simp only [Nat.add_zero] at g0
      rw [← Nat.add_assoc] at g1
      obtain ⟨k, hk⟩ : ∃ k, F j 0 = k := ⟨_, rfl⟩
      obtain ⟨z, hz⟩ : ∃ z, F j 1 = z := ⟨_, rfl⟩
      rw [hk] at g0
      rw [hz] at g1
      clear hk hz
      have K := act_cells wr k z
      have K' := hid K
      clear K
      have HSa := hid (show Still wr (wr.alloc (.cells #[.int .i64 k, .int .i64 z] 33)) from (Fr.refl _ _).alloc _)
      by_cases hk0 : k = 0
      · have e0 : (k == 0) = true := by simp [hk0]
        clear hk0
        go_wp2_with (go_at_call 27; refine (stake' (HA.out.still HSa.out) (HT.out.still (HS.out.trans HSa.out)) n7.out HI.out).mono ?_; rintro e w2 ⟨rfl, h2, f2⟩)
        go_roundw
        case rel => exact ⟨j + 1, _, by go_num, by omega, h2, HI.out.take, Still.next (HS.out.trans HSa.out) f2 nn.out⟩
        case measure => simp [intOf]; omega
      · have e0 : (k == 0) = false := by simp [hk0]
        clear hk0
        go_wp2_with fail
        refine (sall _ B s (HA.out.still HSa.out)).mono ?_
        rintro e w2 ⟨v, rfl, hO, s2⟩
        have K2 := Still.cell s2 K'.out
        have S2 := hid ((HS.out.trans HSa.out).trans s2)
        have A2 := hid (HA.out.still (HSa.out.trans s2))
        rcases own_cells hO rfl with ⟨p, q, rfl, m0⟩ | ⟨b, q, rfl, m0, _, _, hc⟩
        · obtain ⟨m, hm⟩ : ∃ m, (idsS s).length = m := ⟨_, rfl⟩
          rw [hm] at m0 ⊢
          subst m0
          clear hO hm s2
          go_wp2_with fail
          go_roundw
          case rel => exact ⟨j + 1, _, by go_num, by omega, A2.out, HI.out, S2.out⟩
          case measure => simp [intOf]; omega
        · obtain ⟨m, hm⟩ : ∃ m, (idsS s).length = m := ⟨_, rfl⟩
          have hmb : m ≤ 4096 := by have := idsS_len s; have := HI.out.T1; omega
          rw [hm] at m0 hc ⊢
          have m1 : (0 : Int) < (m : Int) := by omega
          have HC := hid hc
          clear hO s2 hc
          have hr := wrap_mod z m0
          have hrr := wrap_mod' z m0
          have hr0 := hrr.1
          have hr1 := hrr.2
          have hc1 := HC.out _ hr
          obtain ⟨x, hx⟩ : ∃ x, (idsS s).getD ((IntKind.u64.wrap z).tmod (m : Int)).toNat 0 = x := ⟨_, rfl⟩
          have hxi : inI x := by
            rw [← hx]; refine idsS_in s _ ?_
            have hlt2 : ((IntKind.u64.wrap z).tmod (m : Int)).toNat < (idsS s).length := by rw [hm]; exact hr
            simp only [List.getD_eq_getElem?_getD, List.getElem?_eq_getElem hlt2]
            exact List.getElem_mem hlt2
          rw [hx] at hc1
          have Hm := hid hm
          have Hr := hid hr
          clear hx hm hr
          go_wp2_with (go_at_call 29; refine (sfree' A2.out x hxi HI.out).mono ?_; rintro e w3 ⟨rfl, h3, f3⟩)
          go_roundw
          case rel => exact ⟨j + 1, _, by go_num, by omega, h3, HI.out.free x, Still.next S2.out f3 (fun i hi => nn.out i (.inl hi))⟩
          case measure => simp [intOf]; omega
    · have hlt' : ¬ (j : Int) < (n : Int) := by omega
      clear hA hI hst
      go_wp2_with fail
      refine (sall wr B s HA.out).mono ?_
      rintro e w2 ⟨v, rfl, hO, s2⟩
      obtain ⟨p, q, rfl⟩ := own_shape hO _ rfl
      have R2 := hid (IRow.own hO rfl)
      have A2 := hid (HA.out.still s2)
      have S2 := hid (HS.out.trans s2)
      clear hO s2
      go_wp2_with fail
      refine (scopy w2 B s A2.out).mono ?_
      rintro e w3 ⟨C, rfl, hC, s3, hCn⟩
      have Cn := hid hCn
      have C3 := hid hC
      have S23 := hid s3
      clear hC s3 hCn
      go_wp2_with fail
      refine (sall w3 C s C3.out).mono ?_
      rintro e w4 ⟨v2, rfl, hO4, s4⟩
      obtain ⟨p2, q2, rfl⟩ := own_shape hO4 _ rfl
      have R4 := hid (IRow.own hO4 rfl)
      have S24 := hid (S23.out.trans s4)
      have C4 := hid (C3.out.still s4)
      clear hO4 s4
      go_wp2_with fail
      refine (ints_ok w4 _ _ (idsS s) (idsS s) R4.out (R2.out.still S24.out) (by have := idsS_len s; have := HI.out.T1; omega)).mono ?_
      rintro e w5 ⟨he, s5⟩
      rw [decide_eq_true rfl] at he
      subst he
      have S25 := hid (S24.out.trans s5)
      have C5 := hid (C4.out.still s5)
      clear s5
      have z2 := S2.out.size
      have z25 := S25.out.size
      have c7 : Hid (¬ C.foot 7) := hid (fun hf => by have := Cn.out 7 hf; have := h7.out; omega)
      go_wp2_with fail
      refine (stake' C5.out (HT.out.still (S2.out.trans S25.out)) c7.out HI.out).mono ?_
      rintro e w6 ⟨rfl, h6, f6⟩
      have S26 := hid (S25.out.next f6 Cn.out)
      have C6 := hid h6
      clear h6 f6
      obtain ⟨m, hm⟩ : ∃ m, (idsS s).length = m := ⟨_, rfl⟩
      have hmb : m ≤ 4096 := by have := idsS_len s; have := HI.out.T1; omega
      rw [hm] at R2 ⊢
      have Hm := hid hm
      clear hm
      go_wp2_with fail
      obtain ⟨tv, htv⟩ : ∃ tv, takeV s = tv := ⟨_, rfl⟩
      obtain ⟨te, hte⟩ : ∃ te, takeE s = te := ⟨_, rfl⟩
      rw [htv, hte]
      have HTv := hid htv
      have HTe := hid hte
      clear htv hte
      go_loopw [12, 73] (fun s12 c wx => ∃ (i : Nat) (sc : SS), c = .int .i64 i ∧ i ≤ m ∧ SAt wx C sc ∧ SI sc ∧ Still w2 wx) (fun s12 c _ => m - (intOf c).toNat)
      case atStart => exact ⟨0, _, rfl, Nat.zero_le _, C6.out, HI.out.take, S26.out⟩
      case round =>
        obtain ⟨i, sc, rfl, hi, hCx, hIc, hSx⟩ := hrel
        have Cx := hid hCx
        have Ic := hid hIc
        have Sx := hid hSx
        clear hCx hIc hSx
        by_cases hlt2 : i < m
        · have hlt2' : (i : Int) < (m : Int) := by omega
          obtain ⟨b, off, hp, hcell⟩ : ∃ b off, p = some ⟨b, off, none⟩ ∧ wr.cell? ⟨b, off + i, none⟩ = some (.int .i64 ((idsS s).getD i 0)) := by
            rcases R2.out.still Sx.out with ⟨h0, _⟩ | ⟨_, b, off, c', ev, hc⟩
            · have := Hm.out; rw [h0] at this; simp at this; omega
            · injection ev with e1
              exact ⟨b, off, e1, hc i (by rw [Hm.out]; exact hlt2)⟩
          obtain ⟨x, hx⟩ : ∃ x, (idsS s).getD i 0 = x := ⟨_, rfl⟩
          have hxi : inI x := by
            rw [← hx]; refine idsS_in s _ ?_
            have hlt3 : i < (idsS s).length := by rw [Hm.out]; exact hlt2
            simp only [List.getD_eq_getElem?_getD, List.getElem?_eq_getElem hlt3]
            exact List.getElem_mem hlt3
          rw [hx] at hcell
          subst hp
          clear hx
          go_wp2_with (go_at_call 29; refine (sfree' Cx.out x hxi Ic.out).mono ?_; rintro e w8 ⟨rfl, h8, f8⟩)
          go_roundw
          case rel => exact ⟨i + 1, _, by go_num, by omega, h8, Ic.out.free x, Sx.out.next f8 (fun k hk => Cn.out k (.inl hk))⟩
          case measure => simp [intOf]; omega
        · have hlt2' : ¬ (i : Int) < (m : Int) := by omega
          go_wp2_with fail
          refine (scopy _ B s (A2.out.still Sx.out)).mono ?_
          rintro e w9 ⟨D, rfl, hD, s9, hDn⟩
          have S9 := hid (Sx.out.trans s9)
          have Dn := hid hDn
          have D9 := hid hD
          have zx := Sx.out.size
          have d7 : Hid (¬ D.foot 7) := hid (fun hf => by have := Dn.out 7 hf; have := h7.out; omega)
          clear hD s9 hDn
          go_wp2_with fail
          refine (stake' D9.out (HT.out.still (S2.out.trans S9.out)) d7.out HI.out).mono ?_
          rw [HTv.out, HTe.out]
          rintro e w10 ⟨rfl, h10, f10⟩
          have S10 := hid (S9.out.next f10 (fun k hk => by have := Dn.out k hk; omega))
          clear h10 f10
          go_wp2_with fail
          refine (sall _ B s (A2.out.still S10.out)).mono ?_
          rintro e w11 ⟨v3, rfl, hO3, s11⟩
          have S11 := hid (S10.out.trans s11)
          have R3 := hid (IRow.own hO3 rfl)
          clear hO3 s11
          go_wp2_with fail
          refine (ints_ok _ _ _ (idsS s) (idsS s) R3.out (R2.out.still S11.out) (by have := Hm.out; omega)).mono ?_
          rintro e w12 ⟨he, s12⟩
          rw [decide_eq_true rfl] at he
          subst he
          have S12 := hid (S2.out.trans (S11.out.trans s12))
          clear s12
          go_wp2_with (go_at_call 24; refine (dlives _ (HT.out.still S12.out)).mono ?_; rintro e w' ⟨rfl, hs13⟩)
          go_ret
          exact ⟨rfl, S12.out.trans hs13⟩
theorem slotsCopies (w : World) (hT : TabD w) (a : Option Addr) (n c : Nat) (F : Nat → Nat → Int) (hF : IsRow3 2 w a n c F) :
    Calls Tryd.prog 6 #[.slice a n c] w fun e w' => e = .returned (.bool true) ∧ Still w w' := by
  by_cases h : n ≤ 200
  · exact slotsCopies_ok w hT a n c F hF h
  · exact slotsCopies_big w hT a n c (by omega)
end Go.Proofs.YtffjaaolcphonaaDoor
