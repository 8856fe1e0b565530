/- The document's slots: All. -/
import Derived.Test.YtffjaaolcphonaaDoorBdRef
import Derived.Test.YtffjaaolcphonaaDoorIns
import Derived.Test.YtffjaaolcphonaaDoorLivesD
namespace Go.Proofs.YtffjaaolcphonaaDoor
open Go.RowKit
theorem idMk_back' {i a : Int} (h : idMk i a ≠ 0) : idxI (idMk i a) = i ∧ ageI (idMk i a) = a := by
  unfold idMk at *
  by_cases hc : i < 0 ∨ 65535 < i ∨ a < 1 ∨ 2147483647 < a
  · rw [if_pos hc] at h; exact absurd rfl h
  · rw [if_neg hc]
    have ok : idOk (a * 65536 + i) := ⟨by omega, by omega⟩
    exact ⟨by unfold idxI; rw [if_pos ok]; omega, by unfold ageI; rw [if_pos ok]; omega⟩
structure SI2 (s : SS) : Prop where
  up : ∀ i, i < s.ages.length → s.ages.getD i 0 ≤ 2147483647
  tk : ∀ i, i < s.ages.length → s.fr.getD i false = false → 1 ≤ s.ages.getD i 0
theorem live_at {s : SS} (h : SI s) (h2 : SI2 s) {i : Nat} (hi : i < s.ages.length) : liveB s (idAt s i) = !(s.fr.getD i false) := by
  have a0 := h.age i hi
  have a1 := h2.up i hi
  have a2 := h2.tk i hi
  have t1 := h.T1
  unfold idAt
  by_cases ha : 1 ≤ s.ages.getD i 0
  · have hne : idMk i (s.ages.getD i 0) ≠ 0 := by unfold idMk; rw [if_neg (by omega)]; omega
    obtain ⟨b1, b2⟩ := idMk_back' hne
    unfold liveB
    rw [b1, b2, decide_eq_true ⟨by omega, by omega⟩]
    simp
  · have e : idMk i (s.ages.getD i 0) = 0 := by unfold idMk; rw [if_pos (by omega)]
    have hf : s.fr.getD i false = true := by
      cases hf : s.fr.getD i false with
      | true => rfl
      | false => exact absurd (a2 hf) ha
    rw [e, hf]
    unfold liveB
    have e2 : idxI 0 = -1 := by unfold idxI; rw [if_neg (by intro h; have := h.1; omega)]
    rw [e2, decide_eq_false (by intro h; have := h.1; omega)]; rfl
theorem sortI_sorted (M : List Int) : (sortI M).Pairwise (· ≤ ·) := by
  have := List.pairwise_mergeSort (le := fun x y : Int => decide (x ≤ y)) (by intro a b c h1 h2; simp at *; omega) (by intro a b; simp; omega) M
  exact this.imp (by intro a b h; simpa using h)
set_option maxRecDepth 100000 in
set_option maxHeartbeats 4000000 in
theorem rall {w : World} {p A T cA cT : Nat} {s : SS} (h : RAt w p A T cA cT s) (hI : SI s) (hI2 : SI2 s) : Calls Tryd.prog 34 #[.pointer (some ⟨p, 0, none⟩)] w fun e w' =>
    ∃ v, e = .returned v ∧ w'.ownsRow w.heap.size 3 1 v (idsS s).length (ints (idsS s)) ∧ Still w w' := by
  have F1 := h.f1
  have t1 := h.T1
  have H := hid h
  have HL := hid (fun i (hi : i < s.ages.length) => live_at hI hI2 hi)
  clear h hI hI2
  go_enter Tryd.func34, Tryd.ntmps34
  go_wp2_with fail
  go_loopg [3, 4, 5, 6, 7, 13] s.ages.length (fun g s3 s4 s5 s6 s7 s13 wr => ∃ j : Nat, j + g = s.ages.length ∧ s13 = .int .i64 (j : Int) ∧ Hid (wr.ownsRow w.heap.size 3 1 s3 (sortI (preI s j)).length (ints (sortI (preI s j)))) ∧ Hid (Still w wr))
  case atStart => exact ⟨0, by omega, rfl, hid (by simpa [sortI, preI] using owns_nil w w.heap.size), hid (Still.refl _)⟩
  case round =>
    obtain ⟨j, hj, rfl, O, S⟩ := hrel
    cases gk with
    | zero =>
      have hlt : ¬ (j : Int) < (s.ages.length : Int) := by omega
      have e : Hid (j = s.ages.length) := hid (by omega)
      go_wp2_with fail
      go_ret
      refine ⟨_, rfl, ?_, S.out⟩
      have := O.out
      rw [e.out] at this
      exact this
    | succ g =>
      have hlt : (j : Int) < (s.ages.length : Int) := by omega
      have hlt' : j < s.ages.length := by omega
      have Hr := hid (H.out.still S.out)
      have F0' := Hr.out.f0
      have F1' := Hr.out.f1
      have C1 := Hr.out.cA hlt'
      have C2 := Hr.out.cT hlt'
      have hlv := HL.out j hlt'
      obtain ⟨a, ha⟩ : ∃ a, s.ages.getD j 0 = a := ⟨_, rfl⟩
      obtain ⟨f, hf⟩ : ∃ f, s.fr.getD j false = f := ⟨_, rfl⟩
      rw [ha] at C1
      rw [hf] at C2 hlv
      cases f with
      | true =>
        rw [show (!true) = false from rfl] at C2 hlv
        have hp : Hid (preI s (j + 1) = preI s j) := hid (preI_no hlv)
        clear ha hf hlv
        go_wp2_with fail
        go_roundg g
        case measure => omega
        case rel => exact ⟨j + 1, by omega, by go_num, hid (by rw [hp.out]; exact O.out), S⟩
      | false =>
        rw [show (!false) = true from rfl] at C2 hlv
        have hp : Hid (preI s (j + 1) = preI s j ++ [idAt s j]) := hid (preI_yes hlv)
        have X := hid (rid wr j a)
        have hid1 : idMk j a = idAt s j := by unfold idAt; rw [ha]
        rw [hid1] at X
        obtain ⟨x, hx⟩ : ∃ x, idAt s j = x := ⟨_, rfl⟩
        rw [hx] at X hp
        obtain ⟨L, hLs⟩ : ∃ L, sortI (preI s j) = L := ⟨_, rfl⟩
        have z1 := preI_len s j
        have hLl : L.length ≤ j := by rw [← hLs, sortI_len]; exact z1
        rw [hLs] at O
        have HLs := hid hLs
        have hz := S.out.size
        clear ha hf hlv hid1 hx hLs z1
        obtain ⟨c1, c2, hs3⟩ := own_shape O.out _ rfl
        subst hs3
        go_wp2_with (first | (go_at_call 19; refine X.out.mono ?_; rintro e w' ⟨rfl, rfl⟩) | (at_builtin; refine wpList_append_irow rfl (.tmp 31) (.tmp 33) rfl w.heap.size L.length L [x] _ _ rfl rfl (O.out.alloc _) (one_new _ _ _) (by simp; omega) (by simp; omega) ?_; intro v5 w5 ho5 hg5 _; have f5 := hid (app_still O.out x hg5); have O5 := hid ho5; clear ho5 hg5))
        obtain ⟨m, hm⟩ : ∃ m, L.length = m := ⟨_, rfl⟩
        have O6 := O5.out
        rw [show L ++ [x] = holeL L m x by unfold holeL; rw [← hm, List.take_length, List.drop_length]] at O6
        rw [show L.length + [x].length = m + 1 by simp [hm]] at O6
        obtain ⟨b5, q5, rfl, hb5, hq5, _⟩ := IBlk.of_owns O6 (by omega)
        have O7 := hid O6
        have S5 := hid (Still.next S.out f5.out (fun k hk => hk))
        have hLs : Hid (L.Pairwise (· ≤ ·)) := hid (by rw [← HLs.out]; exact sortI_sorted _)
        rw [hm] at hLl ⊢
        have Hm := hid hm
        clear O6 O5 f5 hm
        have fin : Hid (∀ (k : Nat) (W' : World), k ≤ m → W'.ownsRow w.heap.size 3 1 (.slice (some ⟨b5, 0, none⟩) (m + 1) q5) (m + 1) (ints (holeL L k x)) → (∀ i, k ≤ i → i < m → x < L.getD i 0) → (0 < k → L.getD (k - 1) 0 ≤ x) →
            W'.ownsRow w.heap.size 3 1 (.slice (some ⟨b5, 0, none⟩) (m + 1) q5) (sortI (preI s (j + 1))).length (ints (sortI (preI s (j + 1))))) := hid fun k W' hk ho h1 h2 => by
          have e : holeL L k x = sortI (preI s (j + 1)) := by
            refine sortI_of ?_ (hole_sorted hLs.out (by rw [Hm.out]; exact hk) (by rw [Hm.out]; exact h1) h2)
            refine (hole_perm L k x).trans ?_
            rw [hp.out, ← HLs.out]
            exact (List.mergeSort_perm _ _).append_right _
          have el : (sortI (preI s (j + 1))).length = m + 1 := by rw [← e, hole_len (by rw [Hm.out]; exact hk), Hm.out]
          rw [el, ← e]; exact ho
        go_loopg [7] m (fun k s7 wy => s7 = .int .i64 (k : Int) ∧ k ≤ m ∧ Hid (∃ y, wy.ownsRow w.heap.size 3 1 (.slice (some ⟨b5, 0, none⟩) (m + 1) q5) (m + 1) (ints (holeL L k y))) ∧ Hid (∀ i, k ≤ i → i < m → x < L.getD i 0) ∧ Hid (Still w wy))
        case atStart => exact ⟨rfl, Nat.le_refl _, hid ⟨_, O7.out⟩, hid (fun i h1 h2 => by omega), S5⟩
        case round =>
          obtain ⟨rfl, hkm, HO, HG, HS⟩ := hrel
          obtain ⟨y, hy⟩ := HO.out
          obtain ⟨b6, q6, ev, _, _, hIB⟩ := IBlk.of_owns hy (by omega)
          injection ev with ev1 ev2 ev3
          injection ev1 with ev1
          injection ev1 with ev1
          subst ev1
          have Y := hid hy
          have IB := hid hIB
          clear hy hIB ev2 ev3
          cases gk with
          | zero =>
            have Z := IB.out.frozen 0
            have CC := IB.out.cell (i := 0) (by rw [hole_len (by omega), Hm.out]; omega)
            have mm : (0 : Int) < ((m + 1 : Nat) : Int) := by omega
            go_wp2_with fail
            go_roundg g
            case measure => omega
            case rel =>
              refine ⟨j + 1, by omega, by go_num, hid (fin.out 0 _ (Nat.zero_le _) ?_ HG.out (fun h => absurd h (by omega))), hid (Fr.setCell HS.out (.inr hb5) _)⟩
              have := own_put Y.out 0 x
              rw [hole_put (Nat.zero_le _)] at this
              exact this
          | succ k =>
            have hL1 := hid (show k + 1 ≤ L.length by rw [Hm.out]; omega)
            have CC := IB.out.cell (i := k) (by rw [hole_len hL1.out, Hm.out]; omega)
            rw [hole_left hL1.out] at CC
            have C2 := IB.out.cell (i := k + 1) (by rw [hole_len hL1.out, Hm.out]; omega)
            have Z := IB.out.frozen (k + 1)
            obtain ⟨z, hz⟩ : ∃ z, L.getD k 0 = z := ⟨_, rfl⟩
            rw [hz] at CC
            have Hz := hid hz
            clear hz
            have k0 : (0 : Int) < ((k + 1 : Nat) : Int) := by omega
            have k1 : (k : Int) + 1 - 1 = (k : Int) := by omega
            have k2 : ((k : Int) + 1).toNat = k + 1 := by omega
            have k3 : (k : Int) < ((m + 1 : Nat) : Int) := by omega
            have k4 : (k : Int) + 1 < ((m + 1 : Nat) : Int) := by omega
            by_cases hzx : x < z
            · have d : decide (x < z) = true := decide_eq_true hzx
              have Hzx := hid hzx
              clear hzx
              go_wp2_with fail
              go_roundg k
              case measure => omega
              case rel =>
                refine ⟨by go_num, by omega, hid ⟨z, ?_⟩, hid (fun i h1 h2 => ?_), hid (Fr.setCell HS.out (.inr hb5) _)⟩
                · have := own_put Y.out (k + 1) z
                  rw [hole_put hL1.out, ← Hz.out, hole_shift hL1.out, Hz.out] at this
                  exact this
                · by_cases e : i = k
                  · subst e; rw [Hz.out]; exact Hzx.out
                  · exact HG.out i (by omega) h2
            · have d : decide (x < z) = false := decide_eq_false hzx
              have Hzx := hid hzx
              clear hzx
              go_wp2_with fail
              go_roundg g
              case measure => omega
              case rel =>
                refine ⟨j + 1, by omega, by go_num, hid (fin.out (k + 1) _ (by omega) ?_ HG.out (fun _ => ?_)), hid (Fr.setCell HS.out (.inr hb5) _)⟩
                · have := own_put Y.out (k + 1) x
                  rw [hole_put hL1.out] at this
                  exact this
                · show L.getD k 0 ≤ x
                  rw [Hz.out]; have := Hzx.out; omega
end Go.Proofs.YtffjaaolcphonaaDoor
