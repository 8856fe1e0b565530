/- SemaCounts returns true, whatever the input. -/
import Derived.Test.YtffjaaolcphonaaSemaW
namespace Go.Proofs.Ytffjaaolcphonaa
open Go.RowKit

/-- What holds between two acts. -/
structure CInv (s : SS) (j : Nat) (ups thr : Int) : Prop where
  o : s.o = 1
  t : s.t = 8
  sum : thr + s.V.getD 0 0 = ups
  none : 0 < s.V.getD 0 0 → gl s.L 0 = []
  v0 : 0 ≤ s.V.getD 0 0
  t0 : 0 ≤ thr
  u : ups ≤ j

theorem CInv.up {s : SS} {j : Nat} {ups thr : Int} (h : CInv s j ups thr) (hj : j ≤ 150) (hl : s.V.length = 64) : supE s 0 = 0 ∧ (0 ≤ supT s 0 → CInv (supS s 0) (j + 1) (ups + 1) (thr + 1)) ∧ (supT s 0 < 0 → CInv (supS s 0) (j + 1) (ups + 1) thr) := by
  have hi : inR 0 s.o := ⟨by omega, by rw [h.o]; omega⟩
  have hv : s.V.getD 0 0 ≤ 150 := by have := h.sum; have := h.u; have := h.t0; omega
  have e0 : (0 : Int).toNat = 0 := rfl
  by_cases hg : gl s.L 0 = []
  · have hT : supT s 0 = -1 := by unfold supT; rw [if_neg (fun hh => hh.2 hg)]
    have hE : supE s 0 = 0 := by unfold supE; rw [if_pos hi, e0, if_neg (fun hh => hh hg), if_neg (by omega)]
    have hS : supS s 0 = { s with V := s.V.set 0 (s.V.getD 0 0 + 1) } := by unfold supS; rw [if_pos hi, e0, if_neg (fun hh => hh hg), if_neg (by omega)]
    refine ⟨hE, fun h0 => by omega, fun _ => ?_⟩
    rw [hS]
    have e : (s.V.set 0 (s.V.getD 0 0 + 1)).getD 0 0 = s.V.getD 0 0 + 1 := by rw [getD_set' _ _ _ _ (by omega), if_pos rfl]
    exact ⟨h.o, h.t, by rw [e]; have := h.sum; omega, fun _ => hg, by rw [e]; have := h.v0; omega, h.t0, by have := h.u; omega⟩
  · have hT : 0 ≤ supT s 0 := by
      unfold supT; rw [if_pos ⟨hi, hg⟩]
      unfold popT; split <;> omega
    have hE : supE s 0 = 0 := by unfold supE; rw [if_pos hi, e0, if_pos hg]
    have hS : supS s 0 = { s with L := popL s.L 0 } := by unfold supS; rw [if_pos hi, e0, if_pos hg]
    have hv0 : ¬ 0 < s.V.getD 0 0 := fun h0 => hg (h.none h0)
    refine ⟨hE, fun _ => ?_, fun h0 => by omega⟩
    rw [hS]
    exact ⟨h.o, h.t, by have := h.sum; show thr + 1 + s.V.getD 0 0 = ups + 1; omega, fun h0 => absurd h0 hv0, h.v0, by have := h.t0; omega, by have := h.u; omega⟩
theorem CInv.down {s : SS} {j : Nat} {ups thr : Int} (h : CInv s j ups thr) (hl : s.V.length = 64) (t : Int) : (sdownB s 0 t = true → CInv (sdownS s 0 t) (j + 1) ups (thr + 1)) ∧ (sdownB s 0 t = false → CInv (sdownS s 0 t) (j + 1) ups thr) := by
  have e0 : (0 : Int).toNat = 0 := rfl
  have hu : ups ≤ ((j + 1 : Nat) : Int) := by have := h.u; omega
  constructor
  · intro hb
    obtain ⟨b1, b2, b3, b4⟩ := of_decide_eq_true hb
    rw [e0] at b4
    have hS : sdownS s 0 t = { s with V := s.V.set 0 (s.V.getD 0 0 - 1) } := by unfold sdownS; rw [if_pos ⟨b1, b2, b3⟩, e0, if_pos b4]
    rw [hS]
    have e : (s.V.set 0 (s.V.getD 0 0 - 1)).getD 0 0 = s.V.getD 0 0 - 1 := by rw [getD_set' _ _ _ _ (by omega), if_pos rfl]
    exact ⟨h.o, h.t, by rw [e]; have := h.sum; omega, fun _ => h.none b4, by rw [e]; omega, by have := h.t0; omega, hu⟩
  · intro hb
    have hb' := of_decide_eq_false hb
    unfold sdownS
    by_cases h1 : inR 0 s.o ∧ inR t s.t ∧ whI s.t s.L t = -1
    · rw [if_pos h1]
      by_cases h2 : 0 < s.V.getD (0 : Int).toNat 0
      · exact absurd ⟨h1.1, h1.2.1, h1.2.2, h2⟩ hb'
      · rw [if_neg h2]
        rw [e0] at h2
        exact ⟨h.o, h.t, h.sum, fun h0 => absurd h0 h2, h.v0, h.t0, hu⟩
    · rw [if_neg h1]
      exact ⟨h.o, h.t, h.sum, h.none, h.v0, h.t0, hu⟩
/-- An empty slice's length. -/
theorem owns_zero {w : World} {base : Nat} {e : TypeId} {size : Nat} {v : Value} {xs : List Value} (h : w.ownsRow base e size v 0 xs) : ∃ a c, v = .slice a 0 c := by
  obtain ⟨_, ⟨rfl, _⟩ | ⟨g, cap, _, rfl, _⟩⟩ := h
  · exact ⟨_, _, rfl⟩
  · exact ⟨_, _, rfl⟩
set_option maxRecDepth 100000 in
set_option maxHeartbeats 2000000 in
theorem semaCounts_row (w : World) (b off len cap : Nat) (F : Nat → Nat → Int) (hb : b < w.heap.size) (hl : len ≤ 9223372036854775807) (hc : ∀ i, i < len → ∀ j, j < 3 → w.cell? ⟨b, off + (i * 3 + j), none⟩ = some (.int .i64 (F i j))) :
    Calls Try.prog 8 #[.slice (some ⟨b, off, none⟩) len cap] w fun e w' => e = .returned (.bool true) ∧ Still w w' := by
  have HC := hid hc
  clear hc
  go_enter Try.func8, Try.ntmps8
  go_wp2_with fail
  refine (snew _ 1 8 (by omega) (by omega) (by omega) (by omega)).mono ?_
  rintro e w1 ⟨P, B, rfl, h1, hs, hnn⟩
  by_cases hlen : 150 < len
  · have hlen' : (150 : Int) < (len : Int) := by omega
    go_wp2_with (go_at_call 37; refine (slives _).mono ?_; rintro e w6 ⟨rfl, hs6⟩)
    go_ret
    exact ⟨rfl, hs.trans hs6⟩
  · have hlen' : (len : Int) ≤ 150 := by omega
    go_wp2_with (go_at_call 37; refine (slives _).mono ?_; rintro e w6 ⟨rfl, hs6⟩)
    go_loopw [4, 5, 27] (fun u t i wr => ∃ (j : Nat) (ups thr : Int) (s : SS), u = .int .i64 ups ∧ t = .int .i64 thr ∧ i = .int .i64 j ∧ j ≤ len ∧ SAt wr P B s ∧ CInv s j ups thr ∧ Still w wr) (fun _ _ i _ => len - (intOf i).toNat)
    case atStart => exact ⟨0, 0, 0, _, rfl, rfl, rfl, Nat.zero_le _, h1, ⟨rfl, rfl, rfl, fun h => rfl, by decide, by decide, by decide⟩, hs⟩
    case round =>
      obtain ⟨j, ups, thr, s, rfl, rfl, rfl, hj, hS, hI, hst⟩ := hrel
      by_cases hlt : j < len
      · have hlt' : (j : Int) < (len : Int) := by omega
        have hbw : Below w.heap.size w wr := hst.below (Nat.le_refl _) (fun _ h => h.elim)
        have c0 : wr.cell? ⟨b, off + j * 3, none⟩ = some (.int .i64 (F j 0)) := (hbw.cell (p := ⟨b, off + j * 3, none⟩) hb).trans (HC.out j hlt 0 (by omega))
        have c1 : wr.cell? ⟨b, off + j * 3 + 1, none⟩ = some (.int .i64 (F j 1)) := (hbw.cell (p := ⟨b, off + j * 3 + 1, none⟩) hb).trans (HC.out j hlt 1 (by omega))
        have c2 : wr.cell? ⟨b, off + j * 3 + 2, none⟩ = some (.int .i64 (F j 2)) := (hbw.cell (p := ⟨b, off + j * 3 + 2, none⟩) hb).trans (HC.out j hlt 2 (by omega))
        have hu := hI.u
        have hthr := hI.t0
        have hsum : thr ≤ ups := by have := hI.sum; have := hI.v0; omega
        have hS' : SAt (wr.alloc (.cells #[.int .i64 (F j 0), .int .i64 (F j 1), .int .i64 (F j 2)] 59)) P B s := hS.still ((Still.refl _).alloc _)
        have hst' := hst.alloc (.cells #[.int .i64 (F j 0), .int .i64 (F j 1), .int .i64 (F j 2)] 59)
        obtain ⟨u1, u2, u3⟩ := hI.up (by omega) hS.vlen
        have d1 := fun t => hI.down hS.vlen t
        have U2 := hid u2
        have U3 := hid u3
        have D1 := hid d1
        clear u2 u3 d1
        by_cases hk : F j 0 = 1
        · have hkb : ((F j 0) == 1) = true := by simp [hk]
          clear hk
          go_wp2_with fail
          refine (sup _ P B s hS' 0).mono ?_
          rw [u1]
          rintro e w2 ⟨rfl, hS2, f2⟩
          have hst2 := sfoot_still hst' hnn f2
          obtain ⟨s2, hs2⟩ : ∃ s2, supS s 0 = s2 := ⟨_, rfl⟩
          obtain ⟨T, hT⟩ : ∃ T, supT s 0 = T := ⟨_, rfl⟩
          rw [hs2] at hS2
          rw [hT]
          rw [hs2, hT] at U2 U3
          clear hs2 hT u1
          by_cases hT0 : 0 ≤ T
          · have hI2 := U2.out hT0
            have hv1 := hI2.v0
            have hv2 : s2.V.getD 0 0 ≤ 150 := by have := hI2.sum; have := hI2.u; have := hI2.t0; omega
            have hsm := hid hI2.sum
            have hnn2 := hid hI2.none
            have hval : svalI s2 0 = s2.V.getD 0 0 := by unfold svalI; rw [if_pos ⟨by omega, by rw [hI2.o]; omega⟩]; rfl
            have hio : (0 : Nat) < s2.o := by rw [hI2.o]; omega
            have HI2 := hid hI2
            clear hI2
            obtain ⟨v, hv⟩ : ∃ v, s2.V.getD 0 0 = v := ⟨_, rfl⟩
            rw [hv] at hv1 hv2 hsm hnn2 hval
            have hne : ((thr + 1) + v != (ups + 1)) = false := by rw [hsm.out]; simp
            clear hv
            go_wp2_with fail
            refine (svalue _ P B s2 hS2 0).mono ?_
            rw [hval]
            rintro e w5 ⟨rfl, rfl⟩
            by_cases hvp : 0 < v
            · go_wp2_with fail
              refine (svalue _ P B s2 hS2 0).mono ?_
              rw [hval]
              rintro e w5 ⟨rfl, rfl⟩
              go_wp2_with fail
              refine (swaiters _ P B s2 hS2 0 hio).mono ?_
              rw [hnn2.out hvp]
              rintro e w6 ⟨v6, rfl, hown, hbel⟩
              obtain ⟨a6, c6, rfl⟩ := owns_zero hown
              have hst6 : Still w w6 := hst2.trans (Fr.of_below0 hbel _)
              go_wp2_with fail
              go_roundw
              case rel => exact ⟨j + 1, _, _, s2, rfl, rfl, by go_num, by omega, hS2.still (Fr.of_below0 hbel _), HI2.out, hst6⟩
              case measure => simp [intOf]; omega
            · go_wp2_with fail
              refine (svalue _ P B s2 hS2 0).mono ?_
              rw [hval]
              rintro e w5 ⟨rfl, rfl⟩
              go_wp2_with fail
              go_roundw
              case rel => exact ⟨j + 1, _, _, s2, rfl, rfl, by go_num, by omega, hS2, HI2.out, hst2⟩
              case measure => simp [intOf]; omega
          · have hT1 : T < 0 := by omega
            have hI2 := U3.out hT1
            have hv1 := hI2.v0
            have hv2 : s2.V.getD 0 0 ≤ 150 := by have := hI2.sum; have := hI2.u; have := hI2.t0; omega
            have hsm := hid hI2.sum
            have hnn2 := hid hI2.none
            have hval : svalI s2 0 = s2.V.getD 0 0 := by unfold svalI; rw [if_pos ⟨by omega, by rw [hI2.o]; omega⟩]; rfl
            have hio : (0 : Nat) < s2.o := by rw [hI2.o]; omega
            have HI2 := hid hI2
            clear hI2
            obtain ⟨v, hv⟩ : ∃ v, s2.V.getD 0 0 = v := ⟨_, rfl⟩
            rw [hv] at hv1 hv2 hsm hnn2 hval
            have hne : ((thr) + v != (ups + 1)) = false := by rw [hsm.out]; simp
            clear hv
            go_wp2_with fail
            refine (svalue _ P B s2 hS2 0).mono ?_
            rw [hval]
            rintro e w5 ⟨rfl, rfl⟩
            by_cases hvp : 0 < v
            · go_wp2_with fail
              refine (svalue _ P B s2 hS2 0).mono ?_
              rw [hval]
              rintro e w5 ⟨rfl, rfl⟩
              go_wp2_with fail
              refine (swaiters _ P B s2 hS2 0 hio).mono ?_
              rw [hnn2.out hvp]
              rintro e w6 ⟨v6, rfl, hown, hbel⟩
              obtain ⟨a6, c6, rfl⟩ := owns_zero hown
              have hst6 : Still w w6 := hst2.trans (Fr.of_below0 hbel _)
              go_wp2_with fail
              go_roundw
              case rel => exact ⟨j + 1, _, _, s2, rfl, rfl, by go_num, by omega, hS2.still (Fr.of_below0 hbel _), HI2.out, hst6⟩
              case measure => simp [intOf]; omega
            · go_wp2_with fail
              refine (svalue _ P B s2 hS2 0).mono ?_
              rw [hval]
              rintro e w5 ⟨rfl, rfl⟩
              go_wp2_with fail
              go_roundw
              case rel => exact ⟨j + 1, _, _, s2, rfl, rfl, by go_num, by omega, hS2, HI2.out, hst2⟩
              case measure => simp [intOf]; omega
        · have hkb : ((F j 0) == 1) = false := by simpa using hk
          clear hk
          go_wp2_with fail
          refine (sdown _ P B s hS' 0 _).mono ?_
          rintro e w2 ⟨rfl, hS2, f2⟩
          have hst2 := sfoot_still hst' hnn f2
          generalize wrap64 ((IntKind.u64.wrap (F j 2)).tmod 8) = T at hS2 ⊢
          have D2 := D1.out T
          obtain ⟨s2, hs2⟩ : ∃ s2, sdownS s 0 T = s2 := ⟨_, rfl⟩
          rw [hs2] at hS2 D2
          cases hB : sdownB s 0 T with
          | true =>
            have hI2 := D2.1 hB
            clear hs2 hB D2
            have hv1 := hI2.v0
            have hv2 : s2.V.getD 0 0 ≤ 150 := by have := hI2.sum; have := hI2.u; have := hI2.t0; omega
            have hsm := hid hI2.sum
            have hnn2 := hid hI2.none
            have hval : svalI s2 0 = s2.V.getD 0 0 := by unfold svalI; rw [if_pos ⟨by omega, by rw [hI2.o]; omega⟩]; rfl
            have hio : (0 : Nat) < s2.o := by rw [hI2.o]; omega
            have HI2 := hid hI2
            clear hI2
            obtain ⟨v, hv⟩ : ∃ v, s2.V.getD 0 0 = v := ⟨_, rfl⟩
            rw [hv] at hv1 hv2 hsm hnn2 hval
            have hne : ((thr + 1) + v != (ups)) = false := by rw [hsm.out]; simp
            clear hv
            go_wp2_with fail
            refine (svalue _ P B s2 hS2 0).mono ?_
            rw [hval]
            rintro e w5 ⟨rfl, rfl⟩
            by_cases hvp : 0 < v
            · go_wp2_with fail
              refine (svalue _ P B s2 hS2 0).mono ?_
              rw [hval]
              rintro e w5 ⟨rfl, rfl⟩
              go_wp2_with fail
              refine (swaiters _ P B s2 hS2 0 hio).mono ?_
              rw [hnn2.out hvp]
              rintro e w6 ⟨v6, rfl, hown, hbel⟩
              obtain ⟨a6, c6, rfl⟩ := owns_zero hown
              have hst6 : Still w w6 := hst2.trans (Fr.of_below0 hbel _)
              go_wp2_with fail
              go_roundw
              case rel => exact ⟨j + 1, _, _, s2, rfl, rfl, by go_num, by omega, hS2.still (Fr.of_below0 hbel _), HI2.out, hst6⟩
              case measure => simp [intOf]; omega
            · go_wp2_with fail
              refine (svalue _ P B s2 hS2 0).mono ?_
              rw [hval]
              rintro e w5 ⟨rfl, rfl⟩
              go_wp2_with fail
              go_roundw
              case rel => exact ⟨j + 1, _, _, s2, rfl, rfl, by go_num, by omega, hS2, HI2.out, hst2⟩
              case measure => simp [intOf]; omega
          | false =>
            have hI2 := D2.2 hB
            clear hs2 hB D2
            have hv1 := hI2.v0
            have hv2 : s2.V.getD 0 0 ≤ 150 := by have := hI2.sum; have := hI2.u; have := hI2.t0; omega
            have hsm := hid hI2.sum
            have hnn2 := hid hI2.none
            have hval : svalI s2 0 = s2.V.getD 0 0 := by unfold svalI; rw [if_pos ⟨by omega, by rw [hI2.o]; omega⟩]; rfl
            have hio : (0 : Nat) < s2.o := by rw [hI2.o]; omega
            have HI2 := hid hI2
            clear hI2
            obtain ⟨v, hv⟩ : ∃ v, s2.V.getD 0 0 = v := ⟨_, rfl⟩
            rw [hv] at hv1 hv2 hsm hnn2 hval
            have hne : ((thr) + v != (ups)) = false := by rw [hsm.out]; simp
            clear hv
            go_wp2_with fail
            refine (svalue _ P B s2 hS2 0).mono ?_
            rw [hval]
            rintro e w5 ⟨rfl, rfl⟩
            by_cases hvp : 0 < v
            · go_wp2_with fail
              refine (svalue _ P B s2 hS2 0).mono ?_
              rw [hval]
              rintro e w5 ⟨rfl, rfl⟩
              go_wp2_with fail
              refine (swaiters _ P B s2 hS2 0 hio).mono ?_
              rw [hnn2.out hvp]
              rintro e w6 ⟨v6, rfl, hown, hbel⟩
              obtain ⟨a6, c6, rfl⟩ := owns_zero hown
              have hst6 : Still w w6 := hst2.trans (Fr.of_below0 hbel _)
              go_wp2_with fail
              go_roundw
              case rel => exact ⟨j + 1, _, _, s2, rfl, rfl, by go_num, by omega, hS2.still (Fr.of_below0 hbel _), HI2.out, hst6⟩
              case measure => simp [intOf]; omega
            · go_wp2_with fail
              refine (svalue _ P B s2 hS2 0).mono ?_
              rw [hval]
              rintro e w5 ⟨rfl, rfl⟩
              go_wp2_with fail
              go_roundw
              case rel => exact ⟨j + 1, _, _, s2, rfl, rfl, by go_num, by omega, hS2, HI2.out, hst2⟩
              case measure => simp [intOf]; omega
      · go_wp2_with (go_at_call 37; refine (slives _).mono ?_; rintro e w6 ⟨rfl, hs6⟩)
        go_ret
        exact ⟨rfl, hst.trans hs6⟩
end Go.Proofs.Ytffjaaolcphonaa
