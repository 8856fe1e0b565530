/- SemaOrder returns true, whatever the input. -/
import Derived.Test.YtffjaaolcphonaaSema3
namespace Go.Proofs.Ytffjaaolcphonaa
open Go.RowKit

def so (l : List Nat) : SS := ⟨2, 12, List.replicate 64 0, [[], l]⟩
theorem so_down (t : Nat) (ht : t < 12) : sdownB (so (List.range t)) 1 t = false ∧ sdownE (so (List.range t)) 1 t = 0 ∧ sdownS (so (List.range t)) 1 t = so (List.range (t + 1)) := by
  match t, ht with
  | 0, _ => exact ⟨by decide, by decide, rfl⟩
  | 1, _ => exact ⟨by decide, by decide, rfl⟩
  | 2, _ => exact ⟨by decide, by decide, rfl⟩
  | 3, _ => exact ⟨by decide, by decide, rfl⟩
  | 4, _ => exact ⟨by decide, by decide, rfl⟩
  | 5, _ => exact ⟨by decide, by decide, rfl⟩
  | 6, _ => exact ⟨by decide, by decide, rfl⟩
  | 7, _ => exact ⟨by decide, by decide, rfl⟩
  | 8, _ => exact ⟨by decide, by decide, rfl⟩
  | 9, _ => exact ⟨by decide, by decide, rfl⟩
  | 10, _ => exact ⟨by decide, by decide, rfl⟩
  | 11, _ => exact ⟨by decide, by decide, rfl⟩
def Q (k d t : Nat) : List Nat := (List.range' t (k - t)).filter (· != d)
theorem Q_zero (k d : Nat) : (List.range k).erase d = Q k d 0 := by
  unfold Q
  rw [List.Nodup.erase_eq_filter List.nodup_range, List.range_eq_range', Nat.sub_zero]
theorem Q_hit {k d t : Nat} (h : t < k) (hd : t ≠ d) : Q k d t = t :: Q k d (t + 1) := by
  unfold Q
  rw [show k - t = (k - (t + 1)) + 1 by omega, List.range'_succ]
  simp [hd]
theorem Q_skip {k d : Nat} (h : d < k) : Q k d d = Q k d (d + 1) := by
  unfold Q
  rw [show k - d = (k - (d + 1)) + 1 by omega, List.range'_succ]
  simp
theorem Q_end (k d : Nat) : Q k d k = [] := by simp [Q]
theorem wh_so (l : List Nat) (t : Nat) : wh [[], l] t = if t ∈ l then 1 else -1 := by
  unfold wh
  by_cases h : t ∈ l
  · simp [List.findIdx?_cons, h]
  · simp [List.findIdx?_cons, h]
theorem so_drop (l : List Nat) (d : Nat) (hd : d < 12) (h : d ∈ l) : remE' 12 [[], l] d = 0 ∧ remL 12 [[], l] d = [[], l.erase d] := by
  have e : remE' 12 [[], l] d = 0 := by
    unfold remE'; rw [if_pos ⟨by omega, by omega⟩, Int.toNat_natCast, wh_so, if_pos h, if_neg (by omega)]
  refine ⟨e, ?_⟩
  unfold remL; rw [if_pos e, Int.toNat_natCast, wh_so, if_pos h]; rfl
theorem so_drop2 (l : List Nat) (d : Nat) (hd : d < 12) (h : d ∉ l) : remE' 12 [[], l] d = 4 ∧ remL 12 [[], l] d = [[], l] := by
  have e : remE' 12 [[], l] d = 4 := by
    unfold remE'; rw [if_pos ⟨by omega, by omega⟩, Int.toNat_natCast, wh_so, if_neg h, if_pos rfl]
  refine ⟨e, ?_⟩
  unfold remL; rw [if_neg (by rw [e]; decide)]
theorem sdrop_so (w : World) (P : Nat) (B : LB) (l l' : List Nat) (d : Nat) (v : Int) (h : SAt w P B (so l)) (h1 : remE' 12 [[], l] d = v) (h2 : remL 12 [[], l] d = [[], l']) : Calls Try.prog 34 #[.pointer (some ⟨P, 0, none⟩), .int .i64 d] w fun e w' =>
    e = .returned (.bool (v == 0)) ∧ SAt w' P B (so l') ∧ Fr (sfoot P B) w w' := by
  refine (sdrop w P B _ h d).mono ?_
  rintro e w' ⟨he, hs, hf⟩
  refine ⟨by rw [he, ← h1]; rfl, ?_, hf⟩
  have e2 : ({ so l with L := remL (so l).t (so l).L d } : SS) = so l' := by
    show (⟨2, 12, List.replicate 64 0, remL 12 [[], l] d⟩ : SS) = ⟨2, 12, List.replicate 64 0, [[], l']⟩
    rw [h2]
  rw [← e2]; exact hs
theorem so_up (t : Nat) (l : List Nat) : supT (so (t :: l)) 1 = t ∧ supE (so (t :: l)) 1 = 0 ∧ supS (so (t :: l)) 1 = so l := ⟨rfl, rfl, rfl⟩
theorem so_last : supT (so []) 1 = -1 ∧ supE (so []) 1 = 0 ∧ svalI (supS (so []) 1) 1 = 1 := ⟨rfl, rfl, rfl⟩

set_option maxRecDepth 100000 in
set_option maxHeartbeats 1000000 in
theorem semaOrder (w : World) (n d : Nat) (hn : n < 256) (hd : d < 256) : Calls Try.prog 6 #[.int .u8 n, .int .u8 d] w fun e w' => e = .returned (.bool true) ∧ Still w w' := by
  have hn0 : (0 : Int) ≤ (n : Int) := by omega
  have hn1 : (n : Int) ≤ 255 := by omega
  have hd0 : (0 : Int) ≤ (d : Int) := by omega
  have hd1 : (d : Int) ≤ 255 := by omega
  go_enter Try.func6, Try.ntmps6
  go_wp2_with fail
  obtain ⟨k, hk, hk1, hk2⟩ : ∃ k : Nat, 1 + (n : Int) % 12 = (k : Int) ∧ 1 ≤ k ∧ k ≤ 12 := ⟨(1 + (n : Int) % 12).toNat, by omega, by omega, by omega⟩
  rw [hk]
  clear hk
  refine (snew _ 2 12 (by omega) (by omega) (by omega) (by omega)).mono ?_
  rintro e w1 ⟨P, B, rfl, h1, hs, hnn⟩
  go_wp2_with fail
  go_loopw [7] (fun i wr => ∃ t : Nat, i = .int .i64 t ∧ t ≤ k ∧ SAt wr P B (so (List.range t)) ∧ Still w wr) (fun i _ => k - (intOf i).toNat)
  case atStart => exact ⟨0, rfl, Nat.zero_le _, h1, hs⟩
  case round =>
    obtain ⟨t, rfl, ht, hS, hst⟩ := hrel
    by_cases hlt : t < k
    · obtain ⟨d1, d2, d3⟩ := so_down t (by omega)
      have HD := hid d3
      clear d3
      go_wp2_with fail
      refine (sdown _ P B _ hS 1 t).mono ?_
      rw [d1, d2, HD.out]
      clear d1 d2
      rintro e w2 ⟨rfl, h2, f2⟩
      have hst2 := sfoot_still hst hnn f2
      go_wp2_with fail
      go_roundw
      case rel => exact ⟨t + 1, by go_num, by omega, h2, hst2⟩
      case measure => simp [intOf]; omega
    · obtain rfl : t = k := by omega
      clear hlt ht h1 hs
      obtain ⟨q, hq, hq1⟩ : ∃ q : Nat, (d : Int) % (t : Int) = (q : Int) ∧ q < t := ⟨d % t, by omega, Nat.mod_lt _ (by omega)⟩
      have HQ := hid hq
      clear hq
      go_wp2_with fail
      rw [HQ.out]
      have dr1 := so_drop (List.range t) q (by omega) (by simpa using hq1)
      have dr2 := so_drop2 (Q t q 0) q (by omega) (by simp [Q])
      rw [Q_zero] at dr1
      obtain ⟨x1, x2⟩ := dr1
      obtain ⟨y1, y2⟩ := dr2
      have X2 := hid x2
      have Y2 := hid y2
      clear x2 y2
      refine (sdrop_so _ P B _ _ q _ hS x1 X2.out).mono ?_
      clear x1
      rintro e w2 ⟨rfl, h2, f2⟩
      have hst2 := sfoot_still hst hnn f2
      go_wp2_with fail
      refine (sdrop_so _ P B _ _ q _ h2 y1 Y2.out).mono ?_
      clear y1
      rintro e w3 ⟨rfl, h3', f3⟩
      have hst3 := sfoot_still hst2 hnn f3
      clear h2 hS hst hst2 f2 f3
      go_wp2_with fail
      go_loopw [11] (fun i wr => ∃ j : Nat, i = .int .i64 j ∧ j ≤ t ∧ SAt wr P B (so (Q t q j)) ∧ Still w wr) (fun i _ => t - (intOf i).toNat)
      case atStart => exact ⟨0, rfl, Nat.zero_le _, h3', hst3⟩
      case round =>
        clear h3' hst3
        obtain ⟨j, rfl, hj, hS, hst⟩ := hrel
        by_cases hlt : j < t
        · by_cases hjq : j = q
          · have hb : ((j : Int) == (q : Int)) = true := by simp [hjq]
            have hS' : SAt wr P B (so (Q t q (j + 1))) := by
              have e : Q t q (j + 1) = Q t q j := by rw [hjq]; exact (Q_skip hq1).symm
              rw [e]; exact hS
            clear hjq
            go_wp2_with fail
            go_roundw
            case rel => exact ⟨j + 1, by go_num, by omega, hS', hst⟩
            case measure => simp [intOf]; omega
          · have hb : ((j : Int) == (q : Int)) = false := by simp; omega
            rw [Q_hit hlt hjq] at hS
            obtain ⟨u1, u2, u3⟩ := so_up j (Q t q (j + 1))
            have U3 := hid u3
            clear u3 hjq
            go_wp2_with fail
            refine (sup _ P B _ hS 1).mono ?_
            rw [u1, u2, U3.out]
            clear u1 u2
            rintro e w4 ⟨rfl, h4, f4⟩
            have hst4 := sfoot_still hst hnn f4
            go_wp2_with fail
            go_roundw
            case rel => exact ⟨j + 1, by go_num, by omega, h4, hst4⟩
            case measure => simp [intOf]; omega
        · obtain rfl : j = t := by omega
          rw [Q_end] at hS
          obtain ⟨u1, u2, u3⟩ := so_last
          have U3 := hid u3
          clear u3
          go_wp2_with fail
          refine (sup _ P B _ hS 1).mono ?_
          rw [u1, u2]
          clear u1 u2
          rintro e w4 ⟨rfl, h4, f4⟩
          have hst4 := sfoot_still hst hnn f4
          go_wp2_with fail
          refine (svalue _ P B _ h4 1).mono ?_
          rw [U3.out]
          rintro e w5 ⟨rfl, rfl⟩
          go_wp2_with fail
          refine (slives _).mono ?_
          rintro e w6 ⟨rfl, hs6⟩
          go_wp2_with fail
          go_ret
          exact ⟨rfl, hst4.trans hs6⟩
end Go.Proofs.Ytffjaaolcphonaa
