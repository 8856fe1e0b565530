/- LockOrder: plain facts, and the walk. -/
import Derived.Test.YtffjaaolcphonaaLockL
import Derived.Test.YtffjaaolcphonaaRows1
namespace Go.Proofs.Ytffjaaolcphonaa
open Go.RowKit
theorem owns_fr {w w' : World} {base : Nat} {e : TypeId} {size n : Nat} {v : Value} {xs : List Value} (h : w.ownsRow base e size v n xs) {F : Nat → Prop} (hf : Fr F w w') (hd : ∀ k, base ≤ k → k < w.heap.size → ¬ F k) : w'.ownsRow base e size v n xs := by
  refine ⟨h.1, h.2.imp id ?_⟩
  rintro ⟨g, cap, cur, h1, h2, h3, h4⟩
  have hg := (Array.getElem?_eq_some_iff.1 h3).1
  exact ⟨g, cap, cur, h1, h2, (hf.block g hg (hd g h2 hg)).trans h3, h4⟩
def hdI : List Nat → Int
  | [] => -1
  | y :: _ => (y : Int)
theorem Fr.own_fr {w w' : World} {base : Nat} {e : TypeId} {size n : Nat} {v : Value} {xs : List Value} (hown : w.ownsRow base e size v n xs) (hg : w.grownBy w' v.ownBlock) : Fr (fun k => base ≤ k) w w' :=
  Fr.of_grownBy hg (F := fun k => base ≤ k) (fun j ej _ => by
      rcases hown.2 with ⟨rfl, _⟩ | ⟨g, cap, cur, rfl, hb, _, _⟩
      · simp [Value.ownBlock] at ej
      · obtain rfl : g = j := by simpa [Value.ownBlock] using ej
        exact hb)
/-- One lock of 16 threads: A asked for it, the first has it. -/
def oS (A : List Nat) : LS := ⟨1, 16, [match A with | [] => -1 | t :: _ => (t : Int)], List.replicate 16 0, [A.tail, []]⟩
theorem wh_two (B : List Nat) (t : Nat) : wh [B, []] t = if t ∈ B then 0 else -1 := by
  unfold wh
  by_cases h : t ∈ B <;> simp [List.findIdx?_cons, h]
theorem oS_zero : newLS 1 16 = oS [] := rfl
theorem oS_idle {A : List Nat} {t : Nat} (ht : t < 16) : idleR (oS A) t = (decide (t ∉ A.tail), 5) := by
  have e : whI 16 [A.tail, []] (t : Int) = if t ∈ A.tail then 0 else -1 := by
    unfold whI; rw [if_pos ⟨by omega, by omega⟩, Int.toNat_natCast, wh_two]
  unfold idleR
  rw [if_pos (show inR (t : Int) (oS A).T from ⟨by omega, by show (t : Int) < (16 : Nat); omega⟩)]
  show (decide (whI 16 [A.tail, []] (t : Int) < 0), (5 : Int)) = _
  rw [e]
  by_cases h : t ∈ A.tail <;> simp [h]
theorem oS_allR (A : List Nat) : allR [0] (oS A).n = true := by show allR [0] 1 = true; decide
theorem lock_in {A : List Nat} {t : Nat} (ht : t < 16) (hm : t ∈ A) : lockE (oS A) 0 t = 5 := by
  unfold lockE
  rw [oS_allR, oS_idle ht]
  match A, hm with
  | a :: l, hm =>
    by_cases h : t ∈ l
    · simp [askE, h]
    · have e : t = a := by simpa [h] using hm
      subst e
      simp [askE, h, oS]
theorem lock_new {A : List Nat} {t : Nat} (ht : t < 16) (hm : t ∉ A) : lockE (oS A) 0 t = 0 ∧ lockB (oS A) 0 t = decide (A = []) ∧ lockS (oS A) 0 t = oS (A ++ [t]) := by
  have hE : lockE (oS A) 0 t = 0 := by
    unfold lockE
    rw [oS_allR, oS_idle ht]
    match A, hm with
    | [], hm =>
      have : ((-1 : Int) == (t : Int)) = false := by simp
      simp [askE, oS, this]
    | a :: l, hm =>
      simp only [List.mem_cons, not_or] at hm
      have : ((a : Int) == (t : Int)) = false := by simp; omega
      simp [askE, hm.2, oS, this]
  refine ⟨hE, ?_, ?_⟩
  · unfold lockB; rw [if_pos hE]
    match A with
    | [] => rfl
    | a :: l => simp [getB, oS]
  · unfold lockS; rw [if_pos hE]
    match A, hm with
    | [], _ => simp [getS, oS]
    | a :: l, hm =>
      simp only [List.mem_cons, not_or] at hm
      have hp : pushE 16 [l, []] 0 t = 0 := by
        unfold pushE
        rw [if_pos ⟨⟨by omega, by simp⟩, by omega, by omega⟩, Int.toNat_natCast, wh_two, if_neg hm.2]; rfl
      have hl : pushL 16 [l, []] 0 t = [l ++ [t], []] := by unfold pushL; rw [if_pos hp]; simp [gl]
      unfold getS
      rw [if_neg (by simp [oS])]
      show (⟨1, 16, [(a : Int)], _, pushL 16 [l, []] ((0 : Nat) : Int) t⟩ : LS) = _
      rw [show ((0 : Nat) : Int) = 0 from rfl, hl]; rfl
theorem unlock_head {t : Nat} {ys : List Nat} (ht : t < 16) (hm : t ∉ ys) : unlockE (oS (t :: ys)) 0 t = 0 ∧ unlockT (oS (t :: ys)) 0 t = hdI ys ∧ unlockS (oS (t :: ys)) 0 t = oS ys := by
  have hE : unlockE (oS (t :: ys)) 0 t = 0 := by
    unfold unlockE
    rw [oS_allR, oS_idle ht]
    simp [askE, hm, oS]
  have hT : passT (oS (t :: ys)) 0 = hdI ys := by
    match ys with
    | [] => rfl
    | y :: l => simp [passT, oS, gl, hdI]
  refine ⟨hE, ?_, ?_⟩
  · unfold unlockT; rw [if_pos hE]; exact hT
  · unfold unlockS; rw [if_pos hE]
    show passS (oS (t :: ys)) 0 = _
    unfold passS
    rw [hT]
    match ys with
    | [] => rfl
    | y :: l => rfl
theorem oS_free : ownerI (oS []) 0 = -1 := by decide
theorem lockB_in {A : List Nat} {t : Nat} (ht : t < 16) (hm : t ∈ A) : lockB (oS A) 0 t = false ∧ lockS (oS A) 0 t = oS A := by
  unfold lockB lockS; rw [lock_in ht hm]; exact ⟨rfl, rfl⟩
set_option maxRecDepth 100000 in
set_option maxHeartbeats 2000000 in
theorem lockOrder_big (w : World) (a : Option Addr) (n c : Nat) (hn : 60 < n) :
    Calls Try.prog 12 #[.slice a n c] w fun e w' => e = .returned (.bool true) ∧ Still w w' := by
  have hn' : (60 : Int) < (n : Int) := by omega
  clear hn
  go_enter Try.func12, Try.ntmps12
  go_wp2_with fail
  refine (lknew _ 1 16 (by omega) (by omega) (by omega) (by omega)).mono ?_
  rintro e w1 ⟨K, rfl, h1, hs1, hK⟩
  go_wp2_with (go_at_call 53; refine (klives _).mono ?_; rintro e w' ⟨rfl, hs13⟩)
  go_ret
  exact ⟨rfl, hs1.trans hs13⟩
set_option maxRecDepth 100000 in
set_option maxHeartbeats 4000000 in
theorem lockOrder_ok (w : World) (a : Option Addr) (n c : Nat) (F : Nat → Int) (hF : IsRow1 .u8 w a n c F) (hn : n ≤ 60) :
    Calls Try.prog 12 #[.slice a n c] w fun e w' => e = .returned (.bool true) ∧ Still w w' := by
  have hn' : (n : Int) ≤ 60 := by omega
  have HF := hid hF
  clear hF
  go_enter Try.func12, Try.ntmps12
  go_wp2_with fail
  refine (lknew _ 1 16 (by omega) (by omega) (by omega) (by omega)).mono ?_
  rintro e w1 ⟨K, rfl, h1, hs1, hK⟩
  rw [oS_zero] at h1
  have hKb : ∀ k, K.all k → k < w1.heap.size := fun k hk => h1.lt hk
  obtain ⟨z, hz⟩ : ∃ z, w1.heap.size = z := ⟨_, rfl⟩
  rw [hz] at hKb
  have hz1 : z ≤ w1.heap.size := by omega
  have hwz : w.heap.size ≤ z := by have := hs1.size; omega
  clear hz
  go_wp2_with fail
  go_loopw [4, 30] (fun v c wr => ∃ (j : Nat) (A : List Nat), c = .int .i64 j ∧ j ≤ n ∧ A.length ≤ j ∧ A.Nodup ∧ (∀ t ∈ A, t < 16) ∧ wr.ownsRow z 3 1 v A.length (ints (zi A)) ∧ LkAt wr K (oS A) ∧ Still w wr ∧ z ≤ wr.heap.size) (fun _ c _ => n - (intOf c).toNat)
  case atStart => exact ⟨0, [], rfl, by omega, by simp, by simp, by simp, World.ownsRow_nil _ _ _ _, h1, hs1, hz1⟩
  case round =>
    clear h1 hs1 hz1
    obtain ⟨j, A, rfl, hj, hAj, hnd, hA16, hown, hL, hst, hzr⟩ := hrel
    by_cases hlt : j < n
    · have hlt' : (j : Int) < (n : Int) := by omega
      rcases HF.out with h0 | ⟨b1, o1, rfl, _, _, _, _, hc⟩
      · omega
      obtain ⟨hc1, hc2⟩ := hc j hlt
      have c1 := Still.cell hst hc1
      have hu : IntKind.u8.min ≤ F j ∧ F j ≤ IntKind.u8.max := by simpa [Lit.wf] using hc2
      have hu' : 0 ≤ F j ∧ F j ≤ 255 := hu
      obtain ⟨x, hx⟩ := Int.eq_ofNat_of_zero_le hu'.1
      rw [hx] at c1 hu'
      have hx2 : (x : Int) ≤ 255 := hu'.2
      have ht16 : x % 16 < 16 := Nat.mod_lt _ (by omega)
      obtain ⟨t, htx⟩ : ∃ t, x % 16 = t := ⟨_, rfl⟩
      have hti : (x : Int) % 16 = (t : Int) := by omega
      have hti2 : (x : Int).tmod 16 = (t : Int) := by rw [Int.tmod_eq_emod_of_nonneg (by omega)]; exact hti
      rw [htx] at ht16
      have HX := hid hx
      have HT := hid htx
      clear hu hu' hx htx
      clear hc hc1 hc2
      by_cases hm : t ∈ A
      · have E1 := lock_in ht16 hm
        obtain ⟨E2, E3⟩ := lockB_in ht16 hm
        have H1 := hid E1
        have H2 := hid E2
        have H3 := hid E3
        have HM := hid hm
        clear E1 E2 E3 hm
        go_wp2_with fail
        refine (lklock hL 0 t).mono ?_
        rw [H1.out, H2.out, H3.out]
        rintro e w2 ⟨rfl, h2, f2⟩
        have hown2 := owns_fr hown f2 (fun k h1 _ h => by have := hKb k (.inr h); omega)
        go_wp2_with fail
        go_roundw
        case rel => exact ⟨j + 1, A, by go_num, by omega, by omega, hnd, hA16, hown2, h2, kfresh hst f2 hK, Nat.le_trans hzr f2.size⟩
        case measure => simp [intOf]; omega
      · obtain ⟨E1, E2, E3⟩ := lock_new ht16 hm
        have H1 := hid E1
        have H2 := hid E2
        have H3 := hid E3
        have HM := hid hm
        have hnd' : Hid ((A ++ [t]).Nodup) := hid (List.nodup_append.2 ⟨hnd, by simp, fun a ha b hb e => by simp at hb; subst e; subst hb; exact hm ha⟩)
        have hA' : Hid (∀ u ∈ A ++ [t], u < 16) := hid fun u hu => by
          rcases List.mem_append.1 hu with h | h
          · exact hA16 u h
          · simp at h; omega
        obtain ⟨a4, c4, rfl⟩ := own_shape hown A.length rfl
        have hAl : A.length ≤ 60 := by omega
        obtain ⟨b0, hb0⟩ : ∃ b, decide (A = []) = b := ⟨_, rfl⟩
        have hlb : ((A.length : Int) == 0) = b0 := by rw [← hb0]; cases A <;> simp; omega
        have HB0 := hid hb0
        obtain ⟨m, hm'⟩ : ∃ m, A.length = m := ⟨_, rfl⟩
        rw [hm'] at hown hlb hAl ⊢
        have HMM := hid hm'
        clear E1 E2 E3 hm hb0 hnd hA16 hm'
        go_wp2_with fail
        refine (lklock hL 0 t).mono ?_
        rw [H1.out, H2.out, H3.out, HB0.out]
        rintro e w2 ⟨rfl, h2, f2⟩
        have hown2 := owns_fr hown f2 (fun k h1 _ h => by have := hKb k (.inr h); omega)
        have hst2 := kfresh hst f2 hK
        have hz2 := Nat.le_trans hzr f2.size
        clear hown
        cases b0
        all_goals
          go_wp2_with (at_builtin; refine wpList_append_irow rfl (.tmp 54) (.tmp 56) rfl z m (zi A) [(t : Int)] (.slice a4 m c4) _ rfl rfl (hown2.alloc _) (one_new _ _ _) (by simp; omega) (by simp; omega) ?_; intro v3 w3 ho3 hg3 _)
          have f3 := ((Fr.refl (fun k => z ≤ k) w2).alloc (.cells #[.int .i64 (t : Int)] 3)).trans (Fr.own_fr (hown2.alloc _) hg3)
          have h3 := h2.fr f3 (fun k hk h => by have := hKb k hk; omega)
          have hst3 := Fr.of_own (hst2.alloc _) (hown2.alloc _) hg3 hwz
          have hz3 := Nat.le_trans hz2 f3.size
          have ho3' : w3.ownsRow z 3 1 v3 (A ++ [t]).length (ints (zi (A ++ [t]))) := by
            have e : (A ++ [t]).length = m + [(t : Int)].length := by rw [List.length_append, HMM.out]; rfl
            rw [e]; simpa [zi] using ho3
          go_roundw
          case rel => exact ⟨j + 1, A ++ [t], by go_num, by omega, by have := HMM.out; rw [List.length_append]; simp; omega, hnd'.out, hA'.out, ho3', h3, hst3, hz3⟩
          case measure => simp [intOf]; omega
    · obtain ⟨a4, c4, rfl⟩ := own_shape hown A.length rfl
      have hA60 : A.length ≤ 60 := by omega
      obtain ⟨m, hm'⟩ : ∃ m, A.length = m := ⟨_, rfl⟩
      rw [hm'] at hown hA60 ⊢
      have HMM := hid hm'
      have HND := hid hnd
      have HA16 := hid hA16
      clear hnd hA16 hm' hAj
      go_wp2_with fail
      go_loopw [61] (fun c wr => ∃ i : Nat, c = .int .i64 i ∧ i ≤ m ∧ wr.ownsRow z 3 1 (.slice a4 m c4) m (ints (zi A)) ∧ LkAt wr K (oS (A.drop i)) ∧ Still w wr) (fun c _ => m - (intOf c).toNat)
      case atStart => exact ⟨0, rfl, by omega, hown, by simpa using hL, hst⟩
      case round =>
        clear hown hL hst hzr
        obtain ⟨i, rfl, hi, hown, hL, hst⟩ := hrel
        by_cases hlt : i < m
        · have hlt' : (i : Int) < (m : Int) := by omega
          have hiA : i < A.length := by have := HMM.out; omega
          have hdr : A.drop i = A[i] :: A.drop (i + 1) := List.drop_eq_getElem_cons hiA
          obtain ⟨t, ht⟩ : ∃ t, A[i] = t := ⟨_, rfl⟩
          rw [ht] at hdr
          obtain ⟨ys, hys⟩ : ∃ ys, A.drop (i + 1) = ys := ⟨_, rfl⟩
          rw [hys] at hdr
          have ht16 : t < 16 := HA16.out t (by rw [← ht]; exact List.getElem_mem _)
          have htn : t ∉ ys := by
            have h1 : (A.drop i).Nodup := List.Nodup.sublist (List.drop_sublist _ _) HND.out
            rw [hdr] at h1
            exact (List.nodup_cons.1 h1).1
          obtain ⟨E1, E2, E3⟩ := unlock_head ht16 htn
          rw [hdr] at hL
          have hown' : wr.ownsRow z 3 1 (.slice a4 m c4) m (ints (zi A)) := hown
          have hrow := IRow.own hown (by rw [zi_len]; exact HMM.out.symm)
          rcases hrow with ⟨h0, _⟩ | ⟨_, b, off, c', hv, hcell⟩
          · have := HMM.out; have e := congrArg List.length h0; rw [zi_len] at e; simp at e; rw [e] at this; simp at this; omega
          obtain rfl : a4 = some ⟨b, off, none⟩ := by injection hv
          clear hv
          have hb : b < wr.heap.size ∧ ¬ K.foot b := by
            have h1 := World.block_lt_of_cell? _ _ (hcell i (by rw [zi_len]; exact hiA))
            refine ⟨h1, fun h => ?_⟩
            have h2 := hKb b (.inr h)
            obtain ⟨_, ⟨h3, _⟩ | ⟨g, cap, _, h3, h4, _⟩⟩ := hown'
            · cases h3
            · injection h3 with h3; injection h3 with h3; injection h3 with h3; omega
          have cx := hcell i (by rw [zi_len]; exact hiA)
          rw [show (zi A).getD i 0 = (t : Int) by simp [zi, hiA, ht]] at cx
          have H1 := hid E1
          have H2 := hid E2
          have H3 := hid E3
          by_cases hn1 : i + 1 < m
          · have hn1' : (i : Int) + 1 < (m : Int) := by omega
            have hiA1 : i + 1 < A.length := by have := HMM.out; omega
            have hy : hdI ys = (A[i + 1] : Int) := by rw [← hys, List.drop_eq_getElem_cons hiA1]; rfl
            have cy := hcell (i + 1) (by rw [zi_len]; exact hiA1)
            obtain ⟨y, hye⟩ : ∃ y, A[i + 1] = y := ⟨_, rfl⟩
            rw [show (zi A).getD (i + 1) 0 = (y : Int) by simp [zi, hiA1, hye]] at cy
            rw [hye] at hy
            have HY := hid hy
            have HYS := hid hys
            clear hcell hdr ht hys htn E1 E2 E3 hy hye
            go_wp2_with fail
            refine (lkunlock hL 0 t).mono ?_
            rw [H1.out, H2.out, H3.out, HY.out]
            rintro e w2 ⟨rfl, h2, f2⟩
            have cy2 := f2.cellK cy hb.2
            have hown2 := owns_fr hown f2 (fun k h1 _ h => by have := hKb k (.inr h); omega)
            go_wp2_with fail
            go_roundw
            case rel => exact ⟨i + 1, by go_num, by omega, hown2, by rw [HYS.out]; exact h2, kfresh hst f2 hK⟩
            case measure => simp [intOf]; omega
          · have hn1' : ¬ (i : Int) + 1 < (m : Int) := by omega
            have hy : hdI ys = -1 := by rw [← hys, List.drop_eq_nil_of_le (by have := HMM.out; omega)]; rfl
            have HY := hid hy
            have HYS := hid hys
            clear hcell hdr ht hys htn E1 E2 E3 hy
            go_wp2_with fail
            refine (lkunlock hL 0 t).mono ?_
            rw [H1.out, H2.out, H3.out, HY.out]
            rintro e w2 ⟨rfl, h2, f2⟩
            have hown2 := owns_fr hown f2 (fun k h1 _ h => by have := hKb k (.inr h); omega)
            go_wp2_with fail
            go_roundw
            case rel => exact ⟨i + 1, by go_num, by omega, hown2, by rw [HYS.out]; exact h2, kfresh hst f2 hK⟩
            case measure => simp [intOf]; omega
        · have hlt' : ¬ (i : Int) < (m : Int) := by omega
          rw [List.drop_eq_nil_of_le (by have := HMM.out; omega)] at hL
          go_wp2_with (first
            | (go_at_call 56; refine (lkowner hL 0).mono ?_; rw [oS_free]; rintro e w5 ⟨rfl, hs5⟩)
            | (go_at_call 53; refine (klives _).mono ?_; rintro e w' ⟨rfl, hs13⟩))
          go_ret
          exact ⟨rfl, (hst.trans hs5).trans hs13⟩
theorem lockOrder (w : World) (a : Option Addr) (n c : Nat) (F : Nat → Int) (hF : IsRow1 .u8 w a n c F) :
    Calls Try.prog 12 #[.slice a n c] w fun e w' => e = .returned (.bool true) ∧ Still w w' := by
  by_cases hn : n ≤ 60
  · exact lockOrder_ok w a n c F hF hn
  · exact lockOrder_big w a n c (by omega)
end Go.Proofs.Ytffjaaolcphonaa
