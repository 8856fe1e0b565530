/- SlotsOnce: the walk. -/
import Derived.Test.YtffjaaolcphonaaDoorOnceP
import Derived.Deep.RegionHeld3
import Derived.Deep.AppendLies
import Derived.Test.YtffjaaolcphonaaDoorRows1
import Derived.Test.YtffjaaolcphonaaDoorCopyW
namespace Go.Proofs.YtffjaaolcphonaaDoor
open Go.RowKit
set_option linter.unusedSimpArgs false
theorem slotsOnce_big (w : World) (hT : TabD w) (m : Int) (a : Option Addr) (n c : Nat) (hn : 200 < n) : Calls Tryd.prog 5 #[.int .u8 m, .slice a n c] w fun e w' => e = .returned (.bool true) ∧ Still w w' := by
  have hn' : (200 : Int) < (n : Int) := by omega
  have L := hid (dlives w hT)
  clear hn hT
  go_enter Tryd.func5, Tryd.ntmps5
  go_wp2_with (go_at_call 24; refine L.out.mono ?_; rintro e w' ⟨rfl, hs⟩)
  go_ret
  exact ⟨rfl, hs⟩
theorem OI.lv_in {s : SS} {N k : Nat} {told live : List Int} (h : OI s N k told live) : ∀ x ∈ live, inI x := by
  intro x hx
  obtain ⟨i, _, _, rfl⟩ := h.lv x hx
  exact idMk_in _ _
theorem own_cells' {w : World} {base m : Nat} {v : Value} {xs : List Int} (h : w.ownsRow base 3 1 v m (ints xs)) (hm : m = xs.length) (h0 : 0 < m) : ∃ b c, v = .slice (some ⟨b, 0, none⟩) m c ∧ base ≤ b ∧ b < w.heap.size ∧ m ≤ c ∧ ∀ i, i < m → w.cell? ⟨b, i, none⟩ = some (.int .i64 (xs.getD i 0)) := by
  rcases own_cells h hm with ⟨_, _, _, m0⟩ | ⟨b, c, hv, _, h1, h2, h3⟩
  · omega
  · refine ⟨b, c, hv, h1, h2, ?_, h3⟩
    subst hv
    obtain ⟨_, ⟨e, _⟩ | ⟨g, cap, _, e, _, _, h5, _⟩⟩ := h
    · cases e
    · injection e with _ _ e3; omega
theorem irow_take {w : World} {b m q i : Nat} {xs : List Int} (hm : xs.length = m) (hi : i ≤ m) (hc : ∀ i, i < m → w.cell? ⟨b, i, none⟩ = some (.int .i64 (xs.getD i 0))) : IRow w (.slice (some ⟨b, 0, none⟩) i q) (xs.take i) := by
  have hl : (xs.take i).length = i := by rw [List.length_take]; omega
  by_cases h0 : 0 < i
  · refine .inr ⟨by omega, b, 0, q, by rw [hl], fun j hj => ?_⟩
    rw [hl] at hj
    rw [Nat.zero_add, hc j (by omega)]
    simp [List.getD_eq_getElem?_getD, List.getElem?_take, hj]
  · obtain rfl : i = 0 := by omega
    exact .inl ⟨by simp, _, _, rfl⟩
theorem irow_drop {w : World} {b m q i l : Nat} {a : Option Addr} {xs : List Int} (hm : xs.length = m) (hl : l = m - i) (hq : m ≤ q) (ha : i < q → a = some ⟨b, i, none⟩) (hc : ∀ i, i < m → w.cell? ⟨b, i, none⟩ = some (.int .i64 (xs.getD i 0))) {k : Nat} : IRow w (.slice a l k) (xs.drop i) := by
  subst hl
  by_cases h0 : i < m
  · have hd : (xs.drop i).length = m - i := by rw [List.length_drop]; omega
    rw [ha (by omega)]
    refine .inr ⟨by omega, b, i, k, by rw [hd], fun j hj => ?_⟩
    rw [hd] at hj
    rw [hc (i + j) (by omega)]
    simp [List.getD_eq_getElem?_getD]
  · have e : m - i = 0 := by omega
    rw [e]
    exact .inl ⟨List.drop_eq_nil_of_le (by omega), _, _, rfl⟩
/-- Two values lie in different blocks. -/
def Apt (u v : Value) : Prop := ∀ b, u.ownBlock = some b → v.ownBlock = some b → False
theorem Apt.app {w : World} {base : Nat} {e : TypeId} {size n : Nat} {u v v' : Value} {xs : List Value} (h : Apt u v) (hu : w.ownsRow base e size u n xs) (hl : v'.ownBlock = v.ownBlock ∨ v'.ownBlock = some w.heap.size) : Apt u v' := by
  intro b h1 h2
  rcases hl with hl | hl
  · exact h b h1 (by rw [← hl]; exact h2)
  · rw [hl] at h2
    obtain ⟨_, ⟨rfl, _⟩ | ⟨g, cap, cur, rfl, _, h3, _⟩⟩ := hu
    · cases h1
    · have hg := (Array.getElem?_eq_some_iff.1 h3).1
      have e1 : g = b := by simpa [Value.ownBlock] using h1
      have e2 : w.heap.size = b := by simpa using h2
      omega
theorem Apt.lo {w w' : World} {base base' : Nat} {e e' : TypeId} {size n size' n' : Nat} {u v : Value} {xs ys : List Value} (hu : w.ownsRow base e size u n xs) (hv : w'.ownsRow base' e' size' v n' ys) (hl : w.heap.size ≤ base') : Apt u v := by
  intro b h1 h2
  obtain ⟨_, ⟨rfl, _⟩ | ⟨g, cap, cur, rfl, _, h3, _⟩⟩ := hu
  · cases h1
  · have hg := (Array.getElem?_eq_some_iff.1 h3).1
    have e1 : g = b := by simpa [Value.ownBlock] using h1
    obtain ⟨_, ⟨rfl, _⟩ | ⟨g2, cap2, cur2, rfl, h5, _⟩⟩ := hv
    · cases h2
    · have e2 : g2 = b := by simpa [Value.ownBlock] using h2
      omega
theorem Apt.symm {u v : Value} (h : Apt u v) : Apt v u := fun b h1 h2 => h b h2 h1
theorem owns_grown {w w' : World} {base : Nat} {e : TypeId} {size n : Nat} {u v : Value} {xs : List Value} (h : w.ownsRow base e size u n xs) (hg : w.grownBy w' v.ownBlock) (ha : Apt u v) : w'.ownsRow base e size u n xs := by
  refine ⟨h.1, h.2.imp id ?_⟩
  rintro ⟨g, cap, cur, rfl, h2, h3, h4⟩
  have hgl := (Array.getElem?_eq_some_iff.1 h3).1
  exact ⟨g, cap, cur, rfl, h2, (hg.block g hgl fun e => ha g rfl e.symm).trans h3, h4⟩
set_option maxRecDepth 100000 in
set_option maxHeartbeats 4000000 in
theorem slotsOnce_ok (w : World) (hT : TabD w) (m : Int) (a : Option Addr) (n c : Nat) (F : Nat → Int) (hm : (Lit.int .u8 m).wf = true) (hF : IsRow1 .u64 w a n c F) (hn : n ≤ 200) :
    Calls Tryd.prog 5 #[.int .u8 m, .slice a n c] w fun e w' => e = .returned (.bool true) ∧ Still w w' := by
  have hn' : ¬ (200 : Int) < (n : Int) := by omega
  have HF := hid hF
  have HT := hid hT
  have HM := hid hm
  have h7 := hid hT.lt
  clear hF hT hm
  go_enter Tryd.func5, Tryd.ntmps5
  go_wp2_with fail
  obtain ⟨N, hN, N0, N1⟩ : ∃ N : Nat, wrap64 (1 + wrap64 (m.tmod 20)) = (N : Int) ∧ 1 ≤ N ∧ N ≤ 20 := by
    have h0 : 0 ≤ m ∧ m ≤ 255 := by have h := HM.out; have hu : IntKind.u8.min ≤ m ∧ m ≤ IntKind.u8.max := by simpa [Lit.wf] using h
                                    exact hu
    have w64 : ∀ z : Int, 0 ≤ z → z ≤ 1000 → wrap64 z = z := fun z _ _ => by unfold wrap64; omega
    rw [Int.tmod_eq_emod_of_nonneg h0.1, w64 (m % 20) (by omega) (by omega), w64 _ (by omega) (by omega)]
    exact ⟨(1 + m % 20).toNat, by omega, by omega, by omega⟩
  rw [hN]
  clear hN HM
  refine (snew w N N0 (by omega)).mono ?_
  rintro e w1 ⟨B, rfl, hB, hs1, hnn⟩
  have n7 : Hid (¬ B.foot 7) := hid (fun hf => by have := hnn 7 hf; have := h7.out; omega)
  have TW := hid hB
  have S1 := hid hs1
  have NN := hid hnn
  have Z1 : w.heap.size ≤ w1.heap.size := hs1.size
  clear hB hs1 hnn
  go_wp2_with fail
  go_loopw [7, 8, 10, 11, 12, 14, 16, 17, 18, 33] (fun s7 s8 s10 s11 s12 s14 s16 s17 s18 cc wr => ∃ (j : Nat) (s : SS) (tl lv : List Int), cc = .int .i64 j ∧ j ≤ n ∧ SAt wr B s ∧ OI s N j tl lv ∧ Still w wr ∧ wr.ownsRow w1.heap.size 3 1 s7 tl.length (ints tl) ∧ wr.ownsRow w1.heap.size 3 1 s8 lv.length (ints lv) ∧ Apt s7 s8 ∧ tl.length ≤ j ∧ w1.heap.size ≤ wr.heap.size) (fun s7 s8 s10 s11 s12 s14 s16 s17 s18 cc _ => n - (intOf cc).toNat)
  case atStart => exact ⟨0, _, [], [], rfl, Nat.zero_le _, TW.out, OI.zero N N1, S1.out, owns_nil _ _, owns_nil _ _, (fun b h => by cases h), Nat.le_refl _, Nat.le_refl _⟩
  case round =>
    obtain ⟨j, s, tl, lv, rfl, hj, hA, hI, hst, hO7, hO8, hap, htl, hz⟩ := hrel
    have AX := hid hA
    have IX := hid hI
    have SX := hid hst
    have O7 := hid hO7
    have O8 := hid hO8
    have AP := hid hap
    have hle := hI.le
    have hls := hid hI.cnt
    clear hA hI hO7 hO8 hap
    obtain ⟨a7, c7, rfl⟩ := own_shape O7.out _ rfl
    obtain ⟨a8, k8, rfl⟩ := own_shape O8.out _ rfl
    by_cases hlt : j < n
    · have hlt' : (j : Int) < (n : Int) := by omega
      rcases HF.out with h0 | ⟨b1, o1, rfl, _, _, _, _, hc⟩
      · omega
      have g0 := Still.cell hst (hc j hlt).1
      have hyi := (hc j hlt).2
      clear hc hst
      obtain ⟨f, hf⟩ : ∃ f, F j = f := ⟨_, rfl⟩
      rw [hf] at g0 hyi
      clear hf
      have FY := hid hyi
      clear hyi
      go_wp2_with fail
      refine (stake' AX.out (HT.out.still SX.out) n7.out IX.out.i).mono ?_
      rintro e w3 ⟨rfl, l3, f3⟩
      have A3 := hid l3
      have S3 := hid (SX.out.next f3 NN.out)
      have bl : ∀ k, w1.heap.size ≤ k → k < wr.heap.size → ¬ B.foot k := fun k h1 _ h => by have := TW.out.lt h; omega
      have P7 : Hid (w3.ownsRow w1.heap.size 3 1 (.slice a7 tl.length c7) tl.length (ints tl)) := hid (owns_fr O7.out f3 bl)
      have P8 : Hid (w3.ownsRow w1.heap.size 3 1 (.slice a8 lv.length k8) lv.length (ints lv)) := hid (owns_fr O8.out f3 bl)
      have Z3 : w1.heap.size ≤ w3.heap.size := Nat.le_trans hz f3.size
      clear l3 f3 bl O7 O8
      by_cases hroom : lv.length < N
      · have hroom' : (lv.length : Int) < (N : Int) := by omega
        obtain ⟨i, _, _, te, _, _⟩ := IX.out.room hroom
        rcases (IX.out.fresh hroom).symm with q | ⟨q1, q2, q3, q4⟩
        · exfalso; omega
        rw [te]
        obtain ⟨tv, htv⟩ : ∃ tv, takeV s = tv := ⟨_, rfl⟩
        obtain ⟨sn, hsn⟩ : ∃ sn, takeS s = sn := ⟨_, rfl⟩
        rw [htv] at q1 q2 q3 q4 ⊢
        rw [hsn] at q4 A3
        have Q1 := hid q1
        have Q2 := hid q2
        have Q3 := hid q3
        have Q4 := hid q4
        clear q1 q2 q3 q4 te htv hsn
        go_wp2_with fail
        go_loopw [14, 53] (fun s14 cc wx => ∃ i : Nat, cc = .int .i64 i ∧ i ≤ tl.length ∧ wx = w3) (fun s14 cc _ => tl.length - (intOf cc).toNat)
        case atStart => exact ⟨0, rfl, Nat.zero_le _, rfl⟩
        case round =>
          obtain ⟨i, rfl, hi, hw⟩ := hrel
          subst hw
          by_cases hlt2 : i < tl.length
          · have hlt2' : (i : Int) < (tl.length : Int) := by omega
            rcases own_cells P7.out rfl with ⟨_, _, _, m0⟩ | ⟨b2, q2, ev, m0, _, _, hc2⟩
            · omega
            obtain ⟨rfl, rfl⟩ : a7 = some ⟨b2, 0, none⟩ ∧ c7 = q2 := by injection ev with e1 _ e3; exact ⟨e1, e3⟩
            have c2 := hc2 i hlt2
            have hne : tl.getD i 0 ≠ tv := Q1.out _ (by simp only [List.getD_eq_getElem?_getD, List.getElem?_eq_getElem hlt2]; exact List.getElem_mem hlt2)
            obtain ⟨x, hx⟩ : ∃ x, tl.getD i 0 = x := ⟨_, rfl⟩
            rw [hx] at c2 hne
            have e0 : (x == tv) = false := by simp [hne]
            clear hx hne hc2 ev
            go_wp2_with fail
            go_roundw
            case rel => exact ⟨i + 1, by go_num, by omega, trivial⟩
            case measure => simp [intOf]; omega
          · have hlt2' : ¬ (i : Int) < (tl.length : Int) := by omega
            go_wp2_with fail
            go_loopw [16, 63] (fun s16 cc wx => ∃ i : Nat, cc = .int .i64 i ∧ i ≤ lv.length ∧ wx = wr) (fun s16 cc _ => lv.length - (intOf cc).toNat)
            case atStart => exact ⟨0, rfl, Nat.zero_le _, rfl⟩
            case round =>
              obtain ⟨i, rfl, hi, hw⟩ := hrel
              subst hw
              by_cases hlt3 : i < lv.length
              · have hlt3' : (i : Int) < (lv.length : Int) := by omega
                rcases own_cells P8.out rfl with ⟨_, _, _, m0⟩ | ⟨b2, q2, ev, m0, _, _, hc2⟩
                · omega
                obtain ⟨rfl, rfl⟩ : a8 = some ⟨b2, 0, none⟩ ∧ k8 = q2 := by injection ev with e1 _ e3; exact ⟨e1, e3⟩
                have c2 := hc2 i hlt3
                have hne : idxI (lv.getD i 0) ≠ idxI tv := Q2.out _ (by simp only [List.getD_eq_getElem?_getD, List.getElem?_eq_getElem hlt3]; exact List.getElem_mem hlt3)
                have hxi : inI (lv.getD i 0) := (IX.out.lv_in _ (by simp only [List.getD_eq_getElem?_getD, List.getElem?_eq_getElem hlt3]; exact List.getElem_mem hlt3))
                obtain ⟨x, hx⟩ : ∃ x, lv.getD i 0 = x := ⟨_, rfl⟩
                rw [hx] at c2 hne hxi
                have e0 : (idxI x == idxI tv) = false := by simp [hne]
                have X1 := hid (xindex wr x hxi)
                have X2 := hid (xindex wr tv Q3.out)
                clear hx hne hc2 ev hxi
                go_wp2_with fail
                refine X1.out.mono ?_
                rintro e w' ⟨rfl, rfl⟩
                go_wp2_with fail
                refine X2.out.mono ?_
                rintro e w' ⟨rfl, rfl⟩
                go_wp2_with fail
                go_roundw
                case rel => exact ⟨i + 1, by go_num, by omega, trivial⟩
                case measure => simp [intOf]; omega
              · have hlt3' : ¬ (i : Int) < (lv.length : Int) := by omega
                have TA0 := A3
                obtain ⟨mt, hmt⟩ : ∃ k, tl.length + [tv].length = k := ⟨_, rfl⟩
                obtain ⟨ml, hml⟩ : ∃ k, lv.length + [tv].length = k := ⟨_, rfl⟩
                have HMT := hid hmt
                have HML := hid hml
                have ml0 : 0 < ml := by simp only [List.length_cons, List.length_nil] at hml; omega
                have ml0' : (0 : Int) < (ml : Int) := by omega
                have mlr : ml < lv.length + 2 := by simp only [List.length_cons, List.length_nil] at hml; omega
                obtain ⟨i, hidx, hil⟩ : ∃ i : Nat, wrap64 ((IntKind.u64.wrap (f.tdiv 3)).tmod (ml : Int)) = (i : Int) ∧ i < ml := by
                  have hr := wrap_mod' (f.tdiv 3) ml0
                  refine ⟨((IntKind.u64.wrap (f.tdiv 3)).tmod (ml : Int)).toNat, ?_, by omega⟩
                  rw [show ∀ z : Int, 0 ≤ z → z < 1000 → wrap64 z = z from fun z _ _ => by unfold wrap64; omega]
                  · omega
                  · exact hr.1
                  · have := hr.2; omega
                clear hmt hml
                obtain ⟨lv2, hlv2⟩ : ∃ l, lv ++ [tv] = l := ⟨_, rfl⟩
                obtain ⟨tl2, htl2⟩ : ∃ l, tl ++ [tv] = l := ⟨_, rfl⟩
                have TI : Hid (OI sn N (j + 1) tl2 lv2) := hid (by rw [← hlv2, ← htl2]; exact Q4.out)
                have LL : Hid (lv2.length = ml) := hid (by rw [← hlv2, List.length_append]; exact HML.out)
                have TT : Hid (tl2.length = mt) := hid (by rw [← htl2, List.length_append]; exact HMT.out)
                have TJ : Hid (mt ≤ j + 1) := hid (by rw [← HMT.out]; simp; omega)
                have L2 := hid hlv2
                have T2 := hid htl2
                clear hlv2 htl2
                obtain ⟨G1, G2, G3, G4, xi, GI⟩ := TI.out.gone (i := i) (by have := LL.out; omega)
                obtain ⟨x, hx⟩ : ∃ x, lv2.getD i 0 = x := ⟨_, rfl⟩
                rw [hx] at G1 G2 G3 G4 xi GI
                have G1 := hid G1
                have G2 := hid G2
                have G3 := hid G3
                have G4 := hid G4
                have xi := hid xi
                have GI := hid GI
                have HX := hid hx
                clear hx
                by_cases h3 : f.tmod 3 = 0
                · have e3 : (f.tmod 3 == 0) = true := by simp [h3]
                  clear h3
                  go_wp2_with (first
                    | (at_builtin; refine wpList_append_irow rfl (.tmp 73) (.tmp 75) rfl w1.heap.size tl.length tl [tv] _ _ rfl rfl (P7.out.alloc _) (one_new _ _ _) (by simp; omega) (by simp; omega) ?_; intro v5 w5 ho5 hg5 hl5; have f5 := hid (app_still P7.out tv hg5); have P5 := hid (owns_grown (P8.out.alloc _) hg5 AP.out.symm); have AP5 := hid (Apt.app AP.out.symm (P8.out.alloc _) hl5); have z5 := f5.out.size; rw [HMT.out, T2.out] at ho5; have O5 := hid ho5; obtain ⟨p7, q7, rfl⟩ := own_shape O5.out _ rfl; clear ho5 hg5 hl5)
                    | (at_builtin; refine wpList_append_irow rfl (.tmp 77) (.tmp 79) rfl w1.heap.size lv.length lv [tv] _ _ rfl rfl (P5.out.alloc _) (one_new _ _ _) (by simp; omega) (by simp; omega) ?_; intro v6 wq ho6 hg6 hl6; have f6 := hid (app_still P5.out tv hg6); have T7 := hid (owns_grown (O5.out.alloc _) hg6 AP5.out.symm); have TAP := hid (Apt.app AP5.out.symm (O5.out.alloc _) hl6); have z6 := f6.out.size; rw [HML.out, L2.out] at ho6; have T8 := hid ho6; obtain ⟨b8, q8, rfl, hb8, hb8', hq8, hc8⟩ := own_cells' ho6 LL.out.symm ml0; have c8 := hc8 i hil; rw [HX.out] at c8; have z7 := hid hb8'; have HC8 := hid hc8; clear hc8 ho6 hg6 hl6 hb8'))
                  have S4 := hid (S3.out.next f5.out (fun k hk => Nat.le_trans Z1 hk))
                  have TS := hid (S4.out.next f6.out (fun k hk => Nat.le_trans Z1 hk))
                  have ff : ∀ k, B.foot k → ¬ w1.heap.size ≤ k := fun k hk h => by have := TW.out.lt hk; omega
                  have TA := hid ((A3.out.fr f5.out ff).fr f6.out ff)
                  clear f5 f6 ff S4
                  refine (sfree' TA.out x xi.out TI.out.i).mono ?_
                  rintro e w7 ⟨he, l7, f7⟩
                  rw [G1.out] at he
                  subst he
                  have L7 := hid l7
                  have F7 := hid f7
                  clear l7 f7
                  go_wp2_with fail
                  refine (slive _ B _ L7.out x xi.out).mono ?_
                  rintro e w8 ⟨he, s8⟩
                  rw [G2.out] at he
                  subst he
                  have S8 := hid s8
                  clear s8
                  go_wp2_with fail
                  refine (sfree' (L7.out.still S8.out) x xi.out (TI.out.i.free x)).mono ?_
                  rintro e w9 ⟨he, l9, f9⟩
                  rw [G3.out] at he
                  rw [G4.out] at l9
                  subst he
                  have L9 := hid l9
                  have F9 : Hid (Fr (fun k => k = B.P) wq w9) := hid ((F7.out.trans (S8.out.fr _)).trans f9)
                  have HC9 := hid (fun k hk => F9.out.cellK (HC8.out k hk) (fun e => by have := TW.out.lt (.inl e); omega))
                  clear l9 f9
                  go_wp2_with fail
                  have iq : i ≤ q8 := by omega
                  obtain ⟨k1, hk1⟩ : ∃ k1, i + 1 = k1 := ⟨_, rfl⟩
                  have kl : k1 ≤ ml := by omega
                  have iw : IntKind.i64.wrap ((i : Int) + 1) = (k1 : Int) := by rw [IntKind.wrap_i64]; omega
                  have HK1 := hid hk1
                  clear hk1
                  refine Held.wp_region_held_tail (S := (fun w' => True)) 10 (by kernel_rfl) (by kernel_rfl) (by decide) ?hS1 (fun hHeld => ?hR1)
                  case hS1 =>
                    trivial
                  simp only [List.take_succ_cons, List.take_zero, List.drop_succ_cons, List.drop_zero]
                  refine wpAnyH_take (i := 1) (oi := _) (v := ?v2) rfl (by kernel_rfl) (by kernel_rfl) (by kernel_rfl) (fun _ _ _ h => h) (Or.inl ⟨by rfl, ?y2⟩) (by assumption) ?r2
                  case y2 => ((intro w hSw); (try dsimp only at hSw); go_simp; (try with_reducible rfl))
                  (try simp only [Act.put, List.setIfInBounds_toArray, List.set_cons_zero, List.set_cons_succ])
                  refine wpAnyH_take (i := 2) (oi := _) (v := ?v3) rfl (by kernel_rfl) (by kernel_rfl) (by kernel_rfl) (fun _ _ _ h => h) (Or.inl ⟨by rfl, ?y3⟩) (by assumption) ?r3
                  case y3 => ((intro w hSw); (try dsimp only at hSw); go_simp; (try with_reducible rfl))
                  (try simp only [Act.put, List.setIfInBounds_toArray, List.set_cons_zero, List.set_cons_succ])
                  refine wpAnyH_take (i := 5) (oi := _) (v := ?v4) rfl (by kernel_rfl) (by kernel_rfl) (by kernel_rfl) (fun _ _ _ h => h) (Or.inl ⟨by rfl, ?y4⟩) (by assumption) ?r4
                  case y4 => ((intro w hSw); (try dsimp only at hSw); go_simp; (try with_reducible rfl))
                  (try simp only [Act.put, List.setIfInBounds_toArray, List.set_cons_zero, List.set_cons_succ])
                  refine wpAnyH_take (i := 6) (oi := _) (v := ?v5) rfl (by kernel_rfl) (by kernel_rfl) (by kernel_rfl) (fun _ _ _ h => h) (Or.inl ⟨by rfl, ?y5⟩) (by assumption) ?r5
                  case y5 => ((intro w hSw); (try dsimp only at hSw); go_simp; (try with_reducible rfl))
                  (try simp only [Act.put, List.setIfInBounds_toArray, List.set_cons_zero, List.set_cons_succ])
                  refine wpAnyH_take (i := 7) (oi := _) (v := ?v6) rfl (by kernel_rfl) (by kernel_rfl) (by kernel_rfl) (fun _ _ _ h => h) (Or.inl ⟨by rfl, ?y6⟩) (by assumption) ?r6
                  case y6 => ((intro w hSw); (try dsimp only at hSw); go_simp; (try with_reducible rfl))
                  (try simp only [Act.put, List.setIfInBounds_toArray, List.set_cons_zero, List.set_cons_succ])
                  refine wpAnyH_take (i := 3) (oi := _) (v := ?v7) rfl (by kernel_rfl) (by kernel_rfl) (by kernel_rfl) (fun _ _ _ h => h) (Or.inl ⟨by rfl, ?y7⟩) (by assumption) ?r7
                  case y7 => ((intro w hSw); (try dsimp only at hSw); go_simp; (try with_reducible rfl))
                  (try simp only [Act.put, List.setIfInBounds_toArray, List.set_cons_zero, List.set_cons_succ])
                  refine wpAnyH_take (i := 8) (oi := _) (v := ?v8) rfl (by kernel_rfl) (by kernel_rfl) (by kernel_rfl) (fun _ _ _ h => h) (Or.inl ⟨by rfl, ?y8⟩) (by assumption) ?r8
                  case y8 => ((intro w hSw); (try dsimp only at hSw); go_simp; (try with_reducible rfl))
                  (try simp only [Act.put, List.setIfInBounds_toArray, List.set_cons_zero, List.set_cons_succ])
                  have R1 := hid (irow_take (q := q8) LL.out (Nat.le_of_lt hil) HC9.out)
                  have R2 := hid (irow_drop (i := k1) (l := ml - k1) (a := if q8 = k1 then some ⟨b8, 0, none⟩ else some ⟨b8, k1, none⟩) (k := q8 - k1) LL.out rfl hq8 (fun h => if_neg (by omega)) HC9.out)
                  refine wpAnyH_ready (rs := [0]) (by kernel_rfl) (by simp) ?_
                  refine AllReadyH.cons rfl (fun K hK => ?st9) AllReadyH.nil
                  go_simp
                  refine hK.out _ _ ?k9 (fun hHeld9 => ?_)
                  case k9 =>
                    trivial
                  clear hK K
                  (try simp only [Act.put, List.setIfInBounds_toArray, List.set_cons_zero, List.set_cons_succ])
                  refine wpAnyH_ready (rs := [4]) (by kernel_rfl) (by simp) ?_
                  refine AllReadyH.cons rfl (fun K hK => ?st10) AllReadyH.nil
                  refine step_append_irow rfl (.tmp 115) (.tmp 118) rfl w9.heap.size 0 [] (lv2.take i) (.slice (some ⟨_, 0, none⟩) 0 0) _ rfl rfl ?_ ?_ ?_ ?_ ?_
                  · exact (owns_new w9 3).drew
                  · exact (R1.out.alloc _).drew
                  · have := LL.out; simp only [List.length_take]; omega
                  · simp; try omega
                  intro v10 w10 ho10 hg10 _
                  have s10 := hid (Fr.of_own ((Fr.refl _ w9).alloc _).drew (owns_new w9 3).drew hg10 (Nat.le_refl _))
                  have O10 := hid ho10
                  clear ho10 hg10
                  refine hK.out _ _ ?k10 (fun hHeld10 => ?_)
                  case k10 =>
                    trivial
                  clear hK K
                  (try simp only [Act.put, List.setIfInBounds_toArray, List.set_cons_zero, List.set_cons_succ])
                  refine wpAnyH_ready (rs := [9]) (by kernel_rfl) (by simp) ?_
                  refine AllReadyH.cons rfl (fun K hK => ?st11) AllReadyH.nil
                  refine step_append_irow rfl (.tmp 119) (.tmp 123) rfl w9.heap.size (0 + (lv2.take i).length) ([] ++ lv2.take i) (lv2.drop k1) v10 _ rfl rfl O10.out (R2.out.still s10.out) ?_ s10.out.size ?_
                  · have := LL.out; simp only [List.length_take, List.length_drop]; omega
                  intro v11 w11 ho11 hg11 _
                  have s11 := hid (Fr.of_own s10.out O10.out hg11 (Nat.le_refl _))
                  have O11 := hid ho11
                  clear ho11 hg11
                  refine hK.out _ _ ?k11 (fun hHeld11 => ?_)
                  case k11 =>
                    trivial
                  clear hK K
                  (try simp only [Act.put, List.setIfInBounds_toArray, List.set_cons_zero, List.set_cons_succ])
                  refine wpAnyH_done (by kernel_rfl) (Held.tailQ_normal ?_) _
                  go_wp2_with fail
                  have z9 := F9.out.size
                  have z11 := s11.out.size
                  have T9 : Hid (w9.ownsRow w1.heap.size 3 1 (.slice p7 mt q7) mt (ints tl2)) := hid (owns_fr T7.out F9.out (fun k h1 _ h => by have := TW.out.lt (.inl h); omega))
                  go_roundw
                  case rel => exact ⟨j + 1, freeS sn x, tl2, lv2.take i ++ lv2.drop (i + 1), by go_num, by omega, L9.out.still s11.out, GI.out, (TS.out.next F9.out (fun k hk => NN.out k (.inl hk))).trans s11.out, by rw [TT.out]; exact owns_fr T9.out (s11.out.fr (fun _ => False)) (fun _ _ _ h => h.elim), by have h := ownsRow_base O11.out (show w1.heap.size ≤ w9.heap.size by omega); rw [← HK1.out] at h; simpa only [List.nil_append, Nat.zero_add, ← List.length_append] using h, Apt.lo T9.out O11.out (Nat.le_refl _), by rw [TT.out]; exact TJ.out, by omega⟩
                  case measure => simp [intOf]; omega
                · have e3 : (f.tmod 3 == 0) = false := by simp [h3]
                  clear h3
                  go_wp2_with (first
                    | (at_builtin; refine wpList_append_irow rfl (.tmp 73) (.tmp 75) rfl w1.heap.size tl.length tl [tv] _ _ rfl rfl (P7.out.alloc _) (one_new _ _ _) (by simp; omega) (by simp; omega) ?_; intro v5 w5 ho5 hg5 hl5; have f5 := hid (app_still P7.out tv hg5); have P5 := hid (owns_grown (P8.out.alloc _) hg5 AP.out.symm); have AP5 := hid (Apt.app AP.out.symm (P8.out.alloc _) hl5); have z5 := f5.out.size; rw [HMT.out, T2.out] at ho5; have O5 := hid ho5; obtain ⟨p7, q7, rfl⟩ := own_shape O5.out _ rfl; clear ho5 hg5 hl5)
                    | (at_builtin; refine wpList_append_irow rfl (.tmp 77) (.tmp 79) rfl w1.heap.size lv.length lv [tv] _ _ rfl rfl (P5.out.alloc _) (one_new _ _ _) (by simp; omega) (by simp; omega) ?_; intro v6 wq ho6 hg6 hl6; have f6 := hid (app_still P5.out tv hg6); have T7 := hid (owns_grown (O5.out.alloc _) hg6 AP5.out.symm); have TAP := hid (Apt.app AP5.out.symm (O5.out.alloc _) hl6); have z6 := f6.out.size; rw [HML.out, L2.out] at ho6; have T8 := hid ho6; obtain ⟨b8, q8, rfl, hb8, hb8', hq8, hc8⟩ := own_cells' ho6 LL.out.symm ml0; have c8 := hc8 i hil; rw [HX.out] at c8; have z7 := hid hb8'; have HC8 := hid hc8; clear hc8 ho6 hg6 hl6 hb8'))
                  have S4 := hid (S3.out.next f5.out (fun k hk => Nat.le_trans Z1 hk))
                  have TS := hid (S4.out.next f6.out (fun k hk => Nat.le_trans Z1 hk))
                  have ff : ∀ k, B.foot k → ¬ w1.heap.size ≤ k := fun k hk h => by have := TW.out.lt hk; omega
                  have TA := hid ((A3.out.fr f5.out ff).fr f6.out ff)
                  clear f5 f6 ff S4
                  go_roundw
                  case rel => exact ⟨j + 1, sn, tl2, lv2, by go_num, by omega, TA.out, TI.out, TS.out, by rw [TT.out]; exact T7.out, by rw [LL.out]; exact T8.out, TAP.out, by rw [TT.out]; exact TJ.out, by omega⟩
                  case measure => simp [intOf]; omega
      · have hroom' : ¬ (lv.length : Int) < (N : Int) := by omega
        obtain ⟨te, ts⟩ := IX.out.full hroom
        rw [te]
        rw [ts] at A3
        obtain ⟨tv, htv⟩ : ∃ tv, takeV s = tv := ⟨_, rfl⟩
        rw [htv]
        clear te ts htv
        obtain ⟨mt, hmt⟩ : ∃ k, tl.length = k := ⟨_, rfl⟩
        obtain ⟨ml, hml⟩ : ∃ k, lv.length = k := ⟨_, rfl⟩
        rw [hml] at hroom'
        have P7a := P7.out
        have P8a := P8.out
        rw [hmt] at P7a
        rw [hml] at P8a
        have T7 := hid P7a
        have T8 := hid P8a
        clear P7 P8 P7a P8a
        have ml0 : 0 < ml := by omega
        have ml0' : (0 : Int) < (ml : Int) := by omega
        have mlr : ml < 100 := by omega
        obtain ⟨i, hidx, hil⟩ : ∃ i : Nat, wrap64 ((IntKind.u64.wrap (f.tdiv 3)).tmod (ml : Int)) = (i : Int) ∧ i < ml := by
          have hr := wrap_mod' (f.tdiv 3) ml0
          refine ⟨((IntKind.u64.wrap (f.tdiv 3)).tmod (ml : Int)).toNat, ?_, by omega⟩
          rw [show ∀ z : Int, 0 ≤ z → z < 1000 → wrap64 z = z from fun z _ _ => by unfold wrap64; omega]
          · omega
          · exact hr.1
          · have := hr.2; omega
        have TI : Hid (OI s N (j + 1) tl lv) := hid (IX.out.mono (by omega) (by omega))
        have LL : Hid (lv.length = ml) := hid hml
        have TT : Hid (tl.length = mt) := hid hmt
        have TJ : Hid (mt ≤ j + 1) := hid (by omega)
        rw [hmt, hml]
        have hrl := hid (show ml ≤ 20 by omega)
        have TAPa := AP.out
        rw [hmt, hml] at TAPa
        have TAP := hid TAPa
        clear TAPa
        clear hmt hml
        obtain ⟨b8, q8, hsl, hb8, hb8', hq8, hc8⟩ := own_cells' T8.out LL.out.symm ml0
        have hsl := hid hsl
        obtain ⟨rfl, rfl⟩ : a8 = some ⟨b8, 0, none⟩ ∧ q8 = k8 := by
          have := hsl.out; injection this with e1 _ e3; exact ⟨e1, e3.symm⟩
        obtain ⟨G1, G2, G3, G4, xi, GI⟩ := TI.out.gone (i := i) (by have := LL.out; omega)
        obtain ⟨x, hx⟩ : ∃ x, lv.getD i 0 = x := ⟨_, rfl⟩
        have cx8 := hc8 i hil
        rw [hx] at G1 G2 G3 G4 xi GI cx8
        have HC8 := hid hc8
        have G1 := hid G1
        have G2 := hid G2
        have G3 := hid G3
        have G4 := hid G4
        have xi := hid xi
        have GI := hid GI
        have HX := hid hx
        have TS := S3
        have TA := A3
        clear hx hc8 hsl
        by_cases h3 : f.tmod 3 = 0
        · have e3 : (f.tmod 3 == 0) = true := by simp [h3]
          clear h3
          go_wp2_with fail
          refine (sfree' TA.out x xi.out TI.out.i).mono ?_
          rintro e w7 ⟨he, l7, f7⟩
          rw [G1.out] at he
          subst he
          have L7 := hid l7
          have F7 := hid f7
          clear l7 f7
          go_wp2_with fail
          refine (slive _ B _ L7.out x xi.out).mono ?_
          rintro e w8 ⟨he, s8⟩
          rw [G2.out] at he
          subst he
          have S8 := hid s8
          clear s8
          go_wp2_with fail
          refine (sfree' (L7.out.still S8.out) x xi.out (TI.out.i.free x)).mono ?_
          rintro e w9 ⟨he, l9, f9⟩
          rw [G3.out] at he
          rw [G4.out] at l9
          subst he
          have L9 := hid l9
          have F9 : Hid (Fr (fun k => k = B.P) w3 w9) := hid ((F7.out.trans (S8.out.fr _)).trans f9)
          have HC9 := hid (fun k hk => F9.out.cellK (HC8.out k hk) (fun e => by have := TW.out.lt (.inl e); omega))
          clear l9 f9
          go_wp2_with fail
          have iq : i ≤ q8 := by omega
          obtain ⟨k1, hk1⟩ : ∃ k1, i + 1 = k1 := ⟨_, rfl⟩
          have kl : k1 ≤ ml := by omega
          have iw : IntKind.i64.wrap ((i : Int) + 1) = (k1 : Int) := by rw [IntKind.wrap_i64]; omega
          have HK1 := hid hk1
          clear hk1
          refine Held.wp_region_held_tail (S := (fun w' => True)) 10 (by kernel_rfl) (by kernel_rfl) (by decide) ?hS12 (fun hHeld => ?hR12)
          case hS12 =>
            trivial
          simp only [List.take_succ_cons, List.take_zero, List.drop_succ_cons, List.drop_zero]
          refine wpAnyH_take (i := 1) (oi := _) (v := ?v13) rfl (by kernel_rfl) (by kernel_rfl) (by kernel_rfl) (fun _ _ _ h => h) (Or.inl ⟨by rfl, ?y13⟩) (by assumption) ?r13
          case y13 => ((intro w hSw); (try dsimp only at hSw); go_simp; (try with_reducible rfl))
          (try simp only [Act.put, List.setIfInBounds_toArray, List.set_cons_zero, List.set_cons_succ])
          refine wpAnyH_take (i := 2) (oi := _) (v := ?v14) rfl (by kernel_rfl) (by kernel_rfl) (by kernel_rfl) (fun _ _ _ h => h) (Or.inl ⟨by rfl, ?y14⟩) (by assumption) ?r14
          case y14 => ((intro w hSw); (try dsimp only at hSw); go_simp; (try with_reducible rfl))
          (try simp only [Act.put, List.setIfInBounds_toArray, List.set_cons_zero, List.set_cons_succ])
          refine wpAnyH_take (i := 5) (oi := _) (v := ?v15) rfl (by kernel_rfl) (by kernel_rfl) (by kernel_rfl) (fun _ _ _ h => h) (Or.inl ⟨by rfl, ?y15⟩) (by assumption) ?r15
          case y15 => ((intro w hSw); (try dsimp only at hSw); go_simp; (try with_reducible rfl))
          (try simp only [Act.put, List.setIfInBounds_toArray, List.set_cons_zero, List.set_cons_succ])
          refine wpAnyH_take (i := 6) (oi := _) (v := ?v16) rfl (by kernel_rfl) (by kernel_rfl) (by kernel_rfl) (fun _ _ _ h => h) (Or.inl ⟨by rfl, ?y16⟩) (by assumption) ?r16
          case y16 => ((intro w hSw); (try dsimp only at hSw); go_simp; (try with_reducible rfl))
          (try simp only [Act.put, List.setIfInBounds_toArray, List.set_cons_zero, List.set_cons_succ])
          refine wpAnyH_take (i := 7) (oi := _) (v := ?v17) rfl (by kernel_rfl) (by kernel_rfl) (by kernel_rfl) (fun _ _ _ h => h) (Or.inl ⟨by rfl, ?y17⟩) (by assumption) ?r17
          case y17 => ((intro w hSw); (try dsimp only at hSw); go_simp; (try with_reducible rfl))
          (try simp only [Act.put, List.setIfInBounds_toArray, List.set_cons_zero, List.set_cons_succ])
          refine wpAnyH_take (i := 3) (oi := _) (v := ?v18) rfl (by kernel_rfl) (by kernel_rfl) (by kernel_rfl) (fun _ _ _ h => h) (Or.inl ⟨by rfl, ?y18⟩) (by assumption) ?r18
          case y18 => ((intro w hSw); (try dsimp only at hSw); go_simp; (try with_reducible rfl))
          (try simp only [Act.put, List.setIfInBounds_toArray, List.set_cons_zero, List.set_cons_succ])
          refine wpAnyH_take (i := 8) (oi := _) (v := ?v19) rfl (by kernel_rfl) (by kernel_rfl) (by kernel_rfl) (fun _ _ _ h => h) (Or.inl ⟨by rfl, ?y19⟩) (by assumption) ?r19
          case y19 => ((intro w hSw); (try dsimp only at hSw); go_simp; (try with_reducible rfl))
          (try simp only [Act.put, List.setIfInBounds_toArray, List.set_cons_zero, List.set_cons_succ])
          have R1 := hid (irow_take (q := q8) LL.out (Nat.le_of_lt hil) HC9.out)
          have R2 := hid (irow_drop (i := k1) (l := ml - k1) (a := if q8 = k1 then some ⟨b8, 0, none⟩ else some ⟨b8, k1, none⟩) (k := q8 - k1) LL.out rfl hq8 (fun h => if_neg (by omega)) HC9.out)
          refine wpAnyH_ready (rs := [0]) (by kernel_rfl) (by simp) ?_
          refine AllReadyH.cons rfl (fun K hK => ?st20) AllReadyH.nil
          go_simp
          refine hK.out _ _ ?k20 (fun hHeld20 => ?_)
          case k20 =>
            trivial
          clear hK K
          (try simp only [Act.put, List.setIfInBounds_toArray, List.set_cons_zero, List.set_cons_succ])
          refine wpAnyH_ready (rs := [4]) (by kernel_rfl) (by simp) ?_
          refine AllReadyH.cons rfl (fun K hK => ?st21) AllReadyH.nil
          refine step_append_irow rfl (.tmp 115) (.tmp 118) rfl w9.heap.size 0 [] (lv.take i) (.slice (some ⟨_, 0, none⟩) 0 0) _ rfl rfl ?_ ?_ ?_ ?_ ?_
          · exact (owns_new w9 3).drew
          · exact (R1.out.alloc _).drew
          · have := LL.out; simp only [List.length_take]; omega
          · simp; try omega
          intro v10 w10 ho10 hg10 _
          have s10 := hid (Fr.of_own ((Fr.refl _ w9).alloc _).drew (owns_new w9 3).drew hg10 (Nat.le_refl _))
          have O10 := hid ho10
          clear ho10 hg10
          refine hK.out _ _ ?k21 (fun hHeld21 => ?_)
          case k21 =>
            trivial
          clear hK K
          (try simp only [Act.put, List.setIfInBounds_toArray, List.set_cons_zero, List.set_cons_succ])
          refine wpAnyH_ready (rs := [9]) (by kernel_rfl) (by simp) ?_
          refine AllReadyH.cons rfl (fun K hK => ?st22) AllReadyH.nil
          refine step_append_irow rfl (.tmp 119) (.tmp 123) rfl w9.heap.size (0 + (lv.take i).length) ([] ++ lv.take i) (lv.drop k1) v10 _ rfl rfl O10.out (R2.out.still s10.out) ?_ s10.out.size ?_
          · have := LL.out; simp only [List.length_take, List.length_drop]; omega
          intro v11 w11 ho11 hg11 _
          have s11 := hid (Fr.of_own s10.out O10.out hg11 (Nat.le_refl _))
          have O11 := hid ho11
          clear ho11 hg11
          refine hK.out _ _ ?k22 (fun hHeld22 => ?_)
          case k22 =>
            trivial
          clear hK K
          (try simp only [Act.put, List.setIfInBounds_toArray, List.set_cons_zero, List.set_cons_succ])
          refine wpAnyH_done (by kernel_rfl) (Held.tailQ_normal ?_) _
          go_wp2_with fail
          have z9 := F9.out.size
          have z11 := s11.out.size
          have T9 : Hid (w9.ownsRow w1.heap.size 3 1 (.slice a7 mt c7) mt (ints tl)) := hid (owns_fr T7.out F9.out (fun k h1 _ h => by have := TW.out.lt (.inl h); omega))
          go_roundw
          case rel => exact ⟨j + 1, freeS s x, tl, lv.take i ++ lv.drop (i + 1), by go_num, by omega, L9.out.still s11.out, GI.out, (TS.out.next F9.out (fun k hk => NN.out k (.inl hk))).trans s11.out, by rw [TT.out]; exact owns_fr T9.out (s11.out.fr (fun _ => False)) (fun _ _ _ h => h.elim), by have h := ownsRow_base O11.out (show w1.heap.size ≤ w9.heap.size by omega); rw [← HK1.out] at h; simpa only [List.nil_append, Nat.zero_add, ← List.length_append] using h, Apt.lo T9.out O11.out (Nat.le_refl _), by rw [TT.out]; exact TJ.out, by omega⟩
          case measure => simp [intOf]; omega
        · have e3 : (f.tmod 3 == 0) = false := by simp [h3]
          clear h3
          go_wp2_with fail
          go_roundw
          case rel => exact ⟨j + 1, s, tl, lv, by go_num, by omega, TA.out, TI.out, TS.out, by rw [TT.out]; exact T7.out, by rw [LL.out]; exact T8.out, TAP.out, by rw [TT.out]; exact TJ.out, by omega⟩
          case measure => simp [intOf]; omega
    · have hlt' : ¬ (j : Int) < (n : Int) := by omega
      have en : s.n = ((lv.length : Nat) : Int) := IX.out.cnt.symm
      have e2 : ((idsS s).length : Int) = ((lv.length : Nat) : Int) := by rw [idsS_n IX.out.i IX.out.j]; exact en
      obtain ⟨ml, hml⟩ : ∃ k, lv.length = k := ⟨_, rfl⟩
      have LN0 := slen wr B s AX.out
      rw [en] at LN0
      rw [hml] at LN0 e2 ⊢
      have LN := hid LN0
      clear LN0
      have E2 : Hid ((idsS s).length = ml) := hid (by omega)
      clear hst e2 en
      go_wp2_with fail
      refine LN.out.mono ?_
      rintro e w2 ⟨rfl, rfl⟩
      go_wp2_with fail
      refine (sall _ B s AX.out).mono ?_
      rintro e w2 ⟨v, rfl, hO, s2⟩
      rw [E2.out] at hO
      obtain ⟨p2, q2, rfl⟩ := own_shape hO _ rfl
      have S2 := hid (SX.out.trans s2)
      clear hO s2
      go_wp2_with fail
      refine (dlives _ (HT.out.still S2.out)).mono ?_
      rintro e w3 ⟨rfl, s3⟩
      have S3 := hid (S2.out.trans s3)
      clear s3
      go_wp2_with fail
      go_ret
      exact ⟨rfl, S3.out⟩
theorem slotsOnce (w : World) (hT : TabD w) (m : Int) (hm : (Lit.int .u8 m).wf = true) (a : Option Addr) (n c : Nat) (F : Nat → Int) (hF : IsRow1 .u64 w a n c F) : Calls Tryd.prog 5 #[.int .u8 m, .slice a n c] w fun e w' => e = .returned (.bool true) ∧ Still w w' := by
  by_cases hn : 200 < n
  · exact slotsOnce_big w hT m a n c hn
  · exact slotsOnce_ok w hT m a n c F hm hF (by omega)
end Go.Proofs.YtffjaaolcphonaaDoor
