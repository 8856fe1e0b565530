/- SlotsActs: the walk. -/
import Derived.Test.YtffjaaolcphonaaDoorActsW
namespace Go.Proofs.YtffjaaolcphonaaDoor
open Go.RowKit
set_option linter.unusedSimpArgs false
/-- Both sides, over one state. -/
structure Two (w : World) (B : SB) (p A T cA cT : Nat) (s : SS) : Prop where
  l : SAt w B s
  r : RAt w p A T cA cT s
  i : SI s
  j : SI2 s
structure Apart (w0 : World) (B : SB) (p A T : Nat) : Prop where
  lo : ∀ k, B.foot k → w0.heap.size ≤ k
  p0 : w0.heap.size ≤ p
  A0 : w0.heap.size ≤ A
  T0 : w0.heap.size ≤ T
  np : ¬ B.foot p
  nA : ¬ B.foot A
  nT : ¬ B.foot T
theorem Two.still {w w' : World} {B : SB} {p A T cA cT : Nat} {s : SS} (h : Two w B p A T cA cT s) (hs : Still w w') : Two w' B p A T cA cT s := ⟨h.l.still hs, h.r.still hs, h.i, h.j⟩
theorem Two.take {w w1 w2 w0 : World} {B : SB} {p A T cA cT : Nat} {s : SS} (h : Two w B p A T cA cT s) (ap : Apart w0 B p A T) (hl : SAt w1 B (takeS s)) (hr : RAt w2 p A T cA cT (takeS s)) (f2 : Fr (fun k => k = A ∨ k = T) w1 w2) : Two w2 B p A T cA cT (takeS s) :=
  ⟨hl.fr f2 (fun k hk he => by rcases he with rfl | rfl; exact ap.nA hk; exact ap.nT hk), hr, h.i.take, h.j.take h.i⟩
theorem Two.free {w w1 w2 w0 : World} {B : SB} {p A T cA cT : Nat} {s : SS} {z : Int} (h : Two w B p A T cA cT s) (ap : Apart w0 B p A T) (hl : SAt w1 B (freeS s z)) (hr : RAt w2 p A T cA cT (freeS s z)) (f2 : Fr (fun k => k = T) w1 w2) : Two w2 B p A T cA cT (freeS s z) :=
  ⟨hl.fr f2 (fun k hk he => by subst he; exact ap.nT hk), hr, h.i.free z, h.j.free z⟩
theorem takeV_in (s : SS) : inI (takeV s) := by
  unfold takeV
  split
  · unfold inI; omega
  · exact idMk_in _ _
theorem Two.far {w0 w w' : World} {B : SB} {p A T cA cT : Nat} {s0 s : SS} (h0 : Two w0 B p A T cA cT s0) (f : Fr (fun k => w0.heap.size ≤ k) w w') (h : Two w B p A T cA cT s) : Two w' B p A T cA cT s :=
  ⟨h.l.fr f (fun k hk he => by have := h0.l.lt hk; omega), h.r.fr f (by have := h0.r.hp.lt; omega) (by have := h0.r.hA.lt; omega) (by have := h0.r.hT.lt; omega), h.i, h.j⟩
set_option maxRecDepth 100000 in
set_option maxHeartbeats 4000000 in
theorem slotsActs_ok (w : World) (hT : TabD w) (x : Nat) (d : Int) (hd : inI d) (a : Option Addr) (n c : Nat) (F : Nat → Nat → Int) (hF : IsRow3 2 w a n c F) (hn : n ≤ 300) (x0 : 1 ≤ x) (x1 : x ≤ 4096) :
    Calls Tryd.prog 4 #[.int .i64 (x : Int), .slice a n c, .int .i64 d] w fun e w' => e = .returned (.bool true) ∧ Still w w' := by
  have hn' : ¬ (300 : Int) < (n : Int) := by omega
  have HF := hid hF
  have HT := hid hT
  have h7 := hid hT.lt
  have HN := hid (snew w x x0 x1)
  clear hF hT
  go_enter Tryd.func4, Tryd.ntmps4
  go_wp2_with fail
  refine HN.out.mono ?_
  rintro e w1 ⟨B, rfl, hB, hs1, hnn⟩
  go_wp2_with fail
  refine (rnew w1 x x0 x1).mono ?_
  rintro e w2 ⟨p, A, T, cA, cT, rfl, hR, hs2, p0, A0, T0⟩
  have hl := fun k hk => hB.lt (k := k) hk
  have AP := hid (Apart.mk (w0 := w) hnn (Nat.le_trans hs1.size p0) (Nat.le_trans hs1.size A0) (Nat.le_trans hs1.size T0) (fun h => by have := hl _ h; omega) (fun h => by have := hl _ h; omega) (fun h => by have := hl _ h; omega))
  have TW := hid (Two.mk (hB.still hs2) hR (SI.zero x x1) (SI2.zero x))
  have S2 := hid (hs1.trans hs2)
  have Z02 : Hid (w.heap.size ≤ w2.heap.size) := hid (hs1.trans hs2).size
  have TW2 := TW
  have n7 : Hid (¬ B.foot 7) := hid (fun hf => by have := hnn 7 hf; have := h7.out; omega)
  clear hB hs1 hnn hR hs2 p0 A0 T0 hl
  go_wp2_with fail
  go_loopw [9, 11, 12, 13, 14, 15, 16, 35] (fun s9 s11 s12 s13 s14 s15 s16 cc wr => ∃ (j : Nat) (s : SS) (tl : List Int), cc = .int .i64 j ∧ j ≤ n ∧ Two wr B p A T cA cT s ∧ Still w wr ∧ wr.ownsRow w2.heap.size 3 1 s9 tl.length (ints tl) ∧ tl.length ≤ j ∧ (∀ x ∈ tl, inI x) ∧ w2.heap.size ≤ wr.heap.size) (fun s9 s11 s12 s13 s14 s15 s16 cc _ => n - (intOf cc).toNat)
  case atStart => exact ⟨0, _, [], rfl, Nat.zero_le _, TW.out, S2.out, owns_nil _ _, Nat.le_refl _, by simp, Nat.le_refl _⟩
  case round =>
    obtain ⟨j, s, tl, rfl, hj, hTW, hst, hO, htl, hin, hz⟩ := hrel
    have TWx := hid hTW
    have Sx := hid hst
    have Ox := hid hO
    have IN := hid hin
    by_cases hlt : j < n
    · have hlt' : (j : Int) < (n : Int) := by omega
      rcases HF.out with h0 | ⟨b1, o1, rfl, _, _, _, _, hc⟩
      · omega
      have g0 := Still.cell hst (hc j hlt 0 (by omega)).1
      have g1 := Still.cell hst (hc j hlt 1 (by omega)).1
      have hzi := (hc j hlt 1 (by omega)).2
      clear hc hTW hst hO hin
      simp only [Nat.add_zero] at g0
      rw [← Nat.add_assoc] at g1
      obtain ⟨k, hk⟩ : ∃ k, F j 0 = k := ⟨_, rfl⟩
      obtain ⟨z, hzz⟩ : ∃ z, F j 1 = z := ⟨_, rfl⟩
      rw [hk] at g0
      rw [hzz] at g1 hzi
      clear hk hzz
      by_cases hk0 : k = 0
      · have e0 : (k == 0) = true := by simp [hk0]
        have e1 : (k == 1) = false := by simp [hk0]
        clear hk0
        have s1 : Still wr (wr.alloc (.cells #[.int .i64 k, .int .i64 z] 33)) := (Fr.refl _ _).alloc _
        have S1 := hid s1
        clear s1
        go_wp2_with fail
        refine (stake' (TWx.out.l.still S1.out) (HT.out.still (Sx.out.trans S1.out)) n7.out TWx.out.i).mono ?_
        rintro e w3 ⟨rfl, l3, f3⟩
        have L3 := hid l3
        have F3 := hid f3
        clear l3 f3
        have ap := AP.out
        go_wp2_with fail
        refine (rtake (((TWx.out.r.still S1.out).fr F3.out ap.np ap.nA ap.nT)) TWx.out.i.age).mono ?_
        rintro e w4 ⟨rfl, r4, f4⟩
        have T4 := hid (TWx.out.take ap L3.out r4 f4)
        have S4 := hid (((Sx.out.trans S1.out).next F3.out ap.lo).next f4 (fun k hk => by rcases hk with rfl | rfl; exact ap.A0; exact ap.T0))
        have G4 : Fr (fun k => B.foot k ∨ k = A ∨ k = T) wr w4 := ((S1.out.fr _).trans (F3.out.mono fun k _ h => .inl h)).trans (f4.mono fun k _ h => .inr h)
        have Z4 := G4.size
        have HG4 := hid G4
        clear r4 f4 G4
        obtain ⟨tv, htv⟩ : ∃ tv, takeV s = tv := ⟨_, rfl⟩
        obtain ⟨te, hte⟩ : ∃ te, takeE s = te := ⟨_, rfl⟩
        rw [htv, hte]
        have HTv := hid htv
        clear htv hte
        have O4 : Hid (w4.ownsRow w2.heap.size 3 1 u9 tl.length (ints tl)) := hid (owns_fr Ox.out HG4.out fun k h1 _ h => by
          rcases h with h | rfl | rfl
          · have := TW.out.l.lt h; omega
          · have := TW.out.r.hA.lt; omega
          · have := TW.out.r.hT.lt; omega)
        obtain ⟨c1, c2, hs9⟩ := own_shape O4.out _ rfl
        subst hs9
        go_wp2_with (at_builtin; refine wpList_append_irow rfl (.tmp 80) (.tmp 82) rfl w2.heap.size tl.length tl [tv] _ _ rfl rfl (O4.out.alloc _) (one_new _ _ _) (by simp; omega) (by simp; omega) ?_; intro v5 w5 ho5 hg5 _; have f5 := hid (app_still O4.out tv hg5); have O5 := hid ho5; clear ho5 hg5)
        have B5 : Fr (fun k => w2.heap.size ≤ k) w4 w5 := f5.out
        have Z5 : Hid (w2.heap.size ≤ w5.heap.size) := hid (by have := B5.size; omega)
        have T5 := hid (TW2.out.far B5 T4.out)
        have S5 := hid (S4.out.next B5 (fun k hk => Nat.le_trans Z02.out hk))
        clear f5 B5
        obtain ⟨lb, hlb⟩ : ∃ lb, liveB (takeS s) z = lb := ⟨_, rfl⟩
        obtain ⟨lm, hlm⟩ : ∃ lm, (idsS (takeS s)).length = lm := ⟨_, rfl⟩
        go_wp2_with fail
        refine (slive _ B _ T5.out.l z hzi).mono ?_
        rintro e w6 ⟨he, s6⟩
        have T6 := hid (T5.out.still s6)
        have S6 := hid (S5.out.trans s6)
        have Z6 : Hid (w2.heap.size ≤ w6.heap.size) := hid (Nat.le_trans Z5.out s6.size)
        have O6 := hid (owns_fr O5.out (s6.fr (fun _ => False)) fun _ _ _ h => h.elim)
        rw [hlb] at he
        subst he
        clear s6
        go_wp2_with fail
        refine (rlive T6.out.r z hzi).mono ?_
        rintro e w7 ⟨he, s7⟩
        have T7 := hid (T6.out.still s7)
        have S7 := hid (S6.out.trans s7)
        have Z7 : Hid (w2.heap.size ≤ w7.heap.size) := hid (Nat.le_trans Z6.out s7.size)
        have O7 := hid (owns_fr O6.out (s7.fr (fun _ => False)) fun _ _ _ h => h.elim)
        rw [hlb] at he
        subst he
        clear s7
        go_wp2_with fail
        refine (slen _ B _ T7.out.l).mono ?_
        rintro e w8 ⟨he, rfl⟩
        rw [← idsS_n T7.out.i T7.out.j, hlm] at he
        subst he
        go_wp2_with fail
        refine (rall T7.out.r T7.out.i T7.out.j).mono ?_
        rintro e w9 ⟨v, rfl, hO, s9⟩
        have T9 := hid (T7.out.still s9)
        have S9 := hid (S7.out.trans s9)
        have O9 := hid (owns_fr O7.out (s9.fr (fun _ => False)) fun _ _ _ h => h.elim)
        have Z9 : Hid (w2.heap.size ≤ w9.heap.size) := hid (Nat.le_trans Z7.out s9.size)
        rw [hlm] at hO
        obtain ⟨c3, c4, rfl⟩ := own_shape hO _ rfl
        clear hO s9
        go_wp2_with fail
        go_roundw
        case rel => exact ⟨j + 1, _, tl ++ [tv], by go_num, by omega, T9.out, S9.out, by simpa using O9.out, by simp; omega, by intro x hx; rcases List.mem_append.1 hx with h | h; exact IN.out x h; simp at h; subst h; rw [← HTv.out]; exact takeV_in _, Z9.out⟩
        case measure => simp [intOf]; omega
      · have e0 : (k == 0) = false := by simp [hk0]
        clear hk0
        have s1 : Still wr (wr.alloc (.cells #[.int .i64 k, .int .i64 z] 33)) := (Fr.refl _ _).alloc _
        have K1 := hid (act_cells wr k z)
        have S1 := hid s1
        clear s1
        have O1 := hid (Ox.out.alloc (.cells #[.int .i64 k, .int .i64 z] 33))
        by_cases hk1 : k = 1
        · have e1 : (k == 1) = true := by simp [hk1]
          clear hk1
          rcases own_cells O1.out rfl with ⟨q1, q2, rfl, m0⟩ | ⟨b2, q2, rfl, m0, _, _, hc2⟩
          · have hm0 : ((tl.length : Nat) : Int) = 0 := by omega
            obtain ⟨m, hm⟩ : ∃ m, tl.length = m := ⟨_, rfl⟩
            obtain ⟨fe, hfe⟩ : ∃ fe, freeE s z = fe := ⟨_, rfl⟩
            rw [hm] at m0 hm0 htl ⊢
            subst m0
            go_wp2_with fail
            refine (sfree' (TWx.out.l.still S1.out) z hzi TWx.out.i).mono ?_
            rintro e w3 ⟨he, l3, f3⟩
            rw [hfe] at he
            subst he
            have L3 := hid l3
            have F3 := hid f3
            clear l3 f3
            have ap := AP.out
            go_wp2_with fail
            refine (rfree (((TWx.out.r.still S1.out).fr F3.out (fun h => ap.np (.inl h)) (fun h => ap.nA (.inl h)) (fun h => ap.nT (.inl h)))) z hzi).mono ?_
            rintro e w5 ⟨he, r4, f4⟩
            rw [hfe] at he
            subst he
            have T5 := hid (TWx.out.free ap L3.out r4 f4)
            have S5 := hid (((Sx.out.trans S1.out).next F3.out (fun k hk => ap.lo k (.inl hk))).next f4 (fun k hk => by subst hk; exact ap.T0))
            have G5 : Fr (fun k => k = B.P ∨ k = T) wr w5 := ((S1.out.fr _).trans (F3.out.mono fun k _ h => .inl h)).trans (f4.mono fun k _ h => .inr h)
            have Z5 : Hid (w2.heap.size ≤ w5.heap.size) := hid (by have := G5.size; omega)
            have O5 : Hid (w5.ownsRow w2.heap.size 3 1 (.slice q1 0 q2) tl.length (ints tl)) := hid (owns_fr (hm ▸ Ox.out) G5 fun k h1 _ h => by
              rcases h with rfl | rfl
              · have := TW.out.l.lt (.inl rfl); omega
              · have := TW.out.r.hT.lt; omega)
            clear r4 f4 G5
            obtain ⟨lb, hlb⟩ : ∃ lb, liveB (freeS s z) z = lb := ⟨_, rfl⟩
            obtain ⟨lm, hlm⟩ : ∃ lm, (idsS (freeS s z)).length = lm := ⟨_, rfl⟩
            go_wp2_with fail
            refine (slive _ B _ T5.out.l z hzi).mono ?_
            rintro e w6 ⟨he, s6⟩
            have T6 := hid (T5.out.still s6)
            have S6 := hid (S5.out.trans s6)
            have Z6 : Hid (w2.heap.size ≤ w6.heap.size) := hid (Nat.le_trans Z5.out s6.size)
            have O6 := hid (owns_fr O5.out (s6.fr (fun _ => False)) fun _ _ _ h => h.elim)
            rw [hlb] at he
            subst he
            clear s6
            go_wp2_with fail
            refine (rlive T6.out.r z hzi).mono ?_
            rintro e w7 ⟨he, s7⟩
            have T7 := hid (T6.out.still s7)
            have S7 := hid (S6.out.trans s7)
            have Z7 : Hid (w2.heap.size ≤ w7.heap.size) := hid (Nat.le_trans Z6.out s7.size)
            have O7 := hid (owns_fr O6.out (s7.fr (fun _ => False)) fun _ _ _ h => h.elim)
            rw [hlb] at he
            subst he
            clear s7
            go_wp2_with fail
            refine (slen _ B _ T7.out.l).mono ?_
            rintro e w8 ⟨he, rfl⟩
            rw [← idsS_n T7.out.i T7.out.j, hlm] at he
            subst he
            go_wp2_with fail
            refine (rall T7.out.r T7.out.i T7.out.j).mono ?_
            rintro e w9 ⟨v, rfl, hO, s9⟩
            have T9 := hid (T7.out.still s9)
            have S9 := hid (S7.out.trans s9)
            have O9 := hid (owns_fr O7.out (s9.fr (fun _ => False)) fun _ _ _ h => h.elim)
            have Z9 : Hid (w2.heap.size ≤ w9.heap.size) := hid (Nat.le_trans Z7.out s9.size)
            rw [hlm] at hO
            obtain ⟨c3, c4, rfl⟩ := own_shape hO _ rfl
            clear hO s9
            go_wp2_with fail
            go_roundw
            case rel => exact ⟨j + 1, _, tl, by go_num, by omega, T9.out, S9.out, O9.out, by omega, IN.out, Z9.out⟩
            case measure => simp [intOf]; omega
          · obtain ⟨m, hm⟩ : ∃ m, tl.length = m := ⟨_, rfl⟩
            have hr := wrap_mod z m0
            have hrr := wrap_mod' z m0
            have hr0 := hrr.1
            have hr1 := hrr.2
            have hc1 := hc2 _ hr
            obtain ⟨x9, hx9⟩ : ∃ x9, tl.getD ((IntKind.u64.wrap z).tmod (tl.length : Int)).toNat 0 = x9 := ⟨_, rfl⟩
            have hxi : inI x9 := by
              rw [← hx9]; refine IN.out _ ?_
              simp only [List.getD_eq_getElem?_getD, List.getElem?_eq_getElem hr]
              exact List.getElem_mem hr
            rw [hx9] at hc1
            rw [hm] at m0 hr hr0 hr1 hc1 htl ⊢
            have m1 : (0 : Int) < (m : Int) := by omega
            obtain ⟨fe, hfe⟩ : ∃ fe, freeE s x9 = fe := ⟨_, rfl⟩
            have Hm := hid hm
            have Hr := hid hr
            clear hx9 hc2 hm hr
            go_wp2_with fail
            refine (sfree' (TWx.out.l.still S1.out) x9 hxi TWx.out.i).mono ?_
            rintro e w3 ⟨he, l3, f3⟩
            rw [hfe] at he
            subst he
            have L3 := hid l3
            have F3 := hid f3
            clear l3 f3
            have ap := AP.out
            go_wp2_with fail
            refine (rfree (((TWx.out.r.still S1.out).fr F3.out (fun h => ap.np (.inl h)) (fun h => ap.nA (.inl h)) (fun h => ap.nT (.inl h)))) x9 hxi).mono ?_
            rintro e w5 ⟨he, r4, f4⟩
            rw [hfe] at he
            subst he
            have T5 := hid (TWx.out.free ap L3.out r4 f4)
            have S5 := hid (((Sx.out.trans S1.out).next F3.out (fun k hk => ap.lo k (.inl hk))).next f4 (fun k hk => by subst hk; exact ap.T0))
            have G5 : Fr (fun k => k = B.P ∨ k = T) wr w5 := ((S1.out.fr _).trans (F3.out.mono fun k _ h => .inl h)).trans (f4.mono fun k _ h => .inr h)
            have Z5 : Hid (w2.heap.size ≤ w5.heap.size) := hid (by have := G5.size; omega)
            have O5 : Hid (w5.ownsRow w2.heap.size 3 1 (.slice (some ⟨b2, 0, none⟩) tl.length q2) tl.length (ints tl)) := hid (owns_fr Ox.out G5 fun k h1 _ h => by
              rcases h with rfl | rfl
              · have := TW.out.l.lt (.inl rfl); omega
              · have := TW.out.r.hT.lt; omega)
            clear r4 f4 G5
            obtain ⟨lb, hlb⟩ : ∃ lb, liveB (freeS s x9) x9 = lb := ⟨_, rfl⟩
            obtain ⟨lm, hlm⟩ : ∃ lm, (idsS (freeS s x9)).length = lm := ⟨_, rfl⟩
            go_wp2_with fail
            refine (slive _ B _ T5.out.l x9 hxi).mono ?_
            rintro e w6 ⟨he, s6⟩
            have T6 := hid (T5.out.still s6)
            have S6 := hid (S5.out.trans s6)
            have Z6 : Hid (w2.heap.size ≤ w6.heap.size) := hid (Nat.le_trans Z5.out s6.size)
            have O6 := hid (owns_fr O5.out (s6.fr (fun _ => False)) fun _ _ _ h => h.elim)
            rw [hlb] at he
            subst he
            clear s6
            go_wp2_with fail
            refine (rlive T6.out.r x9 hxi).mono ?_
            rintro e w7 ⟨he, s7⟩
            have T7 := hid (T6.out.still s7)
            have S7 := hid (S6.out.trans s7)
            have Z7 : Hid (w2.heap.size ≤ w7.heap.size) := hid (Nat.le_trans Z6.out s7.size)
            have O7 := hid (owns_fr O6.out (s7.fr (fun _ => False)) fun _ _ _ h => h.elim)
            rw [hlb] at he
            subst he
            clear s7
            go_wp2_with fail
            refine (slen _ B _ T7.out.l).mono ?_
            rintro e w8 ⟨he, rfl⟩
            rw [← idsS_n T7.out.i T7.out.j, hlm] at he
            subst he
            go_wp2_with fail
            refine (rall T7.out.r T7.out.i T7.out.j).mono ?_
            rintro e w9 ⟨v, rfl, hO, s9⟩
            have T9 := hid (T7.out.still s9)
            have S9 := hid (S7.out.trans s9)
            have O9 := hid (owns_fr O7.out (s9.fr (fun _ => False)) fun _ _ _ h => h.elim)
            have Z9 : Hid (w2.heap.size ≤ w9.heap.size) := hid (Nat.le_trans Z7.out s9.size)
            rw [hlm] at hO
            obtain ⟨c3, c4, rfl⟩ := own_shape hO _ rfl
            clear hO s9
            go_wp2_with fail
            go_roundw
            case rel => exact ⟨j + 1, _, tl, by go_num, by omega, T9.out, S9.out, by have h := O9.out; rw [Hm.out] at h ⊢; exact h, by have := Hm.out; omega, IN.out, Z9.out⟩
            case measure => simp [intOf]; omega
        · have e1 : (k == 1) = false := by simp [hk1]
          clear hk1
          obtain ⟨fe, hfe⟩ : ∃ fe, freeE s z = fe := ⟨_, rfl⟩
          obtain ⟨q1, q2, hs9⟩ := own_shape Ox.out _ rfl
          subst hs9
          go_wp2_with fail
          refine (sfree' (TWx.out.l.still S1.out) z hzi TWx.out.i).mono ?_
          rintro e w3 ⟨he, l3, f3⟩
          rw [hfe] at he
          subst he
          have L3 := hid l3
          have F3 := hid f3
          clear l3 f3
          have ap := AP.out
          go_wp2_with fail
          refine (rfree (((TWx.out.r.still S1.out).fr F3.out (fun h => ap.np (.inl h)) (fun h => ap.nA (.inl h)) (fun h => ap.nT (.inl h)))) z hzi).mono ?_
          rintro e w5 ⟨he, r4, f4⟩
          rw [hfe] at he
          subst he
          have T5 := hid (TWx.out.free ap L3.out r4 f4)
          have S5 := hid (((Sx.out.trans S1.out).next F3.out (fun k hk => ap.lo k (.inl hk))).next f4 (fun k hk => by subst hk; exact ap.T0))
          have G5 : Fr (fun k => k = B.P ∨ k = T) wr w5 := ((S1.out.fr _).trans (F3.out.mono fun k _ h => .inl h)).trans (f4.mono fun k _ h => .inr h)
          have Z5 : Hid (w2.heap.size ≤ w5.heap.size) := hid (by have := G5.size; omega)
          have O5 : Hid (w5.ownsRow w2.heap.size 3 1 (.slice q1 tl.length q2) tl.length (ints tl)) := hid (owns_fr Ox.out G5 fun k h1 _ h => by
            rcases h with rfl | rfl
            · have := TW.out.l.lt (.inl rfl); omega
            · have := TW.out.r.hT.lt; omega)
          clear r4 f4 G5
          obtain ⟨lb, hlb⟩ : ∃ lb, liveB (freeS s z) z = lb := ⟨_, rfl⟩
          obtain ⟨lm, hlm⟩ : ∃ lm, (idsS (freeS s z)).length = lm := ⟨_, rfl⟩
          go_wp2_with fail
          refine (slive _ B _ T5.out.l z hzi).mono ?_
          rintro e w6 ⟨he, s6⟩
          have T6 := hid (T5.out.still s6)
          have S6 := hid (S5.out.trans s6)
          have Z6 : Hid (w2.heap.size ≤ w6.heap.size) := hid (Nat.le_trans Z5.out s6.size)
          have O6 := hid (owns_fr O5.out (s6.fr (fun _ => False)) fun _ _ _ h => h.elim)
          rw [hlb] at he
          subst he
          clear s6
          go_wp2_with fail
          refine (rlive T6.out.r z hzi).mono ?_
          rintro e w7 ⟨he, s7⟩
          have T7 := hid (T6.out.still s7)
          have S7 := hid (S6.out.trans s7)
          have Z7 : Hid (w2.heap.size ≤ w7.heap.size) := hid (Nat.le_trans Z6.out s7.size)
          have O7 := hid (owns_fr O6.out (s7.fr (fun _ => False)) fun _ _ _ h => h.elim)
          rw [hlb] at he
          subst he
          clear s7
          go_wp2_with fail
          refine (slen _ B _ T7.out.l).mono ?_
          rintro e w8 ⟨he, rfl⟩
          rw [← idsS_n T7.out.i T7.out.j, hlm] at he
          subst he
          go_wp2_with fail
          refine (rall T7.out.r T7.out.i T7.out.j).mono ?_
          rintro e w9 ⟨v, rfl, hO, s9⟩
          have T9 := hid (T7.out.still s9)
          have S9 := hid (S7.out.trans s9)
          have O9 := hid (owns_fr O7.out (s9.fr (fun _ => False)) fun _ _ _ h => h.elim)
          have Z9 : Hid (w2.heap.size ≤ w9.heap.size) := hid (Nat.le_trans Z7.out s9.size)
          rw [hlm] at hO
          obtain ⟨c3, c4, rfl⟩ := own_shape hO _ rfl
          clear hO s9
          go_wp2_with fail
          go_roundw
          case rel => exact ⟨j + 1, _, tl, by go_num, by omega, T9.out, S9.out, O9.out, by omega, IN.out, Z9.out⟩
          case measure => simp [intOf]; omega
    · have hlt' : ¬ (j : Int) < (n : Int) := by omega
      clear hTW hst hO hin
      have T5 := TWx
      have S5 := Sx
      go_wp2_with fail
      refine (sall wr B s T5.out.l).mono ?_
      rintro e w6 ⟨v, rfl, hO, s6⟩
      have T6 := hid (T5.out.still s6)
      have S6 := hid (S5.out.trans s6)
      have R6 := hid (IRow.own hO rfl)
      obtain ⟨q1, q2, rfl⟩ := own_shape hO _ rfl
      clear hO s6
      go_wp2_with fail
      refine (rall T6.out.r T6.out.i T6.out.j).mono ?_
      rintro e w7 ⟨v, rfl, hO, s7⟩
      have T7 := hid (T6.out.still s7)
      have S7 := hid (S6.out.trans s7)
      have R7 := hid (IRow.own hO rfl)
      have Q7 := hid (R6.out.still s7)
      obtain ⟨q3, q4, rfl⟩ := own_shape hO _ rfl
      clear hO s7
      go_wp2_with fail
      refine (ints_ok w7 _ _ (idsS s) (idsS s) Q7.out R7.out (by have := idsS_len s; have := T7.out.i.T1; omega)).mono ?_
      rintro e w8 ⟨he, s8⟩
      rw [decide_eq_true rfl] at he
      subst he
      have T8 := hid (T7.out.still s8)
      have S8 := hid (S7.out.trans s8)
      clear s8
      obtain ⟨lb, hlb⟩ : ∃ lb, liveB s d = lb := ⟨_, rfl⟩
      obtain ⟨fe, hfe⟩ : ∃ fe, freeE s d = fe := ⟨_, rfl⟩
      have HD := hid hd
      clear hd
      go_wp2_with fail
      refine (slive _ B _ T8.out.l d HD.out).mono ?_
      rintro e w9 ⟨he, s9⟩
      have T9 := hid (T8.out.still s9)
      have S9 := hid (S8.out.trans s9)
      rw [hlb] at he
      subst he
      clear s9
      go_wp2_with fail
      refine (rlive T9.out.r d HD.out).mono ?_
      rintro e w10 ⟨he, s10⟩
      have T10 := hid (T9.out.still s10)
      have S10 := hid (S9.out.trans s10)
      rw [hlb] at he
      subst he
      clear s10
      go_wp2_with fail
      refine (sfree' T10.out.l d HD.out T10.out.i).mono ?_
      rintro e w11 ⟨he, l3, f3⟩
      rw [hfe] at he
      subst he
      have ap := AP.out
      have S11 := hid (S10.out.next f3 (fun k hk => ap.lo k (.inl hk)))
      have R11 := hid (T10.out.r.fr f3 (fun h => ap.np (.inl h)) (fun h => ap.nA (.inl h)) (fun h => ap.nT (.inl h)))
      clear l3 f3
      go_wp2_with fail
      refine (rfree R11.out d HD.out).mono ?_
      rintro e w12 ⟨he, r4, f4⟩
      rw [hfe] at he
      subst he
      have S12 := hid (S11.out.next f4 (fun k hk => by subst hk; exact ap.T0))
      clear r4 f4
      go_wp2_with fail
      refine (dlives _ (HT.out.still S12.out)).mono ?_
      rintro e w13 ⟨rfl, s13⟩
      have S13 := hid (S12.out.trans s13)
      clear s13
      go_wp2_with fail
      go_ret
      exact ⟨rfl, S13.out⟩
end Go.Proofs.YtffjaaolcphonaaDoor
