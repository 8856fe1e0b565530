/- The document's locks: Cast. -/
import Derived.Test.YtffjaaolcphonaaBdM
import Derived.Deep.LoopGhost
import Derived.Test.YtffjaaolcphonaaBdB
import Derived.Test.YtffjaaolcphonaaBdK
namespace Go.Proofs.Ytffjaaolcphonaa
open Go.RowKit
set_option linter.unusedSimpArgs false
def QB.e (Q : QB) (E : Nat → Prop) : QB := { Q with E := E }
theorem LInv.sig_tail {s : LS} (h : LInv s) {c : Nat} (hc : c < s.n) {x : Nat} {ys : List Nat} (hx : gl s.L (s.n + c) = x :: ys) : gl (sigS s c).L (s.n + c) = ys := by
  obtain ⟨_, _, _, a4⟩ := h.sig_head hc hx
  have hh : sigH s c = x := by unfold sigH; rw [hx]; rfl
  unfold sigS
  rw [if_neg (by rw [hx]; simp), hh, getS_ne (by omega)]
  exact popL_at (by rw [h.ll]; omega) hx
theorem QAt.weak {w : World} {lo : Nat} {Q : QB} {E : Nat → Prop} {s : LS} (h : QAt w lo (Q.e E) s) (hE : ∀ k, Q.E k → E k) : QAt w lo Q s :=
  h.frE (E' := Q.E) (Fr.refl _ _) (fun k hk => .inl (hE k hk)) (fun k hk => h.eX k (hE k hk))
/-- Behind an append to a row in E. -/
theorem QAt.app {w w' : World} {lo : Nat} {Q : QB} {E : Nat → Prop} {s : LS} {base : Nat} {v v' : Value} {ty : TypeId} {n m : Nat} {xs ys : List Value} (h : QAt w lo (Q.e E) s) (o : Obj) (hE : ∀ k, v.ownBlock = some k → E k)
    (hg : (w.alloc o).grownBy w' v.ownBlock) (hat : v'.ownBlock = v.ownBlock ∨ v'.ownBlock = some (w.alloc o).heap.size) (hown : w'.ownsRow base ty 1 v' n ys) (_ : (w.alloc o).ownsRow base ty 1 v m xs) : QAt w' lo (Q.e (fun k => E k ∨ v'.ownBlock = some k)) s := by
  have hz : (w.alloc o).heap.size = w.heap.size + 1 := by simp
  have hf : Fr E w w' := ((Fr.refl E w).alloc o).trans (Fr.of_grownBy hg (fun k e _ => hE k e))
  refine h.frE (E' := fun k => E k ∨ v'.ownBlock = some k) hf (fun k hk => ?_) (fun k hk => ?_)
  · rcases hk with hk | hk
    · exact .inl hk
    · rcases hat with e | e
      · exact .inl (hE k (e ▸ hk))
      · rw [e] at hk; injection hk with hk; exact .inr (by omega)
  · rcases hk with hk | hk
    · exact Nat.lt_of_lt_of_le (h.eX k hk) hf.size
    · rcases hown.2 with ⟨rfl, _⟩ | ⟨g, cap, cur, rfl, _, h3, _⟩
      · simp [Value.ownBlock] at hk
      · obtain rfl : g = k := by simpa [Value.ownBlock] using hk
        exact (Array.getElem?_eq_some_iff.1 h3).1
def QCast (w : World) (lo : Nat) (Q : QB) (s : LS) (c : Int) (e : Ending) (w' : World) : Prop := ∃ a cp, e = .returned (.tuple #[.slice a (castT s c).length cp, .int .i64 (ask1E s c)]) ∧ IRow w' (.slice a (castT s c).length cp) (castT s c) ∧ QAt w' lo Q (castS s c) ∧ Fr Q.X w w'
section
variable {w : World} {lo : Nat} {Q : QB} {s : LS}
set_option maxRecDepth 100000 in
set_option maxHeartbeats 4000000 in
theorem qcast (h : QAt w lo Q s) (hI : LInv s) (c : Int) : Calls Try.prog 127 #[.pointer (some ⟨Q.p, 0, none⟩), .int .i64 c] w (QCast w lo Q s c) := by
  by_cases hc : inR c s.n
  case neg =>
    unfold QCast castT castS; rw [ask1E_no hc, if_neg (by decide), if_neg (by decide)]
    have HC := hid (decide_eq_false hc)
    clear hc
    go_enter Try.func127, Try.ntmps127
    go_wp2_with (go_at_call 145; refine (qobject h _).mono ?_; rw [HC.out]; rintro e w' ⟨rfl, rfl⟩)
    go_ret2
    exact ⟨none, 0, rfl, .inl ⟨rfl, _, _, rfl⟩, h, Fr.refl _ _⟩
  have h0 := ask1E_yes hc
  obtain ⟨c, rfl⟩ := Int.eq_ofNat_of_zero_le hc.1
  have hc' : c < s.n := by have := hc.2; omega
  have hci : (c : Int) < (s.n : Int) := hc.2
  have HT : Hid (castT s c = (castF (castN s c) s c []).1) := by unfold castT; rw [if_pos h0, Int.toNat_natCast]; exact rfl
  have HS : Hid (castS s c = (castF (castN s c) s c []).2) := by unfold castS; rw [if_pos h0, Int.toNat_natCast]; exact rfl
  have hN : Hid (castN s c = (gl s.L (s.n + c)).length) := by unfold castN; rw [Int.toNat_natCast]; exact rfl
  have hNl : castN s c ≤ 1024 := by rw [hN.out]; exact h.sh _ (by omega)
  unfold QCast
  rw [h0, HT.out, HS.out]
  obtain ⟨N, hNN⟩ : ∃ N, castN s c = N := ⟨_, rfl⟩
  rw [hNN] at hNl hN ⊢
  obtain ⟨R, hR⟩ : ∃ R, castF N s c [] = R := ⟨_, rfl⟩
  rw [hR]
  have HR := hid hR
  have hX := h.newX
  have HX := hid hX
  have HC := hid (decide_eq_true hc)
  clear h0 hc hNN HT HS hR hX
  go_enter Try.func127, Try.ntmps127
  go_wp2_with (go_at_call 145; refine (qobject h _).mono ?_; rw [HC.out]; rintro e w' ⟨rfl, rfl⟩)
  go_loopg [6] N (fun k told wr => ∃ (sp : LS) (acc : List Int) (E : Nat → Prop), k = (gl sp.L (sp.n + c)).length ∧ sp.n = s.n ∧ LInv sp ∧ castF k sp c acc = R ∧ acc.length + k ≤ N ∧
      QAt wr lo (Q.e E) sp ∧ (∀ k, Q.E k → E k) ∧ (∀ k, told.ownBlock = some k → E k) ∧ wr.ownsRow w.heap.size 3 1 told acc.length (ints acc) ∧ Fr Q.X w wr)
  case atStart => exact ⟨s, [], Q.E, hN.out, rfl, hI, HR.out, by simp, h, fun _ h => h, fun k hk => by simp [Value.ownBlock] at hk, World.ownsRow_nil _ _ _ _, Fr.refl _ _⟩
  case round =>
    obtain ⟨sp, acc, E, hk, hn, hI, hcf, hal, hL, hEE, hE, hown, hfr⟩ := hrel
    have hcs : c < sp.n := by omega
    obtain ⟨a7, c7, rfl⟩ := own_shape hown acc.length rfl
    have hz := hfr.size
    have F3 : wr.cell? ⟨Q.p, 3, none⟩ = some (.slice (some ⟨Q.S, 0, none⟩) s.n s.n) := by rw [← hn]; exact hL.f3
    obtain ⟨a, cc, CS, _⟩ : ∃ a c', wr.cell? ⟨Q.S, c, none⟩ = some (.slice a (gl sp.L (sp.n + c)).length c') ∧ RowX wr lo (QB.Y (Q.e E)) (.slice a (gl sp.L (sp.n + c)).length c') (zi (gl sp.L (sp.n + c))) := hL.hs.row (i := c) hcs
    have HLL := hid hL
    have HII := hid hI
    cases hg : gl sp.L (sp.n + c) with
    | nil =>
      rw [hg] at hk CS
      subst hk
      simp only [List.length_nil] at CS
      have HCF := hid hcf
      have HH := hid hn
      clear hg hcf hn
      go_wp2_with fail
      go_ret2
      have e1 : R.1 = acc := by rw [← HCF.out]; rfl
      have e2 : R.2 = sp := by rw [← HCF.out]; rfl
      rw [e1, e2]
      exact ⟨a7, c7, rfl, IRow.own hown rfl, HLL.out.weak hEE, hfr⟩
    | cons x ys =>
      have E1 := hI.sig_tail hcs hg
      have E2 := sigS_n sp c
      rw [hg] at hk CS
      have hk' : gk = ys.length + 1 := by simpa using hk
      subst hk'
      simp only [List.length_cons] at CS
      have HE1 : Hid ((gl (sigS sp c).L ((sigS sp c).n + c)).length = ys.length) := hid (by rw [E2, E1])
      have HE2 : Hid ((sigS sp c).n = s.n) := hid (E2.trans hn)
      have hcf' : castF ys.length (sigS sp c) c (acc ++ (if sigT sp c = -1 then [] else [sigT sp c])) = R := hcf
      have Sg := qsignal hL hI (c : Int)
      have hA1 : ask1E sp (c : Int) = 0 := ask1E_yes ⟨by omega, by omega⟩
      have hST : signalT sp (c : Int) = sigT sp c := by unfold signalT; rw [if_pos hA1, Int.toNat_natCast]
      have hSS : signalS sp (c : Int) = sigS sp c := by unfold signalS; rw [if_pos hA1, Int.toNat_natCast]
      rw [hA1, hST, hSS] at Sg
      have hv0 : sigT sp c = -1 ∨ 0 ≤ sigT sp c := by
        unfold sigT; split
        · exact .inl rfl
        · split
          · exact .inr (by omega)
          · exact .inl rfl
      obtain ⟨v, hv⟩ : ∃ v, sigT sp c = v := ⟨_, rfl⟩
      rw [hv] at hcf' Sg hv0
      obtain ⟨m, hm⟩ : ∃ m, acc.length = m := ⟨_, rfl⟩
      rw [hm] at hown hal hE ⊢
      have HM := hid hm
      have HK := hid hk
      have HI2 := hid (hI.sig hcs)
      have HSg := hid Sg
      by_cases hv1 : v = -1
      · subst hv1
        have HCF : Hid (castF ys.length (sigS sp c) c acc = R) := by rw [if_pos rfl, List.append_nil] at hcf'; exact hcf'
        clear hg hcf hcf' E1 E2 hk hv hm hn hA1 hST hSS Sg hI hL hv0
        go_wp2_with fail
        refine HSg.out.mono ?_
        rintro e w3 ⟨rfl, h3, f3⟩
        have hown3 := owns_fr hown f3 (fun k h1 _ h => HX.out k h1 (.inl h))
        go_wp2_with fail
        go_roundg ys.length
        case measure => omega
        case rel => exact ⟨sigS sp c, acc, E, HE1.out.symm, HE2.out, HI2.out, HCF.out, by have := HM.out; omega, h3, hEE, hE, by rw [HM.out]; exact hown3, hfr.trans f3⟩
      · have hv2 : 0 ≤ v := hv0.resolve_left hv1
        have hd : decide (0 ≤ v) = true := decide_eq_true hv2
        have HCF : Hid (castF ys.length (sigS sp c) c (acc ++ [v]) = R) := by rw [if_neg hv1] at hcf'; exact hcf'
        clear hg hcf hcf' E1 E2 hk hv hm hn hv1 hA1 hST hSS Sg hI hL hv0
        go_wp2_with fail
        refine HSg.out.mono ?_
        rintro e w3 ⟨rfl, h3, f3⟩
        have hown3 := owns_fr hown f3 (fun k h1 _ h => HX.out k h1 (.inl h))
        have hfr3 := hfr.trans f3
        have hz3 := hfr3.size
        go_wp2_with (at_builtin; refine wpList_append_irow rfl (.tmp 30) (.tmp 32) rfl w.heap.size m acc [v] (.slice a7 m c7) _ rfl rfl (hown3.alloc _) (one_new _ _ _) (by simp; omega) (by simp; omega) ?_; intro v4 w4 ho4 hg4 hat4)
        go_roundg ys.length
        case measure => omega
        case rel =>
          exact ⟨sigS sp c, acc ++ [v], _, HE1.out.symm, HE2.out, HI2.out, HCF.out, by have := HM.out; rw [List.length_append]; simp; omega, h3.app (.cells #[.int .i64 v] 3) hE hg4 hat4 ho4 (hown3.alloc _), fun k hk => .inl (hEE k hk), fun k hk => .inr hk,
            by rw [List.length_append, HM.out]; exact ho4, hfr3.then (((Fr.refl (fun k => w.heap.size ≤ k) w3).alloc (.cells #[.int .i64 v] 3)).trans (Fr.own_fr (hown3.alloc _) hg4)) (fun i hi h => absurd h (by omega))⟩
end
end Go.Proofs.Ytffjaaolcphonaa
/- The document's locks: Drop. -/
namespace Go.Proofs.Ytffjaaolcphonaa
open Go.RowKit
set_option linter.unusedSimpArgs false
theorem outL_not {l : List Nat} {t : Int} (h : ∀ x ∈ l, (x : Int) ≠ t) : outL l t = l := List.filter_eq_self.2 fun y hy => by simp; exact h y hy
theorem outL_erase {l : List Nat} {t : Nat} (h : l.Nodup) : outL l (t : Int) = l.erase t := by
  rw [h.erase_eq_filter]
  unfold outL
  congr 1
  funext x
  rw [Bool.eq_iff_iff]; simp; omega
theorem gl_ext {L M : List (List Nat)} (hl : L.length = M.length) (h : ∀ i, i < L.length → gl L i = gl M i) : L = M := by
  refine List.ext_getElem hl fun i h1 h2 => ?_
  have := h i h1
  simpa [gl, List.getD, h1, h2] using this
theorem rem_out {T : Nat} {L : List (List Nat)} (hn : Nice L) {t : Nat} (ht : t < T) {i : Nat} (hi : i < L.length) : gl (remL T L (t : Int)) i = outL (gl L i) t := by
  unfold remL remE'
  rw [if_pos (show inR (t : Int) T from ⟨by omega, by omega⟩), Int.toNat_natCast]
  rcases wh_cases L t with h | ⟨j, h⟩
  · rw [h, if_neg (by rw [if_pos rfl]; decide)]
    exact (outL_not fun x hx e => wh_no.1 h i hi (by have e' : x = t := (by omega); subst e'; exact hx)).symm
  · rw [h, if_pos (by rw [if_neg (by omega)]), Int.toNat_natCast, gl_set_any _ _ _ _ hi]
    obtain ⟨hj, hm⟩ := wh_yes h
    split
    · rename_i e; subst e; exact (outL_erase (hn.nd i hi)).symm
    · rename_i e
      exact (outL_not fun x hx ee => e (hn.uq i j x hi hj hx (by have e' : x = t := (by omega); subst e'; exact hm))).symm
theorem outL_len (l : List Nat) (t : Int) : (outL l t).length ≤ l.length := List.length_filter_le _ _
theorem outL_mem {l : List Nat} {t : Int} {x : Nat} (h : x ∈ outL l t) : x ∈ l := (List.mem_filter.1 h).1
def QDrop (w : World) (lo : Nat) (Q : QB) (s : LS) (t : Int) (e : Ending) (w' : World) : Prop := ∃ a cp, e = .returned (.slice a (dropR s t).1.length cp) ∧ IRow w' (.slice a (dropR s t).1.length cp) (dropR s t).1 ∧ QAt w' lo Q (dropR s t).2 ∧ Fr Q.X w w'
section
variable {w : World} {lo : Nat} {Q : QB} {s : LS}
set_option maxRecDepth 100000 in
set_option maxHeartbeats 4000000 in
theorem qdrop (h : QAt w lo Q s) (hI : LInv s) (t : Int) : Calls Try.prog 128 #[.pointer (some ⟨Q.p, 0, none⟩), .int .i64 t] w (QDrop w lo Q s t) := by
  by_cases ht : inR t s.T
  case neg =>
    unfold QDrop dropR
    rw [if_neg ht]
    have HT := hid (decide_eq_false ht)
    clear ht
    go_enter Try.func128, Try.ntmps128
    go_wp2_with (go_at_call 146; refine (qthread h _).mono ?_; rw [HT.out]; rintro e w' ⟨rfl, rfl⟩)
    go_ret
    exact ⟨none, 0, rfl, .inl ⟨rfl, _, _, rfl⟩, h, Fr.refl _ _⟩
  obtain ⟨t, rfl⟩ := Int.eq_ofNat_of_zero_le ht.1
  have htT : t < s.T := by have := ht.2; omega
  have HR : Hid (dropR s t = dropF s.n 0 { s with L := remL s.T s.L t } t []) := by unfold dropR; rw [if_pos ht]; exact rfl
  unfold QDrop
  rw [HR.out]
  obtain ⟨R, hR⟩ : ∃ R, dropF s.n 0 { s with L := remL s.T s.L t } t [] = R := ⟨_, rfl⟩
  rw [hR]
  have HRR := hid hR
  have F1 := h.f1
  have HH := hid h
  have HT := hid (decide_eq_true ht)
  have n1 := h.n1
  clear HR hR ht
  go_enter Try.func128, Try.ntmps128
  go_wp2_with (go_at_call 146; refine (qthread h _).mono ?_; rw [HT.out]; rintro e w' ⟨rfl, rfl⟩)
  go_loopw [18] (fun i wr => ∃ (o : Nat) (L : List (List Nat)), i = .int .i64 o ∧ o ≤ s.n ∧ L.length = 2 * s.n ∧ (∀ i, i < 2 * s.n → gl L i = if i < o ∨ s.n ≤ i ∧ i < s.n + o then outL (gl s.L i) t else gl s.L i) ∧ QAt wr lo Q { s with L := L } ∧ Fr Q.X w wr) (fun i _ => s.n - (intOf i).toNat)
  case atStart => exact ⟨0, s.L, rfl, Nat.zero_le _, HH.out.ll, fun i hi => by rw [if_neg (by omega)], h, Fr.refl _ _⟩
  case round =>
    obtain ⟨o, L, rfl, ho, hLl, hg, hq, hfr⟩ := hrel
    have HG := hid hg
    have HQ := hid hq
    have HLl := hid hLl
    clear hg hLl
    by_cases hlt : o < s.n
    · have hlt' : (o : Int) < (s.n : Int) := by omega
      have F2 : wr.cell? ⟨Q.p, 2, none⟩ = some (.slice (some ⟨Q.W, 0, none⟩) s.n s.n) := hq.f2
      have F3 : wr.cell? ⟨Q.p, 3, none⟩ = some (.slice (some ⟨Q.S, 0, none⟩) s.n s.n) := hq.f3
      obtain ⟨a1, k1, CW, R1⟩ : ∃ a c, wr.cell? ⟨Q.W, o, none⟩ = some (.slice a (gl L o).length c) ∧ RowX wr lo Q.Y (.slice a (gl L o).length c) (zi (gl L o)) := hq.hw.row (i := o) hlt
      obtain ⟨a2, k2, CS, R2⟩ : ∃ a c, wr.cell? ⟨Q.S, o, none⟩ = some (.slice a (gl L (s.n + o)).length c) ∧ RowX wr lo Q.Y (.slice a (gl L (s.n + o)).length c) (zi (gl L (s.n + o))) := hq.hs.row (i := o) hlt
      have Z1 : wr.frozen? ⟨Q.W, o, none⟩ = false := hq.hw.frz o
      have Z2 : wr.frozen? ⟨Q.S, o, none⟩ = false := hq.hs.frz o
      have hWl : Q.W < wr.heap.size := World.block_lt_of_cell? _ _ CW
      have hSl : Q.S < wr.heap.size := World.block_lt_of_cell? _ _ CS
      have s1 : (gl L o).length ≤ 1024 := hq.sh o (show o < 2 * s.n by omega)
      have s2 : (gl L (s.n + o)).length ≤ 1024 := hq.sh (s.n + o) (show s.n + o < 2 * s.n by omega)
      have b1 : Hid (∀ x ∈ outL (gl L o) t, x < s.T) := hid fun x hx => hq.bd o (show o < 2 * s.n by omega) x (outL_mem hx)
      have b2 : Hid (∀ x ∈ outL (gl L (s.n + o)) t, x < s.T) := hid fun x hx => hq.bd (s.n + o) (show s.n + o < 2 * s.n by omega) x (outL_mem hx)
      have hX := hid hq.newX
      have hlo : lo ≤ wr.heap.size := by have := hq.lp; have := hq.hp.lt; omega
      have hpW : Q.p ≠ Q.W := fun e => hq.pX (.inr (.inl e))
      have hpS : Q.p ≠ Q.S := fun e => hq.pX (.inr (.inr (.inl e)))
      have hWS : Q.W ≠ Q.S := hq.WS
      have hSW : Q.S ≠ Q.W := hq.WS.symm
      obtain ⟨l1, e1⟩ : ∃ l, gl L o = l := ⟨_, rfl⟩
      obtain ⟨l2, e2⟩ : ∃ l, gl L (s.n + o) = l := ⟨_, rfl⟩
      rw [e1] at CW R1 s1 b1
      rw [e2] at CS R2 s2 b2
      have HE1 := hid e1
      have HE2 := hid e2
      have HR1 := hid R1
      have HR2 := hid R2
      clear e1 e2 R1 R2 hq
      go_wp2_with fail
      refine Held.wp_region_held_tail (S := (fun w' => w'.cell? ⟨Q.p, 2, none⟩ = some (.slice (some ⟨Q.W, 0, none⟩) s.n s.n) ∧ w'.cell? ⟨Q.p, 3, none⟩ = some (.slice (some ⟨Q.S, 0, none⟩) s.n s.n) ∧ w'.cell? ⟨Q.S, o, none⟩ = some (.slice a2 l2.length k2))) 30 (by kernel_rfl) (by kernel_rfl) (by decide) ?hS1 (fun hHeld => ?hR1)
      case hS1 =>
        exact ⟨F2, F3, CS⟩
      simp only [List.take_succ_cons, List.take_zero, List.drop_succ_cons, List.drop_zero]
      refine wpAnyH_take (i := 0) (oi := _) (v := ?v2) rfl (by kernel_rfl) (by kernel_rfl) (by kernel_rfl) (fun _ _ _ h => h) (Or.inl ⟨by rfl, ?y2⟩) (by assumption) ?r2
      case y2 => ((intro w hSw); (try dsimp only at hSw); go_simp; (try with_reducible rfl))
      (try simp only [Act.put, List.setIfInBounds_toArray, List.set_cons_zero, List.set_cons_succ])
      refine wpAnyH_take (i := 1) (oi := _) (v := ?v3) rfl (by kernel_rfl) (by kernel_rfl) (by kernel_rfl) (fun _ _ _ h => h) (Or.inl ⟨by rfl, ?y3⟩) (by assumption) ?r3
      case y3 => ((intro w hSw); (try dsimp only at hSw); go_simp; (try with_reducible rfl))
      (try simp only [Act.put, List.setIfInBounds_toArray, List.set_cons_zero, List.set_cons_succ])
      refine wpAnyH_take (i := 2) (oi := _) (v := ?v4) rfl (by kernel_rfl) (by kernel_rfl) (by kernel_rfl) (fun _ _ _ h => h) (Or.inl ⟨by rfl, ?y4⟩) (by assumption) ?r4
      case y4 => ((intro w hSw); (try dsimp only at hSw); go_simp; (try with_reducible rfl))
      (try simp only [Act.put, List.setIfInBounds_toArray, List.set_cons_zero, List.set_cons_succ])
      refine wpAnyH_take (i := 3) (oi := _) (v := ?v5) rfl (by kernel_rfl) (by kernel_rfl) (by kernel_rfl) (fun _ _ _ h => h) (Or.inl ⟨by rfl, ?y5⟩) (by assumption) ?r5
      case y5 => ((intro w hSw); (try dsimp only at hSw); go_simp; (try with_reducible rfl))
      (try simp only [Act.put, List.setIfInBounds_toArray, List.set_cons_zero, List.set_cons_succ])
      refine wpAnyH_take (i := 4) (oi := _) (v := ?v6) rfl (by kernel_rfl) (by kernel_rfl) (by kernel_rfl) (fun _ _ _ h => h) (Or.inl ⟨by rfl, ?y6⟩) (by assumption) ?r6
      case y6 => ((intro w hSw); (try dsimp only at hSw); go_simp; (try with_reducible rfl))
      (try simp only [Act.put, List.setIfInBounds_toArray, List.set_cons_zero, List.set_cons_succ])
      refine wpAnyH_take (i := 5) (oi := _) (v := ?v7) rfl (by kernel_rfl) (by kernel_rfl) (by kernel_rfl) (fun _ _ _ h => h) (Or.inl ⟨by rfl, ?y7⟩) (by assumption) ?r7
      case y7 => ((intro w hSw); (try dsimp only at hSw); go_simp; (try with_reducible rfl))
      (try simp only [Act.put, List.setIfInBounds_toArray, List.set_cons_zero, List.set_cons_succ])
      refine wpAnyH_take (i := 6) (oi := _) (v := ?v8) rfl (by kernel_rfl) (by kernel_rfl) (by kernel_rfl) (fun _ _ _ h => h) (Or.inl ⟨by rfl, ?y8⟩) (by assumption) ?r8
      case y8 => ((intro w hSw); (try dsimp only at hSw); go_simp; (try with_reducible rfl))
      (try simp only [Act.put, List.setIfInBounds_toArray, List.set_cons_zero, List.set_cons_succ])
      refine wpAnyH_take (i := 7) (oi := _) (v := ?v9) rfl (by kernel_rfl) (by kernel_rfl) (by kernel_rfl) (fun _ _ _ h => h) (Or.inl ⟨by rfl, ?y9⟩) (by assumption) ?r9
      case y9 => ((intro w hSw); (try dsimp only at hSw); go_simp; (try with_reducible rfl))
      (try simp only [Act.put, List.setIfInBounds_toArray, List.set_cons_zero, List.set_cons_succ])
      refine wpAnyH_take (i := 8) (oi := _) (v := ?v10) rfl (by kernel_rfl) (by kernel_rfl) (by kernel_rfl) (fun _ _ _ h => h) (Or.inl ⟨by rfl, ?y10⟩) (by assumption) ?r10
      case y10 => ((intro w hSw); (try dsimp only at hSw); go_simp; (try with_reducible rfl))
      (try simp only [Act.put, List.setIfInBounds_toArray, List.set_cons_zero, List.set_cons_succ])
      refine wpAnyH_take (i := 9) (oi := _) (v := ?v11) rfl (by kernel_rfl) (by kernel_rfl) (by kernel_rfl) (fun _ _ _ h => h) (Or.inl ⟨by rfl, ?y11⟩) (by assumption) ?r11
      case y11 => ((intro w hSw); (try dsimp only at hSw); go_simp; (try with_reducible rfl))
      (try simp only [Act.put, List.setIfInBounds_toArray, List.set_cons_zero, List.set_cons_succ])
      refine wpAnyH_take (i := 10) (oi := _) (v := ?v12) rfl (by kernel_rfl) (by kernel_rfl) (by kernel_rfl) (fun _ _ _ h => h) (Or.inl ⟨by rfl, ?y12⟩) (by assumption) ?r12
      case y12 => ((intro w hSw); (try dsimp only at hSw); go_simp; (try with_reducible rfl))
      (try simp only [Act.put, List.setIfInBounds_toArray, List.set_cons_zero, List.set_cons_succ])
      refine wpAnyH_take (i := 11) (oi := _) (v := ?v13) rfl (by kernel_rfl) (by kernel_rfl) (by kernel_rfl) (fun _ _ _ h => h) (Or.inl ⟨by rfl, ?y13⟩) (by assumption) ?r13
      case y13 => ((intro w hSw); (try dsimp only at hSw); go_simp; (try with_reducible rfl))
      (try simp only [Act.put, List.setIfInBounds_toArray, List.set_cons_zero, List.set_cons_succ])
      refine wpAnyH_take (i := 12) (oi := _) (v := ?v14) rfl (by kernel_rfl) (by kernel_rfl) (by kernel_rfl) (fun _ _ _ h => h) (Or.inl ⟨by rfl, ?y14⟩) (by assumption) ?r14
      case y14 => ((intro w hSw); (try dsimp only at hSw); go_simp; (try with_reducible rfl))
      (try simp only [Act.put, List.setIfInBounds_toArray, List.set_cons_zero, List.set_cons_succ])
      refine wpAnyH_take (i := 13) (oi := _) (v := ?v15) rfl (by kernel_rfl) (by kernel_rfl) (by kernel_rfl) (fun _ _ _ h => h) (Or.inl ⟨by rfl, ?y15⟩) (by assumption) ?r15
      case y15 => ((intro w hSw); (try dsimp only at hSw); go_simp; (try with_reducible rfl))
      (try simp only [Act.put, List.setIfInBounds_toArray, List.set_cons_zero, List.set_cons_succ])
      refine wpAnyH_take (i := 14) (oi := _) (v := ?v16) rfl (by kernel_rfl) (by kernel_rfl) (by kernel_rfl) (fun _ _ _ h => h) (Or.inl ⟨by rfl, ?y16⟩) (by assumption) ?r16
      case y16 => ((intro w hSw); (try dsimp only at hSw); go_simp; (try with_reducible rfl))
      (try simp only [Act.put, List.setIfInBounds_toArray, List.set_cons_zero, List.set_cons_succ])
      refine wpAnyH_take (i := 15) (oi := _) (v := ?v17) rfl (by kernel_rfl) (by kernel_rfl) (by kernel_rfl) (fun _ _ _ h => h) (Or.inl ⟨by rfl, ?y17⟩) (by assumption) ?r17
      case y17 => ((intro w hSw); (try dsimp only at hSw); go_simp; (try with_reducible rfl))
      (try simp only [Act.put, List.setIfInBounds_toArray, List.set_cons_zero, List.set_cons_succ])
      refine wpAnyH_take (i := 17) (oi := _) (v := ?v18) rfl (by kernel_rfl) (by kernel_rfl) (by kernel_rfl) (fun _ _ _ h => h) (Or.inl ⟨by rfl, ?y18⟩) (by assumption) ?r18
      case y18 => ((intro w hSw); (try dsimp only at hSw); go_simp; (try with_reducible rfl))
      (try simp only [Act.put, List.setIfInBounds_toArray, List.set_cons_zero, List.set_cons_succ])
      refine wpAnyH_take (i := 19) (oi := _) (v := ?v19) rfl (by kernel_rfl) (by kernel_rfl) (by kernel_rfl) (fun _ _ _ h => h) (Or.inl ⟨by rfl, ?y19⟩) (by assumption) ?r19
      case y19 => ((intro w hSw); (try dsimp only at hSw); go_simp; (try with_reducible rfl))
      (try simp only [Act.put, List.setIfInBounds_toArray, List.set_cons_zero, List.set_cons_succ])
      refine wpAnyH_take (i := 20) (oi := _) (v := ?v20) rfl (by kernel_rfl) (by kernel_rfl) (by kernel_rfl) (fun _ _ _ h => h) (Or.inl ⟨by rfl, ?y20⟩) (by assumption) ?r20
      case y20 => ((intro w hSw); (try dsimp only at hSw); go_simp; (try with_reducible rfl))
      (try simp only [Act.put, List.setIfInBounds_toArray, List.set_cons_zero, List.set_cons_succ])
      refine wpAnyH_take (i := 21) (oi := _) (v := ?v21) rfl (by kernel_rfl) (by kernel_rfl) (by kernel_rfl) (fun _ _ _ h => h) (Or.inl ⟨by rfl, ?y21⟩) (by assumption) ?r21
      case y21 => ((intro w hSw); (try dsimp only at hSw); go_simp; (try with_reducible rfl))
      (try simp only [Act.put, List.setIfInBounds_toArray, List.set_cons_zero, List.set_cons_succ])
      refine wpAnyH_take (i := 22) (oi := _) (v := ?v22) rfl (by kernel_rfl) (by kernel_rfl) (by kernel_rfl) (fun _ _ _ h => h) (Or.inl ⟨by rfl, ?y22⟩) (by assumption) ?r22
      case y22 => ((intro w hSw); (try dsimp only at hSw); go_simp; (try with_reducible rfl))
      (try simp only [Act.put, List.setIfInBounds_toArray, List.set_cons_zero, List.set_cons_succ])
      refine wpAnyH_take (i := 23) (oi := _) (v := ?v23) rfl (by kernel_rfl) (by kernel_rfl) (by kernel_rfl) (fun _ _ _ h => h) (Or.inl ⟨by rfl, ?y23⟩) (by assumption) ?r23
      case y23 => ((intro w hSw); (try dsimp only at hSw); go_simp; (try with_reducible rfl))
      (try simp only [Act.put, List.setIfInBounds_toArray, List.set_cons_zero, List.set_cons_succ])
      refine wpAnyH_take (i := 24) (oi := _) (v := ?v24) rfl (by kernel_rfl) (by kernel_rfl) (by kernel_rfl) (fun _ _ _ h => h) (Or.inl ⟨by rfl, ?y24⟩) (by assumption) ?r24
      case y24 => ((intro w hSw); (try dsimp only at hSw); go_simp; (try with_reducible rfl))
      (try simp only [Act.put, List.setIfInBounds_toArray, List.set_cons_zero, List.set_cons_succ])
      refine wpAnyH_take (i := 25) (oi := _) (v := ?v25) rfl (by kernel_rfl) (by kernel_rfl) (by kernel_rfl) (fun _ _ _ h => h) (Or.inl ⟨by rfl, ?y25⟩) (by assumption) ?r25
      case y25 => ((intro w hSw); (try dsimp only at hSw); go_simp; (try with_reducible rfl))
      (try simp only [Act.put, List.setIfInBounds_toArray, List.set_cons_zero, List.set_cons_succ])
      refine wpAnyH_take (i := 26) (oi := _) (v := ?v26) rfl (by kernel_rfl) (by kernel_rfl) (by kernel_rfl) (fun _ _ _ h => h) (Or.inl ⟨by rfl, ?y26⟩) (by assumption) ?r26
      case y26 => ((intro w hSw); (try dsimp only at hSw); go_simp; (try with_reducible rfl))
      (try simp only [Act.put, List.setIfInBounds_toArray, List.set_cons_zero, List.set_cons_succ])
      refine wpAnyH_ready (rs := [16]) (by kernel_rfl) (by simp) ?_
      refine AllReadyH.cons rfl (fun K hK => ?st27) AllReadyH.nil
      go_simp
      refine hK.out _ _ ?k27 (fun hHeld27 => ?_)
      case k27 =>
        go_keep
      clear hK K
      (try simp only [Act.put, List.setIfInBounds_toArray, List.set_cons_zero, List.set_cons_succ])
      refine wpAnyH_ready (rs := [18]) (by kernel_rfl) (by simp) ?_
      refine AllReadyH.cons rfl (fun K hK => ?st28) AllReadyH.nil
      go_simp
      go_at_call 149
      refine (qout _ _ l1 t (HR1.out.1.still ((Fr.refl _ wr).drew)) (by omega)).mono ?_
      rintro e w5 ⟨a5, c5, rfl, ho5, hs5'⟩
      have hs5 : Still wr w5 := ((Fr.refl _ wr).drew).trans hs5'
      refine hK.out _ _ ?k28 (fun hHeld28 => ?_)
      case k28 =>
        exact ⟨Still.cell hs5 F2, Still.cell hs5 F3, Still.cell hs5 CS⟩
      clear hK K
      (try simp only [Act.put, List.setIfInBounds_toArray, List.set_cons_zero, List.set_cons_succ])
      refine wpAnyH_ready (rs := [27]) (by kernel_rfl) (by simp) ?_
      refine AllReadyH.cons rfl (fun K hK => ?st29) AllReadyH.nil
      go_simp
      go_at_call 149
      refine (qout _ _ l2 t (HR2.out.1.still hs5) (by omega)).mono ?_
      rintro e w6 ⟨a6, c6, rfl, ho6, hs6'⟩
      have hs6 : Still wr w6 := hs5.trans hs6'
      have CW6 := Still.cell hs6 CW
      have CS6 := Still.cell hs6 CS
      have ZW6 := Still.frz hs6 hWl Z1
      have ZS6 := Still.frz hs6 hSl Z2
      have F26 := Still.cell hs6 F2
      have F36 := Still.cell hs6 F3
      refine hK.out _ _ ?k29 (fun hHeld29 => ?_)
      case k29 =>
        exact ⟨F26, F36, CS6⟩
      clear hK K
      (try simp only [Act.put, List.setIfInBounds_toArray, List.set_cons_zero, List.set_cons_succ])
      refine wpAnyH_take (i := 28) (oi := _) (v := ?v30) rfl (by kernel_rfl) (by kernel_rfl) (by kernel_rfl) (fun _ _ _ h => h) (Or.inl ⟨by rfl, ?y30⟩) (by assumption) ?r30
      case y30 => ((intro w hSw); (try dsimp only at hSw); go_simp; (try with_reducible rfl))
      (try simp only [Act.put, List.setIfInBounds_toArray, List.set_cons_zero, List.set_cons_succ])
      refine wpAnyH_ready (rs := [29]) (by kernel_rfl) (by simp) ?_
      refine AllReadyH.cons rfl (fun K hK => ?st31) AllReadyH.nil
      go_simp
      refine hK.out _ _ ?k31 (fun hHeld31 => ?_)
      case k31 =>
        exact ⟨put_far F26 hpW, put_far F36 hpW, put_far CS6 hSW⟩
      clear hK K
      (try simp only [Act.put, List.setIfInBounds_toArray, List.set_cons_zero, List.set_cons_succ])
      refine wpAnyH_done (by kernel_rfl) (Held.tailQ_normal ?_) _
      have hq6 := HQ.out.still hs6
      have ho5' := owns_fr ho5 hs6' (fun _ _ _ h => h)
      have hq7 := hq6.putW hlt (RowX.own ho5' (by simp [zi_len]) hX.out hlo) b1.out (Nat.le_trans (outL_len _ _) s1)
      have fw : Fr Q.X w (w6.setCell ⟨Q.W, o, none⟩ (.slice a5 (outL l1 t).length c5)) := Fr.putX (hfr.trans (hs6.fr _)) (.inr (.inl rfl)) o _
      have hz5 : wr.heap.size ≤ w5.heap.size := hs5.size
      have ho6' : (w6.setCell ⟨Q.W, o, none⟩ (.slice a5 (outL l1 t).length c5)).ownsRow w5.heap.size 3 1 (.slice a6 (outL l2 t).length c6) (outL l2 t).length (ints (zi (outL l2 t))) :=
        owns_fr ho6 (Fr.putX (Fr.refl (fun k => k = Q.W) _) rfl o _) (fun k h1 _ e => by subst e; omega)
      have hq8 := hq7.putS (show o < s.n from hlt) (RowX.own ho6' (by simp [zi_len]) (fun k hk => hX.out k (by omega)) (by omega)) b2.out (Nat.le_trans (outL_len _ _) s2)
      have fs : Fr Q.X w ((w6.setCell ⟨Q.W, o, none⟩ (.slice a5 (outL l1 t).length c5)).setCell ⟨Q.S, o, none⟩ (.slice a6 (outL l2 t).length c6)) := Fr.putX fw (.inr (.inr (.inl rfl))) o _
      have HQ8 := hid hq8
      have HFS := hid fs
      clear hq6 hq7 hq8 fw fs ho5 ho5' ho6 ho6' hs6 hs6' hs5 hs5' CW CS F2 F3 Z1 Z2
      go_wp2
      go_roundw
      case rel =>
        refine ⟨o + 1, _, by go_num, by omega, ?_, fun i hi => ?_, HQ8.out, HFS.out⟩
        · simp [HLl.out]
        · show gl ((L.set o (outL l1 t)).set (s.n + o) (outL l2 t)) i = _
          rw [gl_set_any _ _ _ _ (by simp [HLl.out]; omega), gl_set_any _ _ _ _ (by rw [HLl.out]; omega), HG.out i hi]
          have g1 := HG.out o (by omega)
          have g2 := HG.out (s.n + o) (by omega)
          rw [HE1.out, if_neg (by omega)] at g1
          rw [HE2.out, if_neg (by omega)] at g2
          by_cases c1 : i = s.n + o
          · subst c1; rw [if_pos rfl, if_pos (by omega), g2]
          · rw [if_neg c1]
            by_cases c2 : i = o
            · subst c2; rw [if_pos rfl, if_pos (by omega), g1]
            · rw [if_neg c2]
              by_cases c3 : i < o ∨ s.n ≤ i ∧ i < s.n + o
              · rw [if_pos c3, if_pos (by omega)]
              · rw [if_neg c3, if_neg (by omega)]
      case measure => simp [intOf]; omega
    · have hlt' : ¬ (o : Int) < (s.n : Int) := by omega
      have e : L = remL s.T s.L t := gl_ext (by rw [HLl.out, remL_len, HH.out.ll]) (fun i hi => by
        rw [HLl.out] at hi
        rw [HG.out i hi, rem_out hI.nc htT (by rw [HH.out.ll]; exact hi), if_pos (by omega)])
      subst e
      have G1 : wr.cell? ⟨Q.p, 1, none⟩ = some (.slice (some ⟨Q.O, 0, none⟩) s.n Q.kO) := hq.f1
      have hI2 : LInv { s with L := remL s.T s.L t } := hI.sub (remL_len _ _ _) (remL_sub _ _ _)
      have HX := hid HH.out.newX
      have hz0 := hfr.size
      have hq2 := HQ.out
      obtain ⟨wo, rfl⟩ : ∃ wo : World, wo = wr := ⟨_, rfl⟩
      clear HLl HG hlt HQ hq
      go_wp2_with fail
      go_loopw [5, 57] (fun told c wr => ∃ (o : Nat) (sp : LS) (acc : List Int) (E : Nat → Prop), c = .int .i64 o ∧ o ≤ s.n ∧ sp.n = s.n ∧ LInv sp ∧ dropF (s.n - o) o sp t acc = R ∧ acc.length ≤ o ∧ QAt wr lo (Q.e E) sp ∧ (∀ k, Q.E k → E k) ∧ (∀ k, told.ownBlock = some k → E k) ∧ wr.ownsRow w.heap.size 3 1 told acc.length (ints acc) ∧ Fr Q.X w wr) (fun _ c _ => s.n - (intOf c).toNat)
      case atStart => exact ⟨0, { s with L := remL s.T s.L t }, [], Q.E, rfl, Nat.zero_le _, rfl, hI2, HRR.out, Nat.le_refl _, hq2, fun _ h => h, fun k hk => by simp [Value.ownBlock] at hk, World.ownsRow_nil _ _ _ _, hfr⟩
      case round =>
        clear hlt'
        obtain ⟨o, sp, acc, E, rfl, ho, hn, hI, hdf, hal, hL, hEE, hE, hown, hfr⟩ := hrel
        obtain ⟨a5, c5, rfl⟩ := own_shape hown acc.length rfl
        have hz := hfr.size
        obtain ⟨m, hm⟩ : ∃ m, acc.length = m := ⟨_, rfl⟩
        rw [hm] at hown hal hE ⊢
        have HM := hid hm
        have HNN := hid hn
        have HII := hid hI
        have HLL := hid hL
        by_cases hlt : o < s.n
        · have hlt' : (o : Int) < (s.n : Int) := by omega
          have hos : o < sp.n := by omega
          have G1 : wr.cell? ⟨Q.p, 1, none⟩ = some (.slice (some ⟨Q.O, 0, none⟩) s.n Q.kO) := by rw [← hn]; exact hL.f1
          have C : wr.cell? ⟨Q.O, o, none⟩ = some (.int .i64 (sp.ow.getD o 0)) := hL.cO hos
          have hdf' : dropF ((s.n - (o + 1)) + 1) o sp t acc = R := by rw [show s.n - (o + 1) + 1 = s.n - o by omega]; exact hdf
          unfold dropF at hdf'
          obtain ⟨x, hx⟩ : ∃ x, sp.ow.getD o 0 = x := ⟨_, rfl⟩
          rw [hx] at C hdf'
          by_cases hxt : x = t
          · have hd : (x == (t : Int)) = true := by simp [hxt]
            rw [if_pos hxt] at hdf'
            have hv0 : passT sp o = -1 ∨ 0 ≤ passT sp o := by
              rcases passT_cases sp o with ⟨_, e⟩ | ⟨y, ys, _, e⟩
              · exact .inl e
              · exact .inr (by omega)
            obtain ⟨v, hv⟩ : ∃ v, passT sp o = v := ⟨_, rfl⟩
            have LP := qpass hL hI.nc o hos
            have HIP := hid (hI.pass hos)
            rw [hv] at LP hdf' hv0
            have HLP := hid LP
            have HN2 : Hid ((passS sp o).n = s.n) := hid hn
            by_cases hv1 : v = -1
            · subst hv1
              have HDF : Hid (dropF (s.n - (o + 1)) (o + 1) (passS sp o) t acc = R) := by rw [if_pos rfl, List.append_nil] at hdf'; exact hdf'
              clear hdf hdf' hx hxt hv LP hm hn hI hL hv0
              go_wp2_with fail
              refine HLP.out.mono ?_
              rintro e w3 ⟨rfl, h3, f3⟩
              have hown3 := owns_fr hown f3 (fun k h1 _ h => HX.out k h1 (.inl h))
              go_wp2_with fail
              go_roundw
              case rel => exact ⟨o + 1, passS sp o, acc, E, by go_num, by omega, HN2.out, HIP.out, HDF.out, by have := HM.out; omega, h3, hEE, hE, by rw [HM.out]; exact hown3, hfr.trans f3⟩
              case measure => simp [intOf]; omega
            · have hv2 : 0 ≤ v := hv0.resolve_left hv1
              have hd2 : decide (0 ≤ v) = true := decide_eq_true hv2
              have HDF : Hid (dropF (s.n - (o + 1)) (o + 1) (passS sp o) t (acc ++ [v]) = R) := by rw [if_neg hv1] at hdf'; exact hdf'
              clear hdf hdf' hx hxt hv LP hv1 hm hn hI hL hv0
              go_wp2_with fail
              refine HLP.out.mono ?_
              rintro e w3 ⟨rfl, h3, f3⟩
              have hown3 := owns_fr hown f3 (fun k h1 _ h => HX.out k h1 (.inl h))
              have hfr3 := hfr.trans f3
              have hz3 := hfr3.size
              go_wp2_with (at_builtin; refine wpList_append_irow rfl (.tmp 74) (.tmp 76) rfl w.heap.size m acc [v] (.slice a5 m c5) _ rfl rfl (hown3.alloc _) (one_new _ _ _) (by simp; omega) (by simp; omega) ?_; intro v4 w4 ho4 hg4 hat4)
              go_roundw
              case rel =>
                exact ⟨o + 1, passS sp o, acc ++ [v], _, by go_num, by omega, HN2.out, HIP.out, HDF.out, by have := HM.out; rw [List.length_append]; simp; omega, h3.app (.cells #[.int .i64 v] 3) hE hg4 hat4 ho4 (hown3.alloc _), fun k hk => .inl (hEE k hk), fun k hk => .inr hk,
                  by rw [List.length_append, HM.out]; exact ho4, hfr3.then (((Fr.refl (fun k => w.heap.size ≤ k) w3).alloc (.cells #[.int .i64 v] 3)).trans (Fr.own_fr (hown3.alloc _) hg4)) (fun i hi h => absurd h (by omega))⟩
              case measure => simp [intOf]; omega
          · have hd : (x == (t : Int)) = false := by simp [hxt]
            have HDF : Hid (dropF (s.n - (o + 1)) (o + 1) sp t acc = R) := by rw [if_neg hxt] at hdf'; exact hdf'
            clear hdf hdf' hx hxt hm hn hI hL
            go_wp2_with fail
            go_roundw
            case rel => exact ⟨o + 1, sp, acc, E, by go_num, by omega, HNN.out, HII.out, HDF.out, by have := HM.out; omega, HLL.out, hEE, hE, by rw [HM.out]; exact hown, hfr⟩
            case measure => simp [intOf]; omega
        · have hlt' : ¬ (o : Int) < (s.n : Int) := by omega
          have hos : s.n - o = 0 := by omega
          rw [hos] at hdf
          have HDF := hid hdf
          clear hdf hos hm hn
          go_wp2_with fail
          go_ret
          have e1 : R = (acc, sp) := by rw [← HDF.out]; rfl
          rw [e1]
          refine ⟨a5, c5, ?_, ?_, HLL.out.weak hEE, hfr⟩
          · rw [HM.out]; rfl
          · show IRow _ (.slice a5 acc.length c5) acc
            rw [HM.out]; exact IRow.own hown HM.out.symm
end
end Go.Proofs.Ytffjaaolcphonaa
/- The document's locks: New. -/
namespace Go.Proofs.Ytffjaaolcphonaa
open Go.RowKit
set_option linter.unusedSimpArgs false
def owU (k n : Nat) : List Int := List.replicate k (-1) ++ List.replicate (n - k) 0
theorem owU_len (k n : Nat) (h : k ≤ n) : (owU k n).length = n := by simp [owU]; omega
theorem owU_set (k n : Nat) (h : k < n) : (owU k n).set k (-1) = owU (k + 1) n := by
  unfold owU
  rw [List.set_append_right _ _ (by simp), List.length_replicate, Nat.sub_self, show n - k = (n - (k + 1)) + 1 by omega, List.replicate_succ, List.set_cons_zero, List.replicate_succ', List.append_assoc]; rfl
theorem owU_end (n : Nat) : owU n n = List.replicate n (-1) := by simp [owU]
/-- Five new blocks in whatever order. -/
theorem q_of (w W : World) (n T p O V S A : Nat) (n0 : 1 ≤ n) (n1 : n ≤ 64) (T1 : T ≤ 1024)
    (hp : Blk W p [.int .i64 T, .slice (some ⟨O, 0, none⟩) n n, .slice (some ⟨V, 0, none⟩) n n, .slice (some ⟨S, 0, none⟩) n n, .slice (some ⟨A, 0, none⟩) T T] 152)
    (ho : Blk W O (ints (List.replicate n 0)) 3) (hv : Blk W V (nils n) 28) (hs : Blk W S (nils n) 28) (ha : Blk W A (ints (List.replicate T 0)) 3)
    (hW : Still w W) (hd : [p, O, V, S, A].Nodup) (hf : ∀ k ∈ [p, O, V, S, A], w.heap.size ≤ k) :
    ∃ Q : QB, Value.pointer (some ⟨p, 0, none⟩) = .pointer (some ⟨Q.p, 0, none⟩) ∧ QAt W.drew w.heap.size Q { newLS n T with ow := owU 0 n } ∧ Still w W.drew := by
  simp only [List.nodup_cons, List.mem_cons, List.not_mem_nil, or_false, not_or] at hd
  obtain ⟨⟨h1, h2, h3, h4⟩, ⟨h5, h6, h7⟩, ⟨h8, h9⟩, h10, _⟩ := hd
  have hg : ∀ i, gl (List.replicate (2 * n) []) i = [] := gl_rep _
  have hrow : ∀ (X : Nat → Prop) (i : Nat), i < n → RowX W w.heap.size X ((nils n).getD i undef) (zi (gl (List.replicate (2 * n) []) i)) := fun X i hi => by
    rw [hg, show (nils n).getD i undef = .slice none 0 0 by simp [nils, List.getD, hi]]; exact RowX.nil _ _ _ _
  have hrow2 : ∀ (X : Nat → Prop) (i : Nat), i < n → RowX W w.heap.size X ((nils n).getD i undef) (zi (gl (List.replicate (2 * n) []) (n + i))) := fun X i hi => by
    rw [hg, show (nils n).getD i undef = .slice none 0 0 by simp [nils, List.getD, hi]]; exact RowX.nil _ _ _ _
  have e0 : owU 0 n = List.replicate n 0 := by simp [owU]
  refine ⟨⟨p, O, V, S, A, n, T, fun _ => False⟩, rfl, ?_, hW.drew⟩
  have hQ : QAt W w.heap.size ⟨p, O, V, S, A, n, T, fun _ => False⟩ { newLS n T with ow := owU 0 n } :=
    { hp := hp, ho := ⟨[], by rw [List.append_nil]; show Blk W O ((owU 0 n).map _) 3; rw [e0]; exact ho⟩, ha := ⟨[], by rw [List.append_nil]; exact ha⟩
      hw := ⟨nils n, by simp [nils, newLS], hv, fun i hi => hrow _ i hi⟩
      hs := ⟨nils n, by simp [nils, newLS], hs, fun i hi => hrow2 _ i hi⟩
      pX := fun h => by rcases h with h | h | h | h <;> first | exact h1 h | exact h2 h | exact h3 h | exact h4 h
      eX := fun _ h => h.elim
      xE := fun _ _ h => h
      OW := h5, OS := h6, OA := h7, WS := h8, WA := h9, SA := h10
      lp := hf _ (by simp)
      lX := fun k hk => hf k (by rcases hk with rfl | rfl | rfl | rfl <;> simp)
      lo' := owU_len _ _ (Nat.zero_le _)
      la := by simp [newLS]
      ll := by simp [newLS]
      n1 := n1, T1 := T1
      wf := fun t ht => by
        have ht' : t < T := ht
        show inR ((List.replicate T (0 : Int)).getD t 0) n
        rw [show (List.replicate T (0 : Int)).getD t 0 = 0 by simp [List.getD, ht']]
        exact ⟨by omega, by omega⟩
      bd := fun i _ x hx => by rw [show gl (newLS n T).L i = [] from hg i] at hx; simp at hx
      sh := fun i _ => by rw [show gl (newLS n T).L i = [] from hg i]; simp
      nn := fun o ho => by
        have ho' : o < n := ho
        show -1 ≤ (owU 0 n).getD o 0
        rw [e0, show (List.replicate n (0 : Int)).getD o 0 = 0 by simp [List.getD, ho']]; omega }
  exact hQ.still ((Fr.refl _ W).drew)
def QMade (w : World) (n T : Nat) (e : Ending) (w' : World) : Prop := ∃ Q : QB, e = .returned (.pointer (some ⟨Q.p, 0, none⟩)) ∧ QAt w' w.heap.size Q (newLS n T) ∧ Still w w'
set_option maxRecDepth 100000 in
set_option maxHeartbeats 4000000 in
theorem qnew (w : World) (n T : Nat) (n0 : 1 ≤ n) (n1 : n ≤ 64) (T0 : 1 ≤ T) (T1 : T ≤ 1024) : Calls Try.prog 67 #[.int .i64 n, .int .i64 T] w (QMade w n T) := by
  have a1 : ¬ (n : Int) < 1 := by omega
  have a2 : ¬ (64 : Int) < (n : Int) := by omega
  have a3 : ¬ (T : Int) < 1 := by omega
  have a4 : ¬ (1024 : Int) < (T : Int) := by omega
  have hmkn := mk_ints n (by omega)
  have hmkT := mk_ints T (by omega)
  have hmkl := mk_nils n (by omega)
  go_enter Try.func67, Try.ntmps67
  go_upto_region 3 with fail
  go_cut [5] (fun s5 wx => ∃ Q : QB, s5 = .pointer (some ⟨Q.p, 0, none⟩) ∧ QAt wx w.heap.size Q { newLS n T with ow := owU 0 n } ∧ Still w wx)
  case first =>
    go_region
    all_goals
      go_wp2_with fail
      go_meet
      refine q_of w _ n T _ _ _ _ _ n0 n1 T1 (heap_at _ _ _ (by simp)) ?_ ?_ ?_ ?_ ((((((Still.refl w).alloc _).alloc _).alloc _).alloc _).alloc _) (by simp <;> omega) (by simp <;> omega)
      all_goals first
        | (refine heap_at _ _ _ ?_; simp; done)
        | (refine (Below.heap_alloc _ _ _ ?_).trans ?_; (simp <;> omega); first
          | (refine heap_at _ _ _ ?_; simp; done)
          | (refine (Below.heap_alloc _ _ _ ?_).trans ?_; (simp <;> omega); first
            | (refine heap_at _ _ _ ?_; simp; done)
            | (refine (Below.heap_alloc _ _ _ ?_).trans ?_; (simp <;> omega); first
              | (refine heap_at _ _ _ ?_; simp; done)
              | (refine (Below.heap_alloc _ _ _ ?_).trans ?_; (simp <;> omega); refine heap_at _ _ _ ?_; simp; done))))
  case rest =>
    obtain ⟨Q, rfl, hQ, hS⟩ := hcut
    have G1 : wc.cell? ⟨Q.p, 1, none⟩ = some (.slice (some ⟨Q.O, 0, none⟩) n Q.kO) := hQ.f1
    clear hmkn hmkT hmkl
    go_wp2
    go_loopw [37] (fun i wr => ∃ k : Nat, k ≤ n ∧ i = .int .i64 k ∧ QAt wr w.heap.size Q { newLS n T with ow := owU k n } ∧ Still w wr) (fun i _ => n - (intOf i).toNat)
    case atStart => exact ⟨0, Nat.zero_le _, rfl, hQ, hS⟩
    case round =>
      obtain ⟨k, hk, rfl, hR, hfr⟩ := hrel
      by_cases hlt : k < n
      · have hlt' : (k : Int) < (n : Int) := by omega
        have F1 : wr.cell? ⟨Q.p, 1, none⟩ = some (.slice (some ⟨Q.O, 0, none⟩) n Q.kO) := hR.f1
        have C : wr.cell? ⟨Q.O, k, none⟩ = some (.int .i64 ((owU k n).getD k 0)) := hR.cO (i := k) hlt
        have Z : wr.frozen? ⟨Q.O, k, none⟩ = false := IBlk.frozen hR.ho k
        have h2 := hR.setO k (-1) (by omega)
        have hlO := hR.lX Q.O (.inl rfl)
        have f2 : Still w (wr.setCell ⟨Q.O, k, none⟩ (.int .i64 (-1))) := hfr.then ((Fr.refl (fun b => b = Q.O) wr).setCell (p := ⟨Q.O, k, none⟩) (.inl rfl) _) (fun i hi e => by subst e; omega)
        have HQ2 := hid h2
        have HF2 := hid f2
        clear h2 f2 G1
        go_wp2
        go_roundw
        case rel => exact ⟨k + 1, by omega, by go_num, by rw [← owU_set k n hlt]; exact HQ2.out, HF2.out⟩
        case measure => simp [intOf]; omega
      · obtain rfl : n = k := by omega
        rw [owU_end] at hR
        clear G1
        go_wp2
        go_ret
        exact ⟨Q, rfl, hR, hfr⟩
theorem qnew_no (w : World) (o t : Int) (h : o < 1 ∨ 64 < o ∨ t < 1 ∨ 1024 < t) : Calls Try.prog 67 #[.int .i64 o, .int .i64 t] w fun e w' => e = .returned (.pointer none) ∧ w = w' := by
  by_cases h1 : o < 1
  · clear h
    go_enter Try.func67, Try.ntmps67
    go_wp2
    go_ret
    exact ⟨rfl, rfl⟩
  · by_cases h2 : 64 < o
    · clear h
      go_enter Try.func67, Try.ntmps67
      go_wp2
      go_ret
      exact ⟨rfl, rfl⟩
    · by_cases h3 : t < 1
      · clear h
        go_enter Try.func67, Try.ntmps67
        go_wp2
        go_ret
        exact ⟨rfl, rfl⟩
      · have h4 : 1024 < t := by omega
        clear h
        go_enter Try.func67, Try.ntmps67
        go_wp2
        go_ret
        exact ⟨rfl, rfl⟩
end Go.Proofs.Ytffjaaolcphonaa
