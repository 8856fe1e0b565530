/- The locks: Cast. -/
import Derived.Test.YtffjaaolcphonaaLock7
import Derived.Test.YtffjaaolcphonaaLockO
import Derived.Deep.LoopGhost
namespace Go.Proofs.Ytffjaaolcphonaa
open Go.RowKit
def castF : Nat → LS → Nat → List Int → List Int × LS
  | 0, s, _, acc => (acc, s)
  | f + 1, s, c, acc => castF f (sigS s c) c (acc ++ (if sigT s c = -1 then [] else [sigT s c]))
def castN (s : LS) (c : Int) : Nat := (gl s.L (s.n + c.toNat)).length
def castT (s : LS) (c : Int) : List Int := if ask1E s c = 0 then (castF (castN s c) s c.toNat []).1 else []
def castS (s : LS) (c : Int) : LS := if ask1E s c = 0 then (castF (castN s c) s c.toNat []).2 else s
theorem pushL_ne {T : Nat} {L : List (List Nat)} {i t : Int} {j : Nat} (h : i.toNat ≠ j) : gl (pushL T L i t) j = gl L j := by
  unfold pushL; split
  · exact gl_set_ne' _ _ h
  · rfl
theorem getS_ne {s : LS} {o j : Nat} {t : Int} (h : o ≠ j) : gl (getS s o t).L j = gl s.L j := by
  unfold getS; split
  · rfl
  · exact pushL_ne (by simpa using h)
theorem getS_n (s : LS) (o : Nat) (t : Int) : (getS s o t).n = s.n := by unfold getS; split <;> rfl
theorem popL_at {L : List (List Nat)} {i : Nat} (hi : i < L.length) {x : Nat} {ys : List Nat} (h : gl L i = x :: ys) : gl (popL L (i : Int)) i = ys := by
  have hE : popE' L (i : Int) = 0 := by unfold popE'; rw [if_pos ⟨by omega, by omega⟩, Int.toNat_natCast, h]; simp
  unfold popL; rw [if_pos hE, Int.toNat_natCast, gl_set_self' _ _ _ hi, h]; rfl
theorem sig_tail {w : World} {K : KB} {s : LS} (h : LkAt w K s) {c : Nat} (hc : c < s.n) {x : Nat} {ys : List Nat} (hx : gl s.L (s.n + c) = x :: ys) : gl (sigS s c).L (s.n + c) = ys ∧ (sigS s c).n = s.n := by
  have hne : gl s.L (s.n + c) ≠ [] := by rw [hx]; simp
  have hxT : x < s.T := ls_bd' h.hl (i := s.n + c) (by rw [h.ll]; omega) (by rw [hx]; simp)
  have hwf := h.wf x hxT
  have hxs : sigH s c = x := by unfold sigH; rw [hx]; rfl
  unfold sigS
  rw [if_neg hne, hxs]
  refine ⟨?_, getS_n _ _ _⟩
  rw [getS_ne (by have := hwf.2; have := hwf.1; omega)]
  exact popL_at (by rw [h.ll]; omega) hx
def CastPost (w : World) (K : KB) (s : LS) (c : Int) (e : Ending) (w' : World) : Prop := ∃ a cp, e = .returned (.tuple #[.slice a (castT s c).length cp, .int .i64 (ask1E s c)]) ∧ IRow w' (.slice a (castT s c).length cp) (castT s c) ∧ LkAt w' K (castS s c) ∧ Fr K.foot w w' ∧ (0 < (castT s c).length → ∀ b o, a = some ⟨b, o, none⟩ → w.heap.size ≤ b)
theorem own_addr {w : World} {base : Nat} {e : TypeId} {size n c m : Nat} {a : Option Addr} {xs : List Value} (h : w.ownsRow base e size (.slice a m c) n xs) : ∀ b o, a = some ⟨b, o, none⟩ → base ≤ b := by
  rintro b o rfl
  obtain ⟨_, ⟨h1, _⟩ | ⟨g, cap, _, h1, h2, _⟩⟩ := h
  · cases h1
  · injection h1 with h1; injection h1 with h1; injection h1 with h1; omega
section
variable {w : World} {K : KB} {s : LS}
set_option maxRecDepth 100000 in
set_option maxHeartbeats 4000000 in
theorem lkcast (h : LkAt w K s) (c : Int) : Calls Try.prog 66 #[.pointer (some ⟨K.P, 0, none⟩), .int .i64 c] w (CastPost w K s c) := by
  have A1 := ask1 h [c] (by simp) (by simp)
  rw [show (if allR [c] s.n then (0 : Int) else 8) = ask1E s c from rfl] at A1
  by_cases h0 : ask1E s c = 0
  · have hc := ask1E_ok h0
    obtain ⟨c, rfl⟩ := Int.eq_ofNat_of_zero_le hc.1
    have hc' : c < s.n := by have := hc.2; omega
    have HT : Hid (castT s c = (castF (castN s c) s c []).1) := by unfold castT; rw [if_pos h0, Int.toNat_natCast]; exact rfl
    have HS : Hid (castS s c = (castF (castN s c) s c []).2) := by unfold castS; rw [if_pos h0, Int.toNat_natCast]; exact rfl
    have hNl : castN s c ≤ 4096 := by unfold castN; rw [Int.toNat_natCast]; exact ls_short h.hl _ (by rw [h.ll]; omega)
    have hN : Hid (castN s c = (gl s.L (s.n + c)).length) := by unfold castN; rw [Int.toNat_natCast]; exact rfl
    unfold CastPost
    rw [h0] at A1 ⊢
    rw [HT.out, HS.out]
    obtain ⟨N, hNN⟩ : ∃ N, castN s c = N := ⟨_, rfl⟩
    rw [hNN] at hNl hN ⊢
    obtain ⟨R, hR⟩ : ∃ R, castF N s c [] = R := ⟨_, rfl⟩
    rw [hR]
    have HR := hid hR
    have HA := hid A1
    have hKb : ∀ k, K.all k → k < w.heap.size := fun k hk => h.lt hk
    clear h0 hc A1 hNN HT HS hR
    go_enter Try.func66, Try.ntmps66
    go_wp2_with (first
      | (go_at_call 108; refine (are_made _ _ _ ⟨_, rfl⟩ ⟨_, _, _, rfl⟩).mono ?_; rintro e w' ⟨rfl, rfl⟩)
      | (go_at_call 107; refine HA.out.mono ?_; rintro e w1 ⟨rfl, hs1⟩; have h1 := h.still hs1)
      | (go_at_call 122; refine (lksignal h1 c hc').mono ?_; rintro e w2 ⟨rfl, h2, f2⟩))
    go_loopg [7, 8, 9] N (fun k told t sm wr => ∃ (sp : LS) (acc : List Int), k = (gl sp.L (sp.n + c)).length ∧ sp.n = s.n ∧ (∃ w', LkAt w' K sp) ∧ t = .int .i64 (sigT sp c) ∧ sm = .bool (sigB sp c) ∧ castF k sp c acc = R ∧ acc.length + k ≤ N ∧
      LkAt wr K (sigS sp c) ∧ wr.ownsRow w.heap.size 3 1 told acc.length (ints acc) ∧ Fr K.foot w wr)
    case atStart => exact ⟨s, [], hN.out, rfl, ⟨_, h⟩, rfl, rfl, HR.out, by simp, h2, World.ownsRow_nil _ _ _ _, (hs1.fr _).trans f2⟩
    case round =>
      obtain ⟨sp, acc, hk, hn, ⟨w', hsp⟩, rfl, rfl, hcf, hal, hL, hown, hfr⟩ := hrel
      have hcs : c < sp.n := by omega
      obtain ⟨a7, c7, rfl⟩ := own_shape hown acc.length rfl
      have hz := hfr.size
      cases hg : gl sp.L (sp.n + c) with
      | nil =>
        have HB : Hid (sigB sp c = false) := by unfold sigB; rw [hg]; exact rfl
        have HSS : Hid (sigS sp c = sp) := by unfold sigS; rw [hg, if_pos rfl]; exact rfl
        rw [hg] at hk
        subst hk
        have HCF := hid hcf
        clear hg hcf
        rw [HB.out]
        go_wp2_with fail
        go_ret2
        have e1 : R.1 = acc := by rw [← HCF.out]; rfl
        have e2 : R.2 = sp := by rw [← HCF.out]; rfl
        rw [e1, e2]
        rw [HSS.out] at hL
        exact ⟨a7, c7, rfl, IRow.own hown rfl, hL, hfr, fun _ => own_addr hown⟩
      | cons x ys =>
        have HB : Hid (sigB sp c = true) := by unfold sigB; rw [hg]; exact rfl
        obtain ⟨E1, E2⟩ := sig_tail hsp hcs hg
        rw [hg] at hk
        have hk' : gk = ys.length + 1 := by simpa using hk
        subst hk'
        have hcs2 : c < (sigS sp c).n := by rw [E2]; exact hcs
        have HE1 : Hid ((gl (sigS sp c).L ((sigS sp c).n + c)).length = ys.length) := hid (by rw [E2, E1])
        have HE2 : Hid ((sigS sp c).n = s.n) := hid (E2.trans hn)
        rw [HB.out]
        have hcf' : castF ys.length (sigS sp c) c (acc ++ (if sigT sp c = -1 then [] else [sigT sp c])) = R := hcf
        obtain ⟨v, hv⟩ : ∃ v, sigT sp c = v := ⟨_, rfl⟩
        rw [hv] at hcf' ⊢
        obtain ⟨m, hm⟩ : ∃ m, acc.length = m := ⟨_, rfl⟩
        rw [hm] at hown hal ⊢
        have HM := hid hm
        have HK := hid hk
        by_cases hv1 : v = -1
        · have hd : (v != -1) = false := by simp [hv1]
          have HCF : Hid (castF ys.length (sigS sp c) c acc = R) := by rw [if_pos hv1, List.append_nil] at hcf'; exact hcf'
          clear hg hcf hcf' E1 E2 hk hv hm hn hv1
          go_wp2_with fail
          refine (lksignal hL c hcs2).mono ?_
          rintro e w3 ⟨rfl, h3, f3⟩
          have hown3 := owns_fr hown f3 (fun k h1 _ h => by have := hKb k (.inr h); omega)
          go_wp2_with fail
          go_roundg ys.length
          case measure => omega
          case rel => exact ⟨sigS sp c, acc, HE1.out.symm, HE2.out, ⟨_, hL⟩, rfl, rfl, HCF.out, by have := HM.out; omega, h3, by rw [HM.out]; exact hown3, hfr.trans f3⟩
        · have hd : (v != -1) = true := by simp [hv1]
          have HCF : Hid (castF ys.length (sigS sp c) c (acc ++ [v]) = R) := by rw [if_neg hv1] at hcf'; exact hcf'
          clear hg hcf hcf' E1 E2 hk hv hm hn hv1
          have fr3 : ∀ w3, Fr (fun k => w.heap.size ≤ k) wr w3 → LkAt w3 K (sigS sp c) ∧ Fr K.foot w w3 := fun w3 f => ⟨hL.fr f (fun k hk h => by have := hKb k hk; omega), hfr.then f (fun i hi h => absurd h (by omega))⟩
          have FR3 := hid fr3
          clear fr3
          go_wp2_with (at_builtin; refine wpList_append_irow rfl (.tmp 35) (.tmp 37) rfl w.heap.size m acc [v] (.slice a7 m c7) _ rfl rfl (hown.alloc _) (one_new _ _ _) (by simp; omega) (by simp; omega) ?_; intro v3 w3 ho3 hg3 _; have f3 := ((Fr.refl (fun k => w.heap.size ≤ k) wr).alloc (.cells #[.int .i64 v] 3)).trans (Fr.own_fr (hown.alloc _) hg3); have h3 := (FR3.out w3 f3).1; have g3 := (FR3.out w3 f3).2)
          refine (lksignal h3 c hcs2).mono ?_
          rintro e w4 ⟨rfl, h4, f4⟩
          have hown4 := owns_fr ho3 f4 (fun k h1 _ h => by have := hKb k (.inr h); omega)
          go_wp2_with fail
          go_roundg ys.length
          case measure => omega
          case rel => exact ⟨sigS sp c, acc ++ [v], HE1.out.symm, HE2.out, ⟨_, h3⟩, rfl, rfl, HCF.out, by have := HM.out; rw [List.length_append]; simp; omega, h4, by rw [List.length_append, HM.out]; exact hown4, g3.trans f4⟩
  · have HT : Hid (castT s c = []) := by unfold castT; rw [if_neg h0]; exact rfl
    have HS : Hid (castS s c = s) := by unfold castS; rw [if_neg h0]; exact rfl
    unfold CastPost
    rw [HT.out, HS.out]
    obtain ⟨z, hz⟩ : ∃ z, ask1E s c = z := ⟨_, rfl⟩
    rw [hz] at h0 A1 ⊢
    have HA := hid A1
    clear A1 hz
    go_enter Try.func66, Try.ntmps66
    go_wp2_with (first
      | (go_at_call 108; refine (are_made _ _ _ ⟨_, rfl⟩ ⟨_, _, _, rfl⟩).mono ?_; rintro e w' ⟨rfl, rfl⟩)
      | (go_at_call 107; refine HA.out.mono ?_; rintro e w1 ⟨rfl, hs1⟩; have h1 := h.still hs1))
    go_ret2
    exact ⟨none, 0, rfl, .inl ⟨rfl, _, _, rfl⟩, h1, hs1.fr _, fun h => absurd h (by simp)⟩
end
end Go.Proofs.Ytffjaaolcphonaa
