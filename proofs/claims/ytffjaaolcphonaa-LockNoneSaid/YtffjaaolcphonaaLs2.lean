/- The links' Move and the law's all, told by lists of things. -/
import Derived.Test.YtffjaaolcphonaaLs
import Derived.Test.YtffjaaolcphonaaMove
import Derived.Test.YtffjaaolcphonaaMove2
namespace Go.Proofs.Ytffjaaolcphonaa
open Go.RowKit

def moveLE (L : List (List Nat)) (f t : Int) : Int := if inR f L.length ∧ inR t L.length then (if f = t then 2 else 0) else 8
def moveN (L : List (List Nat)) (f t : Int) : Int := if moveLE L f t = 0 then ((gl L f.toNat).length : Int) else 0
def moveL (L : List (List Nat)) (f t : Int) : List (List Nat) := if moveLE L f t = 0 then (L.set f.toNat []).set t.toNat (gl L t.toNat ++ gl L f.toNat) else L

theorem gl_self (L : List (List Nat)) (i : Nat) (h : i < L.length) : L.set i (gl L i) = L := by
  unfold gl
  apply List.ext_getElem?
  intro j
  by_cases e : i = j
  · subst e; simp [h]
  · simp [e]

theorem move_ls {w : World} {B : LB} {T : Nat} {L : List (List Nat)} (h : LsAt w B T L) (f t : Int) : Calls Try.prog 24 #[.pointer (some ⟨B.p, 0, none⟩), .int .i64 f, .int .i64 t] w fun e w' =>
    e = .returned (.tuple #[.int .i64 (moveN L f t), .int .i64 (moveLE L f t)]) ∧ LsAt w' B T (moveL L f t) ∧ Fr B.foot w w' := by
  obtain ⟨r, hr, hv, rfl⟩ := h
  have he : moveE r f t = moveLE L f t := by unfold moveE moveLE; rw [hv.len]
  by_cases h0 : moveLE L f t = 0
  · have hh : inR f L.length ∧ inR t L.length ∧ f ≠ t := by
      unfold moveLE at h0
      split at h0
      · rename_i h1
        split at h0
        · omega
        · rename_i h2; exact ⟨h1.1, h1.2, h2⟩
      · omega
    obtain ⟨hf, ht, hft⟩ := hh
    obtain ⟨f, rfl⟩ := Int.eq_ofNat_of_zero_le hf.1
    obtain ⟨t, rfl⟩ := Int.eq_ofNat_of_zero_le ht.1
    have hf' : f < L.length := by have := hf.2; omega
    have ht' : t < L.length := by have := ht.2; omega
    have hft' : f ≠ t := by omega
    have hN : moveN L (f : Int) t = ((gl L f).length : Int) := by unfold moveN; rw [if_pos h0, Int.toNat_natCast]
    have hL' : moveL L (f : Int) t = (L.set f []).set t (gl L t ++ gl L f) := by unfold moveL; rw [if_pos h0, Int.toNat_natCast, Int.toNat_natCast]
    rw [hN, hL', h0]
    by_cases hF : gl L f = []
    · refine (move_zero w B r hr f t (hv.len ▸ hf') (he.trans h0) (by rw [hv.cnt f hf', hF]; rfl)).mono ?_
      rintro e w' ⟨rfl, h1⟩
      refine ⟨by rw [hF]; rfl, ⟨r, hr.still h1, ?_, rfl⟩, h1.fr _⟩
      rw [hF, List.append_nil, show L.set f [] = L from by have := gl_self L f hf'; rwa [hF] at this, gl_self L t ht']
      exact hv
    · obtain ⟨a, z, la, k1, k2, k3, k4, k5, k6, k7⟩ := inv_move hv hr.sz hf' ht' hft' hF
      have hlf := hv.le hf'
      have hlt := hv.le ht'
      have hT := hr.t1
      obtain ⟨q0, hq0, hs⟩ := hv.seq hr.sz hf'
      have hqa : q0 = a := by rw [k4] at hq0; omega
      subst hqa
      refine (move_ok w B r hr f t (gl L f) q0 z la (gl L f).length (gl L t).length q0 (hv.len ▸ hf') (hv.len ▸ ht') hft' (hv.cnt f hf') (List.length_pos_iff.2 hF) (by omega) (hv.cnt t ht') (by omega) k4 k5 k6 k1 k2 k3 hs (fun x hx => (hv.yes f x hf' hx).1)).mono ?_
      rintro e w' ⟨rfl, h1, h2⟩
      exact ⟨rfl, ⟨_, h1, k7, rfl⟩, h2⟩
  · refine (move_err w B r hr f t _ he (by simpa using h0)).mono ?_
    rintro e w' ⟨rfl, h1⟩
    refine ⟨by unfold moveN; rw [if_neg h0], ?_, h1.fr _⟩
    unfold moveL
    rw [if_neg h0]
    exact ⟨r, hr.still h1, hv, rfl⟩

theorem all_ls {w : World} {B : LB} {T : Nat} {L : List (List Nat)} (h : LsAt w B T L) (i : Nat) (hi : i < L.length) :
    Calls Try.prog 23 #[.pointer (some ⟨B.p, 0, none⟩), .int .i64 i] w fun e W' => ∃ v, e = .returned (.tuple #[v, .bool true]) ∧ W'.ownsRow w.heap.size 3 1 v (gl L i).length (tv (gl L i)) ∧ Below w.heap.size w W' := by
  obtain ⟨r, hR, hv, hrt⟩ := h
  obtain ⟨q0, hq0, hseq⟩ := hv.seq hR.sz hi
  exact all_law w i B r (gl L i) hR (hv.len ▸ hi) q0 hq0 hseq (by have := hv.le hi; have := hR.t1; omega) (fun x hx => (hv.yes i x hi hx).1)
end Go.Proofs.Ytffjaaolcphonaa
