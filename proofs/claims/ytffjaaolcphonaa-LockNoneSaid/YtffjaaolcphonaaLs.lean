/- The links' calls, told by lists of things. -/
import Derived.Test.YtffjaaolcphonaaInv2
namespace Go.Proofs.Ytffjaaolcphonaa
open Go.RowKit

/-- The list in which a thing stands; -1: in none. -/
def wh (L : List (List Nat)) (t : Nat) : Int := match L.findIdx? (fun l => decide (t ∈ l)) with | some i => (i : Int) | none => -1
theorem wh_no {L : List (List Nat)} {t : Nat} : wh L t = -1 ↔ ∀ i, i < L.length → t ∉ gl L i := by
  unfold wh
  split
  · rename_i i hi
    rw [List.findIdx?_eq_some_iff_getElem] at hi
    obtain ⟨h1, h2, _⟩ := hi
    constructor
    · intro h; omega
    · intro h
      have := h i h1
      simp [gl, h1] at this
      simp at h2
      exact absurd h2 this
  · rename_i hi
    rw [List.findIdx?_eq_none_iff] at hi
    refine ⟨fun _ i hl hm => ?_, fun _ => rfl⟩
    have := hi (gl L i) (by simp [gl, hl])
    simp at this; exact this hm
theorem wh_yes {L : List (List Nat)} {t i : Nat} (h : wh L t = (i : Int)) : i < L.length ∧ t ∈ gl L i := by
  unfold wh at h
  split at h
  · rename_i j hi
    rw [List.findIdx?_eq_some_iff_getElem] at hi
    obtain ⟨h1, h2, _⟩ := hi
    have : j = i := by omega
    subst this
    exact ⟨h1, by simp [gl, h1]; simpa using h2⟩
  · omega
theorem wh_cases (L : List (List Nat)) (t : Nat) : wh L t = -1 ∨ ∃ i : Nat, wh L t = (i : Int) := by
  unfold wh; split
  · exact .inr ⟨_, rfl⟩
  · exact .inl rfl
theorem Inv.wh {r : Raw} {L : List (List Nat)} (h : Inv r L) {t : Nat} (ht : t < r.things) : r.list.getD t 0 = wh L t := by
  rcases wh_cases L t with e | ⟨i, e⟩
  · rw [e]; exact h.no t ht (wh_no.1 e)
  · rw [e]; obtain ⟨h1, h2⟩ := wh_yes e; exact (h.yes i t h1 h2).2
theorem Inv.wh_of {r : Raw} {L : List (List Nat)} (h : Inv r L) {t i : Nat} (hi : i < L.length) (hm : t ∈ gl L i) : Go.Proofs.Ytffjaaolcphonaa.wh L t = (i : Int) := by
  have h1 := h.yes i t hi hm
  rw [← h.wh h1.1, h1.2]

/-- The links at B are these lists of T things. -/
def LsAt (w : World) (B : LB) (T : Nat) (L : List (List Nat)) : Prop := ∃ r, RawAt w B r ∧ Inv r L ∧ r.things = T
theorem LsAt.fr {w w' : World} {B : LB} {T : Nat} {L : List (List Nat)} (h : LsAt w B T L) {F : Nat → Prop} (hf : Fr F w w') (hd : ∀ k, B.foot k → ¬ F k) : LsAt w' B T L := by
  obtain ⟨r, h1, h2, h3⟩ := h; exact ⟨r, h1.fr hf hd, h2, h3⟩
theorem LsAt.still {w w' : World} {B : LB} {T : Nat} {L : List (List Nat)} (h : LsAt w B T L) (hf : Still w w') : LsAt w' B T L := h.fr hf fun _ _ h => h
theorem LsAt.lt {w : World} {B : LB} {T : Nat} {L : List (List Nat)} (h : LsAt w B T L) {k : Nat} (hk : B.foot k) : k < w.heap.size := by
  obtain ⟨r, h, _⟩ := h
  simp only [LB.foot] at hk
  rcases hk with rfl | rfl | rfl | rfl | rfl
  · exact h.hp.lt
  · exact h.hn.lt
  · exact h.hb.lt
  · exact h.hl.lt
  · exact h.hc.lt

def pushE (T : Nat) (L : List (List Nat)) (i t : Int) : Int := if inR i L.length ∧ inR t T then (if wh L t.toNat = -1 then 0 else 5) else 8
def pushL (T : Nat) (L : List (List Nat)) (i t : Int) : List (List Nat) := if pushE T L i t = 0 then L.set i.toNat (gl L i.toNat ++ [t.toNat]) else L
def frontL (T : Nat) (L : List (List Nat)) (i t : Int) : List (List Nat) := if pushE T L i t = 0 then L.set i.toNat (t.toNat :: gl L i.toNat) else L
theorem mayE_eq {r : Raw} {L : List (List Nat)} (h : Inv r L) (i t : Int) : mayE r i t = pushE r.things L i t := by
  unfold mayE pushE
  rw [h.len]
  by_cases h1 : inR i r.count.length ∧ inR t r.things
  · rw [if_pos h1, if_pos h1, h.wh (by have := h1.2; unfold inR at this; omega)]
  · rw [if_neg h1, if_neg h1]
theorem pushE_zero {T : Nat} {L : List (List Nat)} {i t : Int} (h : pushE T L i t = 0) : inR i L.length ∧ inR t T ∧ wh L t.toNat = -1 := by
  unfold pushE at h
  split at h
  · rename_i h1
    split at h
    · rename_i h2; exact ⟨h1.1, h1.2, h2⟩
    · omega
  · omega
theorem push_ls {w : World} {B : LB} {T : Nat} {L : List (List Nat)} (h : LsAt w B T L) (i t : Int) : Calls Try.prog 21 #[.pointer (some ⟨B.p, 0, none⟩), .int .i64 i, .int .i64 t] w fun e w' =>
    e = .returned (.int .i64 (pushE T L i t)) ∧ LsAt w' B T (pushL T L i t) ∧ Fr B.foot w w' := by
  obtain ⟨r, hr, hv, rfl⟩ := h
  have he := mayE_eq hv i t
  by_cases h0 : pushE r.things L i t = 0
  · obtain ⟨hi, ht, hw⟩ := pushE_zero h0
    obtain ⟨i, rfl⟩ := Int.eq_ofNat_of_zero_le hi.1
    obtain ⟨t, rfl⟩ := Int.eq_ofNat_of_zero_le ht.1
    have hi' : i < L.length := by have := hi.2; omega
    have ht' : t < r.things := by have := ht.2; omega
    obtain ⟨p, hp1, hp2, hp3, hv'⟩ := inv_push hv hr.sz hi' ht' (wh_no.1 hw)
    refine (push_ok w B r hr i t p (r.things + i) (gl L i).length (he.trans h0) (hv.len ▸ hi') ht' hp2 hp1 hp3 (by rw [hr.lnext, ← hv.len]; omega) (hv.cnt i hi') (by have := hv.le hi'; have := hr.t1; omega)).mono ?_
    rintro e w' ⟨rfl, h1, h2⟩
    refine ⟨by rw [h0], ⟨_, h1, ?_, rfl⟩, h2⟩
    unfold pushL; rw [if_pos h0, Int.toNat_natCast, Int.toNat_natCast]; exact hv'
  · refine (push_err w B r hr i t _ he (by simpa using h0)).mono ?_
    rintro e w' ⟨rfl, h1⟩
    refine ⟨rfl, ?_, h1.fr _⟩
    unfold pushL; rw [if_neg h0]; exact ⟨r, hr.still h1, hv, rfl⟩
theorem front_ls {w : World} {B : LB} {T : Nat} {L : List (List Nat)} (h : LsAt w B T L) (i t : Int) : Calls Try.prog 22 #[.pointer (some ⟨B.p, 0, none⟩), .int .i64 i, .int .i64 t] w fun e w' =>
    e = .returned (.int .i64 (pushE T L i t)) ∧ LsAt w' B T (frontL T L i t) ∧ Fr B.foot w w' := by
  obtain ⟨r, hr, hv, rfl⟩ := h
  have he := mayE_eq hv i t
  by_cases h0 : pushE r.things L i t = 0
  · obtain ⟨hi, ht, hw⟩ := pushE_zero h0
    obtain ⟨i, rfl⟩ := Int.eq_ofNat_of_zero_le hi.1
    obtain ⟨t, rfl⟩ := Int.eq_ofNat_of_zero_le ht.1
    have hi' : i < L.length := by have := hi.2; omega
    have ht' : t < r.things := by have := ht.2; omega
    obtain ⟨s, hs1, hs2, hv'⟩ := inv_front hv hr.sz hi' ht' (wh_no.1 hw)
    refine (front_ok w B r hr i t s (gl L i).length (he.trans h0) (hv.len ▸ hi') ht' hs2 hs1 (hv.cnt i hi') (by have := hv.le hi'; have := hr.t1; omega)).mono ?_
    rintro e w' ⟨rfl, h1, h2⟩
    refine ⟨by rw [h0], ⟨_, h1, ?_, rfl⟩, h2⟩
    unfold frontL; rw [if_pos h0, Int.toNat_natCast, Int.toNat_natCast]; exact hv'
  · refine (front_err w B r hr i t _ he (by simpa using h0)).mono ?_
    rintro e w' ⟨rfl, h1⟩
    refine ⟨rfl, ?_, h1.fr _⟩
    unfold frontL; rw [if_neg h0]; exact ⟨r, hr.still h1, hv, rfl⟩

def whI (T : Nat) (L : List (List Nat)) (t : Int) : Int := if inR t T then wh L t.toNat else -1
theorem where_ls {w : World} {B : LB} {T : Nat} {L : List (List Nat)} (h : LsAt w B T L) (t : Int) : Calls Try.prog 29 #[.pointer (some ⟨B.p, 0, none⟩), .int .i64 t] w fun e w' => e = .returned (.int .i64 (whI T L t)) ∧ w = w' := by
  obtain ⟨r, hr, hv, rfl⟩ := h
  unfold whI
  by_cases ht : inR t r.things
  · rw [if_pos ht]
    obtain ⟨t, rfl⟩ := Int.eq_ofNat_of_zero_le ht.1
    have ht' : t < r.things := by have := ht.2; omega
    rw [Int.toNat_natCast, ← hv.wh ht']
    exact where_yes w B r hr t ht'
  · rw [if_neg ht]
    exact where_no w B r hr t (inR_no ht)
def lenI (L : List (List Nat)) (i : Int) : Int := if inR i L.length then ((gl L i.toNat).length : Int) else 0
theorem len_ls {w : World} {B : LB} {T : Nat} {L : List (List Nat)} (h : LsAt w B T L) (i : Int) : Calls Try.prog 25 #[.pointer (some ⟨B.p, 0, none⟩), .int .i64 i] w fun e w' => e = .returned (.int .i64 (lenI L i)) ∧ w = w' := by
  obtain ⟨r, hr, hv, rfl⟩ := h
  unfold lenI
  by_cases hi : inR i L.length
  · rw [if_pos hi]
    obtain ⟨i, rfl⟩ := Int.eq_ofNat_of_zero_le hi.1
    have hi' : i < L.length := by have := hi.2; omega
    rw [Int.toNat_natCast, ← hv.cnt i hi']
    exact len_yes w B r hr i (hv.len ▸ hi')
  · rw [if_neg hi]
    exact len_no w B r hr i (inR_no (hv.len ▸ hi))

def remE' (T : Nat) (L : List (List Nat)) (t : Int) : Int := if inR t T then (if wh L t.toNat = -1 then 4 else 0) else 8
def remL (T : Nat) (L : List (List Nat)) (t : Int) : List (List Nat) := if remE' T L t = 0 then L.set (wh L t.toNat).toNat ((gl L (wh L t.toNat).toNat).erase t.toNat) else L
theorem remove_ls {w : World} {B : LB} {T : Nat} {L : List (List Nat)} (h : LsAt w B T L) (t : Int) : Calls Try.prog 42 #[.pointer (some ⟨B.p, 0, none⟩), .int .i64 t] w fun e w' =>
    e = .returned (.int .i64 (remE' T L t)) ∧ LsAt w' B T (remL T L t) ∧ Fr B.foot w w' := by
  obtain ⟨r, hr, hv, rfl⟩ := h
  have he : remE r t = remE' r.things L t := by
    unfold remE remE'
    by_cases h1 : inR t r.things
    · rw [if_pos h1, if_pos h1, hv.wh (by unfold inR at h1; omega)]
    · rw [if_neg h1, if_neg h1]
  by_cases h0 : remE' r.things L t = 0
  · have ht : inR t r.things ∧ wh L t.toNat ≠ -1 := by
      unfold remE' at h0
      split at h0
      · rename_i h1
        split at h0
        · omega
        · rename_i h2; exact ⟨h1, h2⟩
      · omega
    obtain ⟨ht, hw⟩ := ht
    obtain ⟨t, rfl⟩ := Int.eq_ofNat_of_zero_le ht.1
    rw [Int.toNat_natCast] at hw
    have ht' : t < r.things := by have := ht.2; omega
    obtain ⟨i, hi⟩ := (wh_cases L t).resolve_left hw
    obtain ⟨hil, him⟩ := wh_yes hi
    obtain ⟨xs, ys, hL⟩ := List.append_of_mem him
    obtain ⟨a, b, ha, hb, ha2, hb2, _, hv'⟩ := inv_del hv hr.sz hil hL
    refine (remove_ok w B r hr t a b i (gl L i).length ht' (hv.len ▸ hil) ha hb ha2 hb2 (by rw [hv.wh ht', hi]) (hv.cnt i hil) (by have := hv.le hil; have := hr.t1; omega)).mono ?_
    rintro e w' ⟨rfl, h1, h2⟩
    refine ⟨by rw [h0], ⟨_, h1, ?_, rfl⟩, h2⟩
    unfold remL; rw [if_pos h0, Int.toNat_natCast, hi, Int.toNat_natCast]
    have hnx : t ∉ xs := by
      have := hv.nd i hil
      rw [hL] at this
      exact fun hx => (List.nodup_append.1 this).2.2 t hx t (by simp) rfl
    have e : (gl L i).erase t = xs ++ ys := by rw [hL, List.erase_append_right _ hnx]; simp
    rw [e]; exact hv'
  · refine (remove_err w B r hr t _ he (by simpa using h0)).mono ?_
    rintro e w' ⟨rfl, h1⟩
    refine ⟨rfl, ?_, h1.fr _⟩
    unfold remL; rw [if_neg h0]; exact ⟨r, hr.still h1, hv, rfl⟩

/-- The first of a list. -/
def popT (L : List (List Nat)) (i : Int) : Int := if inR i L.length then (((gl L i.toNat).head?.getD 0 : Nat) : Int) else 0
def popE' (L : List (List Nat)) (i : Int) : Int := if inR i L.length then (if gl L i.toNat = [] then 4 else 0) else 8
def popL (L : List (List Nat)) (i : Int) : List (List Nat) := if popE' L i = 0 then L.set i.toNat (gl L i.toNat).tail else L
theorem pop_ls {w : World} {B : LB} {T : Nat} {L : List (List Nat)} (h : LsAt w B T L) (i : Int) : Calls Try.prog 41 #[.pointer (some ⟨B.p, 0, none⟩), .int .i64 i] w fun e w' =>
    e = .returned (.tuple #[.int .i64 (popT L i), .int .i64 (popE' L i)]) ∧ LsAt w' B T (popL L i) ∧ Fr B.foot w w' := by
  obtain ⟨r, hr, hv, rfl⟩ := h
  have he : popE r i = popE' L i := by
    unfold popE popE'
    rw [hv.len]
    by_cases h1 : inR i r.count.length
    · rw [if_pos h1, if_pos h1, hv.cnt i.toNat (by rw [hv.len]; unfold inR at h1; omega)]
      by_cases h2 : gl L i.toNat = []
      · simp [h2]
      · rw [if_neg h2, if_neg (by simpa using h2)]
    · rw [if_neg h1, if_neg h1]
  by_cases h0 : popE' L i = 0
  · have ht : inR i L.length ∧ gl L i.toNat ≠ [] := by
      unfold popE' at h0
      split at h0
      · rename_i h1
        split at h0
        · omega
        · rename_i h2; exact ⟨h1, h2⟩
      · omega
    obtain ⟨hi, hne⟩ := ht
    obtain ⟨i, rfl⟩ := Int.eq_ofNat_of_zero_le hi.1
    rw [Int.toNat_natCast] at hne
    have hi' : i < L.length := by have := hi.2; omega
    obtain ⟨t, ys, hL⟩ := List.exists_cons_of_ne_nil hne
    have htm : t ∈ gl L i := by rw [hL]; simp
    have hyt := hv.yes i t hi' htm
    obtain ⟨a, b, ha, hb, ha2, hb2, ha3, hv'⟩ := inv_del hv hr.sz (xs := []) hi' hL
    simp at ha3; subst ha3
    obtain ⟨q0, hq0, hs⟩ := hv.seq hr.sz hi'
    rw [hL] at hs
    obtain ⟨rfl, _⟩ := hs
    refine (pop_ok w B r hr i q0 b (gl L i).length hyt.1 (hv.len ▸ hi') hb hq0 ha2 hb2 hyt.2 (hv.cnt i hi') (by have := hv.le hi'; have := hr.t1; omega) (by rw [hL]; simp)).mono ?_
    rintro e w' ⟨rfl, h1, h2⟩
    refine ⟨?_, ⟨_, h1, ?_, rfl⟩, h2⟩
    · rw [h0]; unfold popT; rw [if_pos hi, Int.toNat_natCast, hL]; rfl
    · unfold popL; rw [if_pos h0, Int.toNat_natCast]
      have e : (gl L i).tail = [] ++ ys := by rw [hL]; rfl
      rw [e]; exact hv'
  · refine (pop_err w B r hr i _ he (by simpa using h0)).mono ?_
    rintro e w' ⟨rfl, h1⟩
    refine ⟨?_, ?_, h1.fr _⟩
    · unfold popT
      by_cases hi : inR i L.length
      · have : gl L i.toNat = [] := by
          unfold popE' at h0; rw [if_pos hi] at h0
          by_cases h2 : gl L i.toNat = []
          · exact h2
          · rw [if_neg h2] at h0; exact absurd rfl h0
        rw [if_pos hi, this]; rfl
      · rw [if_neg hi]
    · unfold popL; rw [if_neg h0]; exact ⟨r, hr.still h1, hv, rfl⟩

theorem new_ls (w : World) (t m : Nat) (t0 : 1 ≤ t) (t1 : t ≤ 4096) (m0 : 1 ≤ m) (m1 : m ≤ 4096) : Calls Try.prog 19 #[.int .i64 t, .int .i64 m] w fun e w' =>
    ∃ B : LB, e = .returned (.pointer (some ⟨B.p, 0, none⟩)) ∧ LsAt w' B t (List.replicate m []) ∧ Still w w' ∧ ∀ k, B.foot k → w.heap.size ≤ k :=
  (new_ok w t m t0 t1 m0 m1).mono fun _ _ ⟨B, h1, h2, h3, h4⟩ => ⟨B, h1, ⟨_, h2, inv_new t m, rfl⟩, h3, h4⟩
theorem copy_ls {w : World} {B : LB} {T : Nat} {L : List (List Nat)} (h : LsAt w B T L) : Calls Try.prog 38 #[.pointer (some ⟨B.p, 0, none⟩)] w fun e w' =>
    ∃ C : LB, e = .returned (.pointer (some ⟨C.p, 0, none⟩)) ∧ LsAt w' C T L ∧ Still w w' ∧ ∀ k, C.foot k → w.heap.size ≤ k := by
  obtain ⟨r, hr, hv, rfl⟩ := h
  exact (copy_any w B r hr).mono fun _ _ ⟨C, h1, h2, h3, h4⟩ => ⟨C, h1, ⟨_, h2, hv, rfl⟩, h3, h4⟩
end Go.Proofs.Ytffjaaolcphonaa
