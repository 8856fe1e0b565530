/- The locks in the world; the closures that look ahead. -/
import Derived.Test.YtffjaaolcphonaaLs2
import Derived.Test.YtffjaaolcphonaaApp
import Derived.Test.YtffjaaolcphonaaHeld
namespace Go.Proofs.Ytffjaaolcphonaa
open Go.RowKit

/-- Locks: how many objects, how many threads, owners, which lock is to be had again, who waits where. -/
structure LS where
  n : Nat
  T : Nat
  ow : List Int
  ag : List Int
  L : List (List Nat)
structure KB where
  P : Nat
  O : Nat
  A : Nat
  kO : Nat
  kA : Nat
  B : LB
def KB.foot (K : KB) (k : Nat) : Prop := k = K.O ∨ k = K.A ∨ K.B.foot k
def KB.all (K : KB) (k : Nat) : Prop := k = K.P ∨ K.foot k
structure LkAt (w : World) (K : KB) (s : LS) : Prop where
  hp : Blk w K.P [sl K.O s.n K.kO, sl K.A s.T K.kA, .pointer (some ⟨K.B.p, 0, none⟩)] 114
  ho : IBlk w K.O s.ow
  ha : IBlk w K.A s.ag
  hl : LsAt w K.B s.T s.L
  PO : K.P ≠ K.O
  PA : K.P ≠ K.A
  OA : K.O ≠ K.A
  dP : ¬ K.B.foot K.P
  dO : ¬ K.B.foot K.O
  dA : ¬ K.B.foot K.A
  lo : s.ow.length = s.n
  la : s.ag.length = s.T
  ll : s.L.length = 2 * s.n
  n0 : 1 ≤ s.n
  n1 : s.n ≤ 64
  T0 : 1 ≤ s.T
  T1 : s.T ≤ 1024
  wf : ∀ t, t < s.T → inR (s.ag.getD t 0) s.n
theorem LkAt.fr {w w' : World} {K : KB} {s : LS} (h : LkAt w K s) {F : Nat → Prop} (hf : Fr F w w') (hd : ∀ k, K.all k → ¬ F k) : LkAt w' K s :=
  { h with hp := h.hp.fr hf (hd _ (.inl rfl)), ho := IBlk.fr h.ho hf (hd _ (.inr (.inl rfl))), ha := IBlk.fr h.ha hf (hd _ (.inr (.inr (.inl rfl)))), hl := h.hl.fr hf fun k hk => hd k (.inr (.inr (.inr hk))) }
theorem LkAt.still {w w' : World} {K : KB} {s : LS} (h : LkAt w K s) (hf : Still w w') : LkAt w' K s := h.fr hf fun _ _ h => h
theorem LkAt.lt {w : World} {K : KB} {s : LS} (h : LkAt w K s) {k : Nat} (hk : K.all k) : k < w.heap.size := by
  rcases hk with rfl | rfl | rfl | hk
  · exact h.hp.lt
  · exact h.ho.lt
  · exact h.ha.lt
  · exact h.hl.lt hk
section
variable {w : World} {K : KB} {s : LS}
theorem LkAt.f0 (h : LkAt w K s) : w.cell? ⟨K.P, 0, none⟩ = some (.slice (some ⟨K.O, 0, none⟩) s.n K.kO) := by rw [h.hp.cell]; rfl
theorem LkAt.f1 (h : LkAt w K s) : w.cell? ⟨K.P, 1, none⟩ = some (.slice (some ⟨K.A, 0, none⟩) s.T K.kA) := by rw [h.hp.cell]; rfl
theorem LkAt.f2 (h : LkAt w K s) : w.cell? ⟨K.P, 2, none⟩ = some (.pointer (some ⟨K.B.p, 0, none⟩)) := by rw [h.hp.cell]; rfl
theorem lkmade (h : LkAt w K s) : Calls Try.prog 130 #[.pointer (some ⟨K.P, 0, none⟩)] w fun e w' => e = .returned (.bool true) ∧ w = w' := by
  have F2 := h.f2
  go_enter Try.func130, Try.ntmps130
  go_wp2
  go_ret
  exact ⟨rfl, rfl⟩
theorem lkcond (h : LkAt w K s) (c : Nat) (hc : c ≤ 64) : Calls Try.prog 120 #[.pointer (some ⟨K.P, 0, none⟩), .int .i64 c] w fun e w' => e = .returned (.int .i64 ((s.n : Int) + c)) ∧ w = w' := by
  have F0 := h.f0
  have n1 := h.n1
  go_enter Try.func120, Try.ntmps120
  go_wp2
  go_ret
  exact ⟨rfl, rfl⟩
/-- The innermost closure: is a number wrong? -/
theorem lkwrong (h : LkAt w K s) (bl : Nat) (hb : w.cell? ⟨bl, 0, none⟩ = some (.pointer (some ⟨K.P, 0, none⟩))) (o : Int) : Calls Try.prog 139 #[.int .i64 o, .pointer (some ⟨bl, 0, none⟩)] w fun e w' => e = .returned (.bool (!decide (inR o s.n))) ∧ w = w' := by
  have F0 := h.f0
  by_cases hi : inR o s.n
  · obtain ⟨i0, i1⟩ := hi
    have HD := hid (decide_eq_true (p := inR o s.n) ⟨i0, i1⟩)
    go_enter Try.func139, Try.ntmps139
    go_wp2
    go_ret
    exact ⟨by rw [HD.out]; first | rfl | (simp; omega), rfl⟩
  · have HD := hid (decide_eq_false hi)
    rcases inR_no hi with h0 | h0
    all_goals
      clear hi
      go_enter Try.func139, Try.ntmps139
      go_wp2
      go_ret
      exact ⟨by rw [HD.out]; first | rfl | (simp; omega) | simp, rfl⟩
def allR (xs : List Int) (n : Nat) : Bool := xs.all fun x => decide (inR x n)
theorem lkindex (h : LkAt w K s) (bl : Nat) (hb : w.cell? ⟨bl, 0, none⟩ = some (.pointer (some ⟨K.P, 0, none⟩))) (v : Value) (xs : List Int) (hv : IRow w v xs) (hx : xs.length ≤ 8) :
    Calls Try.prog 153 #[v, .func (.func 139) #[] #[.pointer (some ⟨bl, 0, none⟩)]] w fun e w' => ∃ r : Int, e = .returned (.int .i64 r) ∧ (0 ≤ r ↔ allR xs s.n = false) ∧ w = w' := by
  have he : ∀ args w, (callFunc 139 args).run Try.prog w = .ok (.enter 139 args) w := fun args w => by kernel_rfl
  obtain ⟨a, c, hva⟩ := hv.len
  subst hva
  obtain ⟨n, hn⟩ : ∃ n, xs.length = n := ⟨_, rfl⟩
  rw [hn] at hv hx ⊢
  have HN := hid hn
  have HV := hid hv
  clear hn hv
  go_enter Try.func153, Try.ntmps153
  go_wp2
  go_loopw [8] (fun i wr => ∃ k : Nat, i = .int .i64 k ∧ k ≤ n ∧ (∀ i, i < k → inR (xs.getD i 0) s.n) ∧ w = wr) (fun i _ => n - (intOf i).toNat)
  case atStart => exact ⟨0, rfl, Nat.zero_le _, fun _ h => absurd h (Nat.not_lt_zero _), rfl⟩
  case round =>
    obtain ⟨k, rfl, hk, hall, rfl⟩ := hrel
    have HA := hid hall
    clear hall
    by_cases hlt : k < n
    · have hlt' : (k : Int) < (n : Int) := by omega
      have hv := HV.out
      rcases hv with ⟨h0, _⟩ | ⟨_, b, off, c', hv, hcell⟩
      · have := HN.out; rw [h0] at this; simp at this; omega
      obtain rfl : a = some ⟨b, off, none⟩ := by injection hv
      clear hv
      have hx := hcell k (by have := HN.out; omega)
      clear hcell
      obtain ⟨x, hxe⟩ : ∃ x, xs.getD k 0 = x := ⟨_, rfl⟩
      rw [hxe] at hx
      have HX := hid hxe
      clear hxe
      by_cases hi : inR x s.n
      · have HI := hid hi
        have HD := hid (decide_eq_true hi)
        clear hi
        go_wp2_with fail
        refine (lkwrong h bl hb x).mono ?_
        rw [HD.out]
        rintro e w' ⟨rfl, rfl⟩
        go_wp2_with fail
        go_roundw
        case rel =>
          refine ⟨k + 1, by go_num, by omega, fun i hi => ?_, ?_⟩
          · by_cases e : i = k
            · subst e; rw [HX.out]; exact HI.out
            · exact HA.out i (by omega)
          · first | rfl | trivial
        case measure => simp [intOf]; omega
      · have HI := hid hi
        have HD := hid (decide_eq_false hi)
        clear hi
        go_wp2_with fail
        refine (lkwrong h bl hb x).mono ?_
        rw [HD.out]
        rintro e w' ⟨rfl, rfl⟩
        go_wp2_with fail
        go_ret
        refine ⟨k, rfl, ⟨fun _ => ?_, fun _ => by omega⟩, rfl⟩
        unfold allR
        rw [Bool.eq_false_iff]
        intro ht
        have := List.all_eq_true.1 ht x (by
          have hk' : k < xs.length := by have := HN.out; omega
          rw [← HX.out, List.getD_eq_getElem?_getD, List.getElem?_eq_getElem hk', Option.getD_some]; exact List.getElem_mem _)
        simp at this; exact HI.out this
    · go_wp2_with fail
      go_ret
      refine ⟨-1, rfl, ⟨fun h => by omega, fun h => ?_⟩, rfl⟩
      exfalso
      have : allR xs s.n = true := List.all_eq_true.2 fun x hx => by
        obtain ⟨i, hi, rfl⟩ := List.getElem_of_mem hx
        have := HA.out i (by have := HN.out; omega)
        rw [List.getD_eq_getElem?_getD, List.getElem?_eq_getElem hi, Option.getD_some] at this
        simpa using this
      rw [this] at h; cases h
theorem lkcontains (h : LkAt w K s) (bl : Nat) (hb : w.cell? ⟨bl, 0, none⟩ = some (.pointer (some ⟨K.P, 0, none⟩))) (v : Value) (xs : List Int) (hv : IRow w v xs) (hx : xs.length ≤ 8) :
    Calls Try.prog 140 #[v, .func (.func 139) #[] #[.pointer (some ⟨bl, 0, none⟩)]] w fun e w' => e = .returned (.bool (!allR xs s.n)) ∧ w = w' := by
  obtain ⟨a, c, hva⟩ := hv.len
  subst hva
  have HV := hid hv
  clear hv
  go_enter Try.func140, Try.ntmps140
  go_wp2_with fail
  refine (lkindex h bl hb _ xs HV.out hx).mono ?_
  rintro e w' ⟨r, rfl, hr, rfl⟩
  have HR := hid hr
  clear hr
  go_wp2_with fail
  go_ret
  refine ⟨?_, rfl⟩
  cases ha : allR xs s.n with
  | true => have : ¬ 0 ≤ r := fun h => by have := HR.out.1 h; rw [ha] at this; cases this
            rw [show decide (0 ≤ r) = false from decide_eq_false this]; rfl
  | false => rw [show decide (0 ≤ r) = true from decide_eq_true (HR.out.2 ha)]; rfl
end
end Go.Proofs.Ytffjaaolcphonaa
