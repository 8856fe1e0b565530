/- The locks in the world; the closures that look ahead. -/
import Derived.Test.YtffjaaolcphonaaBdE
import Derived.Test.YtffjaaolcphonaaBdB
import Derived.Test.YtffjaaolcphonaaBdG
import Derived.Test.YtffjaaolcphonaaBdF
namespace Go.Proofs.Ytffjaaolcphonaa
open Go.RowKit

/-- Locks: how many objects, how many threads, owners, which lock is to be had again, who waits where. -/
structure LS where
  n : Nat
  T : Nat
  ow : List Int
  ag : List Int
  L : List (List Nat)
structure KB where
  P : Nat
  O : Nat
  A : Nat
  kO : Nat
  kA : Nat
  B : LB
def KB.foot (K : KB) (k : Nat) : Prop := k = K.O ∨ k = K.A ∨ K.B.foot k
def KB.all (K : KB) (k : Nat) : Prop := k = K.P ∨ K.foot k
structure LkAt (w : World) (K : KB) (s : LS) : Prop where
  hp : Blk w K.P [sl K.O s.n K.kO, sl K.A s.T K.kA, .pointer (some ⟨K.B.p, 0, none⟩)] 114
  ho : IBlk w K.O s.ow
  ha : IBlk w K.A s.ag
  hl : LsAt w K.B s.T s.L
  PO : K.P ≠ K.O
  PA : K.P ≠ K.A
  OA : K.O ≠ K.A
  dP : ¬ K.B.foot K.P
  dO : ¬ K.B.foot K.O
  dA : ¬ K.B.foot K.A
  lo : s.ow.length = s.n
  la : s.ag.length = s.T
  ll : s.L.length = 2 * s.n
  n0 : 1 ≤ s.n
  n1 : s.n ≤ 64
  T0 : 1 ≤ s.T
  T1 : s.T ≤ 1024
  wf : ∀ t, t < s.T → inR (s.ag.getD t 0) s.n
theorem LkAt.fr {w w' : World} {K : KB} {s : LS} (h : LkAt w K s) {F : Nat → Prop} (hf : Fr F w w') (hd : ∀ k, K.all k → ¬ F k) : LkAt w' K s :=
  { h with hp := h.hp.fr hf (hd _ (.inl rfl)), ho := IBlk.fr h.ho hf (hd _ (.inr (.inl rfl))), ha := IBlk.fr h.ha hf (hd _ (.inr (.inr (.inl rfl)))), hl := h.hl.fr hf fun k hk => hd k (.inr (.inr (.inr hk))) }
theorem LkAt.still {w w' : World} {K : KB} {s : LS} (h : LkAt w K s) (hf : Still w w') : LkAt w' K s := h.fr hf fun _ _ h => h
theorem LkAt.lt {w : World} {K : KB} {s : LS} (h : LkAt w K s) {k : Nat} (hk : K.all k) : k < w.heap.size := by
  rcases hk with rfl | rfl | rfl | hk
  · exact h.hp.lt
  · exact h.ho.lt
  · exact h.ha.lt
  · exact h.hl.lt hk
section
variable {w : World} {K : KB} {s : LS}
theorem LkAt.f0 (h : LkAt w K s) : w.cell? ⟨K.P, 0, none⟩ = some (.slice (some ⟨K.O, 0, none⟩) s.n K.kO) := by rw [h.hp.cell]; rfl
theorem LkAt.f1 (h : LkAt w K s) : w.cell? ⟨K.P, 1, none⟩ = some (.slice (some ⟨K.A, 0, none⟩) s.T K.kA) := by rw [h.hp.cell]; rfl
theorem LkAt.f2 (h : LkAt w K s) : w.cell? ⟨K.P, 2, none⟩ = some (.pointer (some ⟨K.B.p, 0, none⟩)) := by rw [h.hp.cell]; rfl
theorem lkmade (h : LkAt w K s) : Calls Try.prog 130 #[.pointer (some ⟨K.P, 0, none⟩)] w fun e w' => e = .returned (.bool true) ∧ w = w' := by
  have F2 := h.f2
  go_enter Try.func130, Try.ntmps130
  go_wp2
  go_ret
  exact ⟨rfl, rfl⟩
theorem lkcond (h : LkAt w K s) (c : Nat) (hc : c ≤ 64) : Calls Try.prog 120 #[.pointer (some ⟨K.P, 0, none⟩), .int .i64 c] w fun e w' => e = .returned (.int .i64 ((s.n : Int) + c)) ∧ w = w' := by
  have F0 := h.f0
  have n1 := h.n1
  go_enter Try.func120, Try.ntmps120
  go_wp2
  go_ret
  exact ⟨rfl, rfl⟩
/-- The innermost closure: is a number wrong? -/
theorem lkwrong (h : LkAt w K s) (bl : Nat) (hb : w.cell? ⟨bl, 0, none⟩ = some (.pointer (some ⟨K.P, 0, none⟩))) (o : Int) : Calls Try.prog 139 #[.int .i64 o, .pointer (some ⟨bl, 0, none⟩)] w fun e w' => e = .returned (.bool (!decide (inR o s.n))) ∧ w = w' := by
  have F0 := h.f0
  by_cases hi : inR o s.n
  · obtain ⟨i0, i1⟩ := hi
    have HD := hid (decide_eq_true (p := inR o s.n) ⟨i0, i1⟩)
    go_enter Try.func139, Try.ntmps139
    go_wp2
    go_ret
    exact ⟨by rw [HD.out]; first | rfl | (simp; omega), rfl⟩
  · have HD := hid (decide_eq_false hi)
    rcases inR_no hi with h0 | h0
    all_goals
      clear hi
      go_enter Try.func139, Try.ntmps139
      go_wp2
      go_ret
      exact ⟨by rw [HD.out]; first | rfl | (simp; omega) | simp, rfl⟩
def allR (xs : List Int) (n : Nat) : Bool := xs.all fun x => decide (inR x n)
theorem lkindex (h : LkAt w K s) (bl : Nat) (hb : w.cell? ⟨bl, 0, none⟩ = some (.pointer (some ⟨K.P, 0, none⟩))) (v : Value) (xs : List Int) (hv : IRow w v xs) (hx : xs.length ≤ 8) :
    Calls Try.prog 153 #[v, .func (.func 139) #[] #[.pointer (some ⟨bl, 0, none⟩)]] w fun e w' => ∃ r : Int, e = .returned (.int .i64 r) ∧ (0 ≤ r ↔ allR xs s.n = false) ∧ w = w' := by
  have he : ∀ args w, (callFunc 139 args).run Try.prog w = .ok (.enter 139 args) w := fun args w => by kernel_rfl
  obtain ⟨a, c, hva⟩ := hv.len
  subst hva
  obtain ⟨n, hn⟩ : ∃ n, xs.length = n := ⟨_, rfl⟩
  rw [hn] at hv hx ⊢
  have HN := hid hn
  have HV := hid hv
  clear hn hv
  go_enter Try.func153, Try.ntmps153
  go_wp2
  go_loopw [8] (fun i wr => ∃ k : Nat, i = .int .i64 k ∧ k ≤ n ∧ (∀ i, i < k → inR (xs.getD i 0) s.n) ∧ w = wr) (fun i _ => n - (intOf i).toNat)
  case atStart => exact ⟨0, rfl, Nat.zero_le _, fun _ h => absurd h (Nat.not_lt_zero _), rfl⟩
  case round =>
    obtain ⟨k, rfl, hk, hall, rfl⟩ := hrel
    have HA := hid hall
    clear hall
    by_cases hlt : k < n
    · have hlt' : (k : Int) < (n : Int) := by omega
      have hv := HV.out
      rcases hv with ⟨h0, _⟩ | ⟨_, b, off, c', hv, hcell⟩
      · have := HN.out; rw [h0] at this; simp at this; omega
      obtain rfl : a = some ⟨b, off, none⟩ := by injection hv
      clear hv
      have hx := hcell k (by have := HN.out; omega)
      clear hcell
      obtain ⟨x, hxe⟩ : ∃ x, xs.getD k 0 = x := ⟨_, rfl⟩
      rw [hxe] at hx
      have HX := hid hxe
      clear hxe
      by_cases hi : inR x s.n
      · have HI := hid hi
        have HD := hid (decide_eq_true hi)
        clear hi
        go_wp2_with fail
        refine (lkwrong h bl hb x).mono ?_
        rw [HD.out]
        rintro e w' ⟨rfl, rfl⟩
        go_wp2_with fail
        go_roundw
        case rel =>
          refine ⟨k + 1, by go_num, by omega, fun i hi => ?_, ?_⟩
          · by_cases e : i = k
            · subst e; rw [HX.out]; exact HI.out
            · exact HA.out i (by omega)
          · first | rfl | trivial
        case measure => simp [intOf]; omega
      · have HI := hid hi
        have HD := hid (decide_eq_false hi)
        clear hi
        go_wp2_with fail
        refine (lkwrong h bl hb x).mono ?_
        rw [HD.out]
        rintro e w' ⟨rfl, rfl⟩
        go_wp2_with fail
        go_ret
        refine ⟨k, rfl, ⟨fun _ => ?_, fun _ => by omega⟩, rfl⟩
        unfold allR
        rw [Bool.eq_false_iff]
        intro ht
        have := List.all_eq_true.1 ht x (by
          have hk' : k < xs.length := by have := HN.out; omega
          rw [← HX.out, List.getD_eq_getElem?_getD, List.getElem?_eq_getElem hk', Option.getD_some]; exact List.getElem_mem _)
        simp at this; exact HI.out this
    · go_wp2_with fail
      go_ret
      refine ⟨-1, rfl, ⟨fun h => by omega, fun h => ?_⟩, rfl⟩
      exfalso
      have : allR xs s.n = true := List.all_eq_true.2 fun x hx => by
        obtain ⟨i, hi, rfl⟩ := List.getElem_of_mem hx
        have := HA.out i (by have := HN.out; omega)
        rw [List.getD_eq_getElem?_getD, List.getElem?_eq_getElem hi, Option.getD_some] at this
        simpa using this
      rw [this] at h; cases h
theorem lkcontains (h : LkAt w K s) (bl : Nat) (hb : w.cell? ⟨bl, 0, none⟩ = some (.pointer (some ⟨K.P, 0, none⟩))) (v : Value) (xs : List Int) (hv : IRow w v xs) (hx : xs.length ≤ 8) :
    Calls Try.prog 140 #[v, .func (.func 139) #[] #[.pointer (some ⟨bl, 0, none⟩)]] w fun e w' => e = .returned (.bool (!allR xs s.n)) ∧ w = w' := by
  obtain ⟨a, c, hva⟩ := hv.len
  subst hva
  have HV := hid hv
  clear hv
  go_enter Try.func140, Try.ntmps140
  go_wp2_with fail
  refine (lkindex h bl hb _ xs HV.out hx).mono ?_
  rintro e w' ⟨r, rfl, hr, rfl⟩
  have HR := hid hr
  clear hr
  go_wp2_with fail
  go_ret
  refine ⟨?_, rfl⟩
  cases ha : allR xs s.n with
  | true => have : ¬ 0 ≤ r := fun h => by have := HR.out.1 h; rw [ha] at this; cases this
            rw [show decide (0 ≤ r) = false from decide_eq_false this]; rfl
  | false => rw [show decide (0 ≤ r) = true from decide_eq_true (HR.out.2 ha)]; rfl
end
end Go.Proofs.Ytffjaaolcphonaa
/- The locks' closures, made and called; ask. -/
namespace Go.Proofs.Ytffjaaolcphonaa
open Go.RowKit
set_option linter.unusedSimpArgs false
section
variable {w : World} {K : KB} {s : LS}
theorem are_made (w : World) (l v : Value) (hl : ∃ a, l = .pointer a) (hv : ∃ a n c, v = .slice a n c) : Calls Try.prog 108 #[l, v] w fun e w' =>
    e = .returned (.func (.func 138) #[] #[.pointer (some ⟨w.heap.size, 0, none⟩), .pointer (some ⟨w.heap.size + 1, 0, none⟩)]) ∧ w' = (w.alloc (.cells #[l] 80)).alloc (.cells #[v] 28) := by
  obtain ⟨a, rfl⟩ := hl
  obtain ⟨b, n, c, rfl⟩ := hv
  go_enter Try.func108, Try.ntmps108
  go_wp2
  go_ret
  exact ⟨rfl, rfl⟩
theorem idle_made (w : World) (a : Option Addr) (t : Int) : Calls Try.prog 109 #[.pointer a, .int .i64 t] w fun e w' =>
    e = .returned (.func (.func 141) #[] #[.pointer (some ⟨w.heap.size + 1, 0, none⟩), .pointer (some ⟨w.heap.size, 0, none⟩)]) ∧ w' = (w.alloc (.cells #[.pointer a] 80)).alloc (.cells #[.int .i64 t] 3) := by
  go_enter Try.func109, Try.ntmps109
  go_wp2
  go_ret
  exact ⟨rfl, rfl⟩
theorem owns_made (w : World) (a : Option Addr) (o t : Int) (b : Bool) (e0 : Int) : Calls Try.prog 110 #[.pointer a, .int .i64 o, .int .i64 t, .bool b, .int .i64 e0] w fun e w' =>
    e = .returned (.func (.func 142) #[] #[.pointer (some ⟨w.heap.size, 0, none⟩), .pointer (some ⟨w.heap.size + 1, 0, none⟩), .pointer (some ⟨w.heap.size + 2, 0, none⟩), .pointer (some ⟨w.heap.size + 3, 0, none⟩), .pointer (some ⟨w.heap.size + 4, 0, none⟩)]) ∧
      w' = ((((w.alloc (.cells #[.pointer a] 80)).alloc (.cells #[.int .i64 o] 3)).alloc (.cells #[.int .i64 t] 3)).alloc (.cells #[.bool b] 4)).alloc (.cells #[.int .i64 e0] 26) := by
  go_enter Try.func110, Try.ntmps110
  go_wp2
  go_ret
  exact ⟨rfl, rfl⟩
theorem are_tells (h : LkAt w K s) (bl bo : Nat) (v : Value) (xs : List Int) (hv : IRow w v xs) (hx : xs.length ≤ 8) (h1 : Box w bl (.pointer (some ⟨K.P, 0, none⟩)) 80) (h2 : Box w bo v 28) :
    Calls Try.prog 138 #[.pointer (some ⟨bl, 0, none⟩), .pointer (some ⟨bo, 0, none⟩)] w (Two (allR xs s.n) 8 w) := by
  have c1 := h1.c
  have c2 := h2.c
  obtain ⟨a, c, hva⟩ := hv.len
  subst hva
  have HV := hid hv
  have HB := hid c1
  clear hv
  go_enter Try.func138, Try.ntmps138
  go_wp2_with fail
  refine (lkcontains h bl HB.out _ xs HV.out hx).mono ?_
  rintro e w' ⟨rfl, rfl⟩
  go_wp2_with fail
  go_ret2
  exact ⟨by simp, Fr.refl _ _⟩
def idleR (s : LS) (t : Int) : Bool × Int := if inR t s.T then (decide (whI s.T s.L t < 0), 5) else (false, 8)
set_option maxHeartbeats 1000000 in
theorem idle_tells (h : LkAt w K s) (bl bt : Nat) (t : Int) (h1 : Box w bl (.pointer (some ⟨K.P, 0, none⟩)) 80) (h2 : Box w bt (.int .i64 t) 3) :
    Calls Try.prog 141 #[.pointer (some ⟨bt, 0, none⟩), .pointer (some ⟨bl, 0, none⟩)] w (Two (idleR s t).1 (idleR s t).2 w) := by
  have c1 := h1.c
  have c2 := h2.c
  have F1 := h.f1
  have F2 := h.f2
  by_cases ht : inR t s.T
  · have HI : Hid (idleR s t = (decide (whI s.T s.L t < 0), 5)) := by unfold idleR; rw [if_pos ht]; exact rfl
    obtain ⟨t0, t1⟩ := ht
    have d1 : decide (t < 0) = false := decide_eq_false (by omega)
    have d2 : decide ((s.T : Int) ≤ t) = false := decide_eq_false (by omega)
    rw [HI.out]
    go_enter Try.func141, Try.ntmps141
    go_wp2_with fail
    go_quiet (fail)
    go_wp2_with fail
    refine wp_abs (fun W => Still w W) ((Fr.refl _ _).drewN _) ?_
    intro W hs
    replace c1 := Still.cell hs c1
    replace c2 := Still.cell hs c2
    replace F2 := Still.cell hs F2
    have hW := (h.still hs).hl
    go_quiet ((go_at_call 29; exact Calls.quiet_of_same (calls_flip (where_ls (hW.still ((Fr.refl _ _).drewN _)) _))))
    go_wp2_with fail
    go_ret2
    exact ⟨by simp, hs.drewN _⟩
  · have HI : Hid (idleR s t = (false, 8)) := by unfold idleR; rw [if_neg ht]; exact rfl
    rw [HI.out]
    by_cases t0 : t < 0
    · have d1 : decide (t < 0) = true := decide_eq_true (by omega)
      clear ht
      go_enter Try.func141, Try.ntmps141
      go_wp2_with fail
      go_quiet (fail)
      go_wp2_with fail
      go_ret2
      exact ⟨by simp, (Fr.refl _ _).drewN _⟩
    · have t1 : (s.T : Int) ≤ t := by have := inR_no ht; omega
      have d1 : decide (t < 0) = false := decide_eq_false (by omega)
      have d2 : decide ((s.T : Int) ≤ t) = true := decide_eq_true (by omega)
      clear ht
      go_enter Try.func141, Try.ntmps141
      go_wp2_with fail
      go_quiet (fail)
      go_wp2_with fail
      go_ret2
      exact ⟨by simp, (Fr.refl _ _).drewN _⟩
theorem owns_tells (h : LkAt w K s) (b0 b1 b2 b3 b4 : Nat) (o : Nat) (t : Int) (b : Bool) (e0 : Int) (ho : o < s.n) (h0 : Box w b0 (.pointer (some ⟨K.P, 0, none⟩)) 80) (h1 : Box w b1 (.int .i64 o) 3) (h2 : Box w b2 (.int .i64 t) 3) (h3 : Box w b3 (.bool b) 4) (h4 : Box w b4 (.int .i64 e0) 26) :
    Calls Try.prog 142 #[.pointer (some ⟨b0, 0, none⟩), .pointer (some ⟨b1, 0, none⟩), .pointer (some ⟨b2, 0, none⟩), .pointer (some ⟨b3, 0, none⟩), .pointer (some ⟨b4, 0, none⟩)] w (Two ((s.ow.getD o 0 == t) == b) e0 w) := by
  have c0 := h0.c
  have c1 := h1.c
  have c2 := h2.c
  have c3 := h3.c
  have c4 := h4.c
  have F0 := h.f0
  have C : w.cell? ⟨K.O, o, none⟩ = some (.int .i64 (s.ow.getD o 0)) := h.ho.cell (by rw [h.lo]; exact ho)
  have hi : (o : Int) < (s.n : Int) := by omega
  go_enter Try.func142, Try.ntmps142
  go_wp2_with fail
  go_quiet (fail)
  go_wp2_with fail
  go_ret2
  exact ⟨by simp, (Fr.refl _ _).drewN _⟩
end
end Go.Proofs.Ytffjaaolcphonaa
/- The locks' ask, with what it is asked. -/
namespace Go.Proofs.Ytffjaaolcphonaa
open Go.RowKit

def askE : List (Bool × Int) → Int
  | [] => 0
  | (false, e) :: _ => e
  | (true, _) :: rest => askE rest
theorem askE_skip (res : List (Bool × Int)) (k : Nat) (h : ∀ i, i < k → (res.getD i (true, 0)).1 = true) : askE res = askE (res.drop k) := by
  induction k generalizing res with
  | zero => rfl
  | succ k ih =>
    match res with
    | [] => simp
    | (b, e) :: rest =>
      have h0 := h 0 (by omega)
      simp at h0; subst h0
      simp only [askE, List.drop_succ_cons]
      exact ih rest fun i hi => by simpa using h (i + 1) (by omega)
set_option maxRecDepth 100000 in
set_option maxHeartbeats 400000 in
theorem ask_any (w : World) (K : KB) (s : LS) (h : LkAt w K s) (bs : Nat) (T : TypeId) (fs : List (Nat × Array Value)) (res : List (Bool × Int))
    (hb : Blk w bs (fs.map fun f => .func (.func f.1) #[] f.2) T) (hr : res.length = fs.length) (hn : fs.length ≤ 8)
    (he : ∀ j, j < fs.length → ∀ args w, (callFunc (fs.getD j (0, #[])).1 args).run Try.prog w = .ok (.enter (fs.getD j (0, #[])).1 args) w)
    (hf : ∀ j, j < fs.length → (∀ i, i < j → (res.getD i (true, 0)).1 = true) → ∀ w1, Still w w1 → Calls Try.prog (fs.getD j (0, #[])).1 (fs.getD j (0, #[])).2 w1 (Two (res.getD j (true, 0)).1 (res.getD j (true, 0)).2 w1)) :
    Calls Try.prog 107 #[.pointer (some ⟨K.P, 0, none⟩), .slice (some ⟨bs, 0, none⟩) fs.length fs.length] w fun e w' => e = .returned (.int .i64 (askE res)) ∧ Still w w' := by
  have HF := hid hf
  have HE := hid he
  have HR := hid hr
  clear hf hr he
  obtain ⟨n, hn'⟩ : ∃ n, n = fs.length := ⟨_, rfl⟩
  rw [← hn']
  rw [← hn'] at hn
  have HN := hid hn'
  clear hn'
  go_enter Try.func107, Try.ntmps107
  go_wp2_with (go_at_call 130; refine (lkmade h).mono ?_; rintro e w' ⟨rfl, rfl⟩)
  go_loopw [14] (fun i wr => ∃ k : Nat, i = .int .i64 k ∧ k ≤ n ∧ (∀ i, i < k → (res.getD i (true, 0)).1 = true) ∧ Still w wr) (fun i _ => n - (intOf i).toNat)
  case atStart => exact ⟨0, rfl, Nat.zero_le _, fun _ h => absurd h (Nat.not_lt_zero _), Still.refl _⟩
  case round =>
    obtain ⟨k, rfl, hk, hres, hst⟩ := hrel
    have HRES := hid hres
    clear hres
    by_cases hlt : k < n
    · have hlt' : (k : Int) < (n : Int) := by omega
      have C : wr.cell? ⟨bs, k, none⟩ = some (.func (.func (fs.getD k (0, #[])).1) #[] (fs.getD k (0, #[])).2) := by
        rw [Blk.cell (hb.still hst)]; have := HN.out; simp [show k < fs.length by omega]
      obtain ⟨fn, hfn⟩ : ∃ fn, fn = fs.getD k (0, #[]) := ⟨_, rfl⟩
      have HC := HF.out k (by have := HN.out; omega) HRES.out wr hst
      have EN := HE.out k (by have := HN.out; omega)
      rw [← hfn] at C HC EN
      clear hfn
      obtain ⟨f1, f2⟩ := fn
      obtain ⟨re, hre⟩ : ∃ re, re = res.getD k (true, 0) := ⟨_, rfl⟩
      rw [← hre] at HC
      have HRE := hid hre
      clear hre
      have HC' := hid HC
      clear HC
      obtain ⟨b, ev⟩ := re
      go_wp2_with fail
      refine (HC'.out).mono ?_
      rintro e w2 ⟨rfl, hst2⟩
      cases b with
      | false =>
        go_wp2_with fail
        go_ret
        refine ⟨?_, hst.trans hst2⟩
        have e1 : askE res = ev := by
          rw [askE_skip res k HRES.out, List.drop_eq_getElem_cons (by have := HN.out; have := HR.out; omega)]
          have e2 : res[k]'(by have := HN.out; have := HR.out; omega) = (false, ev) := by rw [HRE.out]; simp [List.getD, show k < res.length by have := HN.out; have := HR.out; omega]
          rw [e2]; rfl
        rw [e1]; rfl
      | true =>
        go_wp2_with fail
        go_roundw
        case rel => exact ⟨k + 1, by go_num, by omega, fun i hi => by rcases Nat.lt_succ_iff_lt_or_eq.1 hi with hi | rfl; exact HRES.out i hi; rw [← HRE.out], hst.trans hst2⟩
        case measure => simp [intOf]; omega
    · go_wp2_with fail
      go_ret
      refine ⟨?_, hst⟩
      rw [askE_skip res k HRES.out, List.drop_eq_nil_of_le (by have := HN.out; have := HR.out; omega)]
      rfl

/-- Blocks made one behind the other. -/
def allocs (w : World) (l : List Obj) : World := l.foldl World.alloc w
theorem allocs_heap (l : List Obj) : ∀ w : World, (allocs w l).heap = w.heap ++ l.toArray := by
  induction l with
  | nil => intro w; simp [allocs]
  | cons o l ih =>
    intro w
    show (allocs (w.alloc o) l).heap = _
    rw [ih]
    show w.heap.push o ++ l.toArray = _
    apply Array.ext'
    simp
theorem allocs_at (w : World) (l : List Obj) {k : Nat} {o : Obj} (h : l[k]? = some o) : (allocs w l).heap[w.heap.size + k]? = some o := by
  rw [allocs_heap, Array.getElem?_append_right (by omega)]; simpa using h
theorem allocs_still (l : List Obj) : ∀ w : World, Still w (allocs w l) := by
  induction l with
  | nil => intro w; exact Fr.refl _ _
  | cons o l ih => intro w; exact ((Fr.refl _ w).alloc o).trans (ih (w.alloc o))
/-- What is made for three steps. -/
def ask3L (z P : Nat) (xs : List Int) (o t : Int) (b : Bool) (e0 : Int) : List Obj :=
  [.cells (ints xs).toArray 3, .cells #[.pointer (some ⟨P, 0, none⟩)] 80, .cells #[.slice (some ⟨z, 0, none⟩) xs.length xs.length] 28, .cells #[.pointer (some ⟨P, 0, none⟩)] 80, .cells #[.int .i64 t] 3,
   .cells #[.pointer (some ⟨P, 0, none⟩)] 80, .cells #[.int .i64 o] 3, .cells #[.int .i64 t] 3, .cells #[.bool b] 4, .cells #[.int .i64 e0] 26,
   .cells #[.func (.func 138) #[] #[.pointer (some ⟨z + 1, 0, none⟩), .pointer (some ⟨z + 2, 0, none⟩)], .func (.func 141) #[] #[.pointer (some ⟨z + 4, 0, none⟩), .pointer (some ⟨z + 3, 0, none⟩)],
      .func (.func 142) #[] #[.pointer (some ⟨z + 5, 0, none⟩), .pointer (some ⟨z + 6, 0, none⟩), .pointer (some ⟨z + 7, 0, none⟩), .pointer (some ⟨z + 8, 0, none⟩), .pointer (some ⟨z + 9, 0, none⟩)]] 123]
def ask1L (z P : Nat) (xs : List Int) : List Obj :=
  [.cells (ints xs).toArray 3, .cells #[.pointer (some ⟨P, 0, none⟩)] 80, .cells #[.slice (some ⟨z, 0, none⟩) xs.length xs.length] 28, .cells #[.func (.func 138) #[] #[.pointer (some ⟨z + 1, 0, none⟩), .pointer (some ⟨z + 2, 0, none⟩)]] 123]
theorem ask3 {w : World} {K : KB} {s : LS} (h : LkAt w K s) (xs : List Int) (o t : Int) (b : Bool) (e0 : Int) (hx : xs.length ≤ 8) (h0 : 0 < xs.length) (hox : o ∈ xs) :
    Calls Try.prog 107 #[.pointer (some ⟨K.P, 0, none⟩), .slice (some ⟨w.heap.size + 10, 0, none⟩) 3 3] (allocs w (ask3L w.heap.size K.P xs o t b e0)) fun e w' =>
      e = .returned (.int .i64 (askE [(allR xs s.n, 8), idleR s t, ((s.ow.getD o.toNat 0 == t) == b, e0)])) ∧ Still w w' := by
  have hs := allocs_still (ask3L w.heap.size K.P xs o t b e0) w
  have at_ := fun k o' (h : (ask3L w.heap.size K.P xs o t b e0)[k]? = some o') => allocs_at w (ask3L w.heap.size K.P xs o t b e0) h
  have x0 : Blk (allocs w (ask3L w.heap.size K.P xs o t b e0)) (w.heap.size + 0) (xs.map (Value.int .i64)) 3 := at_ 0 _ rfl
  have x1 : Box (allocs w (ask3L w.heap.size K.P xs o t b e0)) (w.heap.size + 1) (.pointer (some ⟨K.P, 0, none⟩)) 80 := at_ 1 _ rfl
  have x2 : Box (allocs w (ask3L w.heap.size K.P xs o t b e0)) (w.heap.size + 2) (.slice (some ⟨w.heap.size, 0, none⟩) xs.length xs.length) 28 := at_ 2 _ rfl
  have x3 : Box (allocs w (ask3L w.heap.size K.P xs o t b e0)) (w.heap.size + 3) (.pointer (some ⟨K.P, 0, none⟩)) 80 := at_ 3 _ rfl
  have x4 : Box (allocs w (ask3L w.heap.size K.P xs o t b e0)) (w.heap.size + 4) (.int .i64 t) 3 := at_ 4 _ rfl
  have x5 : Box (allocs w (ask3L w.heap.size K.P xs o t b e0)) (w.heap.size + 5) (.pointer (some ⟨K.P, 0, none⟩)) 80 := at_ 5 _ rfl
  have x6 : Box (allocs w (ask3L w.heap.size K.P xs o t b e0)) (w.heap.size + 6) (.int .i64 o) 3 := at_ 6 _ rfl
  have x7 : Box (allocs w (ask3L w.heap.size K.P xs o t b e0)) (w.heap.size + 7) (.int .i64 t) 3 := at_ 7 _ rfl
  have x8 : Box (allocs w (ask3L w.heap.size K.P xs o t b e0)) (w.heap.size + 8) (.bool b) 4 := at_ 8 _ rfl
  have x9 : Box (allocs w (ask3L w.heap.size K.P xs o t b e0)) (w.heap.size + 9) (.int .i64 e0) 26 := at_ 9 _ rfl
  have x10 : Blk (allocs w (ask3L w.heap.size K.P xs o t b e0)) (w.heap.size + 10) ([(138, #[.pointer (some ⟨w.heap.size + 1, 0, none⟩), .pointer (some ⟨w.heap.size + 2, 0, none⟩)]), (141, #[.pointer (some ⟨w.heap.size + 4, 0, none⟩), .pointer (some ⟨w.heap.size + 3, 0, none⟩)]),
      (142, #[.pointer (some ⟨w.heap.size + 5, 0, none⟩), .pointer (some ⟨w.heap.size + 6, 0, none⟩), .pointer (some ⟨w.heap.size + 7, 0, none⟩), .pointer (some ⟨w.heap.size + 8, 0, none⟩), .pointer (some ⟨w.heap.size + 9, 0, none⟩)])].map fun f : Nat × Array Value => .func (.func f.1) #[] f.2) 123 := at_ 10 _ rfl
  clear at_
  generalize allocs w (ask3L w.heap.size K.P xs o t b e0) = W at *
  generalize w.heap.size = z at *
  have hW := h.still hs
  refine (ask_any W K s hW (z + 10) 123 [(138, _), (141, _), (142, _)] [(allR xs s.n, 8), idleR s t, ((s.ow.getD o.toNat 0 == t) == b, e0)] x10 rfl (by simp) (fun j hj args w => ?_) (fun j hj hr w1 hs1 => ?_)).mono fun e w' ⟨h1, h2⟩ => ⟨h1, hs.trans h2⟩
  · match j, hj with
    | 0, _ => exact (show _ = _ by kernel_rfl)
    | 1, _ => exact (show _ = _ by kernel_rfl)
    | 2, _ => exact (show _ = _ by kernel_rfl)
  · match j, hj with
    | 0, _ => exact are_tells (hW.still hs1) _ _ _ xs (IRow.still (IRow.of_blk x0 h0) hs1) hx (x1.still hs1) (x2.still hs1)
    | 1, _ => exact idle_tells (hW.still hs1) _ _ t (x3.still hs1) (x4.still hs1)
    | 2, _ =>
      have h1 : allR xs s.n = true := hr 0 (by omega)
      have h2 : inR o s.n := by simpa using List.all_eq_true.1 h1 o hox
      obtain ⟨o', rfl⟩ := Int.eq_ofNat_of_zero_le h2.1
      exact owns_tells (hW.still hs1) _ _ _ _ _ o' t b e0 (by have := h2.2; omega) (x5.still hs1) (x6.still hs1) (x7.still hs1) (x8.still hs1) (x9.still hs1)
theorem ask1 {w : World} {K : KB} {s : LS} (h : LkAt w K s) (xs : List Int) (hx : xs.length ≤ 8) (h0 : 0 < xs.length) :
    Calls Try.prog 107 #[.pointer (some ⟨K.P, 0, none⟩), .slice (some ⟨w.heap.size + 3, 0, none⟩) 1 1] (allocs w (ask1L w.heap.size K.P xs)) fun e w' =>
      e = .returned (.int .i64 (if allR xs s.n then 0 else 8)) ∧ Still w w' := by
  have hs := allocs_still (ask1L w.heap.size K.P xs) w
  have at_ := fun k o' (h : (ask1L w.heap.size K.P xs)[k]? = some o') => allocs_at w (ask1L w.heap.size K.P xs) h
  have x0 : Blk (allocs w (ask1L w.heap.size K.P xs)) (w.heap.size + 0) (xs.map (Value.int .i64)) 3 := at_ 0 _ rfl
  have x1 : Box (allocs w (ask1L w.heap.size K.P xs)) (w.heap.size + 1) (.pointer (some ⟨K.P, 0, none⟩)) 80 := at_ 1 _ rfl
  have x2 : Box (allocs w (ask1L w.heap.size K.P xs)) (w.heap.size + 2) (.slice (some ⟨w.heap.size, 0, none⟩) xs.length xs.length) 28 := at_ 2 _ rfl
  have x3 : Blk (allocs w (ask1L w.heap.size K.P xs)) (w.heap.size + 3) ([(138, #[.pointer (some ⟨w.heap.size + 1, 0, none⟩), .pointer (some ⟨w.heap.size + 2, 0, none⟩)])].map fun f : Nat × Array Value => .func (.func f.1) #[] f.2) 123 := at_ 3 _ rfl
  clear at_
  generalize allocs w (ask1L w.heap.size K.P xs) = W at *
  generalize w.heap.size = z at *
  have hW := h.still hs
  refine (ask_any W K s hW (z + 3) 123 [(138, _)] [(allR xs s.n, 8)] x3 rfl (by simp) (fun j hj args w => ?_) (fun j hj hr w1 hs1 => ?_)).mono fun e w' ⟨h1, h2⟩ => ⟨?_, hs.trans h2⟩
  · match j, hj with
    | 0, _ => exact (show _ = _ by kernel_rfl)
  · match j, hj with
    | 0, _ => exact are_tells (hW.still hs1) _ _ _ xs (IRow.still (IRow.of_blk x0 h0) hs1) hx (x1.still hs1) (x2.still hs1)
  · rw [h1]; cases allR xs s.n <;> rfl
end Go.Proofs.Ytffjaaolcphonaa
/- The locks: get, pass, Lock, Unlock, Owner. -/
namespace Go.Proofs.Ytffjaaolcphonaa
open Go.RowKit
theorem gl_set_self' (L : List (List Nat)) (i : Nat) (l : List Nat) (h : i < L.length) : gl (L.set i l) i = l := by simp [gl, h]
theorem gl_set_ne' (L : List (List Nat)) {i j : Nat} (l : List Nat) (h : i ≠ j) : gl (L.set i l) j = gl L j := by simp [gl, h]
section
variable {w : World} {K : KB} {s : LS}
theorem LkAt.zO (h : LkAt w K s) (i : Nat) : w.frozen? ⟨K.O, i, none⟩ = false := IBlk.frozen h.ho i
theorem LkAt.zA (h : LkAt w K s) (i : Nat) : w.frozen? ⟨K.A, i, none⟩ = false := IBlk.frozen h.ha i
theorem LkAt.cO (h : LkAt w K s) {i : Nat} (hi : i < s.n) : w.cell? ⟨K.O, i, none⟩ = some (.int .i64 (s.ow.getD i 0)) := h.ho.cell (by rw [h.lo]; exact hi)
theorem LkAt.cA (h : LkAt w K s) {i : Nat} (hi : i < s.T) : w.cell? ⟨K.A, i, none⟩ = some (.int .i64 (s.ag.getD i 0)) := h.ha.cell (by rw [h.la]; exact hi)
theorem LkAt.setO (h : LkAt w K s) (i : Nat) (v : Int) : LkAt (w.setCell ⟨K.O, i, none⟩ (.int .i64 v)) K { s with ow := s.ow.set i v } :=
  { h with hp := h.hp.other (p := ⟨K.O, i, none⟩) h.PO _, ho := h.ho.put i v, ha := IBlk.other h.ha (p := ⟨K.O, i, none⟩) h.OA.symm _,
           hl := h.hl.fr (F := fun k => k = K.O) ((Fr.refl (fun k => k = K.O) w).setCell (p := ⟨K.O, i, none⟩) (.inl rfl) _) (fun k hk e => by subst e; exact h.dO hk), lo := by simpa using h.lo }
theorem LkAt.setA (h : LkAt w K s) (i : Nat) (v : Int) (hv : inR v s.n) : LkAt (w.setCell ⟨K.A, i, none⟩ (.int .i64 v)) K { s with ag := s.ag.set i v } :=
  { h with hp := h.hp.other (p := ⟨K.A, i, none⟩) h.PA _, ha := h.ha.put i v, ho := IBlk.other h.ho (p := ⟨K.A, i, none⟩) h.OA _,
           hl := h.hl.fr (F := fun k => k = K.A) ((Fr.refl (fun k => k = K.A) w).setCell (p := ⟨K.A, i, none⟩) (.inl rfl) _) (fun k hk e => by subst e; exact h.dA hk), la := by simpa using h.la,
           wf := fun t ht => by
             have := h.wf t ht
             by_cases e : i = t
             · subst e
               by_cases hi : i < s.ag.length
               · simpa [List.getD, hi] using hv
               · rw [List.set_eq_of_length_le (by omega)]; exact this
             · simpa [List.getD, e] using this }
theorem LkAt.setL {w' : World} {L' : List (List Nat)} (h : LkAt w K s) (hl : LsAt w' K.B s.T L') (hf : Fr K.B.foot w w') (hn : L'.length = s.L.length) : LkAt w' K { s with L := L' } :=
  { h with hp := h.hp.fr hf h.dP, ho := IBlk.fr h.ho hf h.dO, ha := IBlk.fr h.ha hf h.dA, hl := hl, ll := hn.trans h.ll }
theorem popL_len (L : List (List Nat)) (i : Int) : (popL L i).length = L.length := by unfold popL; split <;> simp
theorem pushL_len' (T : Nat) (L : List (List Nat)) (i t : Int) : (pushL T L i t).length = L.length := by unfold pushL; split <;> simp
theorem remL_len (T : Nat) (L : List (List Nat)) (t : Int) : (remL T L t).length = L.length := by unfold remL; split <;> simp
/-- What stands in a list behind a pop stood there before. -/
theorem popL_mem {L : List (List Nat)} {i : Int} {j t : Nat} (h : t ∈ gl (popL L i) j) : t ∈ gl L j := by
  unfold popL at h
  split at h
  · by_cases e : i.toNat = j
    · subst e
      by_cases hl : i.toNat < L.length
      · rw [gl_set_self' _ _ _ hl] at h; exact List.mem_of_mem_tail h
      · rw [List.set_eq_of_length_le (by omega)] at h; exact h
    · rw [gl_set_ne' _ _ e] at h; exact h
  · exact h
theorem remL_mem {T : Nat} {L : List (List Nat)} {t : Int} {j x : Nat} (h : x ∈ gl (remL T L t) j) : x ∈ gl L j := by
  unfold remL at h
  split at h
  · by_cases e : (wh L t.toNat).toNat = j
    · subst e
      by_cases hl : (wh L t.toNat).toNat < L.length
      · rw [gl_set_self' _ _ _ hl] at h; exact List.mem_of_mem_erase h
      · rw [List.set_eq_of_length_le (by omega)] at h; exact h
    · rw [gl_set_ne' _ _ e] at h; exact h
  · exact h
theorem pushL_mem {T : Nat} {L : List (List Nat)} {i t : Int} {j x : Nat} (h : x ∈ gl (pushL T L i t) j) : x ∈ gl L j ∨ (i.toNat = j ∧ x = t.toNat ∧ pushE T L i t = 0) := by
  unfold pushL at h
  split at h
  · rename_i h0
    by_cases e : i.toNat = j
    · subst e
      by_cases hl : i.toNat < L.length
      · rw [gl_set_self' _ _ _ hl] at h
        rcases List.mem_append.1 h with h | h
        · exact .inl h
        · exact .inr ⟨rfl, by simpa using h, h0⟩
      · rw [List.set_eq_of_length_le (by omega)] at h; exact .inl h
    · rw [gl_set_ne' _ _ e] at h; exact .inl h
  · exact .inl h

/-- A thread has a lock, or stands behind those that wait for it. -/
def getS (s : LS) (o : Nat) (t : Int) : LS := if s.ow.getD o 0 = -1 then { s with ow := s.ow.set o t } else { s with L := pushL s.T s.L o t }
def getB (s : LS) (o : Nat) : Bool := s.ow.getD o 0 == -1
theorem lkget (h : LkAt w K s) (o : Nat) (t : Int) (ho : o < s.n) : Calls Try.prog 111 #[.pointer (some ⟨K.P, 0, none⟩), .int .i64 o, .int .i64 t] w fun e w' =>
    e = .returned (.bool (getB s o)) ∧ LkAt w' K (getS s o t) ∧ Fr K.foot w w' := by
  have F0 := h.f0
  have F2 := h.f2
  have C := h.cO ho
  have Z := h.zO o
  have hi : (o : Int) < (s.n : Int) := by omega
  obtain ⟨x, hx⟩ : ∃ x, s.ow.getD o 0 = x := ⟨_, rfl⟩
  rw [hx] at C
  have HX := hid hx
  clear hx
  by_cases h0 : x = -1
  · subst h0
    have HB : Hid (getB s o = true) := by unfold getB; rw [HX.out]; exact rfl
    have HS : Hid (getS s o t = { s with ow := s.ow.set o t }) := by unfold getS; rw [if_pos HX.out]; exact rfl
    rw [HB.out, HS.out]
    go_enter Try.func111, Try.ntmps111
    go_wp2
    go_ret
    exact ⟨rfl, h.setO o t, (Fr.refl K.foot w).setCell (p := ⟨K.O, o, none⟩) (.inl (.inl rfl)) _⟩
  · have hd : (x == -1) = false := by simpa using h0
    have HB : Hid (getB s o = false) := by unfold getB; rw [HX.out, hd]; exact rfl
    have HS : Hid (getS s o t = { s with L := pushL s.T s.L o t }) := by unfold getS; rw [if_neg (by rw [HX.out]; exact h0)]; exact rfl
    rw [HB.out, HS.out]
    clear h0
    go_enter Try.func111, Try.ntmps111
    go_wp2_with fail
    refine (push_ls h.hl o t).mono ?_
    rintro e w' ⟨rfl, hl, hf⟩
    go_wp2_with fail
    go_ret
    exact ⟨rfl, h.setL hl hf (pushL_len' _ _ _ _), hf.mono fun _ _ h => .inr (.inr h)⟩
/-- A lock goes to who waits first. -/
def passT (s : LS) (o : Nat) : Int := if gl s.L o = [] then -1 else (((gl s.L o).head?.getD 0 : Nat) : Int)
def passS (s : LS) (o : Nat) : LS := { s with ow := s.ow.set o (passT s o), L := popL s.L o }
theorem lkpass (h : LkAt w K s) (o : Nat) (ho : o < s.n) : Calls Try.prog 112 #[.pointer (some ⟨K.P, 0, none⟩), .int .i64 o] w fun e w' =>
    e = .returned (.int .i64 (passT s o)) ∧ LkAt w' K (passS s o) ∧ Fr K.foot w w' := by
  have F0 := h.f0
  have F2 := h.f2
  have hi : (o : Int) < (s.n : Int) := by omega
  have hoL : inR (o : Int) s.L.length := ⟨by omega, by rw [h.ll]; omega⟩
  have hfin : ∀ w1 (v : Int), LsAt w1 K.B s.T (popL s.L o) → Fr K.B.foot w w1 → v = passT s o → LkAt (w1.setCell ⟨K.O, o, none⟩ (.int .i64 v)) K (passS s o) ∧ Fr K.foot w (w1.setCell ⟨K.O, o, none⟩ (.int .i64 v)) := fun w1 v hl hf hv => by
    subst hv
    have h1 := h.setL hl hf (popL_len _ _)
    exact ⟨h1.setO o _, (hf.mono fun _ _ h => .inr (.inr h)).setCell (p := ⟨K.O, o, none⟩) (.inl (.inl rfl)) _⟩
  have hst : ∀ w1, LsAt w1 K.B s.T (popL s.L o) → Fr K.B.foot w w1 → LkAt w1 K { s with L := popL s.L o } := fun w1 hl hf => h.setL hl hf (popL_len _ _)
  have HF := hid hfin
  have HS := hid hst
  clear hfin hst
  by_cases h0 : gl s.L o = []
  · have HP : Hid (popE' s.L o = 4) := by unfold popE'; rw [if_pos hoL, Int.toNat_natCast, if_pos h0]; exact rfl
    have HT : Hid (passT s o = -1) := by unfold passT; rw [if_pos h0]; exact rfl
    clear h0 hoL
    go_enter Try.func112, Try.ntmps112
    go_wp2_with fail
    refine (pop_ls h.hl o).mono ?_
    rw [HP.out]
    rintro e w1 ⟨rfl, hl, hf⟩
    have h1 := HS.out w1 hl hf
    have G0 := h1.f0
    have G2 := h1.cO ho
    have Z := h1.zO o
    go_wp2_with fail
    go_ret
    exact ⟨by rw [HT.out]; rfl, HF.out w1 _ hl hf HT.out.symm⟩
  · have HP : Hid (popE' s.L o = 0) := by unfold popE'; rw [if_pos hoL, Int.toNat_natCast, if_neg h0]; exact rfl
    have HT : Hid (passT s o = popT s.L o) := by unfold passT popT; rw [if_neg h0, if_pos hoL, Int.toNat_natCast]; exact rfl
    clear h0 hoL
    go_enter Try.func112, Try.ntmps112
    go_wp2_with fail
    refine (pop_ls h.hl o).mono ?_
    rw [HP.out]
    rintro e w1 ⟨rfl, hl, hf⟩
    have h1 := HS.out w1 hl hf
    have G0 := h1.f0
    have G2 := h1.cO ho
    have Z := h1.zO o
    go_wp2_with fail
    go_ret
    exact ⟨by rw [HT.out]; rfl, HF.out w1 _ hl hf HT.out.symm⟩
end
end Go.Proofs.Ytffjaaolcphonaa
/- The locks: Lock, Unlock, Owner. -/
namespace Go.Proofs.Ytffjaaolcphonaa
open Go.RowKit
section
variable {w : World} {K : KB} {s : LS}
theorem askE_zero {l : List (Bool × Int)} (h : askE l = 0) (hz : ∀ p ∈ l, p.1 = false → p.2 ≠ 0) : ∀ p ∈ l, p.1 = true := by
  induction l with
  | nil => simp
  | cons p l ih =>
    obtain ⟨b, e⟩ := p
    cases b with
    | false => exact absurd h (hz (false, e) (by simp) rfl)
    | true =>
      intro q hq
      rcases List.mem_cons.1 hq with rfl | hq
      · rfl
      · exact ih h (fun p hp => hz p (by simp [hp])) q hq
def lockE (s : LS) (o t : Int) : Int := askE [(allR [o] s.n, 8), idleR s t, ((s.ow.getD o.toNat 0 == t) == false, 5)]
def lockB (s : LS) (o t : Int) : Bool := if lockE s o t = 0 then getB s o.toNat else false
def lockS (s : LS) (o t : Int) : LS := if lockE s o t = 0 then getS s o.toNat t else s
theorem idleR_e {s : LS} {t : Int} : (idleR s t).2 ≠ 0 := by unfold idleR; split <;> simp
theorem ask3_ok {n : Nat} {s : LS} {xs : List Int} {t : Int} {b : Bool} {e0 : Int} (he0 : e0 ≠ 0) (h : askE [(allR xs n, 8), idleR s t, (b, e0)] = 0) : allR xs n = true ∧ inR t s.T ∧ whI s.T s.L t < 0 ∧ b = true := by
  have := askE_zero h (fun p hp _ => by
    simp at hp
    rcases hp with rfl | rfl | rfl
    · simp
    · exact idleR_e
    · exact he0)
  have h1 := this (allR xs n, 8) (by simp)
  have h2 := this (idleR s t) (by simp)
  have h3 := this (b, e0) (by simp)
  simp at h1 h3
  have h2' : inR t s.T ∧ whI s.T s.L t < 0 := by
    unfold idleR at h2
    split at h2
    · rename_i ht; exact ⟨ht, by simpa using h2⟩
    · simp at h2
  exact ⟨h1, h2'.1, h2'.2, h3⟩
theorem lockE_ok {s : LS} {o t : Int} (h : lockE s o t = 0) : inR o s.n ∧ inR t s.T ∧ whI s.T s.L t < 0 ∧ s.ow.getD o.toNat 0 ≠ t := by
  obtain ⟨h1, h2, h3, h4⟩ := ask3_ok (by omega) h
  exact ⟨by simpa [allR] using h1, h2, h3, by simpa using h4⟩
set_option maxRecDepth 100000 in
set_option maxHeartbeats 1000000 in
theorem lklock (h : LkAt w K s) (o t : Int) : Calls Try.prog 54 #[.pointer (some ⟨K.P, 0, none⟩), .int .i64 o, .int .i64 t] w fun e w' =>
    e = .returned (.tuple #[.bool (lockB s o t), .int .i64 (lockE s o t)]) ∧ LkAt w' K (lockS s o t) ∧ Fr K.foot w w' := by
  by_cases h0 : lockE s o t = 0
  · obtain ⟨ho, _, _, _⟩ := lockE_ok h0
    have HB : Hid (lockB s o t = getB s o.toNat) := by unfold lockB; rw [if_pos h0]; exact rfl
    have HS : Hid (lockS s o t = getS s o.toNat t) := by unfold lockS; rw [if_pos h0]; exact rfl
    rw [HB.out, HS.out, h0]
    have A3 := ask3 h [o] o t false 5 (by simp) (by simp) (by simp)
    rw [show askE [(allR [o] s.n, 8), idleR s t, ((s.ow.getD o.toNat 0 == t) == false, 5)] = 0 from h0] at A3
    obtain ⟨o, rfl⟩ := Int.eq_ofNat_of_zero_le ho.1
    have ho' : o < s.n := by have := ho.2; omega
    rw [Int.toNat_natCast] at HB HS ⊢
    have HA := hid A3
    clear h0 ho A3
    go_enter Try.func54, Try.ntmps54
    go_wp2_with (first
      | (go_at_call 108; refine (are_made _ _ _ ⟨_, rfl⟩ ⟨_, _, _, rfl⟩).mono ?_; rintro e w' ⟨rfl, rfl⟩)
      | (go_at_call 109; refine (idle_made _ _ _).mono ?_; rintro e w' ⟨rfl, rfl⟩)
      | (go_at_call 110; refine (owns_made _ _ _ _ _ _).mono ?_; rintro e w' ⟨rfl, rfl⟩)
      | (go_at_call 107; refine HA.out.mono ?_; rintro e w1 ⟨rfl, hs1⟩; have h1 := h.still hs1)
      | (go_at_call 111; refine (lkget h1 o t ho').mono ?_; rintro e w2 ⟨rfl, h2, f2⟩))
    go_ret2
    exact ⟨rfl, h2, (hs1.fr _).trans f2⟩
  · have HB : Hid (lockB s o t = false) := by unfold lockB; rw [if_neg h0]; exact rfl
    have HS : Hid (lockS s o t = s) := by unfold lockS; rw [if_neg h0]; exact rfl
    rw [HB.out, HS.out]
    have A3 := ask3 h [o] o t false 5 (by simp) (by simp) (by simp)
    obtain ⟨z, hz⟩ : ∃ z, lockE s o t = z := ⟨_, rfl⟩
    rw [show askE [(allR [o] s.n, 8), idleR s t, ((s.ow.getD o.toNat 0 == t) == false, 5)] = z from hz] at A3
    rw [hz] at h0 ⊢
    have HA := hid A3
    clear A3 hz
    go_enter Try.func54, Try.ntmps54
    go_wp2_with (first
      | (go_at_call 108; refine (are_made _ _ _ ⟨_, rfl⟩ ⟨_, _, _, rfl⟩).mono ?_; rintro e w' ⟨rfl, rfl⟩)
      | (go_at_call 109; refine (idle_made _ _ _).mono ?_; rintro e w' ⟨rfl, rfl⟩)
      | (go_at_call 110; refine (owns_made _ _ _ _ _ _).mono ?_; rintro e w' ⟨rfl, rfl⟩)
      | (go_at_call 107; refine HA.out.mono ?_; rintro e w1 ⟨rfl, hs1⟩; have h1 := h.still hs1))
    go_ret2
    exact ⟨rfl, h1, hs1.fr _⟩
end
end Go.Proofs.Ytffjaaolcphonaa
