/- The law's act, on the locks and on the document's. -/
import Derived.Test.YtffjaaolcphonaaBdN
import Derived.Test.YtffjaaolcphonaaBdK
import Derived.Test.YtffjaaolcphonaaBdB
namespace Go.Proofs.Ytffjaaolcphonaa
open Go.RowKit
set_option linter.unusedSimpArgs false
def stepS (s : LS) (k o c t : Int) : LS :=
  if k = 0 then lockS s o t else if k = 1 then unlockS s o t else if k = 2 then waitS s c o t else if k = 3 then signalS s c else if k = 4 then castS s c else if k = 5 then (dropR s t).2 else s
theorem LInv.step {s : LS} (h : LInv s) (k o c t : Int) : LInv (stepS s k o c t) := by
  unfold stepS
  split
  · exact h.lock o t
  split
  · exact h.unlock o t
  split
  · exact h.wait c o t
  split
  · exact h.signal c
  split
  · exact h.cast c
  split
  · exact h.drop t
  · exact h
/-- The locks and the document's, apart. -/
structure Twin (w : World) (K : KB) (lo : Nat) (Q : QB) (s s' : LS) : Prop where
  l : LkAt w K s
  q : QAt w lo Q s'
  d : ∀ k, K.all k → k < lo
def KB.both (K : KB) (Q : QB) (k : Nat) : Prop := K.foot k ∨ Q.X k
section
variable {w w' : World} {K : KB} {lo : Nat} {Q : QB} {s s' t : LS}
theorem Twin.fr (h : Twin w K lo Q s s') {F : Nat → Prop} (hf : Fr F w w') (hd : ∀ k, k < w.heap.size → (K.all k ∨ lo ≤ k) → ¬ F k) : Twin w' K lo Q s s' :=
  ⟨h.l.fr hf fun k hk => hd k (h.l.lt hk) (.inl hk), h.q.fr hf fun k hk hl => hd k hl (.inr hk), h.d⟩
theorem Twin.still (h : Twin w K lo Q s s') (hf : Still w w') : Twin w' K lo Q s s' := h.fr hf fun _ _ _ h => h
theorem Twin.stepl (h : Twin w K lo Q s s') (hl : LkAt w' K t) (hf : Fr K.foot w w') : Twin w' K lo Q t s' :=
  ⟨hl, h.q.fr hf fun k hk _ hb => by have := h.d k (.inr hb); omega, h.d⟩
theorem Twin.stepq (h : Twin w K lo Q s s') (hq : QAt w' lo Q t) (hf : Fr Q.X w w') : Twin w' K lo Q s t :=
  ⟨h.l.fr hf fun k hk hb => by have := h.d k hk; have := h.q.lX k hb; omega, hq, h.d⟩
theorem two_frl (h : Fr K.foot w w') : Fr (K.both Q) w w' := h.mono fun _ _ h => .inl h
theorem two_frq (h : Fr Q.X w w') : Fr (K.both Q) w w' := h.mono fun _ _ h => .inr h
theorem Twin.lt (h : Twin w K lo Q s s') {k : Nat} (hk : K.both Q k) : k < w.heap.size := by
  rcases hk with hk | hk
  · exact h.l.lt (.inr hk)
  · by_cases e : k < w.heap.size
    · exact e
    · exact absurd (.inl hk) (h.q.newX k (by omega))
/-- The world behind the box. -/
theorem two_box (h : Twin w K lo Q s s') (k o c t : Int) : ∃ W b, W = w.alloc (.cells #[.int .i64 k, .int .i64 o, .int .i64 c, .int .i64 t] 107) ∧ b = w.heap.size ∧ Twin W K lo Q s s' ∧ ¬ K.both Q b ∧ Fr (K.both Q) w W ∧
    W.cell? ⟨b, 0, none⟩ = some (.int .i64 k) ∧ W.cell? ⟨b, 1, none⟩ = some (.int .i64 o) ∧ W.cell? ⟨b, 2, none⟩ = some (.int .i64 c) ∧ W.cell? ⟨b, 3, none⟩ = some (.int .i64 t) := by
  have e := Blk.new w [.int .i64 k, .int .i64 o, .int .i64 c, .int .i64 t] 107
  exact ⟨_, _, rfl, rfl, h.still ((Fr.refl _ _).alloc _), fun hb => by (have := h.lt hb; omega), (Fr.refl _ _).alloc _, e.cell 0, e.cell 1, e.cell 2, e.cell 3⟩
/-- A list that lies in what is new is there behind the document's step. -/
theorem row_new {W w1 w2 : World} {a : Option Addr} {cp : Nat} {xs : List Int} (h : IRow w1 (.slice a xs.length cp) xs) (hnew : 0 < xs.length → ∀ b o, a = some ⟨b, o, none⟩ → W.heap.size ≤ b) {Q : QB} (hX : ∀ k, Q.X k → k < W.heap.size) (hf : Fr Q.X w1 w2) : IRow w2 (.slice a xs.length cp) xs := by
  by_cases h0 : 0 < xs.length
  · refine h.fr hf fun b off c n e hx => ?_
    injection e with e1 _ _
    have := hnew h0 b off e1
    have := hX b hx
    omega
  · have : xs = [] := List.eq_nil_of_length_eq_zero (by omega)
    subst this
    exact .inl ⟨rfl, _, _, rfl⟩
def TwoPost (K : KB) (lo : Nat) (Q : QB) (s : LS) (k o c t : Int) (w : World) (e : Ending) (w' : World) : Prop :=
  e = .returned (.bool true) ∧ Twin w' K lo Q (stepS s k o c t) (stepS s k o c t) ∧ Fr (K.both Q) w w'
set_option maxRecDepth 100000 in
set_option maxHeartbeats 2000000 in
theorem two0 (h : Twin w K lo Q s s) (hi : LInv s) (o c t : Int) :
    Calls Try.prog 68 #[.pointer (some ⟨K.P, 0, none⟩), .pointer (some ⟨Q.p, 0, none⟩), .agg #[.int .i64 0, .int .i64 o, .int .i64 c, .int .i64 t]] w (TwoPost K lo Q s 0 o c t w) := by
  have hS1 : stepS s 0 o c t = lockS s o t := rfl
  unfold TwoPost
  rw [hS1]
  clear hS1
  go_enter Try.func68, Try.ntmps68
  go_wp2_with fail
  obtain ⟨W, b, hW, hbb, hB, hb, hF, c0, c1, c2, c3⟩ := two_box h 0 o c t
  rw [← hW, ← hbb]
  have hbl : ¬ K.foot b := fun h => hb (.inl h)
  clear hW hbb h
  go_wp2_with (first
    | (go_at_call 54; refine (lklock hB.l o t).mono ?_; rintro e w1 ⟨rfl, hl1, f1⟩; have d1 := f1.cellK c1 hbl; have d2 := f1.cellK c2 hbl; have d3 := f1.cellK c3 hbl; have hB1 := hB.stepl hl1 f1)
    | (go_at_call 123; refine (qlock hB1.q hi.nc o t).mono ?_; rintro e w2 ⟨rfl, hq2, f2⟩; have hB2 := hB1.stepq hq2 f2))
  go_ret
  exact ⟨by simp, hB2, (hF.then (two_frl f1) (fun _ _ h => h)).then (two_frq f2) (fun _ _ h => h)⟩
set_option maxRecDepth 100000 in
set_option maxHeartbeats 2000000 in
theorem two1 (h : Twin w K lo Q s s) (hi : LInv s) (o c t : Int) :
    Calls Try.prog 68 #[.pointer (some ⟨K.P, 0, none⟩), .pointer (some ⟨Q.p, 0, none⟩), .agg #[.int .i64 1, .int .i64 o, .int .i64 c, .int .i64 t]] w (TwoPost K lo Q s 1 o c t w) := by
  have hS1 : stepS s 1 o c t = unlockS s o t := rfl
  unfold TwoPost
  rw [hS1]
  clear hS1
  go_enter Try.func68, Try.ntmps68
  go_wp2_with fail
  obtain ⟨W, b, hW, hbb, hB, hb, hF, c0, c1, c2, c3⟩ := two_box h 1 o c t
  rw [← hW, ← hbb]
  have hbl : ¬ K.foot b := fun h => hb (.inl h)
  clear hW hbb h
  go_wp2_with (first
    | (go_at_call 55; refine (lkunlock hB.l o t).mono ?_; rintro e w1 ⟨rfl, hl1, f1⟩; have d1 := f1.cellK c1 hbl; have d2 := f1.cellK c2 hbl; have d3 := f1.cellK c3 hbl; have hB1 := hB.stepl hl1 f1)
    | (go_at_call 124; refine (qunlock hB1.q hi.nc o t).mono ?_; rintro e w2 ⟨rfl, hq2, f2⟩; have hB2 := hB1.stepq hq2 f2))
  go_ret
  exact ⟨by simp, hB2, (hF.then (two_frl f1) (fun _ _ h => h)).then (two_frq f2) (fun _ _ h => h)⟩
set_option maxRecDepth 100000 in
set_option maxHeartbeats 2000000 in
theorem two2 (h : Twin w K lo Q s s) (hi : LInv s) (o c t : Int) :
    Calls Try.prog 68 #[.pointer (some ⟨K.P, 0, none⟩), .pointer (some ⟨Q.p, 0, none⟩), .agg #[.int .i64 2, .int .i64 o, .int .i64 c, .int .i64 t]] w (TwoPost K lo Q s 2 o c t w) := by
  have hS1 : stepS s 2 o c t = waitS s c o t := rfl
  unfold TwoPost
  rw [hS1]
  clear hS1
  go_enter Try.func68, Try.ntmps68
  go_wp2_with fail
  obtain ⟨W, b, hW, hbb, hB, hb, hF, c0, c1, c2, c3⟩ := two_box h 2 o c t
  rw [← hW, ← hbb]
  have hbl : ¬ K.foot b := fun h => hb (.inl h)
  clear hW hbb h
  go_wp2_with (first
    | (go_at_call 64; refine (lkwait hB.l c o t).mono ?_; rintro e w1 ⟨rfl, hl1, f1⟩; have d1 := f1.cellK c1 hbl; have d2 := f1.cellK c2 hbl; have d3 := f1.cellK c3 hbl; have hB1 := hB.stepl hl1 f1)
    | (go_at_call 125; refine (qwait hB1.q hi c o t).mono ?_; rintro e w2 ⟨rfl, hq2, f2⟩; have hB2 := hB1.stepq hq2 f2))
  go_ret
  exact ⟨by simp, hB2, (hF.then (two_frl f1) (fun _ _ h => h)).then (two_frq f2) (fun _ _ h => h)⟩
set_option maxRecDepth 100000 in
set_option maxHeartbeats 2000000 in
theorem two3 (h : Twin w K lo Q s s) (hi : LInv s) (o c t : Int) :
    Calls Try.prog 68 #[.pointer (some ⟨K.P, 0, none⟩), .pointer (some ⟨Q.p, 0, none⟩), .agg #[.int .i64 3, .int .i64 o, .int .i64 c, .int .i64 t]] w (TwoPost K lo Q s 3 o c t w) := by
  have hS1 : stepS s 3 o c t = signalS s c := rfl
  unfold TwoPost
  rw [hS1]
  clear hS1
  go_enter Try.func68, Try.ntmps68
  go_wp2_with fail
  obtain ⟨W, b, hW, hbb, hB, hb, hF, c0, c1, c2, c3⟩ := two_box h 3 o c t
  rw [← hW, ← hbb]
  have hbl : ¬ K.foot b := fun h => hb (.inl h)
  clear hW hbb h
  go_wp2_with (first
    | (go_at_call 72; refine (lkSignal hB.l c).mono ?_; rintro e w1 ⟨rfl, hl1, f1⟩; have d1 := f1.cellK c1 hbl; have d2 := f1.cellK c2 hbl; have d3 := f1.cellK c3 hbl; have hB1 := hB.stepl hl1 f1)
    | (go_at_call 126; refine (qsignal hB1.q hi c).mono ?_; rintro e w2 ⟨rfl, hq2, f2⟩; have hB2 := hB1.stepq hq2 f2))
  go_ret
  exact ⟨by simp, hB2, (hF.then (two_frl f1) (fun _ _ h => h)).then (two_frq f2) (fun _ _ h => h)⟩
theorem castF_len : ∀ (f : Nat) (s : LS) (c : Nat) (acc : List Int), (castF f s c acc).1.length ≤ acc.length + f
  | 0, _, _, _ => Nat.le_refl _
  | f + 1, s, c, acc => by
    unfold castF
    refine Nat.le_trans (castF_len f _ _ _) ?_
    rw [List.length_append]
    split <;> simp <;> omega
theorem castT_len (h : QAt w lo Q s) (c : Int) : (castT s c).length ≤ 1024 := by
  unfold castT
  split
  · rename_i e
    have h1 := ask1E_ok e
    refine Nat.le_trans (castF_len _ _ _ _) ?_
    have := h.sh (s.n + c.toNat) (by have := h1.1; have := h1.2; omega)
    unfold castN; simp; omega
  · simp
theorem dropF_len : ∀ (f o : Nat) (s : LS) (t : Int) (acc : List Int), (dropF f o s t acc).1.length ≤ acc.length + f
  | 0, _, _, _, _ => Nat.le_refl _
  | f + 1, o, s, t, acc => by
    unfold dropF
    split
    · refine Nat.le_trans (dropF_len f _ _ _ _) ?_
      rw [List.length_append]
      split <;> simp <;> omega
    · refine Nat.le_trans (dropF_len f _ _ _ _) ?_
      omega
theorem dropR_len (h : QAt w lo Q s) (t : Int) : (dropR s t).1.length ≤ 1024 := by
  unfold dropR
  split
  · have := dropF_len s.n 0 { s with L := remL s.T s.L t } t []
    have := h.n1
    simp at *; omega
  · simp
theorem Twin.xlt (h : Twin w K lo Q s s') : ∀ k, Q.X k → k < w.heap.size := fun _ hk => h.lt (.inr hk)
set_option maxRecDepth 100000 in
set_option maxHeartbeats 2000000 in
theorem two4 (h : Twin w K lo Q s s) (hi : LInv s) (o c t : Int) :
    Calls Try.prog 68 #[.pointer (some ⟨K.P, 0, none⟩), .pointer (some ⟨Q.p, 0, none⟩), .agg #[.int .i64 4, .int .i64 o, .int .i64 c, .int .i64 t]] w (TwoPost K lo Q s 4 o c t w) := by
  have hS1 : stepS s 4 o c t = castS s c := rfl
  unfold TwoPost
  rw [hS1]
  clear hS1
  have hcl := hid (castT_len h.q c)
  go_enter Try.func68, Try.ntmps68
  go_wp2_with fail
  obtain ⟨W, b, hW, hbb, hB, hb, hF, c0, c1, c2, c3⟩ := two_box h 4 o c t
  rw [← hW, ← hbb]
  have hbl : ¬ K.foot b := fun h => hb (.inl h)
  clear hW hbb h
  have HC1 := hid (lkcast hB.l c)
  have HX := hid hB.xlt
  obtain ⟨l, hl⟩ : ∃ l, castT s c = l := ⟨_, rfl⟩
  unfold CastPost at HC1
  rw [hl] at HC1 hcl
  have HL := hid hl
  clear hl
  go_wp2_with (first
    | (go_at_call 66; refine HC1.out.mono ?_; rintro e w1 ⟨a1, p1, rfl, r1, hl1, f1, n1⟩; have d2 := f1.cellK c2 hbl; have hB1 := hB.stepl hl1 f1)
    | (go_at_call 127; refine (qcast hB1.q hi c).mono ?_; unfold QCast; rw [HL.out]; rintro e w2 ⟨a2, p2, rfl, r2, hq2, f2⟩; have hB2 := hB1.stepq hq2 f2; have r1' := row_new r1 n1 HX.out f2)
    | (go_at_call 26; refine (ints_ok _ _ _ l l r1' r2 (by have := hcl.out; omega)).mono ?_; rw [decide_eq_true rfl]; rintro e w3 ⟨rfl, hs3⟩))
  go_ret
  exact ⟨by simp, hB2.still hs3, (((hF.then (two_frl f1) (fun _ _ h => h)).then (two_frq f2) (fun _ _ h => h))).trans (hs3.fr _)⟩
set_option maxRecDepth 100000 in
set_option maxHeartbeats 2000000 in
theorem two5 (h : Twin w K lo Q s s) (hi : LInv s) (o c t : Int) :
    Calls Try.prog 68 #[.pointer (some ⟨K.P, 0, none⟩), .pointer (some ⟨Q.p, 0, none⟩), .agg #[.int .i64 5, .int .i64 o, .int .i64 c, .int .i64 t]] w (TwoPost K lo Q s 5 o c t w) := by
  have hS1 : stepS s 5 o c t = (dropR s t).2 := rfl
  unfold TwoPost
  rw [hS1]
  clear hS1
  have hcl := hid (dropR_len h.q t)
  go_enter Try.func68, Try.ntmps68
  go_wp2_with fail
  obtain ⟨W, b, hW, hbb, hB, hb, hF, c0, c1, c2, c3⟩ := two_box h 5 o c t
  rw [← hW, ← hbb]
  have hbl : ¬ K.foot b := fun h => hb (.inl h)
  have hbq : ¬ Q.X b := fun h => hb (.inr h)
  clear hW hbb h
  have HC1 := hid (fun W' (hB : LkAt W' K s) => lkdrop hB t)
  have HC2 := hid (fun W' (hB : QAt W' lo Q s) => qdrop hB hi t)
  have HX := hid hB.xlt
  obtain ⟨l, hl⟩ : ∃ l, (dropR s t).1 = l := ⟨_, rfl⟩
  unfold DropPost at HC1
  unfold QDrop at HC2
  rw [hl] at HC1 HC2 hcl
  clear hl
  go_wp2_with fail
  go_region_held3 (fun w' => w'.cell? ⟨b, 3, none⟩ = some (.int .i64 t))
    (first | exact c3 | exact d3 | exact e3 | exact Still.cell ‹Still w2 _› e3)
    (first
      | (go_at_call 73; refine (HC1.out _ (hB.still (Fr.drew (Fr.refl _ _))).l).mono ?_; rintro e w1 ⟨a1, p1, rfl, r1, hl1, f1', n1⟩; have f1 : Fr K.foot W w1 := ((Fr.refl _ W).drew).trans f1'; have d3 := f1.cellK c3 hbl; have hB1 := hB.stepl hl1 f1)
      | (go_at_call 128; refine (HC2.out _ hB1.q).mono ?_; rintro e w2 ⟨a2, p2, rfl, r2, hq2, f2⟩; have hB2 := hB1.stepq hq2 f2; have r1' := row_new r1 n1 HX.out f2; have e3 := f2.cellK d3 hbq)
      | (go_at_call 26; refine (ints_ok _ _ _ l l r1' r2 (by have := hcl.out; omega)).mono ?_; rw [decide_eq_true rfl]; rintro e w3 ⟨rfl, hs3⟩))
  go_wp2_with fail
  go_ret
  exact ⟨by simp, hB2.still hs3, (((hF.then (two_frl f1) (fun _ _ h => h)).then (two_frq f2) (fun _ _ h => h))).trans (hs3.fr _)⟩
set_option maxRecDepth 100000 in
set_option maxHeartbeats 2000000 in
theorem two6 (h : Twin w K lo Q s s) (k o c t : Int) (h0 : k ≠ 0) (h1 : k ≠ 1) (h2 : k ≠ 2) (h3 : k ≠ 3) (h4 : k ≠ 4) (h5 : k ≠ 5) :
    Calls Try.prog 68 #[.pointer (some ⟨K.P, 0, none⟩), .pointer (some ⟨Q.p, 0, none⟩), .agg #[.int .i64 k, .int .i64 o, .int .i64 c, .int .i64 t]] w (TwoPost K lo Q s k o c t w) := by
  have hS1 : stepS s k o c t = s := by unfold stepS; rw [if_neg h0, if_neg h1, if_neg h2, if_neg h3, if_neg h4, if_neg h5]
  unfold TwoPost
  rw [hS1]
  have b0 : (k == 0) = false := by simpa using h0
  have b1 : (k == 1) = false := by simpa using h1
  have b2 : (k == 2) = false := by simpa using h2
  have b3 : (k == 3) = false := by simpa using h3
  have b4 : (k == 4) = false := by simpa using h4
  have b5 : (k == 5) = false := by simpa using h5
  clear hS1 h0 h1 h2 h3 h4 h5
  go_enter Try.func68, Try.ntmps68
  go_wp2_with fail
  obtain ⟨W, b, hW, hbb, hB, hb, hF, c0, c1, c2, c3⟩ := two_box h k o c t
  rw [← hW, ← hbb]
  clear hW hbb h
  go_wp2_with fail
  go_ret
  exact ⟨rfl, hB, hF⟩
theorem two_any (h : Twin w K lo Q s s) (hi : LInv s) (k o c t : Int) :
    Calls Try.prog 68 #[.pointer (some ⟨K.P, 0, none⟩), .pointer (some ⟨Q.p, 0, none⟩), .agg #[.int .i64 k, .int .i64 o, .int .i64 c, .int .i64 t]] w (TwoPost K lo Q s k o c t w) := by
  by_cases h0 : k = 0
  · subst h0; exact two0 h hi o c t
  by_cases h1 : k = 1
  · subst h1; exact two1 h hi o c t
  by_cases h2 : k = 2
  · subst h2; exact two2 h hi o c t
  by_cases h3 : k = 3
  · subst h3; exact two3 h hi o c t
  by_cases h4 : k = 4
  · subst h4; exact two4 h hi o c t
  by_cases h5 : k = 5
  · subst h5; exact two5 h hi o c t
  exact two6 h k o c t h0 h1 h2 h3 h4 h5
end
end Go.Proofs.Ytffjaaolcphonaa
/- The law's alike, on the locks and on the document's. -/
namespace Go.Proofs.Ytffjaaolcphonaa
open Go.RowKit
set_option linter.unusedSimpArgs false
section
variable {w w' : World} {K : KB} {lo : Nat} {Q : QB} {s : LS}
theorem ownerI_in {o : Nat} (h : o < s.n) : ownerI s (o : Int) = s.ow.getD o 0 := by unfold ownerI; rw [if_pos (ask1E_yes ⟨by omega, by omega⟩), Int.toNat_natCast]
theorem ownerI_no {o : Int} (h : ¬ inR o s.n) : ownerI s o = -1 := by unfold ownerI; rw [ask1E_no h]; rfl
theorem rowOf_in {o : Nat} (h : o < s.n) (k : Nat) : rowOf s k (o : Int) = gl s.L (k + o) := by unfold rowOf; rw [if_pos (ask1E_yes ⟨by omega, by omega⟩), Int.toNat_natCast]
theorem rowOf_no {o : Int} (h : ¬ inR o s.n) (k : Nat) : rowOf s k o = [] := by unfold rowOf; rw [ask1E_no h]; rfl
theorem row_lt (h : QAt w lo Q s) {k : Nat} (hk : k ≤ s.n) (o : Int) : (zi (rowOf s k o)).length ≤ 9223372036854775807 := by
  rw [zi_len]; unfold rowOf; split
  · rename_i e
    have h1 := ask1E_ok e
    have := h.sh (k + o.toNat) (by have := h1.1; have := h1.2; omega)
    omega
  · simp
set_option maxRecDepth 100000 in
set_option maxHeartbeats 2000000 in
theorem alike00 (h : Twin w K lo Q s s) (hn : Nice s.L) (k : Int) (o : Int) (ho : o < 0) (c : Int) (hc : c < 0) (t : Int) :
    Calls Try.prog 69 #[.pointer (some ⟨K.P, 0, none⟩), .pointer (some ⟨Q.p, 0, none⟩), .agg #[.int .i64 k, .int .i64 o, .int .i64 c, .int .i64 t]] w fun e w' => e = .returned (.bool true) ∧ Still w w' := by
  have po : decide (0 ≤ o) = false := decide_eq_false (by omega)
  have pc : decide (0 ≤ c) = false := decide_eq_false (by omega)
  have HO := hid (fun W (hB : LkAt W K s) => lkowner hB (o : Int))
  have HW := hid (fun W (hB : LkAt W K s) => lkwaiters hB (o : Int))
  have HS := hid (fun W (hB : LkAt W K s) => lksleepers hB (c : Int))
  rw [ownerI_no (by unfold inR; omega)] at HO
  rw [rowOf_no (by unfold inR; omega)] at HW
  rw [rowOf_no (by unfold inR; omega)] at HS
  have HH := hid h
  have F1 := h.q.f1
  clear ho hc
  go_enter Try.func69, Try.ntmps69
  go_wp2_with fail
  obtain ⟨W, b, hW, hbb, hB, hb, hF, c0, c1, c2, c3⟩ := two_box h k o c t
  have hWs : Still w W := by rw [hW]; exact (Fr.refl _ _).alloc _
  rw [← hW, ← hbb]
  replace F1 := Still.cell hWs F1
  clear hW hbb h hF hb
  have HWW := hid (lkwhere hB.l t)
  have HQW := hid (fun W' (hs : Still W W') => qwhere (hB.q.still hs) hn t)
  generalize whereK s t = wk at HWW HQW
  generalize whereO s t = wo at HWW HQW
  go_wp2_with (first
    | (go_at_call 71; refine HWW.out.mono ?_; rintro e w1 ⟨rfl, hs1⟩; have e1 := Still.cell hs1 c1; have e2 := Still.cell hs1 c2; have e3 := Still.cell hs1 c3)
    | (go_at_call 129; refine (HQW.out _ hs1).mono ?_; rintro e w' ⟨rfl, rfl⟩))
  replace F1 := Still.cell hs1 F1
  clear c0 c1 c2 c3
  go_quiet (fail)
  go_wp2_with fail
  go_quiet (fail)
  have HB := hid hB
  clear hB
  go_wp2_with (first
    | (go_at_call 56; refine (HO.out _ (HB.out.l.still (hs1.drewN _))).mono ?_; rintro e w3 ⟨rfl, hq3⟩; have g1 := Still.cell hq3 (show World.cell? _ _ = _ from e1); have g2 := Still.cell hq3 (show World.cell? _ _ = _ from e2))
    | (go_at_call 70; refine (HW.out _ (HB.out.l.still ((hs1.drewN _).trans hq3))).mono ?_; rintro e w4 ⟨b1, d1, rfl, r1, hq4, _⟩; have g3 := Still.cell hq4 g2)
    | (go_at_call 65; refine (HS.out _ (HB.out.l.still ((hs1.drewN _).trans ((hq3.trans hq4).trans hq5)))).mono ?_; rintro e w6 ⟨b2, d2, rfl, r2, hq6, _⟩)
    | (go_at_call 26; refine (ints_ok _ _ _ (zi []) (zi []) r2 (.inl ⟨rfl, _, _, rfl⟩) (by decide)).mono ?_; rw [decide_eq_true rfl]; rintro e w7 ⟨rfl, hq7⟩)
    | (go_at_call 26; refine (ints_ok _ _ _ (zi []) (zi []) r1 (.inl ⟨rfl, _, _, rfl⟩) (by decide)).mono ?_; rw [decide_eq_true rfl]; rintro e w5 ⟨rfl, hq5⟩; have g4 := Still.cell hq5 g3))
  go_ret
  exact ⟨by simp, hWs.trans ((hs1.drewN _).trans ((((hq3.trans hq4).trans hq5).trans hq6).trans hq7))⟩
set_option maxRecDepth 100000 in
set_option maxHeartbeats 2000000 in
theorem alike01 (h : Twin w K lo Q s s) (hn : Nice s.L) (k : Int) (o : Int) (ho : o < 0) (c : Int) (hc : (s.n : Int) ≤ c) (t : Int) :
    Calls Try.prog 69 #[.pointer (some ⟨K.P, 0, none⟩), .pointer (some ⟨Q.p, 0, none⟩), .agg #[.int .i64 k, .int .i64 o, .int .i64 c, .int .i64 t]] w fun e w' => e = .returned (.bool true) ∧ Still w w' := by
  have po : decide (0 ≤ o) = false := decide_eq_false (by omega)
  have pc : decide (0 ≤ c) = true := decide_eq_true (by omega)
  have qc : decide (c < (s.n : Int)) = false := decide_eq_false (by omega)
  have HO := hid (fun W (hB : LkAt W K s) => lkowner hB (o : Int))
  have HW := hid (fun W (hB : LkAt W K s) => lkwaiters hB (o : Int))
  have HS := hid (fun W (hB : LkAt W K s) => lksleepers hB (c : Int))
  rw [ownerI_no (by unfold inR; omega)] at HO
  rw [rowOf_no (by unfold inR; omega)] at HW
  rw [rowOf_no (by unfold inR; omega)] at HS
  have HH := hid h
  have F1 := h.q.f1
  clear ho hc
  go_enter Try.func69, Try.ntmps69
  go_wp2_with fail
  obtain ⟨W, b, hW, hbb, hB, hb, hF, c0, c1, c2, c3⟩ := two_box h k o c t
  have hWs : Still w W := by rw [hW]; exact (Fr.refl _ _).alloc _
  rw [← hW, ← hbb]
  replace F1 := Still.cell hWs F1
  clear hW hbb h hF hb
  have HWW := hid (lkwhere hB.l t)
  have HQW := hid (fun W' (hs : Still W W') => qwhere (hB.q.still hs) hn t)
  generalize whereK s t = wk at HWW HQW
  generalize whereO s t = wo at HWW HQW
  go_wp2_with (first
    | (go_at_call 71; refine HWW.out.mono ?_; rintro e w1 ⟨rfl, hs1⟩; have e1 := Still.cell hs1 c1; have e2 := Still.cell hs1 c2; have e3 := Still.cell hs1 c3)
    | (go_at_call 129; refine (HQW.out _ hs1).mono ?_; rintro e w' ⟨rfl, rfl⟩))
  replace F1 := Still.cell hs1 F1
  clear c0 c1 c2 c3
  go_quiet (fail)
  go_wp2_with fail
  go_quiet (fail)
  have HB := hid hB
  clear hB
  go_wp2_with (first
    | (go_at_call 56; refine (HO.out _ (HB.out.l.still (hs1.drewN _))).mono ?_; rintro e w3 ⟨rfl, hq3⟩; have g1 := Still.cell hq3 (show World.cell? _ _ = _ from e1); have g2 := Still.cell hq3 (show World.cell? _ _ = _ from e2))
    | (go_at_call 70; refine (HW.out _ (HB.out.l.still ((hs1.drewN _).trans hq3))).mono ?_; rintro e w4 ⟨b1, d1, rfl, r1, hq4, _⟩; have g3 := Still.cell hq4 g2)
    | (go_at_call 65; refine (HS.out _ (HB.out.l.still ((hs1.drewN _).trans ((hq3.trans hq4).trans hq5)))).mono ?_; rintro e w6 ⟨b2, d2, rfl, r2, hq6, _⟩)
    | (go_at_call 26; refine (ints_ok _ _ _ (zi []) (zi []) r2 (.inl ⟨rfl, _, _, rfl⟩) (by decide)).mono ?_; rw [decide_eq_true rfl]; rintro e w7 ⟨rfl, hq7⟩)
    | (go_at_call 26; refine (ints_ok _ _ _ (zi []) (zi []) r1 (.inl ⟨rfl, _, _, rfl⟩) (by decide)).mono ?_; rw [decide_eq_true rfl]; rintro e w5 ⟨rfl, hq5⟩; have g4 := Still.cell hq5 g3))
  go_ret
  exact ⟨by simp, hWs.trans ((hs1.drewN _).trans ((((hq3.trans hq4).trans hq5).trans hq6).trans hq7))⟩
set_option maxRecDepth 100000 in
set_option maxHeartbeats 2000000 in
theorem alike02 (h : Twin w K lo Q s s) (hn : Nice s.L) (k : Int) (o : Int) (ho : o < 0) (c : Nat) (hc : c < s.n) (t : Int) :
    Calls Try.prog 69 #[.pointer (some ⟨K.P, 0, none⟩), .pointer (some ⟨Q.p, 0, none⟩), .agg #[.int .i64 k, .int .i64 o, .int .i64 c, .int .i64 t]] w fun e w' => e = .returned (.bool true) ∧ Still w w' := by
  have po : decide (0 ≤ o) = false := decide_eq_false (by omega)
  have pc : decide (0 ≤ (c : Int)) = true := decide_eq_true (by omega)
  have qc : decide ((c : Int) < (s.n : Int)) = true := decide_eq_true (by omega)
  have ic : (c : Int) < (s.n : Int) := by omega
  have HO := hid (fun W (hB : LkAt W K s) => lkowner hB (o : Int))
  have HW := hid (fun W (hB : LkAt W K s) => lkwaiters hB (o : Int))
  have HS := hid (fun W (hB : LkAt W K s) => lksleepers hB (c : Int))
  rw [ownerI_no (by unfold inR; omega)] at HO
  rw [rowOf_no (by unfold inR; omega)] at HW
  rw [rowOf_in hc] at HS
  have HH := hid h
  have F1 := h.q.f1
  have F3 := h.q.f3
  have HL2 := hid (show (zi (gl s.L (s.n + c))).length ≤ 9223372036854775807 by rw [zi_len]; have := h.q.sh (s.n + c) (by omega); omega)
  obtain ⟨a2, k2, CS, R2⟩ := h.q.hs.row hc
  have HR2 := hid R2.1
  generalize gl s.L (s.n + c) = ls at HS HR2 CS HL2
  clear R2
  clear ho hc
  go_enter Try.func69, Try.ntmps69
  go_wp2_with fail
  obtain ⟨W, b, hW, hbb, hB, hb, hF, c0, c1, c2, c3⟩ := two_box h k o c t
  have hWs : Still w W := by rw [hW]; exact (Fr.refl _ _).alloc _
  rw [← hW, ← hbb]
  replace F1 := Still.cell hWs F1
  replace F3 := Still.cell hWs F3
  replace CS := Still.cell hWs CS
  replace HR2 := hid (HR2.out.still hWs)
  clear hW hbb h hF hb
  have HWW := hid (lkwhere hB.l t)
  have HQW := hid (fun W' (hs : Still W W') => qwhere (hB.q.still hs) hn t)
  generalize whereK s t = wk at HWW HQW
  generalize whereO s t = wo at HWW HQW
  go_wp2_with (first
    | (go_at_call 71; refine HWW.out.mono ?_; rintro e w1 ⟨rfl, hs1⟩; have e1 := Still.cell hs1 c1; have e2 := Still.cell hs1 c2; have e3 := Still.cell hs1 c3)
    | (go_at_call 129; refine (HQW.out _ hs1).mono ?_; rintro e w' ⟨rfl, rfl⟩))
  replace F1 := Still.cell hs1 F1
  replace F3 := Still.cell hs1 F3
  replace CS := Still.cell hs1 CS
  clear c0 c1 c2 c3
  go_quiet (fail)
  go_wp2_with fail
  go_quiet (fail)
  go_wp2_with fail
  go_quiet (fail)
  have HB := hid hB
  clear hB
  go_wp2_with (first
    | (go_at_call 56; refine (HO.out _ (HB.out.l.still (hs1.drewN _))).mono ?_; rintro e w3 ⟨rfl, hq3⟩; have g1 := Still.cell hq3 (show World.cell? _ _ = _ from e1); have g2 := Still.cell hq3 (show World.cell? _ _ = _ from e2))
    | (go_at_call 70; refine (HW.out _ (HB.out.l.still ((hs1.drewN _).trans hq3))).mono ?_; rintro e w4 ⟨b1, d1, rfl, r1, hq4, _⟩; have g3 := Still.cell hq4 g2)
    | (go_at_call 65; refine (HS.out _ (HB.out.l.still ((hs1.drewN _).trans ((hq3.trans hq4).trans hq5)))).mono ?_; rintro e w6 ⟨b2, d2, rfl, r2, hq6, _⟩)
    | (go_at_call 26; refine (ints_ok _ _ _ (zi ls) (zi ls) r2 (HR2.out.still ((hs1.drewN _).trans (((hq3.trans hq4).trans hq5).trans hq6))) (HL2.out)).mono ?_; rw [decide_eq_true rfl]; rintro e w7 ⟨rfl, hq7⟩)
    | (go_at_call 26; refine (ints_ok _ _ _ (zi []) (zi []) r1 (.inl ⟨rfl, _, _, rfl⟩) (by decide)).mono ?_; rw [decide_eq_true rfl]; rintro e w5 ⟨rfl, hq5⟩; have g4 := Still.cell hq5 g3))
  go_ret
  exact ⟨by simp, hWs.trans ((hs1.drewN _).trans ((((hq3.trans hq4).trans hq5).trans hq6).trans hq7))⟩
set_option maxRecDepth 100000 in
set_option maxHeartbeats 2000000 in
theorem alike10 (h : Twin w K lo Q s s) (hn : Nice s.L) (k : Int) (o : Int) (ho : (s.n : Int) ≤ o) (c : Int) (hc : c < 0) (t : Int) :
    Calls Try.prog 69 #[.pointer (some ⟨K.P, 0, none⟩), .pointer (some ⟨Q.p, 0, none⟩), .agg #[.int .i64 k, .int .i64 o, .int .i64 c, .int .i64 t]] w fun e w' => e = .returned (.bool true) ∧ Still w w' := by
  have po : decide (0 ≤ o) = true := decide_eq_true (by omega)
  have qo : decide (o < (s.n : Int)) = false := decide_eq_false (by omega)
  have pc : decide (0 ≤ c) = false := decide_eq_false (by omega)
  have HO := hid (fun W (hB : LkAt W K s) => lkowner hB (o : Int))
  have HW := hid (fun W (hB : LkAt W K s) => lkwaiters hB (o : Int))
  have HS := hid (fun W (hB : LkAt W K s) => lksleepers hB (c : Int))
  rw [ownerI_no (by unfold inR; omega)] at HO
  rw [rowOf_no (by unfold inR; omega)] at HW
  rw [rowOf_no (by unfold inR; omega)] at HS
  have HH := hid h
  have F1 := h.q.f1
  clear ho hc
  go_enter Try.func69, Try.ntmps69
  go_wp2_with fail
  obtain ⟨W, b, hW, hbb, hB, hb, hF, c0, c1, c2, c3⟩ := two_box h k o c t
  have hWs : Still w W := by rw [hW]; exact (Fr.refl _ _).alloc _
  rw [← hW, ← hbb]
  replace F1 := Still.cell hWs F1
  clear hW hbb h hF hb
  have HWW := hid (lkwhere hB.l t)
  have HQW := hid (fun W' (hs : Still W W') => qwhere (hB.q.still hs) hn t)
  generalize whereK s t = wk at HWW HQW
  generalize whereO s t = wo at HWW HQW
  go_wp2_with (first
    | (go_at_call 71; refine HWW.out.mono ?_; rintro e w1 ⟨rfl, hs1⟩; have e1 := Still.cell hs1 c1; have e2 := Still.cell hs1 c2; have e3 := Still.cell hs1 c3)
    | (go_at_call 129; refine (HQW.out _ hs1).mono ?_; rintro e w' ⟨rfl, rfl⟩))
  replace F1 := Still.cell hs1 F1
  clear c0 c1 c2 c3
  go_quiet (fail)
  go_wp2_with fail
  go_quiet (fail)
  have HB := hid hB
  clear hB
  go_wp2_with (first
    | (go_at_call 56; refine (HO.out _ (HB.out.l.still (hs1.drewN _))).mono ?_; rintro e w3 ⟨rfl, hq3⟩; have g1 := Still.cell hq3 (show World.cell? _ _ = _ from e1); have g2 := Still.cell hq3 (show World.cell? _ _ = _ from e2))
    | (go_at_call 70; refine (HW.out _ (HB.out.l.still ((hs1.drewN _).trans hq3))).mono ?_; rintro e w4 ⟨b1, d1, rfl, r1, hq4, _⟩; have g3 := Still.cell hq4 g2)
    | (go_at_call 65; refine (HS.out _ (HB.out.l.still ((hs1.drewN _).trans ((hq3.trans hq4).trans hq5)))).mono ?_; rintro e w6 ⟨b2, d2, rfl, r2, hq6, _⟩)
    | (go_at_call 26; refine (ints_ok _ _ _ (zi []) (zi []) r2 (.inl ⟨rfl, _, _, rfl⟩) (by decide)).mono ?_; rw [decide_eq_true rfl]; rintro e w7 ⟨rfl, hq7⟩)
    | (go_at_call 26; refine (ints_ok _ _ _ (zi []) (zi []) r1 (.inl ⟨rfl, _, _, rfl⟩) (by decide)).mono ?_; rw [decide_eq_true rfl]; rintro e w5 ⟨rfl, hq5⟩; have g4 := Still.cell hq5 g3))
  go_ret
  exact ⟨by simp, hWs.trans ((hs1.drewN _).trans ((((hq3.trans hq4).trans hq5).trans hq6).trans hq7))⟩
set_option maxRecDepth 100000 in
set_option maxHeartbeats 2000000 in
theorem alike11 (h : Twin w K lo Q s s) (hn : Nice s.L) (k : Int) (o : Int) (ho : (s.n : Int) ≤ o) (c : Int) (hc : (s.n : Int) ≤ c) (t : Int) :
    Calls Try.prog 69 #[.pointer (some ⟨K.P, 0, none⟩), .pointer (some ⟨Q.p, 0, none⟩), .agg #[.int .i64 k, .int .i64 o, .int .i64 c, .int .i64 t]] w fun e w' => e = .returned (.bool true) ∧ Still w w' := by
  have po : decide (0 ≤ o) = true := decide_eq_true (by omega)
  have qo : decide (o < (s.n : Int)) = false := decide_eq_false (by omega)
  have pc : decide (0 ≤ c) = true := decide_eq_true (by omega)
  have qc : decide (c < (s.n : Int)) = false := decide_eq_false (by omega)
  have HO := hid (fun W (hB : LkAt W K s) => lkowner hB (o : Int))
  have HW := hid (fun W (hB : LkAt W K s) => lkwaiters hB (o : Int))
  have HS := hid (fun W (hB : LkAt W K s) => lksleepers hB (c : Int))
  rw [ownerI_no (by unfold inR; omega)] at HO
  rw [rowOf_no (by unfold inR; omega)] at HW
  rw [rowOf_no (by unfold inR; omega)] at HS
  have HH := hid h
  have F1 := h.q.f1
  clear ho hc
  go_enter Try.func69, Try.ntmps69
  go_wp2_with fail
  obtain ⟨W, b, hW, hbb, hB, hb, hF, c0, c1, c2, c3⟩ := two_box h k o c t
  have hWs : Still w W := by rw [hW]; exact (Fr.refl _ _).alloc _
  rw [← hW, ← hbb]
  replace F1 := Still.cell hWs F1
  clear hW hbb h hF hb
  have HWW := hid (lkwhere hB.l t)
  have HQW := hid (fun W' (hs : Still W W') => qwhere (hB.q.still hs) hn t)
  generalize whereK s t = wk at HWW HQW
  generalize whereO s t = wo at HWW HQW
  go_wp2_with (first
    | (go_at_call 71; refine HWW.out.mono ?_; rintro e w1 ⟨rfl, hs1⟩; have e1 := Still.cell hs1 c1; have e2 := Still.cell hs1 c2; have e3 := Still.cell hs1 c3)
    | (go_at_call 129; refine (HQW.out _ hs1).mono ?_; rintro e w' ⟨rfl, rfl⟩))
  replace F1 := Still.cell hs1 F1
  clear c0 c1 c2 c3
  go_quiet (fail)
  go_wp2_with fail
  go_quiet (fail)
  have HB := hid hB
  clear hB
  go_wp2_with (first
    | (go_at_call 56; refine (HO.out _ (HB.out.l.still (hs1.drewN _))).mono ?_; rintro e w3 ⟨rfl, hq3⟩; have g1 := Still.cell hq3 (show World.cell? _ _ = _ from e1); have g2 := Still.cell hq3 (show World.cell? _ _ = _ from e2))
    | (go_at_call 70; refine (HW.out _ (HB.out.l.still ((hs1.drewN _).trans hq3))).mono ?_; rintro e w4 ⟨b1, d1, rfl, r1, hq4, _⟩; have g3 := Still.cell hq4 g2)
    | (go_at_call 65; refine (HS.out _ (HB.out.l.still ((hs1.drewN _).trans ((hq3.trans hq4).trans hq5)))).mono ?_; rintro e w6 ⟨b2, d2, rfl, r2, hq6, _⟩)
    | (go_at_call 26; refine (ints_ok _ _ _ (zi []) (zi []) r2 (.inl ⟨rfl, _, _, rfl⟩) (by decide)).mono ?_; rw [decide_eq_true rfl]; rintro e w7 ⟨rfl, hq7⟩)
    | (go_at_call 26; refine (ints_ok _ _ _ (zi []) (zi []) r1 (.inl ⟨rfl, _, _, rfl⟩) (by decide)).mono ?_; rw [decide_eq_true rfl]; rintro e w5 ⟨rfl, hq5⟩; have g4 := Still.cell hq5 g3))
  go_ret
  exact ⟨by simp, hWs.trans ((hs1.drewN _).trans ((((hq3.trans hq4).trans hq5).trans hq6).trans hq7))⟩
set_option maxRecDepth 100000 in
set_option maxHeartbeats 2000000 in
theorem alike12 (h : Twin w K lo Q s s) (hn : Nice s.L) (k : Int) (o : Int) (ho : (s.n : Int) ≤ o) (c : Nat) (hc : c < s.n) (t : Int) :
    Calls Try.prog 69 #[.pointer (some ⟨K.P, 0, none⟩), .pointer (some ⟨Q.p, 0, none⟩), .agg #[.int .i64 k, .int .i64 o, .int .i64 c, .int .i64 t]] w fun e w' => e = .returned (.bool true) ∧ Still w w' := by
  have po : decide (0 ≤ o) = true := decide_eq_true (by omega)
  have qo : decide (o < (s.n : Int)) = false := decide_eq_false (by omega)
  have pc : decide (0 ≤ (c : Int)) = true := decide_eq_true (by omega)
  have qc : decide ((c : Int) < (s.n : Int)) = true := decide_eq_true (by omega)
  have ic : (c : Int) < (s.n : Int) := by omega
  have HO := hid (fun W (hB : LkAt W K s) => lkowner hB (o : Int))
  have HW := hid (fun W (hB : LkAt W K s) => lkwaiters hB (o : Int))
  have HS := hid (fun W (hB : LkAt W K s) => lksleepers hB (c : Int))
  rw [ownerI_no (by unfold inR; omega)] at HO
  rw [rowOf_no (by unfold inR; omega)] at HW
  rw [rowOf_in hc] at HS
  have HH := hid h
  have F1 := h.q.f1
  have F3 := h.q.f3
  have HL2 := hid (show (zi (gl s.L (s.n + c))).length ≤ 9223372036854775807 by rw [zi_len]; have := h.q.sh (s.n + c) (by omega); omega)
  obtain ⟨a2, k2, CS, R2⟩ := h.q.hs.row hc
  have HR2 := hid R2.1
  generalize gl s.L (s.n + c) = ls at HS HR2 CS HL2
  clear R2
  clear ho hc
  go_enter Try.func69, Try.ntmps69
  go_wp2_with fail
  obtain ⟨W, b, hW, hbb, hB, hb, hF, c0, c1, c2, c3⟩ := two_box h k o c t
  have hWs : Still w W := by rw [hW]; exact (Fr.refl _ _).alloc _
  rw [← hW, ← hbb]
  replace F1 := Still.cell hWs F1
  replace F3 := Still.cell hWs F3
  replace CS := Still.cell hWs CS
  replace HR2 := hid (HR2.out.still hWs)
  clear hW hbb h hF hb
  have HWW := hid (lkwhere hB.l t)
  have HQW := hid (fun W' (hs : Still W W') => qwhere (hB.q.still hs) hn t)
  generalize whereK s t = wk at HWW HQW
  generalize whereO s t = wo at HWW HQW
  go_wp2_with (first
    | (go_at_call 71; refine HWW.out.mono ?_; rintro e w1 ⟨rfl, hs1⟩; have e1 := Still.cell hs1 c1; have e2 := Still.cell hs1 c2; have e3 := Still.cell hs1 c3)
    | (go_at_call 129; refine (HQW.out _ hs1).mono ?_; rintro e w' ⟨rfl, rfl⟩))
  replace F1 := Still.cell hs1 F1
  replace F3 := Still.cell hs1 F3
  replace CS := Still.cell hs1 CS
  clear c0 c1 c2 c3
  go_quiet (fail)
  go_wp2_with fail
  go_quiet (fail)
  go_wp2_with fail
  go_quiet (fail)
  have HB := hid hB
  clear hB
  go_wp2_with (first
    | (go_at_call 56; refine (HO.out _ (HB.out.l.still (hs1.drewN _))).mono ?_; rintro e w3 ⟨rfl, hq3⟩; have g1 := Still.cell hq3 (show World.cell? _ _ = _ from e1); have g2 := Still.cell hq3 (show World.cell? _ _ = _ from e2))
    | (go_at_call 70; refine (HW.out _ (HB.out.l.still ((hs1.drewN _).trans hq3))).mono ?_; rintro e w4 ⟨b1, d1, rfl, r1, hq4, _⟩; have g3 := Still.cell hq4 g2)
    | (go_at_call 65; refine (HS.out _ (HB.out.l.still ((hs1.drewN _).trans ((hq3.trans hq4).trans hq5)))).mono ?_; rintro e w6 ⟨b2, d2, rfl, r2, hq6, _⟩)
    | (go_at_call 26; refine (ints_ok _ _ _ (zi ls) (zi ls) r2 (HR2.out.still ((hs1.drewN _).trans (((hq3.trans hq4).trans hq5).trans hq6))) (HL2.out)).mono ?_; rw [decide_eq_true rfl]; rintro e w7 ⟨rfl, hq7⟩)
    | (go_at_call 26; refine (ints_ok _ _ _ (zi []) (zi []) r1 (.inl ⟨rfl, _, _, rfl⟩) (by decide)).mono ?_; rw [decide_eq_true rfl]; rintro e w5 ⟨rfl, hq5⟩; have g4 := Still.cell hq5 g3))
  go_ret
  exact ⟨by simp, hWs.trans ((hs1.drewN _).trans ((((hq3.trans hq4).trans hq5).trans hq6).trans hq7))⟩
set_option maxRecDepth 100000 in
set_option maxHeartbeats 2000000 in
theorem alike20 (h : Twin w K lo Q s s) (hn : Nice s.L) (k : Int) (o : Nat) (ho : o < s.n) (c : Int) (hc : c < 0) (t : Int) :
    Calls Try.prog 69 #[.pointer (some ⟨K.P, 0, none⟩), .pointer (some ⟨Q.p, 0, none⟩), .agg #[.int .i64 k, .int .i64 o, .int .i64 c, .int .i64 t]] w fun e w' => e = .returned (.bool true) ∧ Still w w' := by
  have po : decide (0 ≤ (o : Int)) = true := decide_eq_true (by omega)
  have qo : decide ((o : Int) < (s.n : Int)) = true := decide_eq_true (by omega)
  have io : (o : Int) < (s.n : Int) := by omega
  have pc : decide (0 ≤ c) = false := decide_eq_false (by omega)
  have HO := hid (fun W (hB : LkAt W K s) => lkowner hB (o : Int))
  have HW := hid (fun W (hB : LkAt W K s) => lkwaiters hB (o : Int))
  have HS := hid (fun W (hB : LkAt W K s) => lksleepers hB (c : Int))
  rw [ownerI_in ho] at HO
  rw [rowOf_in ho, Nat.zero_add] at HW
  rw [rowOf_no (by unfold inR; omega)] at HS
  have HH := hid h
  have F1 := h.q.f1
  have F2 := h.q.f2
  have C := h.q.cO ho
  have HL1 := hid (show (zi (gl s.L o)).length ≤ 9223372036854775807 by rw [zi_len]; have := h.q.sh o (by omega); omega)
  obtain ⟨a1, k1, CW, R1⟩ := h.q.hw.row ho
  have HR1 := hid R1.1
  generalize s.ow.getD o 0 = ow at HO C
  generalize gl s.L o = lw at HW HR1 CW HL1
  clear R1
  clear ho hc
  go_enter Try.func69, Try.ntmps69
  go_wp2_with fail
  obtain ⟨W, b, hW, hbb, hB, hb, hF, c0, c1, c2, c3⟩ := two_box h k o c t
  have hWs : Still w W := by rw [hW]; exact (Fr.refl _ _).alloc _
  rw [← hW, ← hbb]
  replace F1 := Still.cell hWs F1
  replace F2 := Still.cell hWs F2
  replace C := Still.cell hWs C
  replace CW := Still.cell hWs CW
  replace HR1 := hid (HR1.out.still hWs)
  clear hW hbb h hF hb
  have HWW := hid (lkwhere hB.l t)
  have HQW := hid (fun W' (hs : Still W W') => qwhere (hB.q.still hs) hn t)
  generalize whereK s t = wk at HWW HQW
  generalize whereO s t = wo at HWW HQW
  go_wp2_with (first
    | (go_at_call 71; refine HWW.out.mono ?_; rintro e w1 ⟨rfl, hs1⟩; have e1 := Still.cell hs1 c1; have e2 := Still.cell hs1 c2; have e3 := Still.cell hs1 c3)
    | (go_at_call 129; refine (HQW.out _ hs1).mono ?_; rintro e w' ⟨rfl, rfl⟩))
  replace F1 := Still.cell hs1 F1
  replace F2 := Still.cell hs1 F2
  replace C := Still.cell hs1 C
  replace CW := Still.cell hs1 CW
  clear c0 c1 c2 c3
  go_quiet (fail)
  go_wp2_with fail
  go_quiet (fail)
  go_wp2_with fail
  go_quiet (fail)
  have HB := hid hB
  clear hB
  go_wp2_with (first
    | (go_at_call 56; refine (HO.out _ (HB.out.l.still (hs1.drewN _))).mono ?_; rintro e w3 ⟨rfl, hq3⟩; have g1 := Still.cell hq3 (show World.cell? _ _ = _ from e1); have g2 := Still.cell hq3 (show World.cell? _ _ = _ from e2))
    | (go_at_call 70; refine (HW.out _ (HB.out.l.still ((hs1.drewN _).trans hq3))).mono ?_; rintro e w4 ⟨b1, d1, rfl, r1, hq4, _⟩; have g3 := Still.cell hq4 g2)
    | (go_at_call 65; refine (HS.out _ (HB.out.l.still ((hs1.drewN _).trans ((hq3.trans hq4).trans hq5)))).mono ?_; rintro e w6 ⟨b2, d2, rfl, r2, hq6, _⟩)
    | (go_at_call 26; refine (ints_ok _ _ _ (zi []) (zi []) r2 (.inl ⟨rfl, _, _, rfl⟩) (by decide)).mono ?_; rw [decide_eq_true rfl]; rintro e w7 ⟨rfl, hq7⟩)
    | (go_at_call 26; refine (ints_ok _ _ _ (zi lw) (zi lw) r1 (HR1.out.still ((hs1.drewN _).trans (hq3.trans hq4))) (HL1.out)).mono ?_; rw [decide_eq_true rfl]; rintro e w5 ⟨rfl, hq5⟩; have g4 := Still.cell hq5 g3))
  go_ret
  exact ⟨by simp, hWs.trans ((hs1.drewN _).trans ((((hq3.trans hq4).trans hq5).trans hq6).trans hq7))⟩
set_option maxRecDepth 100000 in
set_option maxHeartbeats 2000000 in
theorem alike21 (h : Twin w K lo Q s s) (hn : Nice s.L) (k : Int) (o : Nat) (ho : o < s.n) (c : Int) (hc : (s.n : Int) ≤ c) (t : Int) :
    Calls Try.prog 69 #[.pointer (some ⟨K.P, 0, none⟩), .pointer (some ⟨Q.p, 0, none⟩), .agg #[.int .i64 k, .int .i64 o, .int .i64 c, .int .i64 t]] w fun e w' => e = .returned (.bool true) ∧ Still w w' := by
  have po : decide (0 ≤ (o : Int)) = true := decide_eq_true (by omega)
  have qo : decide ((o : Int) < (s.n : Int)) = true := decide_eq_true (by omega)
  have io : (o : Int) < (s.n : Int) := by omega
  have pc : decide (0 ≤ c) = true := decide_eq_true (by omega)
  have qc : decide (c < (s.n : Int)) = false := decide_eq_false (by omega)
  have HO := hid (fun W (hB : LkAt W K s) => lkowner hB (o : Int))
  have HW := hid (fun W (hB : LkAt W K s) => lkwaiters hB (o : Int))
  have HS := hid (fun W (hB : LkAt W K s) => lksleepers hB (c : Int))
  rw [ownerI_in ho] at HO
  rw [rowOf_in ho, Nat.zero_add] at HW
  rw [rowOf_no (by unfold inR; omega)] at HS
  have HH := hid h
  have F1 := h.q.f1
  have F2 := h.q.f2
  have C := h.q.cO ho
  have HL1 := hid (show (zi (gl s.L o)).length ≤ 9223372036854775807 by rw [zi_len]; have := h.q.sh o (by omega); omega)
  obtain ⟨a1, k1, CW, R1⟩ := h.q.hw.row ho
  have HR1 := hid R1.1
  generalize s.ow.getD o 0 = ow at HO C
  generalize gl s.L o = lw at HW HR1 CW HL1
  clear R1
  clear ho hc
  go_enter Try.func69, Try.ntmps69
  go_wp2_with fail
  obtain ⟨W, b, hW, hbb, hB, hb, hF, c0, c1, c2, c3⟩ := two_box h k o c t
  have hWs : Still w W := by rw [hW]; exact (Fr.refl _ _).alloc _
  rw [← hW, ← hbb]
  replace F1 := Still.cell hWs F1
  replace F2 := Still.cell hWs F2
  replace C := Still.cell hWs C
  replace CW := Still.cell hWs CW
  replace HR1 := hid (HR1.out.still hWs)
  clear hW hbb h hF hb
  have HWW := hid (lkwhere hB.l t)
  have HQW := hid (fun W' (hs : Still W W') => qwhere (hB.q.still hs) hn t)
  generalize whereK s t = wk at HWW HQW
  generalize whereO s t = wo at HWW HQW
  go_wp2_with (first
    | (go_at_call 71; refine HWW.out.mono ?_; rintro e w1 ⟨rfl, hs1⟩; have e1 := Still.cell hs1 c1; have e2 := Still.cell hs1 c2; have e3 := Still.cell hs1 c3)
    | (go_at_call 129; refine (HQW.out _ hs1).mono ?_; rintro e w' ⟨rfl, rfl⟩))
  replace F1 := Still.cell hs1 F1
  replace F2 := Still.cell hs1 F2
  replace C := Still.cell hs1 C
  replace CW := Still.cell hs1 CW
  clear c0 c1 c2 c3
  go_quiet (fail)
  go_wp2_with fail
  go_quiet (fail)
  go_wp2_with fail
  go_quiet (fail)
  have HB := hid hB
  clear hB
  go_wp2_with (first
    | (go_at_call 56; refine (HO.out _ (HB.out.l.still (hs1.drewN _))).mono ?_; rintro e w3 ⟨rfl, hq3⟩; have g1 := Still.cell hq3 (show World.cell? _ _ = _ from e1); have g2 := Still.cell hq3 (show World.cell? _ _ = _ from e2))
    | (go_at_call 70; refine (HW.out _ (HB.out.l.still ((hs1.drewN _).trans hq3))).mono ?_; rintro e w4 ⟨b1, d1, rfl, r1, hq4, _⟩; have g3 := Still.cell hq4 g2)
    | (go_at_call 65; refine (HS.out _ (HB.out.l.still ((hs1.drewN _).trans ((hq3.trans hq4).trans hq5)))).mono ?_; rintro e w6 ⟨b2, d2, rfl, r2, hq6, _⟩)
    | (go_at_call 26; refine (ints_ok _ _ _ (zi []) (zi []) r2 (.inl ⟨rfl, _, _, rfl⟩) (by decide)).mono ?_; rw [decide_eq_true rfl]; rintro e w7 ⟨rfl, hq7⟩)
    | (go_at_call 26; refine (ints_ok _ _ _ (zi lw) (zi lw) r1 (HR1.out.still ((hs1.drewN _).trans (hq3.trans hq4))) (HL1.out)).mono ?_; rw [decide_eq_true rfl]; rintro e w5 ⟨rfl, hq5⟩; have g4 := Still.cell hq5 g3))
  go_ret
  exact ⟨by simp, hWs.trans ((hs1.drewN _).trans ((((hq3.trans hq4).trans hq5).trans hq6).trans hq7))⟩
set_option maxRecDepth 100000 in
set_option maxHeartbeats 2000000 in
theorem alike22 (h : Twin w K lo Q s s) (hn : Nice s.L) (k : Int) (o : Nat) (ho : o < s.n) (c : Nat) (hc : c < s.n) (t : Int) :
    Calls Try.prog 69 #[.pointer (some ⟨K.P, 0, none⟩), .pointer (some ⟨Q.p, 0, none⟩), .agg #[.int .i64 k, .int .i64 o, .int .i64 c, .int .i64 t]] w fun e w' => e = .returned (.bool true) ∧ Still w w' := by
  have po : decide (0 ≤ (o : Int)) = true := decide_eq_true (by omega)
  have qo : decide ((o : Int) < (s.n : Int)) = true := decide_eq_true (by omega)
  have io : (o : Int) < (s.n : Int) := by omega
  have pc : decide (0 ≤ (c : Int)) = true := decide_eq_true (by omega)
  have qc : decide ((c : Int) < (s.n : Int)) = true := decide_eq_true (by omega)
  have ic : (c : Int) < (s.n : Int) := by omega
  have HO := hid (fun W (hB : LkAt W K s) => lkowner hB (o : Int))
  have HW := hid (fun W (hB : LkAt W K s) => lkwaiters hB (o : Int))
  have HS := hid (fun W (hB : LkAt W K s) => lksleepers hB (c : Int))
  rw [ownerI_in ho] at HO
  rw [rowOf_in ho, Nat.zero_add] at HW
  rw [rowOf_in hc] at HS
  have HH := hid h
  have F1 := h.q.f1
  have F2 := h.q.f2
  have C := h.q.cO ho
  have HL1 := hid (show (zi (gl s.L o)).length ≤ 9223372036854775807 by rw [zi_len]; have := h.q.sh o (by omega); omega)
  obtain ⟨a1, k1, CW, R1⟩ := h.q.hw.row ho
  have HR1 := hid R1.1
  generalize s.ow.getD o 0 = ow at HO C
  generalize gl s.L o = lw at HW HR1 CW HL1
  clear R1
  have F3 := h.q.f3
  have HL2 := hid (show (zi (gl s.L (s.n + c))).length ≤ 9223372036854775807 by rw [zi_len]; have := h.q.sh (s.n + c) (by omega); omega)
  obtain ⟨a2, k2, CS, R2⟩ := h.q.hs.row hc
  have HR2 := hid R2.1
  generalize gl s.L (s.n + c) = ls at HS HR2 CS HL2
  clear R2
  clear ho hc
  go_enter Try.func69, Try.ntmps69
  go_wp2_with fail
  obtain ⟨W, b, hW, hbb, hB, hb, hF, c0, c1, c2, c3⟩ := two_box h k o c t
  have hWs : Still w W := by rw [hW]; exact (Fr.refl _ _).alloc _
  rw [← hW, ← hbb]
  replace F1 := Still.cell hWs F1
  replace F2 := Still.cell hWs F2
  replace C := Still.cell hWs C
  replace CW := Still.cell hWs CW
  replace F3 := Still.cell hWs F3
  replace CS := Still.cell hWs CS
  replace HR1 := hid (HR1.out.still hWs)
  replace HR2 := hid (HR2.out.still hWs)
  clear hW hbb h hF hb
  have HWW := hid (lkwhere hB.l t)
  have HQW := hid (fun W' (hs : Still W W') => qwhere (hB.q.still hs) hn t)
  generalize whereK s t = wk at HWW HQW
  generalize whereO s t = wo at HWW HQW
  go_wp2_with (first
    | (go_at_call 71; refine HWW.out.mono ?_; rintro e w1 ⟨rfl, hs1⟩; have e1 := Still.cell hs1 c1; have e2 := Still.cell hs1 c2; have e3 := Still.cell hs1 c3)
    | (go_at_call 129; refine (HQW.out _ hs1).mono ?_; rintro e w' ⟨rfl, rfl⟩))
  replace F1 := Still.cell hs1 F1
  replace F2 := Still.cell hs1 F2
  replace C := Still.cell hs1 C
  replace CW := Still.cell hs1 CW
  replace F3 := Still.cell hs1 F3
  replace CS := Still.cell hs1 CS
  clear c0 c1 c2 c3
  go_quiet (fail)
  go_wp2_with fail
  go_quiet (fail)
  go_wp2_with fail
  go_quiet (fail)
  go_wp2_with fail
  go_quiet (fail)
  have HB := hid hB
  clear hB
  go_wp2_with (first
    | (go_at_call 56; refine (HO.out _ (HB.out.l.still (hs1.drewN _))).mono ?_; rintro e w3 ⟨rfl, hq3⟩; have g1 := Still.cell hq3 (show World.cell? _ _ = _ from e1); have g2 := Still.cell hq3 (show World.cell? _ _ = _ from e2))
    | (go_at_call 70; refine (HW.out _ (HB.out.l.still ((hs1.drewN _).trans hq3))).mono ?_; rintro e w4 ⟨b1, d1, rfl, r1, hq4, _⟩; have g3 := Still.cell hq4 g2)
    | (go_at_call 65; refine (HS.out _ (HB.out.l.still ((hs1.drewN _).trans ((hq3.trans hq4).trans hq5)))).mono ?_; rintro e w6 ⟨b2, d2, rfl, r2, hq6, _⟩)
    | (go_at_call 26; refine (ints_ok _ _ _ (zi ls) (zi ls) r2 (HR2.out.still ((hs1.drewN _).trans (((hq3.trans hq4).trans hq5).trans hq6))) (HL2.out)).mono ?_; rw [decide_eq_true rfl]; rintro e w7 ⟨rfl, hq7⟩)
    | (go_at_call 26; refine (ints_ok _ _ _ (zi lw) (zi lw) r1 (HR1.out.still ((hs1.drewN _).trans (hq3.trans hq4))) (HL1.out)).mono ?_; rw [decide_eq_true rfl]; rintro e w5 ⟨rfl, hq5⟩; have g4 := Still.cell hq5 g3))
  go_ret
  exact ⟨by simp, hWs.trans ((hs1.drewN _).trans ((((hq3.trans hq4).trans hq5).trans hq6).trans hq7))⟩
theorem alike_any (h : Twin w K lo Q s s) (hn : Nice s.L) (k o c t : Int) :
    Calls Try.prog 69 #[.pointer (some ⟨K.P, 0, none⟩), .pointer (some ⟨Q.p, 0, none⟩), .agg #[.int .i64 k, .int .i64 o, .int .i64 c, .int .i64 t]] w fun e w' => e = .returned (.bool true) ∧ Still w w' := by
  by_cases o0 : o < 0
  · by_cases c0 : c < 0
    · exact alike00 h hn k o o0 c c0 t
    by_cases c1 : (s.n : Int) ≤ c
    · exact alike01 h hn k o o0 c c1 t
    obtain ⟨c, rfl⟩ := Int.eq_ofNat_of_zero_le (show 0 ≤ c by omega)
    exact alike02 h hn k o o0 c (by omega) t
  by_cases o1 : (s.n : Int) ≤ o
  · by_cases c0 : c < 0
    · exact alike10 h hn k o o1 c c0 t
    by_cases c1 : (s.n : Int) ≤ c
    · exact alike11 h hn k o o1 c c1 t
    obtain ⟨c, rfl⟩ := Int.eq_ofNat_of_zero_le (show 0 ≤ c by omega)
    exact alike12 h hn k o o1 c (by omega) t
  obtain ⟨o, rfl⟩ := Int.eq_ofNat_of_zero_le (show 0 ≤ o by omega)
  by_cases c0 : c < 0
  · exact alike20 h hn k o (by omega) c c0 t
  by_cases c1 : (s.n : Int) ≤ c
  · exact alike21 h hn k o (by omega) c c1 t
  obtain ⟨c, rfl⟩ := Int.eq_ofNat_of_zero_le (show 0 ≤ c by omega)
  exact alike22 h hn k o (by omega) c (by omega) t
end
end Go.Proofs.Ytffjaaolcphonaa
