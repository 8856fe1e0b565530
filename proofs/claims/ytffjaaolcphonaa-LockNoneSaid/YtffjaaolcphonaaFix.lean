/- A region that draws its order, whose operations each come to one value, and whose stores stand in one chain: one walk of its text serves every order. -/
import Derived.Test.YtffjaaolcphonaaMem
import Derived.StillTail
namespace Go.Proofs.Ytffjaaolcphonaa.Fix
open Go

def dstOf (ops : Array Oper) (i : Nat) : Option Tmp := (ops[i]?).bind (·.dst)
def opTmps (ops : Array Oper) (i : Nat) : List Tmp := match ops[i]? with
  | some o => o.op.operands.toList.filterMap fun | .tmp t => some t | _ => none
  | none => []
def wf (ops : Array Oper) (j i : Nat) : Bool := Region.waitsFor .any ops j i
/-- s comes behind i, by a way of at most f steps. -/
def reach (ops : Array Oper) : Nat → Nat → Nat → Bool
  | 0, _, _ => false
  | f + 1, s, i => wf ops s i || (List.range ops.size).any fun j => wf ops s j && reach ops f j i
def chainB (ops : Array Oper) : List Nat → Bool
  | a :: b :: l => wf ops b a && decide (a < b) && chainB ops (b :: l)
  | _ => true
def fixB (ops : Array Oper) (ss : List Nat) : Bool :=
  Region.noSelect ops && ops.all (fun o => o.guard.isNone) &&
  (List.range ops.size).all (fun i => (match ops[i]? with | some o => o.after.all (fun e => !Region.binds .any e || decide (e.on < i)) | none => true) &&
    (List.range ops.size).all fun j =>
      if i = j then (opTmps ops i).all (fun t => dstOf ops i != some t)
      else (match dstOf ops i with | some d => dstOf ops j != some d | none => true) && (opTmps ops i).all (fun t => dstOf ops j != some t || (if j < i then wf ops i j else wf ops j i))) &&
  chainB ops ss && ss.all (fun s => decide (s < ops.size))
def lim (ops : Array Oper) (ss : List Nat) (i : Nat) : Nat := (ss.takeWhile fun s => !reach ops ops.size s i).length

/-- One operation comes to v, in a world of R. -/
def Stp (P : Program) (o : Oper) (a : Act) (w : World) (v : Value) (R : World → Prop) : Prop :=
  match (execOp a.eval o).run P w with
  | .ok (.value u) w' => u = v ∧ R w'
  | .ok .skip w' => v = undef ∧ R w'
  | .ok (.enter f args) w' => Calls P f args w' fun e w'' => e = .returned v ∧ R w''
  | _ => False
/-- What is owed at operation number i. -/
def Ob (P : Program) (ops : Array Oper) (ss : List Nat) (C : Nat → World → Prop) (i : Nat) (o : Oper) (a : Act) (v : Value) : Prop :=
  match ss.findIdx? (· == i) with
  | some k => ∀ w, C k w → Stp P o a w v (C (k + 1))
  | none => ∀ k w, k ≤ lim ops ss i → C k w → Stp P o a w v (C k)
def wpFix (P : Program) (ops : Array Oper) (ss : List Nat) (C : Nat → World → Prop) (Q : Act → Prop) : List Oper → Nat → Act → Prop
  | [], _, a => Q a
  | o :: rest, i, a => ∃ v, Ob P ops ss C i o a v ∧ wpFix P ops ss C Q rest (i + 1) (a.put o.dst v)

def sA (l : List Oper) (vs : List Value) (a : Act) : Nat → Act
  | 0 => a
  | j + 1 => (sA l vs a j).put ((l[j]?).bind (·.dst)) (vs.getD j undef)
theorem sA_cons (o : Oper) (l : List Oper) (v : Value) (vs : List Value) (a : Act) : ∀ j, sA (o :: l) (v :: vs) a (j + 1) = sA l vs (a.put o.dst v) j
  | 0 => rfl
  | j + 1 => by
    have := sA_cons o l v vs a j
    rw [sA, this]; rfl
theorem wpFix_ex {P : Program} {ops : Array Oper} {ss : List Nat} {C : Nat → World → Prop} {Q : Act → Prop} : ∀ (l : List Oper) (k : Nat) (a : Act), wpFix P ops ss C Q l k a →
    ∃ vs : List Value, (∀ j o, l[j]? = some o → Ob P ops ss C (k + j) o (sA l vs a j) (vs.getD j undef)) ∧ Q (sA l vs a l.length)
  | [], _, a, h => ⟨[], fun j o h => by simp at h, h⟩
  | o :: l, k, a, ⟨v, h1, h2⟩ => by
    obtain ⟨vs, h3, h4⟩ := wpFix_ex l (k + 1) _ h2
    refine ⟨v :: vs, fun j oj hj => ?_, by rw [List.length_cons, sA_cons]; exact h4⟩
    cases j with
    | zero => simp at hj; subst hj; exact h1
    | succ j =>
      have := h3 j oj (by simpa using hj)
      rw [sA_cons, show k + (j + 1) = k + 1 + j by omega]
      simpa using this

theorem find_congr {α : Type} {p q : α → Bool} : ∀ {l : List α}, (∀ x ∈ l, p x = q x) → l.find? p = l.find? q
  | [], _ => rfl
  | x :: l, h => by rw [List.find?_cons, List.find?_cons, h x (by simp), find_congr fun y hy => h y (by simp [hy])]
/-- The frame a is the frame a0 with the values of L's operations in it. -/
structure Agr (ops : Array Oper) (v : Nat → Value) (a0 a : Act) (L : Nat → Bool) : Prop where
  d : a.defers = a0.defers
  s : a.tmps.size = a0.tmps.size
  t : ∀ t, t < a0.tmps.size → a.tmps.getD t undef = (match (List.range ops.size).find? (fun i => L i && dstOf ops i == some t) with | some i => v i | none => a0.tmps.getD t undef)
theorem Agr.eq {ops : Array Oper} {v : Nat → Value} {a0 a b : Act} {L M : Nat → Bool} (ha : Agr ops v a0 a L) (hb : Agr ops v a0 b M) (h : ∀ i, i < ops.size → L i = M i) : a = b := by
  have e : a.tmps = b.tmps := by
    apply Array.ext (by rw [ha.s, hb.s])
    intro t h1 h2
    have x := ha.t t (by rw [← ha.s]; exact h1)
    have y := hb.t t (by rw [← ha.s]; exact h1)
    have hf : (List.range ops.size).find? (fun i => L i && dstOf ops i == some t) = (List.range ops.size).find? (fun i => M i && dstOf ops i == some t) := by
      apply find_congr
      intro i hi
      rw [h i (List.mem_range.1 hi)]
    rw [hf] at x
    rw [← x] at y
    simpa [h1, h2] using y.symm
  have e2 : a.defers = b.defers := by rw [ha.d, hb.d]
  obtain ⟨at1, ad⟩ := a
  obtain ⟨bt1, bd⟩ := b
  simp only at e e2
  rw [e, e2]

structure FSpec (ops : Array Oper) (ss : List Nat) : Prop where
  ns : Region.noSelect ops = true
  g : ∀ (i : Nat) (o : Oper), ops[i]? = some o → o.guard = none
  fw : ∀ (i : Nat) (o : Oper), ops[i]? = some o → ∀ e ∈ o.after, Region.binds .any e = true → e.on < i
  dd : ∀ i j d, i < ops.size → j < ops.size → i ≠ j → dstOf ops i = some d → dstOf ops j ≠ some d
  op : ∀ i j t, i < ops.size → j < ops.size → i ≠ j → t ∈ opTmps ops i → dstOf ops j = some t → (if j < i then wf ops i j else wf ops j i) = true
  own : ∀ i t, i < ops.size → t ∈ opTmps ops i → dstOf ops i ≠ some t
  ch : chainB ops ss = true
  sb : ∀ s ∈ ss, s < ops.size
theorem spec {ops : Array Oper} {ss : List Nat} (h : fixB ops ss = true) : FSpec ops ss := by
  simp only [fixB, Bool.and_eq_true] at h
  obtain ⟨⟨⟨⟨h1, h2⟩, h3⟩, h4⟩, h5⟩ := h
  have hr : ∀ i, i < ops.size → _ := fun i hi => List.all_eq_true.1 h3 i (List.mem_range.2 hi)
  refine ⟨h1, ?_, ?_, ?_, ?_, ?_, h4, ?_⟩
  · intro i o ho
    have := Array.all_eq_true_iff_forall_mem.1 h2 o (Array.mem_of_getElem? ho)
    simpa using this
  · intro i o ho e he hb
    have hi : i < ops.size := (Array.getElem?_eq_some_iff.1 ho).1
    have := hr i hi
    simp only [Bool.and_eq_true, ho] at this
    have := Array.all_eq_true_iff_forall_mem.1 this.1 e he
    simpa [hb] using this
  · intro i j d hi hj hne hd
    have := hr i hi
    simp only [Bool.and_eq_true] at this
    have := List.all_eq_true.1 this.2 j (List.mem_range.2 hj)
    rw [if_neg hne] at this
    simp only [Bool.and_eq_true, hd] at this
    simpa using this.1
  · intro i j t hi hj hne ht hd
    have := hr i hi
    simp only [Bool.and_eq_true] at this
    have := List.all_eq_true.1 this.2 j (List.mem_range.2 hj)
    rw [if_neg hne] at this
    simp only [Bool.and_eq_true] at this
    have := List.all_eq_true.1 this.2 t ht
    simpa [hd] using this
  · intro i t hi ht
    have := hr i hi
    simp only [Bool.and_eq_true] at this
    have := List.all_eq_true.1 this.2 i (List.mem_range.2 hi)
    rw [if_pos rfl] at this
    have := List.all_eq_true.1 this t ht
    simpa using this
  · intro s hs
    simpa using List.all_eq_true.1 h5 s hs

theorem Agr.put {ops : Array Oper} {ss : List Nat} (sp : FSpec ops ss) {v : Nat → Value} {a0 a : Act} {L : Nat → Bool} (h : Agr ops v a0 a L) {i : Nat} (hi : i < ops.size) :
    Agr ops v a0 (a.put (dstOf ops i) (v i)) (fun j => L j || j == i) := by
  cases hd : dstOf ops i with
  | none =>
    refine ⟨h.d, h.s, fun t ht => (h.t t ht).trans ?_⟩
    have e : (List.range ops.size).find? (fun j => L j && dstOf ops j == some t) = (List.range ops.size).find? (fun j => (L j || j == i) && dstOf ops j == some t) := by
      apply find_congr
      intro j _
      by_cases e : j = i
      · subst e; simp [hd]
      · have e' : (j == i) = false := by simpa using e
        simp only [e', Bool.or_false]
    rw [e]
  | some d =>
    refine ⟨h.d, by simpa [Act.put] using h.s, fun t ht => ?_⟩
    by_cases e : d = t
    · subst e
      have hf : (List.range ops.size).find? (fun j => (L j || j == i) && dstOf ops j == some d) = some i := by
        have : ((List.range ops.size).find? (fun j => (L j || j == i) && dstOf ops j == some d)).isSome := by
          rw [List.find?_isSome]; exact ⟨i, List.mem_range.2 hi, by simp [hd]⟩
        obtain ⟨j, hj⟩ := Option.isSome_iff_exists.1 this
        rw [hj]
        have hp := List.find?_some hj
        have hm := List.mem_range.1 (List.mem_of_find?_eq_some hj)
        simp only [Bool.and_eq_true, beq_iff_eq] at hp
        by_cases e : j = i
        · rw [e]
        · exact absurd hp.2 (sp.dd i j d hi hm (fun x => e x.symm) hd)
      rw [hf]
      simp [Act.put, h.s, ht]
    · have e1 : (a.put (some d) (v i)).tmps.getD t undef = a.tmps.getD t undef := by
        simp [Act.put, Array.getElem?_setIfInBounds_ne e]
      rw [e1, h.t t ht]
      have e : (List.range ops.size).find? (fun j => L j && dstOf ops j == some t) = (List.range ops.size).find? (fun j => (L j || j == i) && dstOf ops j == some t) := by
        apply find_congr
        intro j _
        by_cases e2 : j = i
        · subst e2; simp [hd, e]
        · have e' : (j == i) = false := by simpa using e2
          simp only [e', Bool.or_false]
      rw [e]
theorem Agr.of {ops : Array Oper} {v : Nat → Value} {a0 a : Act} {L M : Nat → Bool} (h : Agr ops v a0 a L) (hm : ∀ i, i < ops.size → L i = M i) : Agr ops v a0 a M := by
  refine ⟨h.d, h.s, fun t ht => (h.t t ht).trans ?_⟩
  rw [find_congr (l := List.range ops.size) (p := fun i => L i && dstOf ops i == some t) (q := fun i => M i && dstOf ops i == some t) (fun i hi => by rw [hm i (List.mem_range.1 hi)])]
theorem Agr.none (ops : Array Oper) (v : Nat → Value) (a0 : Act) : Agr ops v a0 a0 (fun _ => false) := by
  refine ⟨rfl, rfl, fun t _ => ?_⟩
  have : (List.range ops.size).find? (fun i => false && dstOf ops i == some t) = Option.none := by simp
  rw [this]
theorem Agr.seq {ops : Array Oper} {ss : List Nat} (sp : FSpec ops ss) (vs : List Value) (a0 : Act) : ∀ k, k ≤ ops.size → Agr ops (fun i => vs.getD i undef) a0 (sA ops.toList vs a0 k) (fun j => decide (j < k))
  | 0, _ => (Agr.none ops _ a0).of (fun i _ => by simp)
  | k + 1, hk => by
    have h := (Agr.seq sp vs a0 k (by omega)).put sp (i := k) (by omega)
    have e : (ops.toList[k]?).bind (·.dst) = dstOf ops k := by simp [dstOf]
    rw [sA, e]
    exact h.of (fun i _ => by
      rw [Bool.eq_iff_iff]; simp; omega)
theorem Agr.exec {ops : Array Oper} {ss : List Nat} (sp : FSpec ops ss) {v : Nat → Value} {a0 a b : Act} {L : Nat → Bool} {i : Nat} {o : Oper} (ho : ops[i]? = some o) (ha : Agr ops v a0 a L) (hb : Agr ops v a0 b (fun j => decide (j < i)))
    (h1 : ∀ j, wf ops i j = true → L j = true) (h2 : ∀ j, j < ops.size → wf ops j i = true → L j = false) : execOp a.eval o = execOp b.eval o := by
  have hi : i < ops.size := (Array.getElem?_eq_some_iff.1 ho).1
  refine execOp_congr o (fun cs b => Region.noSelect_spec sp.ns i o cs b ho) fun x hx => ?_
  cases x with
  | tmp t =>
    show a.tmps.getD t undef = b.tmps.getD t undef
    by_cases ht : t < a0.tmps.size
    · rw [ha.t t ht, hb.t t ht]
      have htm : t ∈ opTmps ops i := by
        unfold opTmps; rw [ho]
        exact List.mem_filterMap.2 ⟨.tmp t, by simpa using hx, rfl⟩
      rw [find_congr (l := List.range ops.size) (p := fun j => L j && dstOf ops j == some t) (q := fun j => decide (j < i) && dstOf ops j == some t) (fun j hj => ?_)]
      have hj' := List.mem_range.1 hj
      by_cases hd : dstOf ops j = some t
      · have hne : i ≠ j := by rintro rfl; exact sp.own i t hi htm hd
        have h3 := sp.op i j t hi hj' hne htm hd
        by_cases hlt : j < i
        · rw [if_pos hlt] at h3; simp [hlt, h1 j h3]
        · rw [if_neg hlt] at h3; simp [hlt, h2 j hj' h3]
      · have : (dstOf ops j == some t) = false := by simpa using hd
        simp [this]
    · have e1 : a.tmps.getD t undef = undef := by simp [Array.getElem?_eq_none (show a.tmps.size ≤ t by rw [ha.s]; exact Nat.le_of_not_lt ht)]
      have e2 : b.tmps.getD t undef = undef := by simp [Array.getElem?_eq_none (show b.tmps.size ≤ t by rw [hb.s]; exact Nat.le_of_not_lt ht)]
      rw [e1, e2]
  | const v => rfl
  | global g => rfl
  | func f => rfl

theorem takeWhile_mono {p q : Nat → Bool} : ∀ (l : List Nat), (∀ s ∈ l, p s = true → q s = true) → (l.takeWhile p).length ≤ (l.takeWhile q).length
  | [], _ => Nat.le_refl _
  | s :: l, h => by
    rw [List.takeWhile_cons, List.takeWhile_cons]
    cases hp : p s with
    | false => simp
    | true =>
      rw [h s (by simp) hp]
      simpa using takeWhile_mono l fun x hx => h x (by simp [hx])
theorem takeWhile_congr {p q : Nat → Bool} : ∀ (l : List Nat), (∀ s ∈ l, p s = q s) → l.takeWhile p = l.takeWhile q
  | [], _ => rfl
  | s :: l, h => by
    rw [List.takeWhile_cons, List.takeWhile_cons, h s (by simp), takeWhile_congr l fun x hx => h x (by simp [hx])]
theorem takeWhile_true : ∀ l : List Nat, l.takeWhile (fun _ => true) = l
  | [] => rfl
  | a :: l => by rw [List.takeWhile_cons, takeWhile_true l]; rfl
theorem takeWhile_at {p : Nat → Bool} : ∀ (pre post : List Nat) (i : Nat), (∀ s ∈ pre, p s = true) → p i = false → ((pre ++ i :: post).takeWhile p).length = pre.length
  | [], post, i, _, h => by simp [h]
  | s :: pre, post, i, h1, h2 => by
    rw [List.cons_append, List.takeWhile_cons, h1 s (by simp)]
    simpa using takeWhile_at pre post i (fun x hx => h1 x (by simp [hx])) h2
/-- L holds with each operation those that it waits for. -/
def Closed (ops : Array Oper) (L : Nat → Bool) : Prop := ∀ j, L j = true → ∀ i, wf ops j i = true → L i = true
theorem reach_closed {ops : Array Oper} {L : Nat → Bool} (h : Closed ops L) : ∀ (f s i : Nat), reach ops f s i = true → L s = true → L i = true
  | 0, _, _, hr, _ => by simp [reach] at hr
  | f + 1, s, i, hr, hs => by
    simp only [reach, Bool.or_eq_true] at hr
    rcases hr with hr | hr
    · exact h s hs i hr
    · obtain ⟨j, _, hj⟩ := List.any_eq_true.1 hr
      simp only [Bool.and_eq_true] at hj
      exact reach_closed h f j i hj.2 (h s hs j hj.1)
theorem chain_tail {ops : Array Oper} {a : Nat} {l : List Nat} (h : chainB ops (a :: l) = true) : chainB ops l = true := by
  cases l with
  | nil => rfl
  | cons b l => simp only [chainB, Bool.and_eq_true] at h; exact h.2
theorem chain_lt {ops : Array Oper} : ∀ {a : Nat} {l : List Nat}, chainB ops (a :: l) = true → ∀ s ∈ l, a < s
  | _, [], _, s, hs => by simp at hs
  | a, b :: l, h, s, hs => by
    simp only [chainB, Bool.and_eq_true, decide_eq_true_eq] at h
    rcases List.mem_cons.1 hs with rfl | hs
    · exact h.1.2
    · exact Nat.lt_trans h.1.2 (chain_lt h.2 s hs)
theorem chain_all {ops : Array Oper} {L : Nat → Bool} (h : Closed ops L) : ∀ {l : List Nat} {p : Nat}, chainB ops (l ++ [p]) = true → L p = true → ∀ s ∈ l ++ [p], L s = true
  | [], p, _, hp, s, hs => by simp at hs; rw [hs]; exact hp
  | a :: l, p, hc, hp, s, hs => by
    have h1 := chain_all h (chain_tail (by simpa using hc)) hp
    rw [List.cons_append] at hs hc
    rcases List.mem_cons.1 hs with rfl | hs
    · cases l with
      | nil =>
        simp only [List.nil_append, chainB, Bool.and_eq_true] at hc
        exact h p hp _ hc.1.1
      | cons b l =>
        simp only [List.cons_append, chainB, Bool.and_eq_true] at hc
        exact h b (h1 b (by simp)) _ hc.1.1
    · exact h1 s hs
theorem chain_left {ops : Array Oper} : ∀ {l m : List Nat}, chainB ops (l ++ m) = true → chainB ops l = true
  | [], _, _ => rfl
  | [a], _, _ => rfl
  | a :: b :: l, m, h => by
    simp only [List.cons_append, chainB, Bool.and_eq_true] at h ⊢
    exact ⟨h.1, chain_left (l := b :: l) (m := m) (by simpa using h.2)⟩
theorem chain_right {ops : Array Oper} : ∀ {l m : List Nat}, chainB ops (l ++ m) = true → chainB ops m = true
  | [], _, h => h
  | a :: l, m, h => chain_right (l := l) (chain_tail (by simpa using h))
theorem filter_le {p q : Nat → Bool} : ∀ (l : List Nat), (∀ x ∈ l, q x = true → p x = true) → (l.filter q).length ≤ (l.filter p).length
  | [], _ => Nat.le_refl _
  | b :: l, h => by
    have := filter_le l fun x hx => h x (by simp [hx])
    have hb := h b (by simp)
    rw [List.filter_cons, List.filter_cons]
    cases hqb : q b <;> cases hpb : p b <;> simp_all <;> omega
theorem filter_lt {p q : Nat → Bool} : ∀ (l : List Nat), (∀ x ∈ l, q x = true → p x = true) → (∃ x ∈ l, p x = true ∧ q x = false) → (l.filter q).length < (l.filter p).length
  | [], _, ⟨_, h, _⟩ => by simp at h
  | a :: l, h, ⟨x, hx, hp, hq⟩ => by
    have hle := filter_le (p := p) (q := q) l fun x hx => h x (by simp [hx])
    rw [List.filter_cons, List.filter_cons]
    rcases List.mem_cons.1 hx with rfl | hx
    · simp [hp, hq]; omega
    · have := filter_lt l (fun x hx => h x (by simp [hx])) ⟨x, hx, hp, hq⟩
      have ha := h a (by simp)
      cases hqa : q a <;> cases hpa : p a <;> simp_all <;> omega

structure INV (ops : Array Oper) (ss : List Nat) (C : Nat → World → Prop) (v : Nat → Value) (a0 : Act) (listed : Array Bool) (a : Act) (w : World) : Prop where
  sz : listed.size = ops.size
  cl : Closed ops (fun i => listed.getD i false)
  ag : Agr ops v a0 a (fun i => listed.getD i false)
  wd : C (ss.takeWhile fun s => listed.getD s false).length w

theorem getD_set_self (listed : Array Bool) (i : Nat) (h : i < listed.size) : (listed.setIfInBounds i true).getD i false = true := by simp [h]
theorem getD_set_or (listed : Array Bool) (i j : Nat) (h : i < listed.size) : (listed.setIfInBounds i true).getD j false = (listed.getD j false || j == i) := by
  by_cases e : i = j
  · subst e; simp [h]
  · have : (j == i) = false := beq_eq_false_iff_ne.2 fun x => e x.symm
    rw [this, Bool.or_false]
    simp [Array.getElem?_setIfInBounds_ne e]

theorem wpAny_fix {P : Program} {ops : Array Oper} {ss : List Nat} (sp : FSpec ops ss) {C : Nat → World → Prop} {Q : Exit → Act → World → Prop} {vs : List Value} {a0 : Act}
    (hob : ∀ (i : Nat) (o : Oper), ops[i]? = some o → Ob P ops ss C i o (sA ops.toList vs a0 i) (vs.getD i undef)) (hfin : ∀ w, C ss.length w → Q .normal (sA ops.toList vs a0 ops.size) w) :
    ∀ (fuel : Nat) (listed : Array Bool) (a : Act) (w : World), INV ops ss C (fun i => vs.getD i undef) a0 listed a w → ((List.range ops.size).filter (fun i => !listed.getD i false)).length ≤ fuel → wpAny P .any ops Q fuel listed a w := by
  have fin : ∀ (listed : Array Bool) (a : Act) (w : World), INV ops ss C (fun i => vs.getD i undef) a0 listed a w → (∀ i, i < ops.size → listed.getD i false = true) → Q .normal a w := by
    intro listed a w hI hall
    have e : a = sA ops.toList vs a0 ops.size := hI.ag.eq (Agr.seq sp vs a0 ops.size (Nat.le_refl _)) (fun i hi => by simp only [hi, decide_true]; exact hall i hi)
    have hw := hI.wd
    have e2 : ss.takeWhile (fun s => listed.getD s false) = ss := by
      rw [takeWhile_congr ss (q := fun _ => true) (fun s hs => hall s (sp.sb s hs))]
      exact takeWhile_true ss
    rw [e2] at hw
    rw [e]; exact hfin w hw
  have noready : ∀ (listed : Array Bool), listed.size = ops.size → Region.ready .any ops listed = [] → ∀ i, i < ops.size → listed.getD i false = true := by
    intro listed hsz hr i
    induction i using Nat.strongRecOn with
    | _ i ih =>
      intro hi
      cases hl : listed.getD i false with
      | true => rfl
      | false =>
        exfalso
        have : i ∈ Region.ready .any ops listed := by
          refine mem_ready.2 ⟨getD_in (by omega) hl, ops[i], by simp [hi], fun e he hb => ?_⟩
          have := sp.fw i ops[i] (by simp [hi]) e he hb
          exact ih e.on this (by omega)
        rw [hr] at this; simp at this
  intro fuel
  induction fuel with
  | zero =>
    intro listed a w hI hu
    have hall : ∀ i, i < ops.size → listed.getD i false = true := by
      intro i hi
      have : (List.range ops.size).filter (fun i => !listed.getD i false) = [] := List.eq_nil_of_length_eq_zero (by omega)
      have := List.filter_eq_nil_iff.1 this i (List.mem_range.2 hi)
      simpa using this
    refine ⟨?_, fin listed a w hI hall⟩
    cases hr : Region.ready .any ops listed with
    | nil => rfl
    | cons i l =>
      have hm : i ∈ Region.ready .any ops listed := by rw [hr]; simp
      obtain ⟨h1, o, ho, _⟩ := mem_ready.1 hm
      have := hall i (Array.getElem?_eq_some_iff.1 ho).1
      rw [getD_both h1] at this; simp at this
  | succ fuel ih =>
    intro listed a w hI hu
    refine ⟨fun hr => fin listed a w hI (noready listed hI.sz hr), fun i hm => ?_⟩
    obtain ⟨hun, o, ho, hdeps⟩ := mem_ready.1 hm
    have hi : i < ops.size := (Array.getElem?_eq_some_iff.1 ho).1
    have hil : i < listed.size := by rw [hI.sz]; exact hi
    have hun' : listed.getD i false = false := getD_both hun
    have h1 : ∀ j, wf ops i j = true → listed.getD j false = true := by
      intro j hj
      obtain ⟨o', ho', e, he, hb, hon⟩ := Region.waitsFor_spec hj
      obtain rfl : o' = o := Option.some.inj (ho'.symm.trans ho)
      rw [← hon]; exact hdeps e he hb
    have h2 : ∀ j, wf ops j i = true → listed.getD j false = false := by
      intro j hj
      cases hl : listed.getD j false with
      | false => rfl
      | true => have := hI.cl j hl i hj; simp only [] at this; rw [hun'] at this; simp at this
    have hex := Agr.exec sp ho hI.ag (Agr.seq sp vs a0 i (by omega)) h1 (fun j _ h => h2 j h)
    have hcl : Closed ops (fun j => (listed.setIfInBounds i true).getD j false) := by
      intro j hj k hk
      simp only [getD_set_or _ _ _ hil, Bool.or_eq_true, beq_iff_eq] at hj ⊢
      rcases hj with hj | rfl
      · exact .inl (hI.cl j hj k hk)
      · exact .inl (h1 k hk)
    have hag : Agr ops (fun i => vs.getD i undef) a0 (a.put o.dst (vs.getD i undef)) (fun j => (listed.setIfInBounds i true).getD j false) := by
      have := hI.ag.put sp hi
      have e : dstOf ops i = o.dst := by simp [dstOf, ho]
      rw [e] at this
      exact this.of fun j _ => (getD_set_or _ _ _ hil).symm
    have hlt : ((List.range ops.size).filter (fun j => !(listed.setIfInBounds i true).getD j false)).length ≤ fuel := by
      have := filter_lt (p := fun j => !listed.getD j false) (q := fun j => !(listed.setIfInBounds i true).getD j false) (List.range ops.size) (fun x _ hx => by
        simp only [getD_set_or _ _ _ hil] at hx
        simp only [Bool.not_or, Bool.and_eq_true] at hx
        exact hx.1) ⟨i, List.mem_range.2 hi, by simp only [hun', Bool.not_false], by simp only [getD_set_self _ _ hil, Bool.not_true]⟩
      omega
    have key : ∀ w', C (ss.takeWhile fun s => (listed.setIfInBounds i true).getD s false).length w' → wpAny P .any ops Q fuel (listed.setIfInBounds i true) (a.put o.dst (vs.getD i undef)) w' :=
      fun w' hw' => ih _ _ _ ⟨by simpa using hI.sz, hcl, hag, hw'⟩ hlt
    have hstp : Stp P o (sA ops.toList vs a0 i) w (vs.getD i undef) (C (ss.takeWhile fun s => (listed.setIfInBounds i true).getD s false).length) := by
      have hO := hob i o ho
      unfold Ob at hO
      split at hO
      · rename_i k hk
        obtain ⟨hk1, hk2, _⟩ := List.findIdx?_eq_some_iff_getElem.1 hk
        simp only [beq_iff_eq] at hk2
        have hss : ss = ss.take k ++ i :: ss.drop (k + 1) := by
          rw [← hk2, List.getElem_cons_drop, List.take_append_drop]
        have hch := sp.ch
        rw [hss] at hch
        have hpre : ∀ s ∈ ss.take k, listed.getD s false = true := by
          rcases List.eq_nil_or_concat (ss.take k) with h0 | ⟨l, p, h0⟩
          · rw [h0]; intro s hs; simp at hs
          · rw [List.concat_eq_append] at h0
            rw [h0] at hch ⊢
            have hw : wf ops i p = true := by
              have := chain_right (l := l) (m := p :: i :: ss.drop (k + 1)) (by simpa using hch)
              simp only [chainB, Bool.and_eq_true] at this
              exact this.1.1
            exact chain_all hI.cl (chain_left (m := i :: ss.drop (k + 1)) hch) (h1 p hw)
        have hst : (ss.takeWhile fun s => listed.getD s false).length = k := by
          rw [hss, takeWhile_at _ _ _ hpre hun', List.length_take]; omega
        have hpost : ∀ q r, ss.drop (k + 1) = q :: r → listed.getD q false = false ∧ q ≠ i := by
          intro q r hq
          have h5 := chain_right (l := ss.take k) hch
          rw [hq] at h5
          have h6 := chain_lt h5 q (by simp)
          simp only [chainB, Bool.and_eq_true] at h5
          exact ⟨h2 q h5.1.1, by omega⟩
        have hst2 : (ss.takeWhile fun s => (listed.setIfInBounds i true).getD s false).length = k + 1 := by
          have hp : ∀ s ∈ ss.take k ++ [i], (listed.setIfInBounds i true).getD s false = true := by
            intro s hs
            rw [getD_set_or _ _ _ hil]
            rcases List.mem_append.1 hs with hs | hs
            · rw [hpre s hs]; rfl
            · simp at hs; simp [hs]
          cases hd : ss.drop (k + 1) with
          | nil =>
            have e : ss = ss.take k ++ [i] := by rw [hd] at hss; exact hss
            have : ss.takeWhile (fun s => (listed.setIfInBounds i true).getD s false) = ss := by
              rw [takeWhile_congr ss (q := fun _ => true) (fun s hs => hp s (by rw [← e]; exact hs))]; exact takeWhile_true ss
            rw [this, e]; simp; omega
          | cons q r =>
            obtain ⟨h7, h8⟩ := hpost q r hd
            have e : ss = (ss.take k ++ [i]) ++ q :: r := by rw [hd] at hss; simpa using hss
            rw [e, takeWhile_at _ _ _ hp (by rw [getD_set_or _ _ _ hil, h7, Bool.false_or]; exact beq_eq_false_iff_ne.2 h8)]
            simp; omega
        rw [hst2]
        exact hO w (hst ▸ hI.wd)
      · rename_i hk
        have hni : ∀ s ∈ ss, s ≠ i := by
          intro s hs e
          have := List.findIdx?_eq_none_iff.1 hk s hs
          simp [e] at this
        have e : ss.takeWhile (fun s => (listed.setIfInBounds i true).getD s false) = ss.takeWhile (fun s => listed.getD s false) :=
          takeWhile_congr ss fun s hs => by rw [getD_set_or _ _ _ hil, beq_eq_false_iff_ne.2 (hni s hs), Bool.or_false]
        rw [e]
        refine hO _ w ?_ hI.wd
        refine takeWhile_mono ss fun s _ hl => ?_
        cases hr : reach ops ops.size s i with
        | false => rfl
        | true => have this : listed.getD i false = true := reach_closed hI.cl _ _ _ hr hl; rw [hun'] at this; simp at this
    unfold wpOp
    rw [ho]
    show if Region.wanted o (yielded ops a.tmps) = true then _ else _
    rw [if_pos (by simp [Region.wanted, sp.g i o ho])]
    left
    unfold Stp at hstp
    rw [← hex] at hstp
    unfold Oper.wp
    generalize (execOp a.eval o).run P w = r at hstp
    cases r with
    | ok n w' =>
      cases n <;> simp only [Oper.upon] at hstp ⊢
      case value u => rw [hstp.1]; exact key w' hstp.2
      case skip =>
        have := key w' hstp.2
        rw [hstp.1] at this; exact this
      case enter f args => exact Calls.mono hstp fun e w'' ⟨he, hw⟩ => by subst he; exact key w'' hw
    | halt x w' => simp only at hstp

/-- ONE WALK OF THE TEXT SERVES EVERY ORDER. -/
theorem wp_region_fix {P : Program} {id : Nat} {ops : List Oper} {Q : Exit → Act → World → Prop} {a : Act} {w : World} (ss : List Nat) (C : Nat → World → Prop) (hm : P.follows .mixedOrders = true) (hB : fixB ops.toArray ss = true) (h0 : C 0 w.drew)
    (h : wpFix P ops.toArray ss C (fun a' => ∀ w', C ss.length w' → Q .normal a' w') ops 0 a) : (Code.region id ops.toArray true).wp P Q a w := by
  have sp := spec hB
  obtain ⟨vs, h1, h2⟩ := wpFix_ex ops 0 a h
  refine wp_region_any hm (wpAny_fix sp (C := C) (vs := vs) (a0 := a) (fun i o ho => ?_) (fun w' hw' => ?_) _ _ a _ ⟨by simp, ?_, ?_, ?_⟩ ?_)
  · have := h1 i o (by simpa using ho)
    rw [Nat.zero_add] at this; exact this
  · have := h2 w' hw'
    simpa using this
  · intro j hj
    have hj' : (Array.replicate ops.toArray.size false).getD j false = true := hj
    rw [getD_replicate_false] at hj'; cases hj'
  · exact (Agr.none _ _ a).of fun i _ => (getD_replicate_false _ i).symm
  · have e : ss.takeWhile (fun s => (Array.replicate ops.toArray.size false).getD s false) = [] := by
      cases ss with
      | nil => rfl
      | cons s l => rw [List.takeWhile_cons, getD_replicate_false]; rfl
    rw [e]; exact h0
  · exact Nat.le_trans (List.length_filter_le _ _) (by simp)
theorem ob_plain {P : Program} {ops : Array Oper} {ss : List Nat} {C : Nat → World → Prop} {i : Nat} {o : Oper} {a : Act} {v : Value} (h : ss.findIdx? (· == i) = none) (h2 : ∀ k w, k ≤ lim ops ss i → C k w → Stp P o a w v (C k)) : Ob P ops ss C i o a v := by
  unfold Ob; rw [h]; exact h2
theorem ob_store {P : Program} {ops : Array Oper} {ss : List Nat} {C : Nat → World → Prop} {i : Nat} {o : Oper} {a : Act} {v : Value} (k : Nat) (h : ss.findIdx? (· == i) = some k) (h2 : ∀ w, C k w → Stp P o a w v (C (k + 1))) : Ob P ops ss C i o a v := by
  unfold Ob; rw [h]; exact h2
theorem stp_value {P : Program} {o : Oper} {a : Act} {w : World} {v : Value} {R : World → Prop} {w' : World} (h : (execOp a.eval o).run P w = .ok (.value v) w') (hr : R w') : Stp P o a w v R := by
  unfold Stp; rw [h]; exact ⟨rfl, hr⟩
end Go.Proofs.Ytffjaaolcphonaa.Fix
