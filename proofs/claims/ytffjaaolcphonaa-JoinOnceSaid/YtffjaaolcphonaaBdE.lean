/- A region that draws its order, whose operations each come to one value, and whose stores stand in one chain: one walk of its text serves every order. -/
import Derived.Test.YtffjaaolcphonaaBdA
import Derived.StillTail
import Derived.Tactics
import Derived.KernelRfl
import Derived.Test.YtffjaaolcphonaaBdD
namespace Go.Proofs.Ytffjaaolcphonaa.Fix
open Go

def dstOf (ops : Array Oper) (i : Nat) : Option Tmp := (ops[i]?).bind (·.dst)
def opTmps (ops : Array Oper) (i : Nat) : List Tmp := match ops[i]? with
  | some o => o.op.operands.toList.filterMap fun | .tmp t => some t | _ => none
  | none => []
def wf (ops : Array Oper) (j i : Nat) : Bool := Region.waitsFor .any ops j i
/-- s comes behind i, by a way of at most f steps. -/
def reach (ops : Array Oper) : Nat → Nat → Nat → Bool
  | 0, _, _ => false
  | f + 1, s, i => wf ops s i || (List.range ops.size).any fun j => wf ops s j && reach ops f j i
def chainB (ops : Array Oper) : List Nat → Bool
  | a :: b :: l => wf ops b a && decide (a < b) && chainB ops (b :: l)
  | _ => true
def fixB (ops : Array Oper) (ss : List Nat) : Bool :=
  Region.noSelect ops && ops.all (fun o => o.guard.isNone) &&
  (List.range ops.size).all (fun i => (match ops[i]? with | some o => o.after.all (fun e => !Region.binds .any e || decide (e.on < i)) | none => true) &&
    (List.range ops.size).all fun j =>
      if i = j then (opTmps ops i).all (fun t => dstOf ops i != some t)
      else (match dstOf ops i with | some d => dstOf ops j != some d | none => true) && (opTmps ops i).all (fun t => dstOf ops j != some t || (if j < i then wf ops i j else wf ops j i))) &&
  chainB ops ss && ss.all (fun s => decide (s < ops.size))
def lim (ops : Array Oper) (ss : List Nat) (i : Nat) : Nat := (ss.takeWhile fun s => !reach ops ops.size s i).length

/-- One operation comes to v, in a world of R. -/
def Stp (P : Program) (o : Oper) (a : Act) (w : World) (v : Value) (R : World → Prop) : Prop :=
  match (execOp a.eval o).run P w with
  | .ok (.value u) w' => u = v ∧ R w'
  | .ok .skip w' => v = undef ∧ R w'
  | .ok (.enter f args) w' => Calls P f args w' fun e w'' => e = .returned v ∧ R w''
  | _ => False
/-- What is owed at operation number i. -/
def Ob (P : Program) (ops : Array Oper) (ss : List Nat) (C : Nat → World → Prop) (i : Nat) (o : Oper) (a : Act) (v : Value) : Prop :=
  match ss.findIdx? (· == i) with
  | some k => ∀ w, C k w → Stp P o a w v (C (k + 1))
  | none => ∀ k w, k ≤ lim ops ss i → C k w → Stp P o a w v (C k)
def wpFix (P : Program) (ops : Array Oper) (ss : List Nat) (C : Nat → World → Prop) (Q : Act → Prop) : List Oper → Nat → Act → Prop
  | [], _, a => Q a
  | o :: rest, i, a => ∃ v, Ob P ops ss C i o a v ∧ wpFix P ops ss C Q rest (i + 1) (a.put o.dst v)

def sA (l : List Oper) (vs : List Value) (a : Act) : Nat → Act
  | 0 => a
  | j + 1 => (sA l vs a j).put ((l[j]?).bind (·.dst)) (vs.getD j undef)
theorem sA_cons (o : Oper) (l : List Oper) (v : Value) (vs : List Value) (a : Act) : ∀ j, sA (o :: l) (v :: vs) a (j + 1) = sA l vs (a.put o.dst v) j
  | 0 => rfl
  | j + 1 => by
    have := sA_cons o l v vs a j
    rw [sA, this]; rfl
theorem wpFix_ex {P : Program} {ops : Array Oper} {ss : List Nat} {C : Nat → World → Prop} {Q : Act → Prop} : ∀ (l : List Oper) (k : Nat) (a : Act), wpFix P ops ss C Q l k a →
    ∃ vs : List Value, (∀ j o, l[j]? = some o → Ob P ops ss C (k + j) o (sA l vs a j) (vs.getD j undef)) ∧ Q (sA l vs a l.length)
  | [], _, a, h => ⟨[], fun j o h => by simp at h, h⟩
  | o :: l, k, a, ⟨v, h1, h2⟩ => by
    obtain ⟨vs, h3, h4⟩ := wpFix_ex l (k + 1) _ h2
    refine ⟨v :: vs, fun j oj hj => ?_, by rw [List.length_cons, sA_cons]; exact h4⟩
    cases j with
    | zero => simp at hj; subst hj; exact h1
    | succ j =>
      have := h3 j oj (by simpa using hj)
      rw [sA_cons, show k + (j + 1) = k + 1 + j by omega]
      simpa using this

theorem find_congr {α : Type} {p q : α → Bool} : ∀ {l : List α}, (∀ x ∈ l, p x = q x) → l.find? p = l.find? q
  | [], _ => rfl
  | x :: l, h => by rw [List.find?_cons, List.find?_cons, h x (by simp), find_congr fun y hy => h y (by simp [hy])]
/-- The frame a is the frame a0 with the values of L's operations in it. -/
structure Agr (ops : Array Oper) (v : Nat → Value) (a0 a : Act) (L : Nat → Bool) : Prop where
  d : a.defers = a0.defers
  s : a.tmps.size = a0.tmps.size
  t : ∀ t, t < a0.tmps.size → a.tmps.getD t undef = (match (List.range ops.size).find? (fun i => L i && dstOf ops i == some t) with | some i => v i | none => a0.tmps.getD t undef)
theorem Agr.eq {ops : Array Oper} {v : Nat → Value} {a0 a b : Act} {L M : Nat → Bool} (ha : Agr ops v a0 a L) (hb : Agr ops v a0 b M) (h : ∀ i, i < ops.size → L i = M i) : a = b := by
  have e : a.tmps = b.tmps := by
    apply Array.ext (by rw [ha.s, hb.s])
    intro t h1 h2
    have x := ha.t t (by rw [← ha.s]; exact h1)
    have y := hb.t t (by rw [← ha.s]; exact h1)
    have hf : (List.range ops.size).find? (fun i => L i && dstOf ops i == some t) = (List.range ops.size).find? (fun i => M i && dstOf ops i == some t) := by
      apply find_congr
      intro i hi
      rw [h i (List.mem_range.1 hi)]
    rw [hf] at x
    rw [← x] at y
    simpa [h1, h2] using y.symm
  have e2 : a.defers = b.defers := by rw [ha.d, hb.d]
  obtain ⟨at1, ad⟩ := a
  obtain ⟨bt1, bd⟩ := b
  simp only at e e2
  rw [e, e2]

structure FSpec (ops : Array Oper) (ss : List Nat) : Prop where
  ns : Region.noSelect ops = true
  g : ∀ (i : Nat) (o : Oper), ops[i]? = some o → o.guard = none
  fw : ∀ (i : Nat) (o : Oper), ops[i]? = some o → ∀ e ∈ o.after, Region.binds .any e = true → e.on < i
  dd : ∀ i j d, i < ops.size → j < ops.size → i ≠ j → dstOf ops i = some d → dstOf ops j ≠ some d
  op : ∀ i j t, i < ops.size → j < ops.size → i ≠ j → t ∈ opTmps ops i → dstOf ops j = some t → (if j < i then wf ops i j else wf ops j i) = true
  own : ∀ i t, i < ops.size → t ∈ opTmps ops i → dstOf ops i ≠ some t
  ch : chainB ops ss = true
  sb : ∀ s ∈ ss, s < ops.size
theorem spec {ops : Array Oper} {ss : List Nat} (h : fixB ops ss = true) : FSpec ops ss := by
  simp only [fixB, Bool.and_eq_true] at h
  obtain ⟨⟨⟨⟨h1, h2⟩, h3⟩, h4⟩, h5⟩ := h
  have hr : ∀ i, i < ops.size → _ := fun i hi => List.all_eq_true.1 h3 i (List.mem_range.2 hi)
  refine ⟨h1, ?_, ?_, ?_, ?_, ?_, h4, ?_⟩
  · intro i o ho
    have := Array.all_eq_true_iff_forall_mem.1 h2 o (Array.mem_of_getElem? ho)
    simpa using this
  · intro i o ho e he hb
    have hi : i < ops.size := (Array.getElem?_eq_some_iff.1 ho).1
    have := hr i hi
    simp only [Bool.and_eq_true, ho] at this
    have := Array.all_eq_true_iff_forall_mem.1 this.1 e he
    simpa [hb] using this
  · intro i j d hi hj hne hd
    have := hr i hi
    simp only [Bool.and_eq_true] at this
    have := List.all_eq_true.1 this.2 j (List.mem_range.2 hj)
    rw [if_neg hne] at this
    simp only [Bool.and_eq_true, hd] at this
    simpa using this.1
  · intro i j t hi hj hne ht hd
    have := hr i hi
    simp only [Bool.and_eq_true] at this
    have := List.all_eq_true.1 this.2 j (List.mem_range.2 hj)
    rw [if_neg hne] at this
    simp only [Bool.and_eq_true] at this
    have := List.all_eq_true.1 this.2 t ht
    simpa [hd] using this
  · intro i t hi ht
    have := hr i hi
    simp only [Bool.and_eq_true] at this
    have := List.all_eq_true.1 this.2 i (List.mem_range.2 hi)
    rw [if_pos rfl] at this
    have := List.all_eq_true.1 this t ht
    simpa using this
  · intro s hs
    simpa using List.all_eq_true.1 h5 s hs

theorem Agr.put {ops : Array Oper} {ss : List Nat} (sp : FSpec ops ss) {v : Nat → Value} {a0 a : Act} {L : Nat → Bool} (h : Agr ops v a0 a L) {i : Nat} (hi : i < ops.size) :
    Agr ops v a0 (a.put (dstOf ops i) (v i)) (fun j => L j || j == i) := by
  cases hd : dstOf ops i with
  | none =>
    refine ⟨h.d, h.s, fun t ht => (h.t t ht).trans ?_⟩
    have e : (List.range ops.size).find? (fun j => L j && dstOf ops j == some t) = (List.range ops.size).find? (fun j => (L j || j == i) && dstOf ops j == some t) := by
      apply find_congr
      intro j _
      by_cases e : j = i
      · subst e; simp [hd]
      · have e' : (j == i) = false := by simpa using e
        simp only [e', Bool.or_false]
    rw [e]
  | some d =>
    refine ⟨h.d, by simpa [Act.put] using h.s, fun t ht => ?_⟩
    by_cases e : d = t
    · subst e
      have hf : (List.range ops.size).find? (fun j => (L j || j == i) && dstOf ops j == some d) = some i := by
        have : ((List.range ops.size).find? (fun j => (L j || j == i) && dstOf ops j == some d)).isSome := by
          rw [List.find?_isSome]; exact ⟨i, List.mem_range.2 hi, by simp [hd]⟩
        obtain ⟨j, hj⟩ := Option.isSome_iff_exists.1 this
        rw [hj]
        have hp := List.find?_some hj
        have hm := List.mem_range.1 (List.mem_of_find?_eq_some hj)
        simp only [Bool.and_eq_true, beq_iff_eq] at hp
        by_cases e : j = i
        · rw [e]
        · exact absurd hp.2 (sp.dd i j d hi hm (fun x => e x.symm) hd)
      rw [hf]
      simp [Act.put, h.s, ht]
    · have e1 : (a.put (some d) (v i)).tmps.getD t undef = a.tmps.getD t undef := by
        simp [Act.put, Array.getElem?_setIfInBounds_ne e]
      rw [e1, h.t t ht]
      have e : (List.range ops.size).find? (fun j => L j && dstOf ops j == some t) = (List.range ops.size).find? (fun j => (L j || j == i) && dstOf ops j == some t) := by
        apply find_congr
        intro j _
        by_cases e2 : j = i
        · subst e2; simp [hd, e]
        · have e' : (j == i) = false := by simpa using e2
          simp only [e', Bool.or_false]
      rw [e]
theorem Agr.of {ops : Array Oper} {v : Nat → Value} {a0 a : Act} {L M : Nat → Bool} (h : Agr ops v a0 a L) (hm : ∀ i, i < ops.size → L i = M i) : Agr ops v a0 a M := by
  refine ⟨h.d, h.s, fun t ht => (h.t t ht).trans ?_⟩
  rw [find_congr (l := List.range ops.size) (p := fun i => L i && dstOf ops i == some t) (q := fun i => M i && dstOf ops i == some t) (fun i hi => by rw [hm i (List.mem_range.1 hi)])]
theorem Agr.none (ops : Array Oper) (v : Nat → Value) (a0 : Act) : Agr ops v a0 a0 (fun _ => false) := by
  refine ⟨rfl, rfl, fun t _ => ?_⟩
  have : (List.range ops.size).find? (fun i => false && dstOf ops i == some t) = Option.none := by simp
  rw [this]
theorem Agr.seq {ops : Array Oper} {ss : List Nat} (sp : FSpec ops ss) (vs : List Value) (a0 : Act) : ∀ k, k ≤ ops.size → Agr ops (fun i => vs.getD i undef) a0 (sA ops.toList vs a0 k) (fun j => decide (j < k))
  | 0, _ => (Agr.none ops _ a0).of (fun i _ => by simp)
  | k + 1, hk => by
    have h := (Agr.seq sp vs a0 k (by omega)).put sp (i := k) (by omega)
    have e : (ops.toList[k]?).bind (·.dst) = dstOf ops k := by simp [dstOf]
    rw [sA, e]
    exact h.of (fun i _ => by
      rw [Bool.eq_iff_iff]; simp; omega)
theorem Agr.exec {ops : Array Oper} {ss : List Nat} (sp : FSpec ops ss) {v : Nat → Value} {a0 a b : Act} {L : Nat → Bool} {i : Nat} {o : Oper} (ho : ops[i]? = some o) (ha : Agr ops v a0 a L) (hb : Agr ops v a0 b (fun j => decide (j < i)))
    (h1 : ∀ j, wf ops i j = true → L j = true) (h2 : ∀ j, j < ops.size → wf ops j i = true → L j = false) : execOp a.eval o = execOp b.eval o := by
  have hi : i < ops.size := (Array.getElem?_eq_some_iff.1 ho).1
  refine execOp_congr o (fun cs b => Region.noSelect_spec sp.ns i o cs b ho) fun x hx => ?_
  cases x with
  | tmp t =>
    show a.tmps.getD t undef = b.tmps.getD t undef
    by_cases ht : t < a0.tmps.size
    · rw [ha.t t ht, hb.t t ht]
      have htm : t ∈ opTmps ops i := by
        unfold opTmps; rw [ho]
        exact List.mem_filterMap.2 ⟨.tmp t, by simpa using hx, rfl⟩
      rw [find_congr (l := List.range ops.size) (p := fun j => L j && dstOf ops j == some t) (q := fun j => decide (j < i) && dstOf ops j == some t) (fun j hj => ?_)]
      have hj' := List.mem_range.1 hj
      by_cases hd : dstOf ops j = some t
      · have hne : i ≠ j := by rintro rfl; exact sp.own i t hi htm hd
        have h3 := sp.op i j t hi hj' hne htm hd
        by_cases hlt : j < i
        · rw [if_pos hlt] at h3; simp [hlt, h1 j h3]
        · rw [if_neg hlt] at h3; simp [hlt, h2 j hj' h3]
      · have : (dstOf ops j == some t) = false := by simpa using hd
        simp [this]
    · have e1 : a.tmps.getD t undef = undef := by simp [Array.getElem?_eq_none (show a.tmps.size ≤ t by rw [ha.s]; exact Nat.le_of_not_lt ht)]
      have e2 : b.tmps.getD t undef = undef := by simp [Array.getElem?_eq_none (show b.tmps.size ≤ t by rw [hb.s]; exact Nat.le_of_not_lt ht)]
      rw [e1, e2]
  | const v => rfl
  | global g => rfl
  | func f => rfl

theorem takeWhile_mono {p q : Nat → Bool} : ∀ (l : List Nat), (∀ s ∈ l, p s = true → q s = true) → (l.takeWhile p).length ≤ (l.takeWhile q).length
  | [], _ => Nat.le_refl _
  | s :: l, h => by
    rw [List.takeWhile_cons, List.takeWhile_cons]
    cases hp : p s with
    | false => simp
    | true =>
      rw [h s (by simp) hp]
      simpa using takeWhile_mono l fun x hx => h x (by simp [hx])
theorem takeWhile_congr {p q : Nat → Bool} : ∀ (l : List Nat), (∀ s ∈ l, p s = q s) → l.takeWhile p = l.takeWhile q
  | [], _ => rfl
  | s :: l, h => by
    rw [List.takeWhile_cons, List.takeWhile_cons, h s (by simp), takeWhile_congr l fun x hx => h x (by simp [hx])]
theorem takeWhile_true : ∀ l : List Nat, l.takeWhile (fun _ => true) = l
  | [] => rfl
  | a :: l => by rw [List.takeWhile_cons, takeWhile_true l]; rfl
theorem takeWhile_at {p : Nat → Bool} : ∀ (pre post : List Nat) (i : Nat), (∀ s ∈ pre, p s = true) → p i = false → ((pre ++ i :: post).takeWhile p).length = pre.length
  | [], post, i, _, h => by simp [h]
  | s :: pre, post, i, h1, h2 => by
    rw [List.cons_append, List.takeWhile_cons, h1 s (by simp)]
    simpa using takeWhile_at pre post i (fun x hx => h1 x (by simp [hx])) h2
/-- L holds with each operation those that it waits for. -/
def Closed (ops : Array Oper) (L : Nat → Bool) : Prop := ∀ j, L j = true → ∀ i, wf ops j i = true → L i = true
theorem reach_closed {ops : Array Oper} {L : Nat → Bool} (h : Closed ops L) : ∀ (f s i : Nat), reach ops f s i = true → L s = true → L i = true
  | 0, _, _, hr, _ => by simp [reach] at hr
  | f + 1, s, i, hr, hs => by
    simp only [reach, Bool.or_eq_true] at hr
    rcases hr with hr | hr
    · exact h s hs i hr
    · obtain ⟨j, _, hj⟩ := List.any_eq_true.1 hr
      simp only [Bool.and_eq_true] at hj
      exact reach_closed h f j i hj.2 (h s hs j hj.1)
theorem chain_tail {ops : Array Oper} {a : Nat} {l : List Nat} (h : chainB ops (a :: l) = true) : chainB ops l = true := by
  cases l with
  | nil => rfl
  | cons b l => simp only [chainB, Bool.and_eq_true] at h; exact h.2
theorem chain_lt {ops : Array Oper} : ∀ {a : Nat} {l : List Nat}, chainB ops (a :: l) = true → ∀ s ∈ l, a < s
  | _, [], _, s, hs => by simp at hs
  | a, b :: l, h, s, hs => by
    simp only [chainB, Bool.and_eq_true, decide_eq_true_eq] at h
    rcases List.mem_cons.1 hs with rfl | hs
    · exact h.1.2
    · exact Nat.lt_trans h.1.2 (chain_lt h.2 s hs)
theorem chain_all {ops : Array Oper} {L : Nat → Bool} (h : Closed ops L) : ∀ {l : List Nat} {p : Nat}, chainB ops (l ++ [p]) = true → L p = true → ∀ s ∈ l ++ [p], L s = true
  | [], p, _, hp, s, hs => by simp at hs; rw [hs]; exact hp
  | a :: l, p, hc, hp, s, hs => by
    have h1 := chain_all h (chain_tail (by simpa using hc)) hp
    rw [List.cons_append] at hs hc
    rcases List.mem_cons.1 hs with rfl | hs
    · cases l with
      | nil =>
        simp only [List.nil_append, chainB, Bool.and_eq_true] at hc
        exact h p hp _ hc.1.1
      | cons b l =>
        simp only [List.cons_append, chainB, Bool.and_eq_true] at hc
        exact h b (h1 b (by simp)) _ hc.1.1
    · exact h1 s hs
theorem chain_left {ops : Array Oper} : ∀ {l m : List Nat}, chainB ops (l ++ m) = true → chainB ops l = true
  | [], _, _ => rfl
  | [a], _, _ => rfl
  | a :: b :: l, m, h => by
    simp only [List.cons_append, chainB, Bool.and_eq_true] at h ⊢
    exact ⟨h.1, chain_left (l := b :: l) (m := m) (by simpa using h.2)⟩
theorem chain_right {ops : Array Oper} : ∀ {l m : List Nat}, chainB ops (l ++ m) = true → chainB ops m = true
  | [], _, h => h
  | a :: l, m, h => chain_right (l := l) (chain_tail (by simpa using h))
theorem filter_le {p q : Nat → Bool} : ∀ (l : List Nat), (∀ x ∈ l, q x = true → p x = true) → (l.filter q).length ≤ (l.filter p).length
  | [], _ => Nat.le_refl _
  | b :: l, h => by
    have := filter_le l fun x hx => h x (by simp [hx])
    have hb := h b (by simp)
    rw [List.filter_cons, List.filter_cons]
    cases hqb : q b <;> cases hpb : p b <;> simp_all <;> omega
theorem filter_lt {p q : Nat → Bool} : ∀ (l : List Nat), (∀ x ∈ l, q x = true → p x = true) → (∃ x ∈ l, p x = true ∧ q x = false) → (l.filter q).length < (l.filter p).length
  | [], _, ⟨_, h, _⟩ => by simp at h
  | a :: l, h, ⟨x, hx, hp, hq⟩ => by
    have hle := filter_le (p := p) (q := q) l fun x hx => h x (by simp [hx])
    rw [List.filter_cons, List.filter_cons]
    rcases List.mem_cons.1 hx with rfl | hx
    · simp [hp, hq]; omega
    · have := filter_lt l (fun x hx => h x (by simp [hx])) ⟨x, hx, hp, hq⟩
      have ha := h a (by simp)
      cases hqa : q a <;> cases hpa : p a <;> simp_all <;> omega

structure INV (ops : Array Oper) (ss : List Nat) (C : Nat → World → Prop) (v : Nat → Value) (a0 : Act) (listed : Array Bool) (a : Act) (w : World) : Prop where
  sz : listed.size = ops.size
  cl : Closed ops (fun i => listed.getD i false)
  ag : Agr ops v a0 a (fun i => listed.getD i false)
  wd : C (ss.takeWhile fun s => listed.getD s false).length w

theorem getD_set_self (listed : Array Bool) (i : Nat) (h : i < listed.size) : (listed.setIfInBounds i true).getD i false = true := by simp [h]
theorem getD_set_or (listed : Array Bool) (i j : Nat) (h : i < listed.size) : (listed.setIfInBounds i true).getD j false = (listed.getD j false || j == i) := by
  by_cases e : i = j
  · subst e; simp [h]
  · have : (j == i) = false := beq_eq_false_iff_ne.2 fun x => e x.symm
    rw [this, Bool.or_false]
    simp [Array.getElem?_setIfInBounds_ne e]

theorem wpAny_fix {P : Program} {ops : Array Oper} {ss : List Nat} (sp : FSpec ops ss) {C : Nat → World → Prop} {Q : Exit → Act → World → Prop} {vs : List Value} {a0 : Act}
    (hob : ∀ (i : Nat) (o : Oper), ops[i]? = some o → Ob P ops ss C i o (sA ops.toList vs a0 i) (vs.getD i undef)) (hfin : ∀ w, C ss.length w → Q .normal (sA ops.toList vs a0 ops.size) w) :
    ∀ (fuel : Nat) (listed : Array Bool) (a : Act) (w : World), INV ops ss C (fun i => vs.getD i undef) a0 listed a w → ((List.range ops.size).filter (fun i => !listed.getD i false)).length ≤ fuel → wpAny P .any ops Q fuel listed a w := by
  have fin : ∀ (listed : Array Bool) (a : Act) (w : World), INV ops ss C (fun i => vs.getD i undef) a0 listed a w → (∀ i, i < ops.size → listed.getD i false = true) → Q .normal a w := by
    intro listed a w hI hall
    have e : a = sA ops.toList vs a0 ops.size := hI.ag.eq (Agr.seq sp vs a0 ops.size (Nat.le_refl _)) (fun i hi => by simp only [hi, decide_true]; exact hall i hi)
    have hw := hI.wd
    have e2 : ss.takeWhile (fun s => listed.getD s false) = ss := by
      rw [takeWhile_congr ss (q := fun _ => true) (fun s hs => hall s (sp.sb s hs))]
      exact takeWhile_true ss
    rw [e2] at hw
    rw [e]; exact hfin w hw
  have noready : ∀ (listed : Array Bool), listed.size = ops.size → Region.ready .any ops listed = [] → ∀ i, i < ops.size → listed.getD i false = true := by
    intro listed hsz hr i
    induction i using Nat.strongRecOn with
    | _ i ih =>
      intro hi
      cases hl : listed.getD i false with
      | true => rfl
      | false =>
        exfalso
        have : i ∈ Region.ready .any ops listed := by
          refine mem_ready.2 ⟨getD_in (by omega) hl, ops[i], by simp [hi], fun e he hb => ?_⟩
          have := sp.fw i ops[i] (by simp [hi]) e he hb
          exact ih e.on this (by omega)
        rw [hr] at this; simp at this
  intro fuel
  induction fuel with
  | zero =>
    intro listed a w hI hu
    have hall : ∀ i, i < ops.size → listed.getD i false = true := by
      intro i hi
      have : (List.range ops.size).filter (fun i => !listed.getD i false) = [] := List.eq_nil_of_length_eq_zero (by omega)
      have := List.filter_eq_nil_iff.1 this i (List.mem_range.2 hi)
      simpa using this
    refine ⟨?_, fin listed a w hI hall⟩
    cases hr : Region.ready .any ops listed with
    | nil => rfl
    | cons i l =>
      have hm : i ∈ Region.ready .any ops listed := by rw [hr]; simp
      obtain ⟨h1, o, ho, _⟩ := mem_ready.1 hm
      have := hall i (Array.getElem?_eq_some_iff.1 ho).1
      rw [getD_both h1] at this; simp at this
  | succ fuel ih =>
    intro listed a w hI hu
    refine ⟨fun hr => fin listed a w hI (noready listed hI.sz hr), fun i hm => ?_⟩
    obtain ⟨hun, o, ho, hdeps⟩ := mem_ready.1 hm
    have hi : i < ops.size := (Array.getElem?_eq_some_iff.1 ho).1
    have hil : i < listed.size := by rw [hI.sz]; exact hi
    have hun' : listed.getD i false = false := getD_both hun
    have h1 : ∀ j, wf ops i j = true → listed.getD j false = true := by
      intro j hj
      obtain ⟨o', ho', e, he, hb, hon⟩ := Region.waitsFor_spec hj
      obtain rfl : o' = o := Option.some.inj (ho'.symm.trans ho)
      rw [← hon]; exact hdeps e he hb
    have h2 : ∀ j, wf ops j i = true → listed.getD j false = false := by
      intro j hj
      cases hl : listed.getD j false with
      | false => rfl
      | true => have := hI.cl j hl i hj; simp only [] at this; rw [hun'] at this; simp at this
    have hex := Agr.exec sp ho hI.ag (Agr.seq sp vs a0 i (by omega)) h1 (fun j _ h => h2 j h)
    have hcl : Closed ops (fun j => (listed.setIfInBounds i true).getD j false) := by
      intro j hj k hk
      simp only [getD_set_or _ _ _ hil, Bool.or_eq_true, beq_iff_eq] at hj ⊢
      rcases hj with hj | rfl
      · exact .inl (hI.cl j hj k hk)
      · exact .inl (h1 k hk)
    have hag : Agr ops (fun i => vs.getD i undef) a0 (a.put o.dst (vs.getD i undef)) (fun j => (listed.setIfInBounds i true).getD j false) := by
      have := hI.ag.put sp hi
      have e : dstOf ops i = o.dst := by simp [dstOf, ho]
      rw [e] at this
      exact this.of fun j _ => (getD_set_or _ _ _ hil).symm
    have hlt : ((List.range ops.size).filter (fun j => !(listed.setIfInBounds i true).getD j false)).length ≤ fuel := by
      have := filter_lt (p := fun j => !listed.getD j false) (q := fun j => !(listed.setIfInBounds i true).getD j false) (List.range ops.size) (fun x _ hx => by
        simp only [getD_set_or _ _ _ hil] at hx
        simp only [Bool.not_or, Bool.and_eq_true] at hx
        exact hx.1) ⟨i, List.mem_range.2 hi, by simp only [hun', Bool.not_false], by simp only [getD_set_self _ _ hil, Bool.not_true]⟩
      omega
    have key : ∀ w', C (ss.takeWhile fun s => (listed.setIfInBounds i true).getD s false).length w' → wpAny P .any ops Q fuel (listed.setIfInBounds i true) (a.put o.dst (vs.getD i undef)) w' :=
      fun w' hw' => ih _ _ _ ⟨by simpa using hI.sz, hcl, hag, hw'⟩ hlt
    have hstp : Stp P o (sA ops.toList vs a0 i) w (vs.getD i undef) (C (ss.takeWhile fun s => (listed.setIfInBounds i true).getD s false).length) := by
      have hO := hob i o ho
      unfold Ob at hO
      split at hO
      · rename_i k hk
        obtain ⟨hk1, hk2, _⟩ := List.findIdx?_eq_some_iff_getElem.1 hk
        simp only [beq_iff_eq] at hk2
        have hss : ss = ss.take k ++ i :: ss.drop (k + 1) := by
          rw [← hk2, List.getElem_cons_drop, List.take_append_drop]
        have hch := sp.ch
        rw [hss] at hch
        have hpre : ∀ s ∈ ss.take k, listed.getD s false = true := by
          rcases List.eq_nil_or_concat (ss.take k) with h0 | ⟨l, p, h0⟩
          · rw [h0]; intro s hs; simp at hs
          · rw [List.concat_eq_append] at h0
            rw [h0] at hch ⊢
            have hw : wf ops i p = true := by
              have := chain_right (l := l) (m := p :: i :: ss.drop (k + 1)) (by simpa using hch)
              simp only [chainB, Bool.and_eq_true] at this
              exact this.1.1
            exact chain_all hI.cl (chain_left (m := i :: ss.drop (k + 1)) hch) (h1 p hw)
        have hst : (ss.takeWhile fun s => listed.getD s false).length = k := by
          rw [hss, takeWhile_at _ _ _ hpre hun', List.length_take]; omega
        have hpost : ∀ q r, ss.drop (k + 1) = q :: r → listed.getD q false = false ∧ q ≠ i := by
          intro q r hq
          have h5 := chain_right (l := ss.take k) hch
          rw [hq] at h5
          have h6 := chain_lt h5 q (by simp)
          simp only [chainB, Bool.and_eq_true] at h5
          exact ⟨h2 q h5.1.1, by omega⟩
        have hst2 : (ss.takeWhile fun s => (listed.setIfInBounds i true).getD s false).length = k + 1 := by
          have hp : ∀ s ∈ ss.take k ++ [i], (listed.setIfInBounds i true).getD s false = true := by
            intro s hs
            rw [getD_set_or _ _ _ hil]
            rcases List.mem_append.1 hs with hs | hs
            · rw [hpre s hs]; rfl
            · simp at hs; simp [hs]
          cases hd : ss.drop (k + 1) with
          | nil =>
            have e : ss = ss.take k ++ [i] := by rw [hd] at hss; exact hss
            have : ss.takeWhile (fun s => (listed.setIfInBounds i true).getD s false) = ss := by
              rw [takeWhile_congr ss (q := fun _ => true) (fun s hs => hp s (by rw [← e]; exact hs))]; exact takeWhile_true ss
            rw [this, e]; simp; omega
          | cons q r =>
            obtain ⟨h7, h8⟩ := hpost q r hd
            have e : ss = (ss.take k ++ [i]) ++ q :: r := by rw [hd] at hss; simpa using hss
            rw [e, takeWhile_at _ _ _ hp (by rw [getD_set_or _ _ _ hil, h7, Bool.false_or]; exact beq_eq_false_iff_ne.2 h8)]
            simp; omega
        rw [hst2]
        exact hO w (hst ▸ hI.wd)
      · rename_i hk
        have hni : ∀ s ∈ ss, s ≠ i := by
          intro s hs e
          have := List.findIdx?_eq_none_iff.1 hk s hs
          simp [e] at this
        have e : ss.takeWhile (fun s => (listed.setIfInBounds i true).getD s false) = ss.takeWhile (fun s => listed.getD s false) :=
          takeWhile_congr ss fun s hs => by rw [getD_set_or _ _ _ hil, beq_eq_false_iff_ne.2 (hni s hs), Bool.or_false]
        rw [e]
        refine hO _ w ?_ hI.wd
        refine takeWhile_mono ss fun s _ hl => ?_
        cases hr : reach ops ops.size s i with
        | false => rfl
        | true => have this : listed.getD i false = true := reach_closed hI.cl _ _ _ hr hl; rw [hun'] at this; simp at this
    unfold wpOp
    rw [ho]
    show if Region.wanted o (yielded ops a.tmps) = true then _ else _
    rw [if_pos (by simp [Region.wanted, sp.g i o ho])]
    left
    unfold Stp at hstp
    rw [← hex] at hstp
    unfold Oper.wp
    generalize (execOp a.eval o).run P w = r at hstp
    cases r with
    | ok n w' =>
      cases n <;> simp only [Oper.upon] at hstp ⊢
      case value u => rw [hstp.1]; exact key w' hstp.2
      case skip =>
        have := key w' hstp.2
        rw [hstp.1] at this; exact this
      case enter f args => exact Calls.mono hstp fun e w'' ⟨he, hw⟩ => by subst he; exact key w'' hw
    | halt x w' => simp only at hstp

/-- ONE WALK OF THE TEXT SERVES EVERY ORDER. -/
theorem wp_region_fix {P : Program} {id : Nat} {ops : List Oper} {Q : Exit → Act → World → Prop} {a : Act} {w : World} (ss : List Nat) (C : Nat → World → Prop) (hm : P.follows .mixedOrders = true) (hB : fixB ops.toArray ss = true) (h0 : C 0 w.drew)
    (h : wpFix P ops.toArray ss C (fun a' => ∀ w', C ss.length w' → Q .normal a' w') ops 0 a) : (Code.region id ops.toArray true).wp P Q a w := by
  have sp := spec hB
  obtain ⟨vs, h1, h2⟩ := wpFix_ex ops 0 a h
  refine wp_region_any hm (wpAny_fix sp (C := C) (vs := vs) (a0 := a) (fun i o ho => ?_) (fun w' hw' => ?_) _ _ a _ ⟨by simp, ?_, ?_, ?_⟩ ?_)
  · have := h1 i o (by simpa using ho)
    rw [Nat.zero_add] at this; exact this
  · have := h2 w' hw'
    simpa using this
  · intro j hj
    have hj' : (Array.replicate ops.toArray.size false).getD j false = true := hj
    rw [getD_replicate_false] at hj'; cases hj'
  · exact (Agr.none _ _ a).of fun i _ => (getD_replicate_false _ i).symm
  · have e : ss.takeWhile (fun s => (Array.replicate ops.toArray.size false).getD s false) = [] := by
      cases ss with
      | nil => rfl
      | cons s l => rw [List.takeWhile_cons, getD_replicate_false]; rfl
    rw [e]; exact h0
  · exact Nat.le_trans (List.length_filter_le _ _) (by simp)
theorem ob_plain {P : Program} {ops : Array Oper} {ss : List Nat} {C : Nat → World → Prop} {i : Nat} {o : Oper} {a : Act} {v : Value} (h : ss.findIdx? (· == i) = none) (h2 : ∀ k w, k ≤ lim ops ss i → C k w → Stp P o a w v (C k)) : Ob P ops ss C i o a v := by
  unfold Ob; rw [h]; exact h2
theorem ob_store {P : Program} {ops : Array Oper} {ss : List Nat} {C : Nat → World → Prop} {i : Nat} {o : Oper} {a : Act} {v : Value} (k : Nat) (h : ss.findIdx? (· == i) = some k) (h2 : ∀ w, C k w → Stp P o a w v (C (k + 1))) : Ob P ops ss C i o a v := by
  unfold Ob; rw [h]; exact h2
theorem stp_value {P : Program} {o : Oper} {a : Act} {w : World} {v : Value} {R : World → Prop} {w' : World} (h : (execOp a.eval o).run P w = .ok (.value v) w') (hr : R w') : Stp P o a w v R := by
  unfold Stp; rw [h]; exact ⟨rfl, hr⟩
end Go.Proofs.Ytffjaaolcphonaa.Fix
/- Steps of the one walk of a region that draws its order. -/
namespace Go.Proofs.Ytffjaaolcphonaa.Fix
open Go

@[go_sem] def valUpon (P : Program) (K : Value → World → Prop) : Result Next → Prop
  | .ok (.value v) w' => K v w'
  | .ok .skip w' => K undef w'
  | .ok (.enter f args) w' => Calls P f args w' fun e w'' => ∃ v, e = .returned v ∧ K v w''
  | _ => False
@[go_sem] def valOp (P : Program) (o : Oper) (a : Act) (w : World) (K : Value → World → Prop) : Prop := valUpon P K ((execOp a.eval o).run P w)
theorem stp_val {P : Program} {o : Oper} {a : Act} {w : World} {v : Value} {R : World → Prop} (h : valOp P o a w (fun u w' => u = v ∧ R w')) : Stp P o a w v R := by
  unfold valOp at h
  unfold Stp
  generalize (execOp a.eval o).run P w = r at *
  cases r with
  | ok n w' =>
    cases n with
    | value u => exact h
    | skip => exact ⟨h.1.symm, h.2⟩
    | enter f args => exact Calls.mono h fun e w'' ⟨u, he, hu, hr⟩ => ⟨he.trans (by rw [hu]), hr⟩
    | _ => exact h.elim
  | _ => exact h.elim
section
variable {P : Program} {ops : Array Oper} {ss : List Nat} {C : Nat → World → Prop} {Q : Act → Prop} {o : Oper} {rest : List Oper} {i : Nat} {a : Act} {v : Value}
theorem fix_plain (hn : ss.findIdx? (· == i) = none)
    (h1 : ∀ k W, k ≤ lim ops ss i → C k W → ∀ K : Value → World → Prop, (∀ W', C k W' → K v W') → valOp P o a W K)
    (h2 : ∀ K : Act → Prop, (∀ a', wpFix P ops ss C Q rest (i + 1) a' → K a') → K (a.put o.dst v)) : wpFix P ops ss C Q (o :: rest) i a :=
  ⟨v, ob_plain hn fun k w hk hC => stp_val (h1 k w hk hC _ fun _ h => ⟨rfl, h⟩), h2 _ fun _ h => h⟩
theorem fix_store (k : Nat) (hn : ss.findIdx? (· == i) = some k)
    (h1 : ∀ W, C k W → ∀ K : Value → World → Prop, (∀ W', C (k + 1) W' → K v W') → valOp P o a W K)
    (h2 : ∀ K : Act → Prop, (∀ a', wpFix P ops ss C Q rest (i + 1) a' → K a') → K (a.put o.dst v)) : wpFix P ops ss C Q (o :: rest) i a :=
  ⟨v, ob_store k hn fun w hC => stp_val (h1 w hC _ fun _ h => ⟨rfl, h⟩), h2 _ fun _ h => h⟩
theorem fix_nil (h : Q a) : wpFix P ops ss C Q [] i a := h
end
end Go.Proofs.Ytffjaaolcphonaa.Fix
/- The links' Move, where something stands in the list. -/
namespace Go.Proofs.Ytffjaaolcphonaa
open Go.RowKit Go.Shelf
attribute [local go_sem] Oper.semAt_some

theorem wpIn_abs {F : Fence} {n : Nat} {P : Program} {c : Code} {Q : Exit → Act → World → Prop} {a : Act} {w : World} (R : World → Prop) (h : R w) (hk : ∀ w', R w' → c.wpIn F n P Q a w') : c.wpIn F n P Q a w := hk w h

/-- Between the steps behind the loop. -/
structure MSt (B : LB) (W0 : World) (D : Nat) (r : Raw) (W : World) : Prop where
  raw : RawAt W B r
  fr : Fr B.foot W0 W
  d : W.heap[D]? = some (.deferred (some []))
  lt : ∀ k, B.foot k → k < W0.heap.size
  le : W0.heap.size ≤ D
theorem MSt.drew {B : LB} {W0 : World} {D : Nat} {r : Raw} {W : World} (h : MSt B W0 D r W) : MSt B W0 D r W.drew := ⟨h.raw.drew, h.fr.drew, h.d, h.lt, h.le⟩
theorem MSt.drewN {B : LB} {W0 : World} {D : Nat} {r : Raw} {W : World} (h : MSt B W0 D r W) (n : Nat) : MSt B W0 D r (W.drewN n) := ⟨h.raw.still ((Fr.refl _ _).drewN n), h.fr.drewN n, h.d, h.lt, h.le⟩
theorem MSt.put {B : LB} {W0 : World} {D : Nat} {r r' : Raw} {W : World} (h : MSt B W0 D r W) {b i : Nat} {v : Value} (hb : B.foot b) (hr : RawAt (W.setCell ⟨b, i, none⟩ v) B r') : MSt B W0 D r' (W.setCell ⟨b, i, none⟩ v) :=
  ⟨hr, h.fr.setCell (.inl hb) _, (Below.heap_setCell W ⟨b, i, none⟩ v D (by have := h.lt b hb; have := h.le; simp only []; omega)).trans h.d, h.lt, h.le⟩
theorem MSt.setN {B : LB} {W0 : World} {D : Nat} {r : Raw} {W : World} (h : MSt B W0 D r W) (i : Nat) (v : Int) : MSt B W0 D { r with next := r.next.set i v } (W.setCell ⟨B.n, i, none⟩ (.int .i64 v)) := h.put (by simp [LB.foot]) (h.raw.setN i v)
theorem MSt.setB {B : LB} {W0 : World} {D : Nat} {r : Raw} {W : World} (h : MSt B W0 D r W) (i : Nat) (v : Int) : MSt B W0 D { r with back := r.back.set i v } (W.setCell ⟨B.b, i, none⟩ (.int .i64 v)) := h.put (by simp [LB.foot]) (h.raw.setB i v)
theorem MSt.setC {B : LB} {W0 : World} {D : Nat} {r : Raw} {W : World} (h : MSt B W0 D r W) (i : Nat) (v : Int) : MSt B W0 D { r with count := r.count.set i v } (W.setCell ⟨B.c, i, none⟩ (.int .i64 v)) := h.put (by simp [LB.foot]) (h.raw.setC i v)
theorem MSt.box {B : LB} {W0 : World} {D : Nat} {r : Raw} {W : World} (h : MSt B W0 D r W) {b : Nat} {v : Value} {T : TypeId} (hb : Box W0 b v T) (hn : ¬ B.foot b) : W.cell? ⟨b, 0, none⟩ = some v := Box.c (Blk.fr hb h.fr hn)

theorem Still.drewN {a w : World} (h : Still a w) (n : Nat) : Still a (w.drewN n) := Fr.drewN h n
/-- Two new boxes. -/
theorem lay2 (w : World) (v1 v2 : Value) (T1 T2 : TypeId) :
    let W := (w.alloc (.cells #[v1] T1)).alloc (.cells #[v2] T2)
    Still w W ∧ Box W w.heap.size v1 T1 ∧ Box W (w.heap.size + 1) v2 T2 := by
  have g1 := (box_new w v1 T1).alloc (.cells #[v2] T2)
  have g2 := box_new (w.alloc (.cells #[v1] T1)) v2 T2
  simp only [World.size_alloc] at g2
  exact ⟨((Still.refl w).alloc _).alloc _, g1, g2⟩
set_option maxRecDepth 100000 in
set_option maxHeartbeats 4000000 in
theorem move_ok (w : World) (B : LB) (r : Raw) (h : RawAt w B r) (f t : Nat) (xs : List Nat) (a z la n c _q0 : Nat) (hf : f < r.count.length) (ht : t < r.count.length) (hft : f ≠ t)
    (hn : r.count.getD f 0 = (n : Int)) (hn0 : 0 < n) (hn1 : n ≤ 4096) (hc : r.count.getD t 0 = (c : Int)) (hc1 : c ≤ 4096) (ha : r.next.getD (r.things + f) 0 = (a : Int)) (hz : r.back.getD (r.things + f) 0 = (z : Int)) (hla : r.back.getD (r.things + t) 0 = (la : Int))
    (ha' : a < r.next.length) (hz' : z < r.next.length) (hla' : la < r.next.length) (hL : Seq r.next (r.things + f) a xs) (hx : ∀ x ∈ xs, x < r.things) :
    Calls Try.prog 24 #[.pointer (some ⟨B.p, 0, none⟩), .int .i64 f, .int .i64 t] w fun e w' => e = .returned (.tuple #[.int .i64 n, .int .i64 0]) ∧ RawAt w' B (r.mv f t xs a z la n c) ∧ Fr B.foot w w' := by
  have HV : Hid (moveE r f t = 0) := hid (by unfold moveE; rw [if_pos ⟨⟨by omega, by omega⟩, by omega, by omega⟩, if_neg (by omega)])
  have ln := h.lnext
  have m1 := h.m1
  obtain ⟨p, hp⟩ : ∃ p, r.things + f = p := ⟨_, rfl⟩
  obtain ⟨q, hq⟩ : ∃ q, r.things + t = q := ⟨_, rfl⟩
  have hp1 : p < r.next.length := by omega
  have hq1 : q < r.next.length := by omega
  have hp2 : (p : Int) < (r.next.length : Int) := by omega
  have hq2 : (q : Int) < (r.next.length : Int) := by omega
  have hf2 : (f : Int) < (r.count.length : Int) := by omega
  have ht2 : (t : Int) < (r.count.length : Int) := by omega
  have hne : ((n : Int) == 0) = false := by simp; omega
  rw [hp] at ha hz hL
  rw [hq] at hla
  have HP := hid hp
  have HQ := hid hq
  have HN := hid hn
  have HC := hid hc
  have HA := hid ha
  have HZ := hid hz
  have HLA := hid hla
  have HL := hid hL
  have HX := hid hx
  clear hn hc ha hz hla hL hx hp hq ln
  refine (callsIn_wide (n := 4)).1 ?_
  refine callsIn_of_wp_marks Try.func24 rfl trivial ?_ rfl
  simp only [Try.ntmps24, List.size_toArray, List.length_cons, List.length_nil, Nat.reduceAdd, Nat.reduceSub, Array.replicate_succ, Array.replicate_zero, List.push_toArray, List.append_toArray, List.nil_append, List.cons_append]
  gi_wp2_with fail
  refine ⟨trivial, callsIn_wide.2 ?_⟩
  refine calls_abs (fun W => Still w W ∧ Box W w.heap.size (.pointer (some ⟨B.p, 0, none⟩)) 23 ∧ Box W (w.heap.size + 1) (.int .i64 f) 3 ∧ Box W (w.heap.size + 1 + 1) (.int .i64 t) 3 ∧ Blk W (w.heap.size + 1 + 1 + 1) [_, _] 123) (lay4 w _ _ _ _ _ _ _ _ _) ?_
  rintro W ⟨hS, g1, g2, g3, g4⟩
  refine (move_first W B r (h.still hS) f t _ _ _ _ _ g1 g2 g3 g4).mono ?_
  rw [HV.out]
  rintro e w1 ⟨rfl, hs⟩
  have c1 := (g1.still hs).c
  have c2 := (g2.still hs).c
  have c3 := (g3.still hs).c
  have h1 := ((h.still hS).still hs)
  have F4 := h1.f4
  have C : w1.cell? ⟨B.c, f, none⟩ = some (.int .i64 n) := by rw [h1.hc.cell hf, HN.out]
  gi_wp2_with fail
  refine wpIn_wide.2 ?_
  go_quiet (fail)
  gi_wp2_with fail
  refine wpIn_wide.2 ?_
  go_quiet (fail)
  gi_wp2_with (refine ⟨trivial, ?_⟩; gi_at_call 78; refine (callsIn_wide.2 (all_any _ _ _)).mono ?_; rintro e w' ⟨rfl, rfl⟩)
  have key : ∀ n1 : Nat, let W0 := ((w1.drewN n1).alloc (.cells #[.pointer (some ⟨B.p, 0, none⟩)] 23)).alloc (.cells #[.int .i64 (f : Int)] 3)
      RawAt W0 B r ∧ Box W0 w.heap.size (.pointer (some ⟨B.p, 0, none⟩)) 23 ∧ Box W0 (w.heap.size + 1) (.int .i64 f) 3 ∧ Box W0 (w.heap.size + 1 + 1) (.int .i64 t) 3 ∧
      Box W0 w1.heap.size (.pointer (some ⟨B.p, 0, none⟩)) 23 ∧ Box W0 (w1.heap.size + 1) (.int .i64 f) 3 ∧ Still w W0 ∧ W0.heap.size = w1.heap.size + 1 + 1 := by
    intro n1
    have hs' : Still W (w1.drewN n1) := hs.drewN n1
    have l2 := lay2 (w1.drewN n1) (.pointer (some ⟨B.p, 0, none⟩)) (.int .i64 f) 23 3
    exact ⟨(h.still hS).still (hs'.trans l2.1), g1.still (hs'.trans l2.1), g2.still (hs'.trans l2.1), g3.still (hs'.trans l2.1), l2.2.1, l2.2.2, hS.trans (hs'.trans l2.1), by simp only [World.size_alloc]; rfl⟩
  refine wpIn_abs (fun W0 => RawAt W0 B r ∧ Box W0 w.heap.size (.pointer (some ⟨B.p, 0, none⟩)) 23 ∧ Box W0 (w.heap.size + 1) (.int .i64 f) 3 ∧ Box W0 (w.heap.size + 1 + 1) (.int .i64 t) 3 ∧
    Box W0 w1.heap.size (.pointer (some ⟨B.p, 0, none⟩)) 23 ∧ Box W0 (w1.heap.size + 1) (.int .i64 f) 3 ∧ Still w W0 ∧ W0.heap.size = w1.heap.size + 1 + 1) (key _) ?_
  clear key
  clear c1 c2 c3 F4 C h1 g4
  have hsz1 := hS.size
  have hsz2 := hs.size
  have hlt := g3.lt
  clear g1 g2 g3
  rintro W0 ⟨hR0, g1, g2, g3, bP, bF, hSt, hWs⟩
  have hpl := h.hp.lt
  have hnl := h.hn.lt
  have hbl := h.hb.lt
  have hll := h.hl.lt
  have hcl := h.hc.lt
  have hmx : Try.prog.follows .mixedOrders = true := by kernel_rfl
  refine range_one (n := r.things) (xs := xs) rfl (by simp) (all_stops W0 w1.heap.size (w1.heap.size + 1) f r.things B r xs bP bF hR0 hf a (HP.out ▸ HA.out) (HP.out ▸ HL.out) HX.out) Kb.trans (kb_b (fun k hk => by simp only [aK] at hk; omega))
    (fun pre W => RawAt W B { r with list := pre.foldl (fun l x => l.set x (t : Int)) r.list } ∧ Fr B.foot W0 W)
    ?own ⟨hR0, Fr.refl _ _⟩ ?body ?done
  case own =>
    rintro pre A A' row ⟨h1, h2⟩ hg hrow
    have hfr : Fr (fun k => some k = row) A A' := Fr.of_grownBy hg (fun k e _ => e.symm)
    refine ⟨h1.fr hfr ?_, h2.then hfr ?_⟩
    · rintro k hk hk2
      have := (hrow k hk2.symm).1
      simp only [LB.foot] at hk
      omega
    · rintro k hk hk2
      have := (hrow k hk2.symm).1
      omega
  case body =>
    rintro l pre x W ⟨h1, h2⟩ hlen hxt
    simp only [List.setIfInBounds_toArray, List.set_cons_succ, List.set_cons_zero]
    have e1 := (Blk.fr g1 h2 (by simp only [LB.foot]; omega)).cell 0
    have e3 := (Blk.fr g3 h2 (by simp only [LB.foot]; omega)).cell 0
    simp only [List.getElem?_cons_zero] at e1 e3
    have F3 := h1.f3
    have hll' := h1.llist
    have hxt' : (x : Int) < (r.things : Int) := by omega
    have C3 : _ = some (Value.int .i64 _) := h1.hl.cell (i := x) (by rw [hll']; exact hxt)
    have Z3 := h1.zl x
    clear hll'
    gi_wp2
    gi_region_with_o (fail)
    all_goals gi_wp2
    all_goals
      refine ⟨rfl, ((KeepsOthers.setCell _ _ _).trans (KeepsOthers.drew _)).from _, ?_, ?_, ?_⟩
      · exact Kb.of_fr (((Fr.refl (fun k => k = B.l) W).setCell (.inl rfl) _).drew) (fun k hk => ⟨by have := h2.size; simp only [aK] at hk; omega, by have := h.pl; have := h.nl; simp only [aK] at hk; omega⟩)
      · rw [List.foldl_append]; exact (h1.setL x t).drew
      · exact (h2.setCell (.inl (by simp [LB.foot])) _).drew
  case done =>
    rintro D W hD ⟨h1, h2⟩ hK
    have n1 : ¬ B.foot w.heap.size := by simp only [LB.foot]; omega
    have n2 : ¬ B.foot (w.heap.size + 1) := by simp only [LB.foot]; omega
    have n3 : ¬ B.foot (w.heap.size + 1 + 1) := by simp only [LB.foot]; omega
    have t1 := h.t1
    have L1 : (la : Int) < (r.next.length : Int) := by omega
    have L2 : (a : Int) < (r.next.length : Int) := by omega
    have L3 : (z : Int) < (r.next.length : Int) := by omega
    have lbk : p < r.back.length ∧ q < r.back.length ∧ la < r.back.length ∧ z < r.back.length ∧ a < r.back.length := by have := h.lback; have := h.lnext; omega
    obtain ⟨b1, b2, b3, b4, b5⟩ := lbk
    have s0 : MSt B W0 D { r with list := xs.foldl (fun l x => l.set x (t : Int)) r.list } W := ⟨h1, h2, hK, by intro k hk; simp only [LB.foot] at hk; omega, hD⟩
    have e1 := s0.box g1 n1
    have e2 := s0.box g2 n2
    have F0 := s0.raw.f0
    have F1 := s0.raw.f1
    have F2 := s0.raw.f2
    have Ca : W.cell? ⟨B.n, p, none⟩ = some (.int .i64 a) := by rw [h1.hn.cell hp1]; exact congrArg (fun x => some (Value.int .i64 x)) HA.out
    have Cz : W.cell? ⟨B.b, p, none⟩ = some (.int .i64 z) := by rw [h1.hb.cell b1]; exact congrArg (fun x => some (Value.int .i64 x)) HZ.out
    gi_wp2_with fail
    refine wpIn_wide.2 ?_
    go_quiet ((go_at_call 77; exact Calls.quiet_of_same (calls_flip (end_cell _ B.p r.things f p F0 HP.out (by omega) t1))))
    clear e1 e2 F0 F1 F2 Ca Cz
    gi_wp2_with fail
    refine wpIn_abs (MSt B W0 D { r with list := xs.foldl (fun l x => l.set x (t : Int)) r.list }) (s0.drewN _) ?_
    clear s0 h1 h2 hK
    intro W2 s0
    have e1 := s0.box g1 n1
    have e3 := s0.box g3 n3
    have F0 := s0.raw.f0
    have F2 := s0.raw.f2
    have Cl : W2.cell? ⟨B.b, q, none⟩ = some (.int .i64 la) := by rw [s0.raw.hb.cell b2]; exact congrArg (fun x => some (Value.int .i64 x)) HLA.out
    refine wpIn_wide.2 ?_
    go_quiet ((go_at_call 77; exact Calls.quiet_of_same (calls_flip (end_cell _ B.p r.things t q F0 HQ.out (by omega) t1))))
    clear e1 e3 F0 F2 Cl
    gi_wp2_with fail
    refine wpIn_abs (MSt B W0 D { r with list := xs.foldl (fun l x => l.set x (t : Int)) r.list }) (s0.drewN _) ?_
    clear s0
    intro W3 s0
    obtain ⟨l0, hl0⟩ : ∃ l0, xs.foldl (fun l x => l.set x (t : Int)) r.list = l0 := ⟨_, rfl⟩
    rw [hl0] at s0
    have hfac : ∀ (r' : Raw) W, r'.things = r.things ∧ r'.next.length = r.next.length ∧ r'.back.length = r.back.length ∧ r'.count.length = r.count.length → MSt B W0 D r' W → W.cell? ⟨w.heap.size, 0, none⟩ = some (.pointer (some ⟨B.p, 0, none⟩)) ∧ W.cell? ⟨w.heap.size + 1, 0, none⟩ = some (.int .i64 (f : Int)) ∧ W.cell? ⟨w.heap.size + 1 + 1, 0, none⟩ = some (.int .i64 (t : Int)) ∧ W.cell? ⟨B.p, 0, none⟩ = some (.int .i64 (r.things : Int)) ∧
        W.cell? ⟨B.p, 1, none⟩ = some (.slice (some ⟨B.n, 0, none⟩) r.next.length B.kn) ∧ W.cell? ⟨B.p, 2, none⟩ = some (.slice (some ⟨B.b, 0, none⟩) r.next.length B.kb) ∧ W.cell? ⟨B.p, 4, none⟩ = some (.slice (some ⟨B.c, 0, none⟩) r.count.length B.kc) := by
      rintro r' W ⟨ht, hn, hb, hc⟩ h
      have a1 := h.raw.f0
      have a2 := h.raw.f1
      have a3 := h.raw.f2
      have a4 := h.raw.f4
      rw [ht] at a1
      rw [hn] at a2 a3
      rw [hc] at a4
      exact ⟨h.box g1 n1, h.box g2 n2, h.box g3 n3, a1, a2, a3, a4⟩
    have HF := hid hfac
    clear hfac g1 g2 g3 n1 n2 n3
    obtain ⟨rk, hrk⟩ : ∃ rk : Nat → Raw, rk = fun k => match k with
      | 0 => { r with list := l0 }
      | 1 => { r with list := l0, next := r.next.set la a }
      | _ => { r with list := l0, next := r.next.set la a, back := r.back.set a la } := ⟨_, rfl⟩
    have hrt : ∀ k, (rk k).things = r.things ∧ (rk k).next.length = r.next.length ∧ (rk k).back.length = r.back.length ∧ (rk k).count.length = r.count.length := by
      intro k; subst hrk; match k with
      | 0 => exact ⟨rfl, by simp, by simp, by simp⟩
      | 1 => exact ⟨rfl, by simp, by simp, by simp⟩
      | k + 2 => exact ⟨rfl, by simp, by simp, by simp⟩
    refine wpIn_wide.2 ?_
    refine Fix.wp_region_fix [13, 15] (fun k W => MSt B W0 D (rk k) W) (by kernel_rfl) (by kernel_rfl) (by subst hrk; exact s0.drew) ?_
    generalize hops : List.toArray _ = ops
    refine Fix.fix_plain (v := ?v1) (by kernel_rfl) (fun _ W hk hC K hK => ?h1_1) (fun K hK => ?h2_1)
    case h1_1 =>
      obtain ⟨e1, e2, e3, F0, F1, F2, F4⟩ := HF.out _ W (hrt _) hC
      go_simp
      exact hK _ hC
    go_simp
    refine hK _ ?_
    clear hK K
    refine Fix.fix_plain (v := ?v2) (by kernel_rfl) (fun _ W hk hC K hK => ?h1_2) (fun K hK => ?h2_2)
    case h1_2 =>
      obtain ⟨e1, e2, e3, F0, F1, F2, F4⟩ := HF.out _ W (hrt _) hC
      go_simp
      exact hK _ hC
    go_simp
    refine hK _ ?_
    clear hK K
    refine Fix.fix_plain (v := ?v3) (by kernel_rfl) (fun _ W hk hC K hK => ?h1_3) (fun K hK => ?h2_3)
    case h1_3 =>
      obtain ⟨e1, e2, e3, F0, F1, F2, F4⟩ := HF.out _ W (hrt _) hC
      go_simp
      exact hK _ hC
    go_simp
    refine hK _ ?_
    clear hK K
    refine Fix.fix_plain (v := ?v4) (by kernel_rfl) (fun _ W hk hC K hK => ?h1_4) (fun K hK => ?h2_4)
    case h1_4 =>
      obtain ⟨e1, e2, e3, F0, F1, F2, F4⟩ := HF.out _ W (hrt _) hC
      go_simp
      exact hK _ hC
    go_simp
    refine hK _ ?_
    clear hK K
    refine Fix.fix_plain (v := ?v5) (by kernel_rfl) (fun _ W hk hC K hK => ?h1_5) (fun K hK => ?h2_5)
    case h1_5 =>
      obtain ⟨e1, e2, e3, F0, F1, F2, F4⟩ := HF.out _ W (hrt _) hC
      go_simp
      exact hK _ hC
    go_simp
    refine hK _ ?_
    clear hK K
    refine Fix.fix_plain (v := ?v6) (by kernel_rfl) (fun _ W hk hC K hK => ?h1_6) (fun K hK => ?h2_6)
    case h1_6 =>
      obtain ⟨e1, e2, e3, F0, F1, F2, F4⟩ := HF.out _ W (hrt _) hC
      go_simp
      exact hK _ hC
    go_simp
    refine hK _ ?_
    clear hK K
    refine Fix.fix_plain (v := ?v7) (by kernel_rfl) (fun _ W hk hC K hK => ?h1_7) (fun K hK => ?h2_7)
    case h1_7 =>
      obtain ⟨e1, e2, e3, F0, F1, F2, F4⟩ := HF.out _ W (hrt _) hC
      go_simp
      exact hK _ hC
    go_simp
    refine hK _ ?_
    clear hK K
    refine Fix.fix_plain (v := ?v8) (by kernel_rfl) (fun _ W hk hC K hK => ?h1_8) (fun K hK => ?h2_8)
    case h1_8 =>
      obtain ⟨e1, e2, e3, F0, F1, F2, F4⟩ := HF.out _ W (hrt _) hC
      go_simp
      exact hK _ hC
    go_simp
    refine hK _ ?_
    clear hK K
    refine Fix.fix_plain (v := ?v9) (by kernel_rfl) (fun _ W hk hC K hK => ?h1_9) (fun K hK => ?h2_9)
    case h1_9 =>
      obtain ⟨e1, e2, e3, F0, F1, F2, F4⟩ := HF.out _ W (hrt _) hC
      go_simp
      exact hK _ hC
    go_simp
    refine hK _ ?_
    clear hK K
    refine Fix.fix_plain (v := ?v10) (by kernel_rfl) (fun _ W hk hC K hK => ?h1_10) (fun K hK => ?h2_10)
    case h1_10 =>
      obtain ⟨e1, e2, e3, F0, F1, F2, F4⟩ := HF.out _ W (hrt _) hC
      go_simp
      exact hK _ hC
    go_simp
    refine hK _ ?_
    clear hK K
    refine Fix.fix_plain (v := ?v11) (by kernel_rfl) (fun _ W hk hC K hK => ?h1_11) (fun K hK => ?h2_11)
    case h1_11 =>
      obtain ⟨e1, e2, e3, F0, F1, F2, F4⟩ := HF.out _ W (hrt _) hC
      go_simp
      exact hK _ hC
    go_simp
    refine hK _ ?_
    clear hK K
    refine Fix.fix_plain (v := ?v12) (by kernel_rfl) (fun _ W hk hC K hK => ?h1_12) (fun K hK => ?h2_12)
    case h1_12 =>
      obtain ⟨e1, e2, e3, F0, F1, F2, F4⟩ := HF.out _ W (hrt _) hC
      go_simp
      exact hK _ hC
    go_simp
    refine hK _ ?_
    clear hK K
    refine Fix.fix_plain (v := ?v13) (by kernel_rfl) (fun _ W hk hC K hK => ?h1_13) (fun K hK => ?h2_13)
    case h1_13 =>
      obtain ⟨e1, e2, e3, F0, F1, F2, F4⟩ := HF.out _ W (hrt _) hC
      go_simp
      exact hK _ hC
    go_simp
    refine hK _ ?_
    clear hK K
    refine Fix.fix_store (v := ?v14) 0 (by kernel_rfl) (fun W hC K hK => ?h1_14) (fun K hK => ?h2_14)
    case h1_14 =>
      have C1 : W.cell? ⟨B.n, la, none⟩ = some _ := hC.raw.hn.cell (by rw [(hrt 0).2.1]; exact hla')
      have Z1 := hC.raw.zn la
      go_simp
      refine hK _ ?_
      clear hK K
      subst hrk; exact hC.setN la a
    go_simp
    refine hK _ ?_
    clear hK K
    refine Fix.fix_plain (v := ?v15) (by kernel_rfl) (fun _ W hk hC K hK => ?h1_15) (fun K hK => ?h2_15)
    case h1_15 =>
      obtain ⟨e1, e2, e3, F0, F1, F2, F4⟩ := HF.out _ W (hrt _) hC
      go_simp
      exact hK _ hC
    go_simp
    refine hK _ ?_
    clear hK K
    refine Fix.fix_store (v := ?v16) 1 (by kernel_rfl) (fun W hC K hK => ?h1_16) (fun K hK => ?h2_16)
    case h1_16 =>
      have C1 : W.cell? ⟨B.b, a, none⟩ = some _ := hC.raw.hb.cell (by rw [(hrt 1).2.2.1]; exact b5)
      have Z1 := hC.raw.zb a
      go_simp
      refine hK _ ?_
      clear hK K
      subst hrk; exact hC.setB a la
    go_simp
    refine hK _ ?_
    clear hK K
    refine Fix.fix_nil (fun W4 s0 => ?_)
    replace s0 : MSt B W0 D { r with list := l0, next := r.next.set la a, back := r.back.set a la } W4 := by subst hrk; exact s0
    clear hops hrt hrk rk ops
    gi_wp2_with fail
    obtain ⟨rk, hrk⟩ : ∃ rk : Nat → Raw, rk = fun k => match k with
      | 0 => { r with list := l0, next := r.next.set la a, back := r.back.set a la }
      | 1 => { r with list := l0, next := (r.next.set la a).set z q, back := r.back.set a la }
      | _ => { r with list := l0, next := (r.next.set la a).set z q, back := (r.back.set a la).set q z } := ⟨_, rfl⟩
    have hrt : ∀ k, (rk k).things = r.things ∧ (rk k).next.length = r.next.length ∧ (rk k).back.length = r.back.length ∧ (rk k).count.length = r.count.length := by
      intro k; subst hrk; match k with
      | 0 => exact ⟨rfl, by simp, by simp, by simp⟩
      | 1 => exact ⟨rfl, by simp, by simp, by simp⟩
      | k + 2 => exact ⟨rfl, by simp, by simp, by simp⟩
    refine wpIn_wide.2 ?_
    refine Fix.wp_region_fix [17, 19] (fun k W => MSt B W0 D (rk k) W) (by kernel_rfl) (by kernel_rfl) (by subst hrk; exact s0.drew) ?_
    generalize hops : List.toArray _ = ops
    refine Fix.fix_plain (v := ?v17) (by kernel_rfl) (fun _ W hk hC K hK => ?h1_17) (fun K hK => ?h2_17)
    case h1_17 =>
      obtain ⟨e1, e2, e3, F0, F1, F2, F4⟩ := HF.out _ W (hrt _) hC
      go_simp
      exact hK _ hC
    go_simp
    refine hK _ ?_
    clear hK K
    refine Fix.fix_plain (v := ?v18) (by kernel_rfl) (fun _ W hk hC K hK => ?h1_18) (fun K hK => ?h2_18)
    case h1_18 =>
      obtain ⟨e1, e2, e3, F0, F1, F2, F4⟩ := HF.out _ W (hrt _) hC
      go_simp
      exact hK _ hC
    go_simp
    refine hK _ ?_
    clear hK K
    refine Fix.fix_plain (v := ?v19) (by kernel_rfl) (fun _ W hk hC K hK => ?h1_19) (fun K hK => ?h2_19)
    case h1_19 =>
      obtain ⟨e1, e2, e3, F0, F1, F2, F4⟩ := HF.out _ W (hrt _) hC
      go_simp
      exact hK _ hC
    go_simp
    refine hK _ ?_
    clear hK K
    refine Fix.fix_plain (v := ?v20) (by kernel_rfl) (fun _ W hk hC K hK => ?h1_20) (fun K hK => ?h2_20)
    case h1_20 =>
      obtain ⟨e1, e2, e3, F0, F1, F2, F4⟩ := HF.out _ W (hrt _) hC
      go_simp
      exact hK _ hC
    go_simp
    refine hK _ ?_
    clear hK K
    refine Fix.fix_plain (v := ?v21) (by kernel_rfl) (fun _ W hk hC K hK => ?h1_21) (fun K hK => ?h2_21)
    case h1_21 =>
      obtain ⟨e1, e2, e3, F0, F1, F2, F4⟩ := HF.out _ W (hrt _) hC
      go_simp
      exact hK _ hC
    go_simp
    refine hK _ ?_
    clear hK K
    refine Fix.fix_plain (v := ?v22) (by kernel_rfl) (fun _ W hk hC K hK => ?h1_22) (fun K hK => ?h2_22)
    case h1_22 =>
      obtain ⟨e1, e2, e3, F0, F1, F2, F4⟩ := HF.out _ W (hrt _) hC
      go_simp
      exact hK _ hC
    go_simp
    refine hK _ ?_
    clear hK K
    refine Fix.fix_plain (v := ?v23) (by kernel_rfl) (fun _ W hk hC K hK => ?h1_23) (fun K hK => ?h2_23)
    case h1_23 =>
      obtain ⟨e1, e2, e3, F0, F1, F2, F4⟩ := HF.out _ W (hrt _) hC
      go_simp
      exact hK _ hC
    go_simp
    refine hK _ ?_
    clear hK K
    refine Fix.fix_plain (v := ?v24) (by kernel_rfl) (fun _ W hk hC K hK => ?h1_24) (fun K hK => ?h2_24)
    case h1_24 =>
      obtain ⟨e1, e2, e3, F0, F1, F2, F4⟩ := HF.out _ W (hrt _) hC
      go_simp
      exact hK _ hC
    go_simp
    refine hK _ ?_
    clear hK K
    refine Fix.fix_plain (v := ?v25) (by kernel_rfl) (fun _ W hk hC K hK => ?h1_25) (fun K hK => ?h2_25)
    case h1_25 =>
      obtain ⟨e1, e2, e3, F0, F1, F2, F4⟩ := HF.out _ W (hrt _) hC
      go_simp
      exact hK _ hC
    go_simp
    refine hK _ ?_
    clear hK K
    refine Fix.fix_plain (v := ?v26) (by kernel_rfl) (fun _ W hk hC K hK => ?h1_26) (fun K hK => ?h2_26)
    case h1_26 =>
      obtain ⟨e1, e2, e3, F0, F1, F2, F4⟩ := HF.out _ W (hrt _) hC
      go_simp
      exact hK _ hC
    go_simp
    refine hK _ ?_
    clear hK K
    refine Fix.fix_plain (v := ?v27) (by kernel_rfl) (fun _ W hk hC K hK => ?h1_27) (fun K hK => ?h2_27)
    case h1_27 =>
      obtain ⟨e1, e2, e3, F0, F1, F2, F4⟩ := HF.out _ W (hrt _) hC
      go_simp
      exact hK _ hC
    go_simp
    refine hK _ ?_
    clear hK K
    refine Fix.fix_plain (v := ?v28) (by kernel_rfl) (fun _ W hk hC K hK => ?h1_28) (fun K hK => ?h2_28)
    case h1_28 =>
      go_simp
      obtain ⟨e1, e2, e3, F0, F1, F2, F4⟩ := HF.out _ W (hrt _) hC
      refine (end_cell _ B.p r.things t q F0 HQ.out (by omega) t1).mono ?_
      intro e w' hh
      have h1 := hh.1
      have h2 := hh.2
      subst h1
      subst h2
      refine ⟨_, rfl, ?_⟩
      exact hK _ hC
    go_simp
    refine hK _ ?_
    clear hK K
    refine Fix.fix_plain (v := ?v29) (by kernel_rfl) (fun _ W hk hC K hK => ?h1_29) (fun K hK => ?h2_29)
    case h1_29 =>
      obtain ⟨e1, e2, e3, F0, F1, F2, F4⟩ := HF.out _ W (hrt _) hC
      go_simp
      exact hK _ hC
    go_simp
    refine hK _ ?_
    clear hK K
    refine Fix.fix_plain (v := ?v30) (by kernel_rfl) (fun _ W hk hC K hK => ?h1_30) (fun K hK => ?h2_30)
    case h1_30 =>
      obtain ⟨e1, e2, e3, F0, F1, F2, F4⟩ := HF.out _ W (hrt _) hC
      go_simp
      exact hK _ hC
    go_simp
    refine hK _ ?_
    clear hK K
    refine Fix.fix_plain (v := ?v31) (by kernel_rfl) (fun _ W hk hC K hK => ?h1_31) (fun K hK => ?h2_31)
    case h1_31 =>
      go_simp
      obtain ⟨e1, e2, e3, F0, F1, F2, F4⟩ := HF.out _ W (hrt _) hC
      refine (end_cell _ B.p r.things t q F0 HQ.out (by omega) t1).mono ?_
      intro e w' hh
      have h1 := hh.1
      have h2 := hh.2
      subst h1
      subst h2
      refine ⟨_, rfl, ?_⟩
      exact hK _ hC
    go_simp
    refine hK _ ?_
    clear hK K
    refine Fix.fix_plain (v := ?v32) (by kernel_rfl) (fun _ W hk hC K hK => ?h1_32) (fun K hK => ?h2_32)
    case h1_32 =>
      obtain ⟨e1, e2, e3, F0, F1, F2, F4⟩ := HF.out _ W (hrt _) hC
      go_simp
      exact hK _ hC
    go_simp
    refine hK _ ?_
    clear hK K
    refine Fix.fix_plain (v := ?v33) (by kernel_rfl) (fun _ W hk hC K hK => ?h1_33) (fun K hK => ?h2_33)
    case h1_33 =>
      obtain ⟨e1, e2, e3, F0, F1, F2, F4⟩ := HF.out _ W (hrt _) hC
      go_simp
      exact hK _ hC
    go_simp
    refine hK _ ?_
    clear hK K
    refine Fix.fix_store (v := ?v34) 0 (by kernel_rfl) (fun W hC K hK => ?h1_34) (fun K hK => ?h2_34)
    case h1_34 =>
      have C1 : W.cell? ⟨B.n, z, none⟩ = some _ := hC.raw.hn.cell (by rw [(hrt 0).2.1]; exact hz')
      have Z1 := hC.raw.zn z
      go_simp
      refine hK _ ?_
      clear hK K
      subst hrk; exact hC.setN z q
    go_simp
    refine hK _ ?_
    clear hK K
    refine Fix.fix_plain (v := ?v35) (by kernel_rfl) (fun _ W hk hC K hK => ?h1_35) (fun K hK => ?h2_35)
    case h1_35 =>
      obtain ⟨e1, e2, e3, F0, F1, F2, F4⟩ := HF.out _ W (hrt _) hC
      go_simp
      exact hK _ hC
    go_simp
    refine hK _ ?_
    clear hK K
    refine Fix.fix_store (v := ?v36) 1 (by kernel_rfl) (fun W hC K hK => ?h1_36) (fun K hK => ?h2_36)
    case h1_36 =>
      have C1 : W.cell? ⟨B.b, q, none⟩ = some _ := hC.raw.hb.cell (by rw [(hrt 1).2.2.1]; exact b2)
      have Z1 := hC.raw.zb q
      go_simp
      refine hK _ ?_
      clear hK K
      subst hrk; exact hC.setB q z
    go_simp
    refine hK _ ?_
    clear hK K
    refine Fix.fix_nil (fun W5 s0 => ?_)
    replace s0 : MSt B W0 D { r with list := l0, next := (r.next.set la a).set z q, back := (r.back.set a la).set q z } W5 := by subst hrk; exact s0
    clear hops hrt hrk rk ops
    gi_wp2_with fail
    obtain ⟨rk, hrk⟩ : ∃ rk : Nat → Raw, rk = fun k => match k with
      | 0 => { r with list := l0, next := (r.next.set la a).set z q, back := (r.back.set a la).set q z }
      | 1 => { r with list := l0, next := ((r.next.set la a).set z q).set p p, back := (r.back.set a la).set q z }
      | _ => { r with list := l0, next := ((r.next.set la a).set z q).set p p, back := ((r.back.set a la).set q z).set p p } := ⟨_, rfl⟩
    have hrt : ∀ k, (rk k).things = r.things ∧ (rk k).next.length = r.next.length ∧ (rk k).back.length = r.back.length ∧ (rk k).count.length = r.count.length := by
      intro k; subst hrk; match k with
      | 0 => exact ⟨rfl, by simp, by simp, by simp⟩
      | 1 => exact ⟨rfl, by simp, by simp, by simp⟩
      | k + 2 => exact ⟨rfl, by simp, by simp, by simp⟩
    refine wpIn_wide.2 ?_
    refine Fix.wp_region_fix [21, 23] (fun k W => MSt B W0 D (rk k) W) (by kernel_rfl) (by kernel_rfl) (by subst hrk; exact s0.drew) ?_
    generalize hops : List.toArray _ = ops
    refine Fix.fix_plain (v := ?v37) (by kernel_rfl) (fun _ W hk hC K hK => ?h1_37) (fun K hK => ?h2_37)
    case h1_37 =>
      obtain ⟨e1, e2, e3, F0, F1, F2, F4⟩ := HF.out _ W (hrt _) hC
      go_simp
      exact hK _ hC
    go_simp
    refine hK _ ?_
    clear hK K
    refine Fix.fix_plain (v := ?v38) (by kernel_rfl) (fun _ W hk hC K hK => ?h1_38) (fun K hK => ?h2_38)
    case h1_38 =>
      obtain ⟨e1, e2, e3, F0, F1, F2, F4⟩ := HF.out _ W (hrt _) hC
      go_simp
      exact hK _ hC
    go_simp
    refine hK _ ?_
    clear hK K
    refine Fix.fix_plain (v := ?v39) (by kernel_rfl) (fun _ W hk hC K hK => ?h1_39) (fun K hK => ?h2_39)
    case h1_39 =>
      obtain ⟨e1, e2, e3, F0, F1, F2, F4⟩ := HF.out _ W (hrt _) hC
      go_simp
      exact hK _ hC
    go_simp
    refine hK _ ?_
    clear hK K
    refine Fix.fix_plain (v := ?v40) (by kernel_rfl) (fun _ W hk hC K hK => ?h1_40) (fun K hK => ?h2_40)
    case h1_40 =>
      obtain ⟨e1, e2, e3, F0, F1, F2, F4⟩ := HF.out _ W (hrt _) hC
      go_simp
      exact hK _ hC
    go_simp
    refine hK _ ?_
    clear hK K
    refine Fix.fix_plain (v := ?v41) (by kernel_rfl) (fun _ W hk hC K hK => ?h1_41) (fun K hK => ?h2_41)
    case h1_41 =>
      obtain ⟨e1, e2, e3, F0, F1, F2, F4⟩ := HF.out _ W (hrt _) hC
      go_simp
      exact hK _ hC
    go_simp
    refine hK _ ?_
    clear hK K
    refine Fix.fix_plain (v := ?v42) (by kernel_rfl) (fun _ W hk hC K hK => ?h1_42) (fun K hK => ?h2_42)
    case h1_42 =>
      obtain ⟨e1, e2, e3, F0, F1, F2, F4⟩ := HF.out _ W (hrt _) hC
      go_simp
      exact hK _ hC
    go_simp
    refine hK _ ?_
    clear hK K
    refine Fix.fix_plain (v := ?v43) (by kernel_rfl) (fun _ W hk hC K hK => ?h1_43) (fun K hK => ?h2_43)
    case h1_43 =>
      go_simp
      obtain ⟨e1, e2, e3, F0, F1, F2, F4⟩ := HF.out _ W (hrt _) hC
      refine (end_cell _ B.p r.things f p F0 HP.out (by omega) t1).mono ?_
      intro e w' hh
      have h1 := hh.1
      have h2 := hh.2
      subst h1
      subst h2
      refine ⟨_, rfl, ?_⟩
      exact hK _ hC
    go_simp
    refine hK _ ?_
    clear hK K
    refine Fix.fix_plain (v := ?v44) (by kernel_rfl) (fun _ W hk hC K hK => ?h1_44) (fun K hK => ?h2_44)
    case h1_44 =>
      obtain ⟨e1, e2, e3, F0, F1, F2, F4⟩ := HF.out _ W (hrt _) hC
      go_simp
      exact hK _ hC
    go_simp
    refine hK _ ?_
    clear hK K
    refine Fix.fix_plain (v := ?v45) (by kernel_rfl) (fun _ W hk hC K hK => ?h1_45) (fun K hK => ?h2_45)
    case h1_45 =>
      obtain ⟨e1, e2, e3, F0, F1, F2, F4⟩ := HF.out _ W (hrt _) hC
      go_simp
      exact hK _ hC
    go_simp
    refine hK _ ?_
    clear hK K
    refine Fix.fix_plain (v := ?v46) (by kernel_rfl) (fun _ W hk hC K hK => ?h1_46) (fun K hK => ?h2_46)
    case h1_46 =>
      obtain ⟨e1, e2, e3, F0, F1, F2, F4⟩ := HF.out _ W (hrt _) hC
      go_simp
      exact hK _ hC
    go_simp
    refine hK _ ?_
    clear hK K
    refine Fix.fix_plain (v := ?v47) (by kernel_rfl) (fun _ W hk hC K hK => ?h1_47) (fun K hK => ?h2_47)
    case h1_47 =>
      obtain ⟨e1, e2, e3, F0, F1, F2, F4⟩ := HF.out _ W (hrt _) hC
      go_simp
      exact hK _ hC
    go_simp
    refine hK _ ?_
    clear hK K
    refine Fix.fix_plain (v := ?v48) (by kernel_rfl) (fun _ W hk hC K hK => ?h1_48) (fun K hK => ?h2_48)
    case h1_48 =>
      obtain ⟨e1, e2, e3, F0, F1, F2, F4⟩ := HF.out _ W (hrt _) hC
      go_simp
      exact hK _ hC
    go_simp
    refine hK _ ?_
    clear hK K
    refine Fix.fix_plain (v := ?v49) (by kernel_rfl) (fun _ W hk hC K hK => ?h1_49) (fun K hK => ?h2_49)
    case h1_49 =>
      obtain ⟨e1, e2, e3, F0, F1, F2, F4⟩ := HF.out _ W (hrt _) hC
      go_simp
      exact hK _ hC
    go_simp
    refine hK _ ?_
    clear hK K
    refine Fix.fix_plain (v := ?v50) (by kernel_rfl) (fun _ W hk hC K hK => ?h1_50) (fun K hK => ?h2_50)
    case h1_50 =>
      go_simp
      obtain ⟨e1, e2, e3, F0, F1, F2, F4⟩ := HF.out _ W (hrt _) hC
      refine (end_cell _ B.p r.things f p F0 HP.out (by omega) t1).mono ?_
      intro e w' hh
      have h1 := hh.1
      have h2 := hh.2
      subst h1
      subst h2
      refine ⟨_, rfl, ?_⟩
      exact hK _ hC
    go_simp
    refine hK _ ?_
    clear hK K
    refine Fix.fix_plain (v := ?v51) (by kernel_rfl) (fun _ W hk hC K hK => ?h1_51) (fun K hK => ?h2_51)
    case h1_51 =>
      obtain ⟨e1, e2, e3, F0, F1, F2, F4⟩ := HF.out _ W (hrt _) hC
      go_simp
      exact hK _ hC
    go_simp
    refine hK _ ?_
    clear hK K
    refine Fix.fix_plain (v := ?v52) (by kernel_rfl) (fun _ W hk hC K hK => ?h1_52) (fun K hK => ?h2_52)
    case h1_52 =>
      obtain ⟨e1, e2, e3, F0, F1, F2, F4⟩ := HF.out _ W (hrt _) hC
      go_simp
      exact hK _ hC
    go_simp
    refine hK _ ?_
    clear hK K
    refine Fix.fix_plain (v := ?v53) (by kernel_rfl) (fun _ W hk hC K hK => ?h1_53) (fun K hK => ?h2_53)
    case h1_53 =>
      go_simp
      obtain ⟨e1, e2, e3, F0, F1, F2, F4⟩ := HF.out _ W (hrt _) hC
      refine (end_cell _ B.p r.things f p F0 HP.out (by omega) t1).mono ?_
      intro e w' hh
      have h1 := hh.1
      have h2 := hh.2
      subst h1
      subst h2
      refine ⟨_, rfl, ?_⟩
      exact hK _ hC
    go_simp
    refine hK _ ?_
    clear hK K
    refine Fix.fix_plain (v := ?v54) (by kernel_rfl) (fun _ W hk hC K hK => ?h1_54) (fun K hK => ?h2_54)
    case h1_54 =>
      obtain ⟨e1, e2, e3, F0, F1, F2, F4⟩ := HF.out _ W (hrt _) hC
      go_simp
      exact hK _ hC
    go_simp
    refine hK _ ?_
    clear hK K
    refine Fix.fix_plain (v := ?v55) (by kernel_rfl) (fun _ W hk hC K hK => ?h1_55) (fun K hK => ?h2_55)
    case h1_55 =>
      obtain ⟨e1, e2, e3, F0, F1, F2, F4⟩ := HF.out _ W (hrt _) hC
      go_simp
      exact hK _ hC
    go_simp
    refine hK _ ?_
    clear hK K
    refine Fix.fix_plain (v := ?v56) (by kernel_rfl) (fun _ W hk hC K hK => ?h1_56) (fun K hK => ?h2_56)
    case h1_56 =>
      go_simp
      obtain ⟨e1, e2, e3, F0, F1, F2, F4⟩ := HF.out _ W (hrt _) hC
      refine (end_cell _ B.p r.things f p F0 HP.out (by omega) t1).mono ?_
      intro e w' hh
      have h1 := hh.1
      have h2 := hh.2
      subst h1
      subst h2
      refine ⟨_, rfl, ?_⟩
      exact hK _ hC
    go_simp
    refine hK _ ?_
    clear hK K
    refine Fix.fix_plain (v := ?v57) (by kernel_rfl) (fun _ W hk hC K hK => ?h1_57) (fun K hK => ?h2_57)
    case h1_57 =>
      obtain ⟨e1, e2, e3, F0, F1, F2, F4⟩ := HF.out _ W (hrt _) hC
      go_simp
      exact hK _ hC
    go_simp
    refine hK _ ?_
    clear hK K
    refine Fix.fix_store (v := ?v58) 0 (by kernel_rfl) (fun W hC K hK => ?h1_58) (fun K hK => ?h2_58)
    case h1_58 =>
      have C1 : W.cell? ⟨B.n, p, none⟩ = some _ := hC.raw.hn.cell (by rw [(hrt 0).2.1]; exact hp1)
      have Z1 := hC.raw.zn p
      go_simp
      refine hK _ ?_
      clear hK K
      subst hrk; exact hC.setN p p
    go_simp
    refine hK _ ?_
    clear hK K
    refine Fix.fix_plain (v := ?v59) (by kernel_rfl) (fun _ W hk hC K hK => ?h1_59) (fun K hK => ?h2_59)
    case h1_59 =>
      obtain ⟨e1, e2, e3, F0, F1, F2, F4⟩ := HF.out _ W (hrt _) hC
      go_simp
      exact hK _ hC
    go_simp
    refine hK _ ?_
    clear hK K
    refine Fix.fix_store (v := ?v60) 1 (by kernel_rfl) (fun W hC K hK => ?h1_60) (fun K hK => ?h2_60)
    case h1_60 =>
      have C1 : W.cell? ⟨B.b, p, none⟩ = some _ := hC.raw.hb.cell (by rw [(hrt 1).2.2.1]; exact b1)
      have Z1 := hC.raw.zb p
      go_simp
      refine hK _ ?_
      clear hK K
      subst hrk; exact hC.setB p p
    go_simp
    refine hK _ ?_
    clear hK K
    refine Fix.fix_nil (fun W6 s0 => ?_)
    replace s0 : MSt B W0 D { r with list := l0, next := ((r.next.set la a).set z q).set p p, back := ((r.back.set a la).set q z).set p p } W6 := by subst hrk; exact s0
    clear hops hrt hrk rk ops
    gi_wp2_with fail
    obtain ⟨rk, hrk⟩ : ∃ rk : Nat → Raw, rk = fun k => match k with
      | 0 => { r with list := l0, next := ((r.next.set la a).set z q).set p p, back := ((r.back.set a la).set q z).set p p }
      | 1 => { r with list := l0, next := ((r.next.set la a).set z q).set p p, back := ((r.back.set a la).set q z).set p p, count := r.count.set f 0 }
      | _ => { r with list := l0, next := ((r.next.set la a).set z q).set p p, back := ((r.back.set a la).set q z).set p p, count := (r.count.set f 0).set t ((c : Int) + n) } := ⟨_, rfl⟩
    have hrt : ∀ k, (rk k).things = r.things ∧ (rk k).next.length = r.next.length ∧ (rk k).back.length = r.back.length ∧ (rk k).count.length = r.count.length := by
      intro k; subst hrk; match k with
      | 0 => exact ⟨rfl, by simp, by simp, by simp⟩
      | 1 => exact ⟨rfl, by simp, by simp, by simp⟩
      | k + 2 => exact ⟨rfl, by simp, by simp, by simp⟩
    have hwr : IntKind.i64.wrap ((c : Int) + n) = (c : Int) + n := IntWalk.i64_in _ ⟨by omega, by omega⟩
    have hct : ∀ k, k ≤ 1 → (rk k).count.getD t 0 = (c : Int) := by
      intro k hk; subst hrk; match k, hk with
      | 0, _ => exact HC.out
      | 1, _ => exact ((getD_set' _ _ _ _ hf).trans (if_neg hft)).trans HC.out
    refine wpIn_wide.2 ?_
    refine Fix.wp_region_fix [20, 22] (fun k W => MSt B W0 D (rk k) W) (by kernel_rfl) (by kernel_rfl) (by subst hrk; exact s0.drew) ?_
    generalize hops : List.toArray _ = ops
    refine Fix.fix_plain (v := ?v61) (by kernel_rfl) (fun _ W hk hC K hK => ?h1_61) (fun K hK => ?h2_61)
    case h1_61 =>
      obtain ⟨e1, e2, e3, F0, F1, F2, F4⟩ := HF.out _ W (hrt _) hC
      go_simp
      exact hK _ hC
    go_simp
    refine hK _ ?_
    clear hK K
    refine Fix.fix_plain (v := ?v62) (by kernel_rfl) (fun _ W hk hC K hK => ?h1_62) (fun K hK => ?h2_62)
    case h1_62 =>
      obtain ⟨e1, e2, e3, F0, F1, F2, F4⟩ := HF.out _ W (hrt _) hC
      go_simp
      exact hK _ hC
    go_simp
    refine hK _ ?_
    clear hK K
    refine Fix.fix_plain (v := ?v63) (by kernel_rfl) (fun _ W hk hC K hK => ?h1_63) (fun K hK => ?h2_63)
    case h1_63 =>
      obtain ⟨e1, e2, e3, F0, F1, F2, F4⟩ := HF.out _ W (hrt _) hC
      go_simp
      exact hK _ hC
    go_simp
    refine hK _ ?_
    clear hK K
    refine Fix.fix_plain (v := ?v64) (by kernel_rfl) (fun _ W hk hC K hK => ?h1_64) (fun K hK => ?h2_64)
    case h1_64 =>
      obtain ⟨e1, e2, e3, F0, F1, F2, F4⟩ := HF.out _ W (hrt _) hC
      go_simp
      exact hK _ hC
    go_simp
    refine hK _ ?_
    clear hK K
    refine Fix.fix_plain (v := ?v65) (by kernel_rfl) (fun _ W hk hC K hK => ?h1_65) (fun K hK => ?h2_65)
    case h1_65 =>
      obtain ⟨e1, e2, e3, F0, F1, F2, F4⟩ := HF.out _ W (hrt _) hC
      go_simp
      exact hK _ hC
    go_simp
    refine hK _ ?_
    clear hK K
    refine Fix.fix_plain (v := ?v66) (by kernel_rfl) (fun _ W hk hC K hK => ?h1_66) (fun K hK => ?h2_66)
    case h1_66 =>
      obtain ⟨e1, e2, e3, F0, F1, F2, F4⟩ := HF.out _ W (hrt _) hC
      go_simp
      exact hK _ hC
    go_simp
    refine hK _ ?_
    clear hK K
    refine Fix.fix_plain (v := ?v67) (by kernel_rfl) (fun _ W hk hC K hK => ?h1_67) (fun K hK => ?h2_67)
    case h1_67 =>
      obtain ⟨e1, e2, e3, F0, F1, F2, F4⟩ := HF.out _ W (hrt _) hC
      go_simp
      exact hK _ hC
    go_simp
    refine hK _ ?_
    clear hK K
    refine Fix.fix_plain (v := ?v68) (by kernel_rfl) (fun _ W hk hC K hK => ?h1_68) (fun K hK => ?h2_68)
    case h1_68 =>
      obtain ⟨e1, e2, e3, F0, F1, F2, F4⟩ := HF.out _ W (hrt _) hC
      go_simp
      exact hK _ hC
    go_simp
    refine hK _ ?_
    clear hK K
    refine Fix.fix_plain (v := ?v69) (by kernel_rfl) (fun _ W hk hC K hK => ?h1_69) (fun K hK => ?h2_69)
    case h1_69 =>
      obtain ⟨e1, e2, e3, F0, F1, F2, F4⟩ := HF.out _ W (hrt _) hC
      go_simp
      exact hK _ hC
    go_simp
    refine hK _ ?_
    clear hK K
    refine Fix.fix_plain (v := ?v70) (by kernel_rfl) (fun _ W hk hC K hK => ?h1_70) (fun K hK => ?h2_70)
    case h1_70 =>
      obtain ⟨e1, e2, e3, F0, F1, F2, F4⟩ := HF.out _ W (hrt _) hC
      go_simp
      exact hK _ hC
    go_simp
    refine hK _ ?_
    clear hK K
    refine Fix.fix_plain (v := ?v71) (by kernel_rfl) (fun _ W hk hC K hK => ?h1_71) (fun K hK => ?h2_71)
    case h1_71 =>
      obtain ⟨e1, e2, e3, F0, F1, F2, F4⟩ := HF.out _ W (hrt _) hC
      go_simp
      exact hK _ hC
    go_simp
    refine hK _ ?_
    clear hK K
    refine Fix.fix_plain (v := ?v72) (by kernel_rfl) (fun _ W hk hC K hK => ?h1_72) (fun K hK => ?h2_72)
    case h1_72 =>
      obtain ⟨e1, e2, e3, F0, F1, F2, F4⟩ := HF.out _ W (hrt _) hC
      go_simp
      exact hK _ hC
    go_simp
    refine hK _ ?_
    clear hK K
    refine Fix.fix_plain (v := ?v73) (by kernel_rfl) (fun _ W hk hC K hK => ?h1_73) (fun K hK => ?h2_73)
    case h1_73 =>
      obtain ⟨e1, e2, e3, F0, F1, F2, F4⟩ := HF.out _ W (hrt _) hC
      go_simp
      exact hK _ hC
    go_simp
    refine hK _ ?_
    clear hK K
    refine Fix.fix_plain (v := ?v74) (by kernel_rfl) (fun _ W hk hC K hK => ?h1_74) (fun K hK => ?h2_74)
    case h1_74 =>
      obtain ⟨e1, e2, e3, F0, F1, F2, F4⟩ := HF.out _ W (hrt _) hC
      go_simp
      exact hK _ hC
    go_simp
    refine hK _ ?_
    clear hK K
    refine Fix.fix_plain (v := ?v75) (by kernel_rfl) (fun _ W hk hC K hK => ?h1_75) (fun K hK => ?h2_75)
    case h1_75 =>
      obtain ⟨e1, e2, e3, F0, F1, F2, F4⟩ := HF.out _ W (hrt _) hC
      go_simp
      exact hK _ hC
    go_simp
    refine hK _ ?_
    clear hK K
    refine Fix.fix_plain (v := ?v76) (by kernel_rfl) (fun _ W hk hC K hK => ?h1_76) (fun K hK => ?h2_76)
    case h1_76 =>
      obtain ⟨e1, e2, e3, F0, F1, F2, F4⟩ := HF.out _ W (hrt _) hC
      go_simp
      exact hK _ hC
    go_simp
    refine hK _ ?_
    clear hK K
    refine Fix.fix_plain (v := ?v77) (by kernel_rfl) (fun _ W hk hC K hK => ?h1_77) (fun K hK => ?h2_77)
    case h1_77 =>
      have hl : Fix.lim ops [20, 22] 16 ≤ 1 := by rw [← hops]; exact of_decide_eq_true (by kernel_rfl)
      have hk1 := Nat.le_trans hk hl
      have Ct : W.cell? ⟨B.c, t, none⟩ = some (.int .i64 (c : Int)) := by
        rw [hC.raw.hc.cell (by rw [(hrt _).2.2.2]; exact ht)]
        exact congrArg (fun x => some (Value.int .i64 x)) (hct _ hk1)
      go_simp
      exact hK _ hC
    go_simp
    refine hK _ ?_
    clear hK K
    refine Fix.fix_plain (v := ?v78) (by kernel_rfl) (fun _ W hk hC K hK => ?h1_78) (fun K hK => ?h2_78)
    case h1_78 =>
      obtain ⟨e1, e2, e3, F0, F1, F2, F4⟩ := HF.out _ W (hrt _) hC
      go_simp
      exact hK _ hC
    go_simp
    refine hK _ ?_
    clear hK K
    refine Fix.fix_plain (v := ?v79) (by kernel_rfl) (fun _ W hk hC K hK => ?h1_79) (fun K hK => ?h2_79)
    case h1_79 =>
      obtain ⟨e1, e2, e3, F0, F1, F2, F4⟩ := HF.out _ W (hrt _) hC
      go_simp
      exact hK _ hC
    go_simp
    refine hK _ ?_
    clear hK K
    refine Fix.fix_plain (v := ?v80) (by kernel_rfl) (fun _ W hk hC K hK => ?h1_80) (fun K hK => ?h2_80)
    case h1_80 =>
      obtain ⟨e1, e2, e3, F0, F1, F2, F4⟩ := HF.out _ W (hrt _) hC
      go_simp
      exact hK _ hC
    go_simp
    refine hK _ ?_
    clear hK K
    refine Fix.fix_store (v := ?v81) 0 (by kernel_rfl) (fun W hC K hK => ?h1_81) (fun K hK => ?h2_81)
    case h1_81 =>
      have C1 : W.cell? ⟨B.c, f, none⟩ = some _ := hC.raw.hc.cell (by rw [(hrt 0).2.2.2]; exact hf)
      have Z1 := hC.raw.zc f
      go_simp
      refine hK _ ?_
      clear hK K
      subst hrk; exact hC.setC f 0
    go_simp
    refine hK _ ?_
    clear hK K
    refine Fix.fix_plain (v := ?v82) (by kernel_rfl) (fun _ W hk hC K hK => ?h1_82) (fun K hK => ?h2_82)
    case h1_82 =>
      obtain ⟨e1, e2, e3, F0, F1, F2, F4⟩ := HF.out _ W (hrt _) hC
      go_simp
      exact hK _ hC
    go_simp
    refine hK _ ?_
    clear hK K
    refine Fix.fix_store (v := ?v83) 1 (by kernel_rfl) (fun W hC K hK => ?h1_83) (fun K hK => ?h2_83)
    case h1_83 =>
      have C1 : W.cell? ⟨B.c, t, none⟩ = some _ := hC.raw.hc.cell (by rw [(hrt 1).2.2.2]; exact ht)
      have Z1 := hC.raw.zc t
      go_simp
      refine hK _ ?_
      clear hK K
      subst hrk; exact hC.setC t ((c : Int) + n)
    go_simp
    refine hK _ ?_
    clear hK K
    refine Fix.fix_nil (fun W7 s0 => ?_)
    replace s0 : MSt B W0 D { r with list := l0, next := ((r.next.set la a).set z q).set p p, back := ((r.back.set a la).set q z).set p p, count := (r.count.set f 0).set t ((c : Int) + n) } W7 := by subst hrk; exact s0
    clear hops hrt hct hrk rk ops
    gi_wp2
    refine ⟨by simp, .inl ⟨_, _, rfl, run_takeDeferred s0.d, ?_⟩⟩
    have hpo : Fr (fun k => k = D) W7 (W7.putObj D (.deferred none)) := ⟨rfl, rfl, rfl, by simp, fun k _ hk => World.putObj_heap_other hk⟩
    refine ⟨_, results_tmp2 rfl _ _ _, rfl, ?_, ?_⟩
    · have hR := s0.raw.fr hpo (fun k hk e => by have := s0.lt k hk; have := s0.le; omega)
      unfold Raw.mv
      rw [HP.out, HQ.out, hl0]
      exact hR
    · exact (hSt.fr _).trans (s0.fr.then hpo (fun k hk e => by have := s0.le; omega))
end Go.Proofs.Ytffjaaolcphonaa
/- The links' Move and the law's all, told by lists of things. -/
namespace Go.Proofs.Ytffjaaolcphonaa
open Go.RowKit

def moveLE (L : List (List Nat)) (f t : Int) : Int := if inR f L.length ∧ inR t L.length then (if f = t then 2 else 0) else 8
def moveN (L : List (List Nat)) (f t : Int) : Int := if moveLE L f t = 0 then ((gl L f.toNat).length : Int) else 0
def moveL (L : List (List Nat)) (f t : Int) : List (List Nat) := if moveLE L f t = 0 then (L.set f.toNat []).set t.toNat (gl L t.toNat ++ gl L f.toNat) else L

theorem gl_self (L : List (List Nat)) (i : Nat) (h : i < L.length) : L.set i (gl L i) = L := by
  unfold gl
  apply List.ext_getElem?
  intro j
  by_cases e : i = j
  · subst e; simp [h]
  · simp [e]

theorem move_ls {w : World} {B : LB} {T : Nat} {L : List (List Nat)} (h : LsAt w B T L) (f t : Int) : Calls Try.prog 24 #[.pointer (some ⟨B.p, 0, none⟩), .int .i64 f, .int .i64 t] w fun e w' =>
    e = .returned (.tuple #[.int .i64 (moveN L f t), .int .i64 (moveLE L f t)]) ∧ LsAt w' B T (moveL L f t) ∧ Fr B.foot w w' := by
  obtain ⟨r, hr, hv, rfl⟩ := h
  have he : moveE r f t = moveLE L f t := by unfold moveE moveLE; rw [hv.len]
  by_cases h0 : moveLE L f t = 0
  · have hh : inR f L.length ∧ inR t L.length ∧ f ≠ t := by
      unfold moveLE at h0
      split at h0
      · rename_i h1
        split at h0
        · omega
        · rename_i h2; exact ⟨h1.1, h1.2, h2⟩
      · omega
    obtain ⟨hf, ht, hft⟩ := hh
    obtain ⟨f, rfl⟩ := Int.eq_ofNat_of_zero_le hf.1
    obtain ⟨t, rfl⟩ := Int.eq_ofNat_of_zero_le ht.1
    have hf' : f < L.length := by have := hf.2; omega
    have ht' : t < L.length := by have := ht.2; omega
    have hft' : f ≠ t := by omega
    have hN : moveN L (f : Int) t = ((gl L f).length : Int) := by unfold moveN; rw [if_pos h0, Int.toNat_natCast]
    have hL' : moveL L (f : Int) t = (L.set f []).set t (gl L t ++ gl L f) := by unfold moveL; rw [if_pos h0, Int.toNat_natCast, Int.toNat_natCast]
    rw [hN, hL', h0]
    by_cases hF : gl L f = []
    · refine (move_zero w B r hr f t (hv.len ▸ hf') (he.trans h0) (by rw [hv.cnt f hf', hF]; rfl)).mono ?_
      rintro e w' ⟨rfl, h1⟩
      refine ⟨by rw [hF]; rfl, ⟨r, hr.still h1, ?_, rfl⟩, h1.fr _⟩
      rw [hF, List.append_nil, show L.set f [] = L from by have := gl_self L f hf'; rwa [hF] at this, gl_self L t ht']
      exact hv
    · obtain ⟨a, z, la, k1, k2, k3, k4, k5, k6, k7⟩ := inv_move hv hr.sz hf' ht' hft' hF
      have hlf := hv.le hf'
      have hlt := hv.le ht'
      have hT := hr.t1
      obtain ⟨q0, hq0, hs⟩ := hv.seq hr.sz hf'
      have hqa : q0 = a := by rw [k4] at hq0; omega
      subst hqa
      refine (move_ok w B r hr f t (gl L f) q0 z la (gl L f).length (gl L t).length q0 (hv.len ▸ hf') (hv.len ▸ ht') hft' (hv.cnt f hf') (List.length_pos_iff.2 hF) (by omega) (hv.cnt t ht') (by omega) k4 k5 k6 k1 k2 k3 hs (fun x hx => (hv.yes f x hf' hx).1)).mono ?_
      rintro e w' ⟨rfl, h1, h2⟩
      exact ⟨rfl, ⟨_, h1, k7, rfl⟩, h2⟩
  · refine (move_err w B r hr f t _ he (by simpa using h0)).mono ?_
    rintro e w' ⟨rfl, h1⟩
    refine ⟨by unfold moveN; rw [if_neg h0], ?_, h1.fr _⟩
    unfold moveL
    rw [if_neg h0]
    exact ⟨r, hr.still h1, hv, rfl⟩

theorem all_ls {w : World} {B : LB} {T : Nat} {L : List (List Nat)} (h : LsAt w B T L) (i : Nat) (hi : i < L.length) :
    Calls Try.prog 23 #[.pointer (some ⟨B.p, 0, none⟩), .int .i64 i] w fun e W' => ∃ v, e = .returned (.tuple #[v, .bool true]) ∧ W'.ownsRow w.heap.size 3 1 v (gl L i).length (tv (gl L i)) ∧ Below w.heap.size w W' := by
  obtain ⟨r, hR, hv, hrt⟩ := h
  obtain ⟨q0, hq0, hseq⟩ := hv.seq hR.sz hi
  exact all_law w i B r (gl L i) hR (hv.len ▸ hi) q0 hq0 hseq (by have := hv.le hi; have := hR.t1; omega) (fun x hx => (hv.yes i x hi hx).1)
end Go.Proofs.Ytffjaaolcphonaa
