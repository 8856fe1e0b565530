/- A region that draws its order and ends in a forced tail (stores): the tail is cut off, and the rest may be walked by the held walk. -/
import Derived.Test.YtffjaaolcphonaaDoorMem
import Derived.StillTail
import Derived.Deep.RegionHeld
namespace Go.Proofs.YtffjaaolcphonaaDoor.Held
open Go

section
variable {P : Program} {md : Region.Mode}
/-- The post of the region without its tail. -/
def tailQ (P : Program) (ops : Array Oper) (Q : Exit → Act → World → Prop) (tail : List Oper) : Exit → Act → World → Prop
  | .normal, a, w => wpList P ops Q tail a w
  | e, a, w => Q e a w
theorem tailQ_normal {ops : Array Oper} {Q : Exit → Act → World → Prop} {tail : List Oper} {a : Act} {w : World} (h : wpList P ops Q tail a w) : tailQ P ops Q tail .normal a w := h

theorem upon_tail {o : Oper} {a : Act} {ops : Array Oper} {Q : Exit → Act → World → Prop} {tail : List Oper} {K K' : Act → World → Prop} (hK : ∀ a w, K a w → K' a w) {r : Result Next}
    (h : o.upon P a K (tailQ P ops Q tail) r) : o.upon P a K' Q r := by
  cases r with
  | ok n w' =>
    cases n <;> simp only [Oper.upon] at h ⊢
    case value u => exact hK _ _ h
    case skip => exact hK _ _ h
    case defer d => exact hK _ _ h
    case enter f args =>
      refine Calls.mono h fun e w'' he => ?_
      cases e with
      | returned u => exact hK _ _ he
      | panicked c => exact he
      | outgrown => exact he
    case row row args => exact Rows.mono h fun u w'' he => hK _ _ he
  | halt x w' =>
    cases x <;> simp only [Oper.upon] at h ⊢
    case panic u => exact h

theorem yielded_pre {pre tail : List Oper} {tmps : Array Value} {g : Nat} (h : g < pre.length) : yielded (pre ++ tail).toArray tmps g = yielded pre.toArray tmps g := by
  unfold yielded
  have : (pre ++ tail).toArray[g]? = pre.toArray[g]? := by simp [List.getElem?_append_left h]
  rw [this]
def guardB (n : Nat) (o : Oper) : Bool := match o.guard with
  | none => true
  | some (g, _) => decide (g < n)
theorem wanted_pre {pre tail : List Oper} {tmps : Array Value} {o : Oper} (h : guardB pre.length o = true) : Region.wanted o (yielded (pre ++ tail).toArray tmps) = Region.wanted o (yielded pre.toArray tmps) := by
  unfold guardB at h
  unfold Region.wanted
  cases hg : o.guard with
  | none => rfl
  | some p =>
    obtain ⟨g, b⟩ := p
    rw [hg] at h
    simp only [decide_eq_true_eq] at h
    simp only [yielded_pre h]

theorem wpOp_tail {pre tail : List Oper} {Q : Exit → Act → World → Prop} {K K' : Act → World → Prop} {i : Nat} {a : Act} {w : World} (hi : i < pre.length) (hg : ∀ o, pre[i]? = some o → guardB pre.length o = true)
    (hK : ∀ a w, K a w → K' a w) (h : wpOp P pre.toArray (tailQ P (pre ++ tail).toArray Q tail) i K a w) : wpOp P (pre ++ tail).toArray Q i K' a w := by
  unfold wpOp at h ⊢
  have e : (pre ++ tail).toArray[i]? = pre.toArray[i]? := by simp [List.getElem?_append_left hi]
  rw [e]
  cases ho : pre.toArray[i]? with
  | none => rw [ho] at h; exact hK _ _ h
  | some o =>
    rw [ho] at h
    simp only [] at h ⊢
    rw [wanted_pre (hg o (by simpa using ho))]
    split
    · rename_i hw
      rw [if_pos hw] at h
      rcases h with h | ⟨h1, h2⟩
      · exact .inl (upon_tail hK h)
      · exact .inr ⟨h1, h2⟩
    · rename_i hw
      rw [if_neg hw] at h
      exact hK _ _ h

theorem wpAny_more {ops : Array Oper} {Q : Exit → Act → World → Prop} : ∀ (f : Nat) (listed : Array Bool) (a : Act) (w : World), wpAny P md ops Q f listed a w → wpAny P md ops Q (f + 1) listed a w
  | 0, listed, a, w, h => ⟨fun _ => h.2, fun i hi => by rw [h.1] at hi; cases hi⟩
  | f + 1, listed, a, w, h => ⟨h.1, fun i hi => wpOp_mono (fun a w h => wpAny_more f _ a w h) (h.2 i hi)⟩
theorem wpAny_more' {ops : Array Oper} {Q : Exit → Act → World → Prop} {g : Nat} {listed : Array Bool} {a : Act} {w : World} (h : wpAny P md ops Q g listed a w) : ∀ f, wpAny P md ops Q (f + g) listed a w
  | 0 => by rw [Nat.zero_add]; exact h
  | f + 1 => by rw [show f + 1 + g = (f + g) + 1 by omega]; exact wpAny_more _ _ _ _ (wpAny_more' h f)

/-- All edges lead back. -/
def backB (md : Region.Mode) (ops : Array Oper) : Bool := (List.range ops.size).all fun i => match ops[i]? with
  | some o => o.after.all fun e => !Region.binds md e || decide (e.on < i)
  | none => true
theorem backB_spec {ops : Array Oper} (h : backB md ops = true) {i : Nat} {o : Oper} (ho : ops[i]? = some o) {e : Edge} (he : e ∈ o.after) (hb : Region.binds md e = true) : e.on < i := by
  have hi : i < ops.size := (Array.getElem?_eq_some_iff.1 ho).1
  have := List.all_eq_true.1 h i (List.mem_range.2 hi)
  rw [ho] at this
  have := Array.all_eq_true_iff_forall_mem.1 this e he
  simpa [hb] using this
def doneL (n m : Nat) : Array Bool := (List.replicate n true ++ List.replicate m false).toArray
def tailB (pre tail : List Oper) : Bool :=
  backB .any (pre ++ tail).toArray && pre.all (guardB pre.length) && Region.sinkB .any (pre ++ tail).toArray pre.length && Region.chainB .any (pre ++ tail).toArray pre.length && decide (0 < tail.length) &&
  Region.seqB .any (pre ++ tail).toArray tail.length pre.length (doneL pre.length tail.length)

theorem all_listed {ops : Array Oper} (hb : backB md ops = true) {listed : Array Bool} (hs : listed.size = ops.size) (hr : Region.ready md ops listed = []) : ∀ i, i < ops.size → listed.getD i false = true := by
  intro i
  induction i using Nat.strongRecOn with
  | _ i ih =>
    intro hi
    cases hl : listed.getD i false with
    | true => rfl
    | false =>
      have : i ∈ Region.ready md ops listed := by
        refine mem_ready.2 ⟨getD_in (by omega) hl, ops[i], by simp [hi], fun e he hbe => ?_⟩
        have hlt := backB_spec hb (i := i) (o := ops[i]) (by simp [hi]) he hbe
        exact ih e.on hlt (by omega)
      rw [hr] at this; cases this

theorem wpAny_tail {pre tail : List Oper} {Q : Exit → Act → World → Prop} (hB : tailB pre tail = true) : ∀ (f : Nat) (lp l : Array Bool) (a : Act) (w : World),
    lp.size = pre.length → HeadInv .any (pre ++ tail).toArray pre.length l → (∀ i, i < pre.length → l.getD i false = lp.getD i false) →
    wpAny P .any pre.toArray (tailQ P (pre ++ tail).toArray Q tail) f lp a w → wpAny P .any (pre ++ tail).toArray Q (f + tail.length) l a w := by
  simp only [tailB, Bool.and_eq_true, decide_eq_true_eq] at hB
  obtain ⟨⟨⟨⟨⟨hback, hguard⟩, hsink⟩, hchain⟩, htl⟩, hseq⟩ := hB
  have hn : pre.length < (pre ++ tail).toArray.size := by simp; omega
  have hpre : ∀ i, i < pre.length → (pre ++ tail).toArray[i]? = pre.toArray[i]? := fun i hi => by simp [List.getElem?_append_left hi]
  have hbackp : backB .any pre.toArray = true := by
    refine List.all_eq_true.2 fun i hi => ?_
    have hi' : i < pre.length := by simpa using hi
    have := List.all_eq_true.1 hback i (List.mem_range.2 (by simp; omega))
    rw [hpre i hi'] at this; exact this
  -- ready there and here
  have hready : ∀ (lp l : Array Bool), lp.size = pre.length → HeadInv .any (pre ++ tail).toArray pre.length l → (∀ i, i < pre.length → l.getD i false = lp.getD i false) → ∀ i, i < pre.length →
      (i ∈ Region.ready .any (pre ++ tail).toArray l ↔ i ∈ Region.ready .any pre.toArray lp) := by
    intro lp l hs inv hl i hi
    have hls : l.size = (pre ++ tail).toArray.size := inv.size
    have hli : i < l.size := by rw [hls]; omega
    have e1 : l.getD i true = lp.getD i true := by
      have h1 := hl i hi
      have hlp : i < lp.size := by omega
      simp only [Array.getD, hli, hlp, dif_pos] at h1 ⊢
      exact h1
    rw [mem_ready, mem_ready, e1, hpre i hi]
    refine and_congr_right fun _ => exists_congr fun o => and_congr_right fun ho => ?_
    refine forall_congr' fun e => forall_congr' fun he => forall_congr' fun hb => ?_
    have hlt := backB_spec hbackp ho he hb
    rw [hl e.on (by omega)]
  have hend : ∀ (lp l : Array Bool) (a : Act) (w : World), lp.size = pre.length → HeadInv .any (pre ++ tail).toArray pre.length l → (∀ i, i < pre.length → l.getD i false = lp.getD i false) →
      Region.ready .any pre.toArray lp = [] → tailQ P (pre ++ tail).toArray Q tail .normal a w → wpAny P .any (pre ++ tail).toArray Q tail.length l a w := by
    intro lp l a w hs inv hl hr hq
    have hall := all_listed hbackp (listed := lp) (by simpa using hs) hr
    have hl' : l = doneL pre.length tail.length := by
      apply Array.ext
      · rw [inv.size]; simp [doneL]
      · intro i h1 h2
        by_cases hi : i < pre.length
        · have := hl i hi
          rw [hall i (by simpa using hi)] at this
          simp only [Array.getD, h1, dif_pos] at this
          simp only [doneL, List.getElem_toArray]
          rw [List.getElem_append_left (by simpa using hi)]
          simpa using this
        · have := inv.tail i (by omega) (by rw [← inv.size]; exact h1)
          simp only [Array.getD, h1, dif_pos] at this
          simp only [doneL, List.getElem_toArray]
          rw [List.getElem_append_right (by simpa using hi)]
          simpa using this
    subst hl'
    exact wpAny_of_seq tail pre.length _ a w (fun j => by simp [List.getElem?_append_right]) hseq hq
  intro f
  induction f with
  | zero =>
    intro lp l a w hs inv hl h
    rw [Nat.zero_add]
    exact hend lp l a w hs inv hl h.1 h.2
  | succ f ih =>
    intro lp l a w hs inv hl h
    by_cases hr : Region.ready .any pre.toArray lp = []
    · exact wpAny_more' (hend lp l a w hs inv hl hr (h.1 hr)) _
    · obtain ⟨i0, hi0⟩ := List.exists_mem_of_ne_nil _ hr
      have hi0n : i0 < pre.length := by
        obtain ⟨_, o, ho, _⟩ := mem_ready.1 hi0
        have := (Array.getElem?_eq_some_iff.1 ho).1; simpa using this
      rw [show f + 1 + tail.length = (f + tail.length) + 1 by omega]
      refine ⟨fun h0 => ?_, fun i hi => ?_⟩
      · have := (hready lp l hs inv hl i0 hi0n).2 hi0
        rw [h0] at this; cases this
      · have hin : i < pre.length := by
          rcases Nat.lt_or_ge i pre.length with h1 | h1
          · exact h1
          · exact absurd hi (tail_waits hsink hchain hn inv _ i0 rfl hi0n (by
              have := (mem_ready.1 ((hready lp l hs inv hl i0 hi0n).2 hi0)).1; exact this) i h1)
        have hi' := (hready lp l hs inv hl i hin).1 hi
        refine wpOp_tail hin (fun o ho => ?_) (fun a' w' h' => ?_) (h.2 i hi')
        · exact List.all_eq_true.1 hguard o (List.mem_of_getElem? ho)
        · refine ih (lp.setIfInBounds i true) (l.setIfInBounds i true) a' w' (by simpa using hs) (inv.set hi hin) (fun j hj => ?_) h'
          by_cases e : i = j
          · subst e
            have h1 : i < l.size := by rw [inv.size]; omega
            have h2 : i < lp.size := by omega
            simp [Array.getD, h1, h2]
          · rw [getD_set_ne false e, getD_set_ne false e]; exact hl j hj

/-- THE REGION WITHOUT ITS TAIL, BY THE HELD WALK. -/
theorem wp_region_held_tail {id : Nat} {Q : Exit → Act → World → Prop} {a : Act} {w : World} {S : World → Prop} {l : List Oper} (n : Nat) (hm : P.follows .mixedOrders = true) (hB : tailB (l.take n) (l.drop n) = true) (hn : n ≤ l.length)
    (hS : S w.drew) (h : S w.drew → wpAnyH P .any (l.take n).toArray (tailQ P l.toArray Q (l.drop n)) S n (Array.replicate n false) a w.drew) : (Code.region id l.toArray true).wp P Q a w := by
  have hl : l.take n ++ l.drop n = l := List.take_append_drop n l
  have hlen : (l.take n).length = n := by simp [hn]
  refine wp_region_any hm ?_
  have h0 := wpAny_of_held _ _ _ _ (h hS)
  have inv0 : HeadInv .any (l.take n ++ l.drop n).toArray (l.take n).length (Array.replicate l.length false) :=
    ⟨by simp, fun j oj _ hl => (by rw [getD_replicate_false] at hl; cases hl), fun t _ ht => getD_in (by simpa using ht) (getD_replicate_false _ _)⟩
  have := wpAny_tail (P := P) (Q := Q) hB n (Array.replicate n false) (Array.replicate l.length false) a w.drew (by simp [hn]) inv0 (fun i _ => by rw [getD_replicate_false, getD_replicate_false]) (by rw [hl]; exact h0)
  rw [hl] at this
  have e : n + (l.drop n).length = l.toArray.size := by simp; omega
  rw [e] at this
  exact this
end
end Go.Proofs.YtffjaaolcphonaaDoor.Held
