/- The locks' ask, with what it is asked. -/
import Derived.Test.YtffjaaolcphonaaLock2
import Derived.Test.YtffjaaolcphonaaLinksL
namespace Go.Proofs.Ytffjaaolcphonaa
open Go.RowKit

def askE : List (Bool × Int) → Int
  | [] => 0
  | (false, e) :: _ => e
  | (true, _) :: rest => askE rest
theorem askE_skip (res : List (Bool × Int)) (k : Nat) (h : ∀ i, i < k → (res.getD i (true, 0)).1 = true) : askE res = askE (res.drop k) := by
  induction k generalizing res with
  | zero => rfl
  | succ k ih =>
    match res with
    | [] => simp
    | (b, e) :: rest =>
      have h0 := h 0 (by omega)
      simp at h0; subst h0
      simp only [askE, List.drop_succ_cons]
      exact ih rest fun i hi => by simpa using h (i + 1) (by omega)
set_option maxRecDepth 100000 in
set_option maxHeartbeats 400000 in
theorem ask_any (w : World) (K : KB) (s : LS) (h : LkAt w K s) (bs : Nat) (T : TypeId) (fs : List (Nat × Array Value)) (res : List (Bool × Int))
    (hb : Blk w bs (fs.map fun f => .func (.func f.1) #[] f.2) T) (hr : res.length = fs.length) (hn : fs.length ≤ 8)
    (he : ∀ j, j < fs.length → ∀ args w, (callFunc (fs.getD j (0, #[])).1 args).run Try.prog w = .ok (.enter (fs.getD j (0, #[])).1 args) w)
    (hf : ∀ j, j < fs.length → (∀ i, i < j → (res.getD i (true, 0)).1 = true) → ∀ w1, Still w w1 → Calls Try.prog (fs.getD j (0, #[])).1 (fs.getD j (0, #[])).2 w1 (Two (res.getD j (true, 0)).1 (res.getD j (true, 0)).2 w1)) :
    Calls Try.prog 107 #[.pointer (some ⟨K.P, 0, none⟩), .slice (some ⟨bs, 0, none⟩) fs.length fs.length] w fun e w' => e = .returned (.int .i64 (askE res)) ∧ Still w w' := by
  have HF := hid hf
  have HE := hid he
  have HR := hid hr
  clear hf hr he
  obtain ⟨n, hn'⟩ : ∃ n, n = fs.length := ⟨_, rfl⟩
  rw [← hn']
  rw [← hn'] at hn
  have HN := hid hn'
  clear hn'
  go_enter Try.func107, Try.ntmps107
  go_wp2_with (go_at_call 130; refine (lkmade h).mono ?_; rintro e w' ⟨rfl, rfl⟩)
  go_loopw [14] (fun i wr => ∃ k : Nat, i = .int .i64 k ∧ k ≤ n ∧ (∀ i, i < k → (res.getD i (true, 0)).1 = true) ∧ Still w wr) (fun i _ => n - (intOf i).toNat)
  case atStart => exact ⟨0, rfl, Nat.zero_le _, fun _ h => absurd h (Nat.not_lt_zero _), Still.refl _⟩
  case round =>
    obtain ⟨k, rfl, hk, hres, hst⟩ := hrel
    have HRES := hid hres
    clear hres
    by_cases hlt : k < n
    · have hlt' : (k : Int) < (n : Int) := by omega
      have C : wr.cell? ⟨bs, k, none⟩ = some (.func (.func (fs.getD k (0, #[])).1) #[] (fs.getD k (0, #[])).2) := by
        rw [Blk.cell (hb.still hst)]; have := HN.out; simp [show k < fs.length by omega]
      obtain ⟨fn, hfn⟩ : ∃ fn, fn = fs.getD k (0, #[]) := ⟨_, rfl⟩
      have HC := HF.out k (by have := HN.out; omega) HRES.out wr hst
      have EN := HE.out k (by have := HN.out; omega)
      rw [← hfn] at C HC EN
      clear hfn
      obtain ⟨f1, f2⟩ := fn
      obtain ⟨re, hre⟩ : ∃ re, re = res.getD k (true, 0) := ⟨_, rfl⟩
      rw [← hre] at HC
      have HRE := hid hre
      clear hre
      have HC' := hid HC
      clear HC
      obtain ⟨b, ev⟩ := re
      go_wp2_with fail
      refine (HC'.out).mono ?_
      rintro e w2 ⟨rfl, hst2⟩
      cases b with
      | false =>
        go_wp2_with fail
        go_ret
        refine ⟨?_, hst.trans hst2⟩
        have e1 : askE res = ev := by
          rw [askE_skip res k HRES.out, List.drop_eq_getElem_cons (by have := HN.out; have := HR.out; omega)]
          have e2 : res[k]'(by have := HN.out; have := HR.out; omega) = (false, ev) := by rw [HRE.out]; simp [List.getD, show k < res.length by have := HN.out; have := HR.out; omega]
          rw [e2]; rfl
        rw [e1]; rfl
      | true =>
        go_wp2_with fail
        go_roundw
        case rel => exact ⟨k + 1, by go_num, by omega, fun i hi => by rcases Nat.lt_succ_iff_lt_or_eq.1 hi with hi | rfl; exact HRES.out i hi; rw [← HRE.out], hst.trans hst2⟩
        case measure => simp [intOf]; omega
    · go_wp2_with fail
      go_ret
      refine ⟨?_, hst⟩
      rw [askE_skip res k HRES.out, List.drop_eq_nil_of_le (by have := HN.out; have := HR.out; omega)]
      rfl

/-- Blocks made one behind the other. -/
def allocs (w : World) (l : List Obj) : World := l.foldl World.alloc w
theorem allocs_heap (l : List Obj) : ∀ w : World, (allocs w l).heap = w.heap ++ l.toArray := by
  induction l with
  | nil => intro w; simp [allocs]
  | cons o l ih =>
    intro w
    show (allocs (w.alloc o) l).heap = _
    rw [ih]
    show w.heap.push o ++ l.toArray = _
    apply Array.ext'
    simp
theorem allocs_at (w : World) (l : List Obj) {k : Nat} {o : Obj} (h : l[k]? = some o) : (allocs w l).heap[w.heap.size + k]? = some o := by
  rw [allocs_heap, Array.getElem?_append_right (by omega)]; simpa using h
theorem allocs_still (l : List Obj) : ∀ w : World, Still w (allocs w l) := by
  induction l with
  | nil => intro w; exact Fr.refl _ _
  | cons o l ih => intro w; exact ((Fr.refl _ w).alloc o).trans (ih (w.alloc o))
/-- What is made for three steps. -/
def ask3L (z P : Nat) (xs : List Int) (o t : Int) (b : Bool) (e0 : Int) : List Obj :=
  [.cells (ints xs).toArray 3, .cells #[.pointer (some ⟨P, 0, none⟩)] 80, .cells #[.slice (some ⟨z, 0, none⟩) xs.length xs.length] 28, .cells #[.pointer (some ⟨P, 0, none⟩)] 80, .cells #[.int .i64 t] 3,
   .cells #[.pointer (some ⟨P, 0, none⟩)] 80, .cells #[.int .i64 o] 3, .cells #[.int .i64 t] 3, .cells #[.bool b] 4, .cells #[.int .i64 e0] 26,
   .cells #[.func (.func 138) #[] #[.pointer (some ⟨z + 1, 0, none⟩), .pointer (some ⟨z + 2, 0, none⟩)], .func (.func 141) #[] #[.pointer (some ⟨z + 4, 0, none⟩), .pointer (some ⟨z + 3, 0, none⟩)],
      .func (.func 142) #[] #[.pointer (some ⟨z + 5, 0, none⟩), .pointer (some ⟨z + 6, 0, none⟩), .pointer (some ⟨z + 7, 0, none⟩), .pointer (some ⟨z + 8, 0, none⟩), .pointer (some ⟨z + 9, 0, none⟩)]] 123]
def ask1L (z P : Nat) (xs : List Int) : List Obj :=
  [.cells (ints xs).toArray 3, .cells #[.pointer (some ⟨P, 0, none⟩)] 80, .cells #[.slice (some ⟨z, 0, none⟩) xs.length xs.length] 28, .cells #[.func (.func 138) #[] #[.pointer (some ⟨z + 1, 0, none⟩), .pointer (some ⟨z + 2, 0, none⟩)]] 123]
theorem ask3 {w : World} {K : KB} {s : LS} (h : LkAt w K s) (xs : List Int) (o t : Int) (b : Bool) (e0 : Int) (hx : xs.length ≤ 8) (h0 : 0 < xs.length) (hox : o ∈ xs) :
    Calls Try.prog 107 #[.pointer (some ⟨K.P, 0, none⟩), .slice (some ⟨w.heap.size + 10, 0, none⟩) 3 3] (allocs w (ask3L w.heap.size K.P xs o t b e0)) fun e w' =>
      e = .returned (.int .i64 (askE [(allR xs s.n, 8), idleR s t, ((s.ow.getD o.toNat 0 == t) == b, e0)])) ∧ Still w w' := by
  have hs := allocs_still (ask3L w.heap.size K.P xs o t b e0) w
  have at_ := fun k o' (h : (ask3L w.heap.size K.P xs o t b e0)[k]? = some o') => allocs_at w (ask3L w.heap.size K.P xs o t b e0) h
  have x0 : Blk (allocs w (ask3L w.heap.size K.P xs o t b e0)) (w.heap.size + 0) (xs.map (Value.int .i64)) 3 := at_ 0 _ rfl
  have x1 : Box (allocs w (ask3L w.heap.size K.P xs o t b e0)) (w.heap.size + 1) (.pointer (some ⟨K.P, 0, none⟩)) 80 := at_ 1 _ rfl
  have x2 : Box (allocs w (ask3L w.heap.size K.P xs o t b e0)) (w.heap.size + 2) (.slice (some ⟨w.heap.size, 0, none⟩) xs.length xs.length) 28 := at_ 2 _ rfl
  have x3 : Box (allocs w (ask3L w.heap.size K.P xs o t b e0)) (w.heap.size + 3) (.pointer (some ⟨K.P, 0, none⟩)) 80 := at_ 3 _ rfl
  have x4 : Box (allocs w (ask3L w.heap.size K.P xs o t b e0)) (w.heap.size + 4) (.int .i64 t) 3 := at_ 4 _ rfl
  have x5 : Box (allocs w (ask3L w.heap.size K.P xs o t b e0)) (w.heap.size + 5) (.pointer (some ⟨K.P, 0, none⟩)) 80 := at_ 5 _ rfl
  have x6 : Box (allocs w (ask3L w.heap.size K.P xs o t b e0)) (w.heap.size + 6) (.int .i64 o) 3 := at_ 6 _ rfl
  have x7 : Box (allocs w (ask3L w.heap.size K.P xs o t b e0)) (w.heap.size + 7) (.int .i64 t) 3 := at_ 7 _ rfl
  have x8 : Box (allocs w (ask3L w.heap.size K.P xs o t b e0)) (w.heap.size + 8) (.bool b) 4 := at_ 8 _ rfl
  have x9 : Box (allocs w (ask3L w.heap.size K.P xs o t b e0)) (w.heap.size + 9) (.int .i64 e0) 26 := at_ 9 _ rfl
  have x10 : Blk (allocs w (ask3L w.heap.size K.P xs o t b e0)) (w.heap.size + 10) ([(138, #[.pointer (some ⟨w.heap.size + 1, 0, none⟩), .pointer (some ⟨w.heap.size + 2, 0, none⟩)]), (141, #[.pointer (some ⟨w.heap.size + 4, 0, none⟩), .pointer (some ⟨w.heap.size + 3, 0, none⟩)]),
      (142, #[.pointer (some ⟨w.heap.size + 5, 0, none⟩), .pointer (some ⟨w.heap.size + 6, 0, none⟩), .pointer (some ⟨w.heap.size + 7, 0, none⟩), .pointer (some ⟨w.heap.size + 8, 0, none⟩), .pointer (some ⟨w.heap.size + 9, 0, none⟩)])].map fun f : Nat × Array Value => .func (.func f.1) #[] f.2) 123 := at_ 10 _ rfl
  clear at_
  generalize allocs w (ask3L w.heap.size K.P xs o t b e0) = W at *
  generalize w.heap.size = z at *
  have hW := h.still hs
  refine (ask_any W K s hW (z + 10) 123 [(138, _), (141, _), (142, _)] [(allR xs s.n, 8), idleR s t, ((s.ow.getD o.toNat 0 == t) == b, e0)] x10 rfl (by simp) (fun j hj args w => ?_) (fun j hj hr w1 hs1 => ?_)).mono fun e w' ⟨h1, h2⟩ => ⟨h1, hs.trans h2⟩
  · match j, hj with
    | 0, _ => exact (show _ = _ by kernel_rfl)
    | 1, _ => exact (show _ = _ by kernel_rfl)
    | 2, _ => exact (show _ = _ by kernel_rfl)
  · match j, hj with
    | 0, _ => exact are_tells (hW.still hs1) _ _ _ xs (IRow.still (IRow.of_blk x0 h0) hs1) hx (x1.still hs1) (x2.still hs1)
    | 1, _ => exact idle_tells (hW.still hs1) _ _ t (x3.still hs1) (x4.still hs1)
    | 2, _ =>
      have h1 : allR xs s.n = true := hr 0 (by omega)
      have h2 : inR o s.n := by simpa using List.all_eq_true.1 h1 o hox
      obtain ⟨o', rfl⟩ := Int.eq_ofNat_of_zero_le h2.1
      exact owns_tells (hW.still hs1) _ _ _ _ _ o' t b e0 (by have := h2.2; omega) (x5.still hs1) (x6.still hs1) (x7.still hs1) (x8.still hs1) (x9.still hs1)
theorem ask1 {w : World} {K : KB} {s : LS} (h : LkAt w K s) (xs : List Int) (hx : xs.length ≤ 8) (h0 : 0 < xs.length) :
    Calls Try.prog 107 #[.pointer (some ⟨K.P, 0, none⟩), .slice (some ⟨w.heap.size + 3, 0, none⟩) 1 1] (allocs w (ask1L w.heap.size K.P xs)) fun e w' =>
      e = .returned (.int .i64 (if allR xs s.n then 0 else 8)) ∧ Still w w' := by
  have hs := allocs_still (ask1L w.heap.size K.P xs) w
  have at_ := fun k o' (h : (ask1L w.heap.size K.P xs)[k]? = some o') => allocs_at w (ask1L w.heap.size K.P xs) h
  have x0 : Blk (allocs w (ask1L w.heap.size K.P xs)) (w.heap.size + 0) (xs.map (Value.int .i64)) 3 := at_ 0 _ rfl
  have x1 : Box (allocs w (ask1L w.heap.size K.P xs)) (w.heap.size + 1) (.pointer (some ⟨K.P, 0, none⟩)) 80 := at_ 1 _ rfl
  have x2 : Box (allocs w (ask1L w.heap.size K.P xs)) (w.heap.size + 2) (.slice (some ⟨w.heap.size, 0, none⟩) xs.length xs.length) 28 := at_ 2 _ rfl
  have x3 : Blk (allocs w (ask1L w.heap.size K.P xs)) (w.heap.size + 3) ([(138, #[.pointer (some ⟨w.heap.size + 1, 0, none⟩), .pointer (some ⟨w.heap.size + 2, 0, none⟩)])].map fun f : Nat × Array Value => .func (.func f.1) #[] f.2) 123 := at_ 3 _ rfl
  clear at_
  generalize allocs w (ask1L w.heap.size K.P xs) = W at *
  generalize w.heap.size = z at *
  have hW := h.still hs
  refine (ask_any W K s hW (z + 3) 123 [(138, _)] [(allR xs s.n, 8)] x3 rfl (by simp) (fun j hj args w => ?_) (fun j hj hr w1 hs1 => ?_)).mono fun e w' ⟨h1, h2⟩ => ⟨?_, hs.trans h2⟩
  · match j, hj with
    | 0, _ => exact (show _ = _ by kernel_rfl)
  · match j, hj with
    | 0, _ => exact are_tells (hW.still hs1) _ _ _ xs (IRow.still (IRow.of_blk x0 h0) hs1) hx (x1.still hs1) (x2.still hs1)
  · rw [h1]; cases allR xs s.n <;> rfl
end Go.Proofs.Ytffjaaolcphonaa
