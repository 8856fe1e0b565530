/- The links' Move. -/
import Derived.Test.YtffjaaolcphonaaBdC
namespace Go.Proofs.Ytffjaaolcphonaa
open Go.RowKit Go.Shelf
attribute [local go_sem] Oper.semAt_some

def moveE (r : Raw) (f t : Int) : Int := if inR f r.count.length ∧ inR t r.count.length then (if f = t then 2 else 0) else 8

theorem move_first (w : World) (B : LB) (r : Raw) (h : RawAt w B r) (f t : Int) (b1 b2 b3 bs : Nat) (T : TypeId) (g1 : Box w b1 (.pointer (some ⟨B.p, 0, none⟩)) 23) (g2 : Box w b2 (.int .i64 f) 3) (g3 : Box w b3 (.int .i64 t) 3)
    (g4 : Blk w bs [.func (.func 80) #[] #[.pointer (some ⟨b1, 0, none⟩), .pointer (some ⟨b2, 0, none⟩), .pointer (some ⟨b3, 0, none⟩)], .func (.func 82) #[] #[.pointer (some ⟨b2, 0, none⟩), .pointer (some ⟨b3, 0, none⟩)]] T) :
    Calls Try.prog 79 #[.pointer (some ⟨B.p, 0, none⟩), .slice (some ⟨bs, 0, none⟩) 2 2] w fun e w' => e = .returned (.int .i64 (moveE r f t)) ∧ Still w w' := by
  refine first_two w B r h bs T 80 82 _ _ (decide (¬ inR f r.count.length ∨ ¬ inR t r.count.length)) (f == t) 8 2 (moveE r f t) ?_ g4 (enters_of Try.func80 (by kernel_rfl) rfl) (enters_of Try.func82 (by kernel_rfl) rfl) ?_ ?_
  · unfold moveE
    by_cases h1 : inR f r.count.length <;> by_cases h2 : inR t r.count.length <;> by_cases h3 : f = t <;> simp_all
  · intro w1 hs
    exact move1 w1 B r (h.still hs) _ _ _ f t (g1.still hs) (g2.still hs) (g3.still hs)
  · intro _ w1 hs
    exact move2 w1 _ _ f t (g2.still hs) (g3.still hs)

theorem move_err (w : World) (B : LB) (r : Raw) (h : RawAt w B r) (f t : Int) (v : Int) (hv : moveE r f t = v) (h0 : (v != 0) = true) :
    Calls Try.prog 24 #[.pointer (some ⟨B.p, 0, none⟩), .int .i64 f, .int .i64 t] w fun e w' => e = .returned (.tuple #[.int .i64 0, .int .i64 v]) ∧ Still w w' := by
  have HV := hid hv
  clear hv
  go_enter Try.func24, Try.ntmps24
  go_wp2_with fail
  refine calls_abs (fun W => Still w W ∧ Box W w.heap.size (.pointer (some ⟨B.p, 0, none⟩)) 23 ∧ Box W (w.heap.size + 1) (.int .i64 f) 3 ∧ Box W (w.heap.size + 1 + 1) (.int .i64 t) 3 ∧ Blk W (w.heap.size + 1 + 1 + 1) [_, _] 123) (lay4 w _ _ _ _ _ _ _ _ _) ?_
  rintro W ⟨hS, g1, g2, g3, g4⟩
  refine (move_first W B r (h.still hS) f t _ _ _ _ _ g1 g2 g3 g4).mono ?_
  rw [HV.out]
  rintro e w' ⟨rfl, hs⟩
  have c1 := (g1.still hs).c
  have c2 := (g2.still hs).c
  have F4 := ((h.still hS).still hs).f4
  go_wp2_with fail
  go_quiet (fail)
  go_wp2
  go_ret2
  exact ⟨rfl, (hS.trans hs).trans ((Fr.refl _ _).drewN _)⟩

theorem move_zero (w : World) (B : LB) (r : Raw) (h : RawAt w B r) (f t : Nat) (hf : f < r.count.length) (hv : moveE r f t = 0) (hc : r.count.getD f 0 = 0) :
    Calls Try.prog 24 #[.pointer (some ⟨B.p, 0, none⟩), .int .i64 f, .int .i64 t] w fun e w' => e = .returned (.tuple #[.int .i64 0, .int .i64 0]) ∧ Still w w' := by
  have HV := hid hv
  have HC := hid hc
  have hf' : (f : Int) < (r.count.length : Int) := by omega
  clear hv hc
  go_enter Try.func24, Try.ntmps24
  go_wp2_with fail
  refine calls_abs (fun W => Still w W ∧ Box W w.heap.size (.pointer (some ⟨B.p, 0, none⟩)) 23 ∧ Box W (w.heap.size + 1) (.int .i64 f) 3 ∧ Box W (w.heap.size + 1 + 1) (.int .i64 t) 3 ∧ Blk W (w.heap.size + 1 + 1 + 1) [_, _] 123) (lay4 w _ _ _ _ _ _ _ _ _) ?_
  rintro W ⟨hS, g1, g2, g3, g4⟩
  refine (move_first W B r (h.still hS) f t _ _ _ _ _ g1 g2 g3 g4).mono ?_
  rw [HV.out]
  rintro e w' ⟨rfl, hs⟩
  have c1 := (g1.still hs).c
  have c2 := (g2.still hs).c
  have h1 := ((h.still hS).still hs)
  have F4 := h1.f4
  have C : w'.cell? ⟨B.c, f, none⟩ = some (.int .i64 0) := by rw [h1.hc.cell hf, HC.out]
  go_wp2_with fail
  go_quiet (fail)
  go_wp2
  go_ret2
  exact ⟨rfl, (hS.trans hs).trans ((Fr.refl _ _).drewN _)⟩
end Go.Proofs.Ytffjaaolcphonaa
/- Lists that are linked in two tables of numbers: plain facts. -/
namespace Lk
/-- Each one's next is its follower, whose back it is. -/
def Lk (nx bk : List Int) : List Nat → Prop
  | a :: b :: l => nx.getD a 0 = ((b : Nat) : Int) ∧ bk.getD b 0 = ((a : Nat) : Int) ∧ Lk nx bk (b :: l)
  | _ => True
theorem getD_set (l : List Int) (i j : Nat) (v : Int) (h : i < l.length) : (l.set i v).getD j 0 = if i = j then v else l.getD j 0 := by
  by_cases e : i = j
  · subst e; simp [h]
  · simp [e]
theorem Lk.append {nx bk : List Int} : ∀ {xs : List Nat} {a : Nat} {ys : List Nat}, Lk nx bk (xs ++ a :: ys) ↔ Lk nx bk (xs ++ [a]) ∧ Lk nx bk (a :: ys)
  | [], a, ys => by simp [Lk]
  | [x], a, ys => by simp [Lk, and_assoc]
  | x :: y :: xs, a, ys => by
    have := @Lk.append nx bk (y :: xs) a ys
    simp only [List.cons_append, Lk] at this ⊢
    rw [this]
    constructor
    · rintro ⟨h1, h2, h3, h4⟩; exact ⟨⟨h1, h2, h3⟩, h4⟩
    · rintro ⟨⟨h1, h2, h3⟩, h4⟩; exact ⟨h1, h2, h3, h4⟩
theorem Lk.congr {nx bk nx' bk' : List Int} : ∀ {l : List Nat}, (∀ a ∈ l.dropLast, nx'.getD a 0 = nx.getD a 0) → (∀ a ∈ l.tail, bk'.getD a 0 = bk.getD a 0) → Lk nx bk l → Lk nx' bk' l
  | [], _, _, _ => trivial
  | [_], _, _, _ => trivial
  | a :: b :: l, h1, h2, ⟨h3, h4, h5⟩ => by
    refine ⟨by rw [h1 a (by simp), h3], by rw [h2 b (by simp), h4], Lk.congr (fun c hc => h1 c ?_) (fun c hc => h2 c ?_) h5⟩
    · rw [List.dropLast_cons_of_ne_nil (by simp)]; exact List.mem_cons_of_mem _ hc
    · simp only [List.tail_cons] at hc ⊢; exact List.mem_cons_of_mem _ hc
/-- Where a link stands. -/
theorem Lk.at {nx bk : List Int} {xs : List Nat} {a b : Nat} {ys : List Nat} (h : Lk nx bk (xs ++ a :: b :: ys)) : nx.getD a 0 = (b : Int) ∧ bk.getD b 0 = (a : Int) := by
  have := (Lk.append.1 h).2
  exact ⟨this.1, this.2.1⟩
theorem Lk.left {nx bk : List Int} {xs : List Nat} {a : Nat} {ys : List Nat} (h : Lk nx bk (xs ++ a :: ys)) : Lk nx bk (xs ++ [a]) := (Lk.append.1 h).1
theorem Lk.right {nx bk : List Int} {xs : List Nat} {a : Nat} {ys : List Nat} (h : Lk nx bk (xs ++ a :: ys)) : Lk nx bk (a :: ys) := (Lk.append.1 h).2

/-- A thing goes in between p and s. -/
theorem Lk.insert {nx bk : List Int} {xs ys : List Nat} {p t s : Nat} (hl : nx.length = bk.length) (h : Lk nx bk (xs ++ p :: s :: ys)) (hp : p < nx.length) (ht : t < nx.length) (hs : s < nx.length)
    (h1 : p ∉ xs) (h2 : t ∉ xs) (h3 : t ≠ p) (h4 : t ≠ s) (h5 : t ∉ ys) (h6 : s ∉ ys) (h7 : ∀ q r, xs = q :: r → s ∉ r ∧ (p ≠ s ∨ True)) (h8 : xs = [] ∨ s ≠ p) (h9 : ∀ q r, ys = r ++ [q] → p ∉ r) (h10 : ys = [] ∨ p ≠ s) :
    Lk ((nx.set p t).set t s) ((bk.set t p).set s t) (xs ++ p :: t :: s :: ys) := by
  have hb := hl ▸ hp; have hb2 := hl ▸ ht; have hb3 := hl ▸ hs
  have a1 : Lk ((nx.set p t).set t s) ((bk.set t p).set s t) (xs ++ [p]) := by
    refine Lk.congr (fun a ha => ?_) (fun a ha => ?_) h.left
    · rw [List.dropLast_concat] at ha
      rw [getD_set _ _ _ _ (by simpa using ht), getD_set _ _ _ _ hp, if_neg (by rintro rfl; exact h2 ha), if_neg (by rintro rfl; exact h1 ha)]
    · have : a ≠ s ∧ a ≠ t := by
        cases xs with
        | nil => simp at ha
        | cons q r =>
          have hh := h7 q r rfl
          simp only [List.cons_append, List.tail_cons, List.mem_append, List.mem_singleton] at ha
          rcases ha with ha | rfl
          · exact ⟨fun e => hh.1 (e ▸ ha), fun e => h2 (e ▸ List.mem_cons_of_mem _ ha)⟩
          · exact ⟨fun e => (h8.resolve_left (by simp)) e.symm, fun e => h3 e.symm⟩
      rw [getD_set _ _ _ _ (by simpa using hb3), getD_set _ _ _ _ hb2, if_neg (Ne.symm this.1), if_neg (Ne.symm this.2)]
  have a2 : Lk ((nx.set p t).set t s) ((bk.set t p).set s t) (s :: ys) := by
    refine Lk.congr (fun a ha => ?_) (fun a ha => ?_) (Lk.right (xs := xs ++ [p]) (by simpa using h))
    · have : a ≠ p ∧ a ≠ t := by
        rcases List.eq_nil_or_concat ys with rfl | ⟨r, q, rfl⟩
        · simp at ha
        · rw [List.concat_eq_append] at *
          rw [show s :: (r ++ [q]) = (s :: r) ++ [q] by simp, List.dropLast_concat] at ha
          rcases List.mem_cons.1 ha with rfl | ha
          · exact ⟨fun e => (h10.resolve_left (by simp)) e.symm, fun e => h4 e.symm⟩
          · exact ⟨fun e => h9 q r rfl (e ▸ ha), fun e => h5 (e ▸ by simp [ha])⟩
      rw [getD_set _ _ _ _ (by simpa using ht), getD_set _ _ _ _ hp, if_neg (Ne.symm this.2), if_neg (Ne.symm this.1)]
    · simp only [List.tail_cons] at ha
      rw [getD_set _ _ _ _ (by simpa using hb3), getD_set _ _ _ _ hb2, if_neg (by rintro rfl; exact h6 ha), if_neg (by rintro rfl; exact h5 ha)]
  refine Lk.append.2 ⟨a1, ?_, ?_, ?_, ?_, a2⟩
  · rw [getD_set _ _ _ _ (by simpa using ht), getD_set _ _ _ _ hp, if_neg h3, if_pos rfl]
  · rw [getD_set _ _ _ _ (by simpa using hb3), getD_set _ _ _ _ hb2, if_neg (Ne.symm h4), if_pos rfl]
  · rw [getD_set _ _ _ _ (by simpa using ht), if_pos rfl]
  · rw [getD_set _ _ _ _ (by simpa using hb3), if_pos rfl]

/-- A round list, from its end back to it. -/
def cyc (E : Nat) (l : List Nat) : List Nat := E :: l ++ [E]
theorem Lk.other {nx bk : List Int} {l : List Nat} (h : Lk nx bk l) {p q : Nat} {v u : Int} (hp : p ∉ l) (hq : q ∉ l) : Lk (nx.set p v) (bk.set q u) l := by
  refine Lk.congr (fun a ha => ?_) (fun a ha => ?_) h
  · have : p ≠ a := by rintro rfl; exact hp (List.dropLast_subset l ha)
    simp [this]
  · have : q ≠ a := by rintro rfl; exact hq (List.mem_of_mem_tail ha)
    simp [this]

theorem cyc_push {nx bk : List Int} {E t p : Nat} {l : List Nat} (hl : nx.length = bk.length) (h : Lk nx bk (cyc E l)) (hn : (E :: l).Nodup) (ht : t ∉ E :: l) (hp : (E :: l).getLast (by simp) = p) (h1 : ∀ x ∈ E :: l, x < nx.length) (h2 : t < nx.length) :
    Lk ((nx.set p t).set t E) ((bk.set t p).set E t) (cyc E (l ++ [t])) := by
  simp only [List.mem_cons, not_or] at ht
  rcases List.eq_nil_or_concat l with rfl | ⟨r, q, rfl⟩
  · simp at hp; subst hp
    have := Lk.insert (xs := []) (p := E) (s := E) (ys := []) (t := t) hl h (h1 E (by simp)) h2 (h1 E (by simp)) (by simp) (by simp) ht.1 ht.1 (by simp) (by simp) (by simp) (by simp) (by simp) (by simp)
    exact this
  · rw [List.concat_eq_append] at *
    have hpq : p = q := by rw [← hp, List.getLast_cons (by simp), List.getLast_concat]
    subst hpq
    simp only [List.nodup_cons, List.mem_append, List.mem_singleton, not_or] at hn
    have hr : r.Nodup ∧ p ∉ r := by
      have := List.nodup_append.1 hn.2
      exact ⟨this.1, fun hm => this.2.2 p hm p (by simp) rfl⟩
    have e : cyc E (r ++ [p]) = (E :: r) ++ p :: E :: [] := by simp [cyc]
    rw [e] at h
    have := Lk.insert (xs := E :: r) (p := p) (s := E) (ys := []) (t := t) hl h (h1 p (by simp)) h2 (h1 E (by simp)) (by simp only [List.mem_cons, not_or]; exact ⟨fun e => hn.1.2 e.symm, hr.2⟩)
      (by simp only [List.mem_cons, not_or]; exact ⟨ht.1, fun hm => ht.2 (by simp [hm])⟩) (fun e => ht.2 (by simp [e])) ht.1 (by simp) (by simp) (by rintro q r' h; cases h; exact ⟨hn.1.1, .inr trivial⟩) (.inr hn.1.2) (by simp) (.inl rfl)
    simpa [cyc] using this
theorem cyc_front {nx bk : List Int} {E t s : Nat} {l : List Nat} (hl : nx.length = bk.length) (h : Lk nx bk (cyc E l)) (hn : (E :: l).Nodup) (ht : t ∉ E :: l) (hs : (l ++ [E]).head (by simp) = s) (h1 : ∀ x ∈ E :: l, x < nx.length) (h2 : t < nx.length) :
    Lk ((nx.set E t).set t s) ((bk.set t E).set s t) (cyc E (t :: l)) := by
  simp only [List.mem_cons, not_or] at ht
  cases l with
  | nil =>
    simp at hs; subst hs
    exact Lk.insert (xs := []) (p := E) (s := E) (ys := []) (t := t) hl h (h1 E (by simp)) h2 (h1 E (by simp)) (by simp) (by simp) ht.1 ht.1 (by simp) (by simp) (by simp) (by simp) (by simp) (by simp)
  | cons q r =>
    simp at hs; subst hs
    simp only [List.nodup_cons, List.mem_cons, not_or] at hn
    simp only [List.mem_cons, not_or] at ht
    have := Lk.insert (xs := []) (p := E) (s := q) (ys := r ++ [E]) (t := t) hl h (h1 E (by simp)) h2 (h1 q (by simp)) (by simp) (by simp) ht.1 ht.2.1 (by simp only [List.mem_append, List.mem_singleton, not_or]; exact ⟨ht.2.2, ht.1⟩)
      (by simp only [List.mem_append, List.mem_singleton, not_or]; exact ⟨hn.2.1, Ne.symm hn.1.1⟩) (by simp) (by simp) (by
        rintro q' r' h
        have := List.append_inj_left' h (by simp)
        subst this; exact hn.1.2) (.inr hn.1.1)
    simpa [cyc] using this

/-- A thing goes. -/
theorem cyc_del {nx bk : List Int} {E t a b : Nat} {xs ys : List Nat} (hl : nx.length = bk.length) (h : Lk nx bk (cyc E (xs ++ t :: ys))) (hn : (E :: (xs ++ t :: ys)).Nodup) (ha : (E :: xs).getLast (by simp) = a) (hb : (ys ++ [E]).head (by simp) = b)
    (h1 : ∀ x ∈ E :: (xs ++ t :: ys), x < nx.length) : Lk (nx.set a b) (bk.set b a) (cyc E (xs ++ ys)) ∧ bk.getD t 0 = (a : Int) ∧ nx.getD t 0 = (b : Int) := by
  obtain ⟨P, hP⟩ : ∃ P, E :: xs = P ++ [a] := ⟨(E :: xs).dropLast, by rw [← ha]; exact (List.dropLast_concat_getLast (by simp)).symm⟩
  obtain ⟨S, hS⟩ : ∃ S, ys ++ [E] = b :: S := ⟨(ys ++ [E]).tail, by rw [← hb]; simp⟩
  have e : cyc E (xs ++ t :: ys) = P ++ a :: t :: b :: S := by
    have : cyc E (xs ++ t :: ys) = (E :: xs) ++ t :: (ys ++ [E]) := by simp [cyc]
    rw [this, hP, hS]; simp
  have e2 : cyc E (xs ++ ys) = P ++ a :: b :: S := by
    have : cyc E (xs ++ ys) = (E :: xs) ++ (ys ++ [E]) := by simp [cyc]
    rw [this, hP, hS]; simp
  rw [e] at h
  rw [e2]
  have hk := Lk.at h
  have hk2 := Lk.at (xs := P ++ [a]) (a := t) (b := b) (ys := S) (by simpa using h)
  refine ⟨?_, hk.2, hk2.1⟩
  have hn1 : (E :: xs).Nodup := by
    have := hn; rw [show E :: (xs ++ t :: ys) = (E :: xs) ++ t :: ys by simp] at this
    exact (List.nodup_append.1 this).1
  have hn2 : (ys ++ [E]).Nodup := by
    have h3 := hn
    simp only [List.nodup_cons, List.mem_append, List.mem_cons, not_or] at h3
    have h4 := (List.nodup_append.1 h3.2).2.1
    refine List.nodup_append.2 ⟨(List.nodup_cons.1 h4).2, by simp, ?_⟩
    rintro x hx y hy rfl
    simp at hy; subst hy
    exact h3.1.2.2 hx
  have hd : ∀ x ∈ xs, x ∉ ys := by
    intro x hx hy
    have h3 := (List.nodup_cons.1 hn).2
    exact (List.nodup_append.1 h3).2.2 x hx x (by simp [hy]) rfl
  have hE : E ∉ xs ∧ E ∉ ys := by
    have h3 := (List.nodup_cons.1 hn).1
    simp only [List.mem_append, List.mem_cons, not_or] at h3
    exact ⟨h3.1, h3.2.2⟩
  have ha1 : a < nx.length := h1 a (by have : a ∈ E :: xs := by rw [hP]; simp
                                       simp only [List.mem_cons] at this ⊢; rcases this with h | h <;> simp [h])
  have hb1 : b < nx.length := h1 b (by have : b ∈ ys ++ [E] := by rw [hS]; simp
                                       simp only [List.mem_append, List.mem_singleton] at this; rcases this with h | h <;> simp [h])
  have hPa : a ∉ P := by
    rw [hP] at hn1
    exact fun hm => (List.nodup_append.1 hn1).2.2 a hm a (by simp) rfl
  have hSb : b ∉ S := by rw [hS] at hn2; exact (List.nodup_cons.1 hn2).1
  refine Lk.append.2 ⟨?_, ?_, ?_, ?_⟩
  · refine Lk.congr (fun x hx => ?_) (fun x hx => ?_) (Lk.left h)
    · rw [List.dropLast_concat] at hx
      rw [getD_set _ _ _ _ ha1, if_neg (by rintro rfl; exact hPa hx)]
    · rw [← hP, List.tail_cons] at hx
      have : b ≠ x := by
        rintro rfl
        have : b ∈ ys ++ [E] := by rw [hS]; simp
        simp only [List.mem_append, List.mem_singleton] at this
        rcases this with h | h
        · exact hd _ hx h
        · exact hE.1 (h ▸ hx)
      rw [getD_set _ _ _ _ (hl ▸ hb1), if_neg this]
  · rw [getD_set _ _ _ _ ha1, if_pos rfl]
  · rw [getD_set _ _ _ _ (hl ▸ hb1), if_pos rfl]
  · refine Lk.congr (fun x hx => ?_) (fun x hx => ?_) (Lk.right (xs := P ++ [a, t]) (a := b) (ys := S) (by simpa using h))
    · have : a ≠ x := by
        rintro rfl
        rw [← hS, List.dropLast_concat] at hx
        have : a ∈ E :: xs := by rw [hP]; simp
        rcases List.mem_cons.1 this with h | h
        · exact hE.2 (h ▸ hx)
        · exact hd _ h hx
      rw [getD_set _ _ _ _ ha1, if_neg this]
    · rw [List.tail_cons] at hx
      rw [getD_set _ _ _ _ (hl ▸ hb1), if_neg (by rintro rfl; exact hSb hx)]
end Lk
/- One list behind another one. -/
namespace Lk
theorem Lk.of_cyc {nx bk : List Int} {E : Nat} {l : List Nat} (h : Lk nx bk (cyc E l)) : Lk nx bk l := by
  cases l with
  | nil => trivial
  | cons a l =>
    obtain ⟨r, q, h0⟩ : ∃ r q, a :: l = r ++ [q] := ⟨(a :: l).dropLast, (a :: l).getLast (by simp), (List.dropLast_concat_getLast (by simp)).symm⟩
    have e : cyc E (a :: l) = (E :: r) ++ q :: [E] := by simp [cyc, h0]
    rw [e] at h
    have h2 := Lk.left h
    rw [h0]
    exact Lk.right (xs := [E]) (a := (r ++ [q]).head (by simp)) (ys := (r ++ [q]).tail) (by simpa using h2) |> fun h => by simpa using h
theorem cyc_move {nx bk : List Int} {Ef Et a z la : Nat} {F T : List Nat} (hl : nx.length = bk.length) (hf : Lk nx bk (cyc Ef F)) (ht : Lk nx bk (cyc Et T)) (hn : (Ef :: Et :: (F ++ T)).Nodup) (hF : F ≠ [])
    (ha : F.head hF = a) (hz : F.getLast hF = z) (hla : (Et :: T).getLast (by simp) = la) (h1 : ∀ x ∈ Ef :: Et :: (F ++ T), x < nx.length) :
    Lk (((nx.set la a).set z Et).set Ef Ef) (((bk.set a la).set Et z).set Ef Ef) (cyc Et (T ++ F)) ∧ Lk (((nx.set la a).set z Et).set Ef Ef) (((bk.set a la).set Et z).set Ef Ef) (cyc Ef []) ∧
    nx.getD Ef 0 = (a : Int) ∧ bk.getD Ef 0 = (z : Int) ∧ bk.getD Et 0 = (la : Int) ∧ a ∈ F ∧ z ∈ F ∧ la ∈ Et :: T := by
  obtain ⟨P, hP⟩ : ∃ P, Et :: T = P ++ [la] := ⟨(Et :: T).dropLast, by rw [← hla]; exact (List.dropLast_concat_getLast (by simp)).symm⟩
  obtain ⟨F1, hF1⟩ : ∃ F1, F = a :: F1 := ⟨F.tail, by rw [← ha]; simp⟩
  obtain ⟨F2, hF2⟩ : ∃ F2, F = F2 ++ [z] := ⟨F.dropLast, by rw [← hz]; exact (List.dropLast_concat_getLast hF).symm⟩
  have haF : a ∈ F := by rw [hF1]; simp
  have hzF : z ∈ F := by rw [hF2]; simp
  have hlaT : la ∈ Et :: T := by rw [hP]; simp
  simp only [List.nodup_cons, List.mem_cons, List.mem_append, not_or] at hn
  obtain ⟨⟨n1, n2, n3⟩, ⟨n4, n5⟩, n6⟩ := hn
  obtain ⟨n7, n8, n9⟩ := List.nodup_append.1 n6
  have bnd : ∀ x ∈ F, x < nx.length := fun x hx => h1 x (by simp [hx])
  have bE : Ef < nx.length := h1 Ef (by simp)
  have bEt : Et < nx.length := h1 Et (by simp)
  have bla : la < nx.length := by
    rcases List.mem_cons.1 hlaT with h | h
    · rw [h]; exact bEt
    · exact h1 la (by simp [h])
  have ba := bnd a haF
  have bz := bnd z hzF
  have hkf : nx.getD Ef 0 = (a : Int) := (Lk.at (xs := []) (a := Ef) (b := a) (ys := F1 ++ [Ef]) (by have := hf; rw [hF1] at this; exact this)).1
  have hkz : bk.getD Ef 0 = (z : Int) := (Lk.at (xs := Ef :: F2) (a := z) (b := Ef) (ys := []) (by have := hf; rw [hF2] at this; simpa [cyc] using this)).2
  have hcl : cyc Et T = P ++ la :: [Et] := by
    show (Et :: T) ++ [Et] = _
    rw [hP]; simp
  have hkl : bk.getD Et 0 = (la : Int) := (Lk.at (xs := P) (a := la) (b := Et) (ys := []) (hcl ▸ ht)).2
  have ge : ∀ x, (((nx.set la a).set z Et).set Ef Ef).getD x 0 = if Ef = x then (Ef : Int) else if z = x then (Et : Int) else if la = x then (a : Int) else nx.getD x 0 := fun x => by
    rw [getD_set _ _ _ _ (by simpa using bE), getD_set _ _ _ _ (by simpa using bz), getD_set _ _ _ _ bla]
  have ge2 : ∀ x, (((bk.set a la).set Et z).set Ef Ef).getD x 0 = if Ef = x then (Ef : Int) else if Et = x then (z : Int) else if a = x then (la : Int) else bk.getD x 0 := fun x => by
    rw [getD_set _ _ _ _ (by simpa [hl] using hl ▸ bE), getD_set _ _ _ _ (by simpa using hl ▸ bEt), getD_set _ _ _ _ (hl ▸ ba)]
  have laT : ∀ x ∈ F, la ≠ x := by
    rintro x hx rfl
    rcases List.mem_cons.1 hlaT with h | h
    · exact n4 (h ▸ hx)
    · exact n9 _ hx _ h rfl
  refine ⟨?_, ?_, hkf, hkz, hkl, haF, hzF, hlaT⟩
  · have e : cyc Et (T ++ F) = P ++ la :: (a :: (F1 ++ [Et])) := by
      have : cyc Et (T ++ F) = (Et :: T) ++ (F ++ [Et]) := by simp [cyc]
      rw [this, hP, hF1]; simp
    rw [e]
    refine Lk.append.2 ⟨?_, ?_, ?_, ?_⟩
    · have hTl : Lk nx bk (P ++ [la]) := by
        exact Lk.left (hcl ▸ ht)
      refine Lk.congr (fun x hx => ?_) (fun x hx => ?_) hTl
      · rw [List.dropLast_concat] at hx
        have hx2 : x ∈ Et :: T := by rw [hP]; simp [hx]
        have x1 : Ef ≠ x := by rintro rfl; rcases List.mem_cons.1 hx2 with h | h; exact n1 h; exact n3 h
        have x2 : z ≠ x := by rintro rfl; rcases List.mem_cons.1 hx2 with h | h; exact n4 (h ▸ hzF); exact n9 _ hzF _ h rfl
        have hnd : (P ++ [la]).Nodup := by rw [← hP]; exact List.nodup_cons.2 ⟨n5, n8⟩
        have x3 : la ≠ x := by rintro rfl; exact (List.nodup_append.1 hnd).2.2 _ hx la (by simp) rfl
        rw [ge, if_neg x1, if_neg x2, if_neg x3]
      · rw [← hP, List.tail_cons] at hx
        have x1 : Ef ≠ x := by rintro rfl; exact n3 hx
        have x2 : Et ≠ x := by rintro rfl; exact n5 hx
        have x3 : a ≠ x := by rintro rfl; exact n9 _ haF _ hx rfl
        rw [ge2, if_neg x1, if_neg x2, if_neg x3]
    · have x1 : Ef ≠ la := by rintro rfl; rcases List.mem_cons.1 hlaT with h | h; exact n1 h; exact n3 h
      rw [ge, if_neg x1, if_neg (fun e => laT z hzF e.symm), if_pos rfl]
    · have x1 : Ef ≠ a := by rintro rfl; exact n2 haF
      have x2 : Et ≠ a := by rintro rfl; exact n4 haF
      rw [ge2, if_neg x1, if_neg x2, if_pos rfl]
    · have e2 : a :: (F1 ++ [Et]) = F2 ++ z :: [Et] := by
        rw [← List.cons_append, ← hF1, hF2]; simp
      rw [e2]
      refine Lk.append.2 ⟨?_, ?_, ?_, trivial⟩
      · have hFl : Lk nx bk (F2 ++ [z]) := hF2 ▸ Lk.of_cyc hf
        have hnd : (F2 ++ [z]).Nodup := hF2 ▸ n7
        refine Lk.congr (fun x hx => ?_) (fun x hx => ?_) hFl
        · rw [List.dropLast_concat] at hx
          have hxF : x ∈ F := by rw [hF2]; simp [hx]
          have x1 : Ef ≠ x := by rintro rfl; exact n2 hxF
          have x2 : z ≠ x := by rintro rfl; exact (List.nodup_append.1 hnd).2.2 _ hx z (by simp) rfl
          rw [ge, if_neg x1, if_neg x2, if_neg (laT x hxF)]
        · rw [← hF2, hF1, List.tail_cons] at hx
          have hxF : x ∈ F := by rw [hF1]; simp [hx]
          have x1 : Ef ≠ x := by rintro rfl; exact n2 hxF
          have x2 : Et ≠ x := by rintro rfl; exact n4 hxF
          have x3 : a ≠ x := by rintro rfl; rw [hF1] at n7; exact (List.nodup_cons.1 n7).1 hx
          rw [ge2, if_neg x1, if_neg x2, if_neg x3]
      · have x1 : Ef ≠ z := by rintro rfl; exact n2 hzF
        rw [ge, if_neg x1, if_pos rfl]
      · rw [ge2, if_neg n1, if_pos rfl]
  · exact ⟨by rw [ge, if_pos rfl], by rw [ge2, if_pos rfl], trivial⟩
end Lk
/- What the links' five blocks mean: lists of things. -/
namespace Go.Proofs.Ytffjaaolcphonaa
open Lk (cyc cyc_push cyc_front cyc_del cyc_move)

/-- What 'Move' makes of the five blocks. -/
def Raw.mv (r : Raw) (f t : Nat) (xs : List Nat) (a z la : Nat) (n c : Nat) : Raw :=
  { r with next := ((r.next.set la a).set z (r.things + t : Nat)).set (r.things + f) (r.things + f : Nat), back := ((r.back.set a la).set (r.things + t) z).set (r.things + f) (r.things + f : Nat),
           list := xs.foldl (fun l x => l.set x (t : Int)) r.list, count := (r.count.set f 0).set t ((c : Int) + n) }
def gl (L : List (List Nat)) (i : Nat) : List Nat := L.getD i []
theorem gl_set (L : List (List Nat)) (i j : Nat) (x : List Nat) (h : i < L.length) : gl (L.set i x) j = if i = j then x else gl L j := by
  unfold gl
  by_cases e : i = j
  · subst e; simp [h]
  · simp [e]
structure Sz (r : Raw) : Prop where
  lnext : r.next.length = r.things + r.count.length
  lback : r.back.length = r.things + r.count.length
  llist : r.list.length = r.things
theorem RawAt.sz {w : World} {B : LB} {r : Raw} (h : RawAt w B r) : Sz r := ⟨h.lnext, h.lback, h.llist⟩
structure Inv (r : Raw) (L : List (List Nat)) : Prop where
  len : L.length = r.count.length
  lk : ∀ i, i < L.length → Lk.Lk r.next r.back (cyc (r.things + i) (gl L i))
  cnt : ∀ i, i < L.length → r.count.getD i 0 = ((gl L i).length : Int)
  yes : ∀ i t, i < L.length → t ∈ gl L i → t < r.things ∧ r.list.getD t 0 = (i : Int)
  no : ∀ t, t < r.things → (∀ i, i < L.length → t ∉ gl L i) → r.list.getD t 0 = -1
  nd : ∀ i, i < L.length → (gl L i).Nodup
theorem Inv.uniq {r : Raw} {L : List (List Nat)} (h : Inv r L) {i j t : Nat} (hi : i < L.length) (hj : j < L.length) (h1 : t ∈ gl L i) (h2 : t ∈ gl L j) : i = j := by
  have a := (h.yes i t hi h1).2
  have b := (h.yes j t hj h2).2
  rw [a] at b; omega
theorem Inv.ends {r : Raw} {L : List (List Nat)} (h : Inv r L) {i t : Nat} (hi : i < L.length) (j : Nat) (h1 : t ∈ gl L i) : t ≠ r.things + j := by
  have := (h.yes i t hi h1).1; omega
theorem Inv.nodupE {r : Raw} {L : List (List Nat)} (h : Inv r L) {i : Nat} (hi : i < L.length) (j : Nat) : ((r.things + j) :: gl L i).Nodup :=
  List.nodup_cons.2 ⟨fun hm => h.ends hi j hm rfl, h.nd i hi⟩
theorem Inv.bnd {r : Raw} {L : List (List Nat)} (h : Inv r L) (hz : Sz r) {i : Nat} (hi : i < L.length) : ∀ x ∈ (r.things + i) :: gl L i, x < r.next.length := by
  intro x hx
  rw [hz.lnext, ← h.len]
  rcases List.mem_cons.1 hx with rfl | hx
  · omega
  · have := (h.yes i x hi hx).1; omega
theorem nodup_le : ∀ (n : Nat) (l : List Nat), l.Nodup → (∀ x ∈ l, x < n) → l.length ≤ n
  | 0, l, _, h => by cases l with
    | nil => simp
    | cons a l => exact absurd (h a (by simp)) (by omega)
  | n + 1, l, hn, h => by
    have h1 := nodup_le n (l.erase n) (hn.erase n) (fun x hx => by
      have := h x (List.mem_of_mem_erase hx)
      have hne : x ≠ n := by rintro rfl; exact (hn.not_mem_erase) hx
      omega)
    have := List.length_erase (a := n) (l := l)
    split at this <;> omega
theorem Inv.le {r : Raw} {L : List (List Nat)} (h : Inv r L) {i : Nat} (hi : i < L.length) : (gl L i).length ≤ r.things :=
  nodup_le _ _ (h.nd i hi) fun x hx => (h.yes i x hi hx).1

theorem getD_set' (l : List Int) (i j : Nat) (v : Int) (h : i < l.length) : (l.set i v).getD j 0 = if i = j then v else l.getD j 0 := Lk.getD_set l i j v h

/-- A thing goes in, wherever in its list. -/
theorem inv_ins {r : Raw} {L : List (List Nat)} (h : Inv r L) (hz : Sz r) {i t p s : Nat} {X : List Nat} (hi : i < L.length) (ht : t < r.things) (hno : ∀ j, j < L.length → t ∉ gl L j)
    (hX : ∀ x, x ∈ X ↔ x = t ∨ x ∈ gl L i) (hXn : X.Nodup) (hXl : X.length = (gl L i).length + 1) (hp : p ∈ (r.things + i) :: gl L i) (hs : s ∈ (r.things + i) :: gl L i)
    (hlk : Lk.Lk ((r.next.set p t).set t s) ((r.back.set t p).set s t) (cyc (r.things + i) X)) : Inv (r.ins i t p s (gl L i).length) (L.set i X) := by
  have hic : i < r.count.length := h.len ▸ hi
  refine ⟨by simp [Raw.ins, h.len], ?_, ?_, ?_, ?_, ?_⟩
  · intro j hj
    rw [List.length_set] at hj
    rw [gl_set _ _ _ _ hi]
    by_cases e : i = j
    · subst e; rw [if_pos rfl]; exact hlk
    · rw [if_neg e]
      have hnot : ∀ x, x ∈ (r.things + i) :: gl L i → x ∉ cyc (r.things + j) (gl L j) := by
        intro x hx hx2
        simp only [cyc, List.mem_append, List.mem_cons, List.not_mem_nil, or_false] at hx2
        rcases List.mem_cons.1 hx with rfl | hx
        · rcases hx2 with (h1 | h1) | h1
          · omega
          · exact h.ends hj i h1 rfl
          · omega
        · rcases hx2 with (h1 | h1) | h1
          · exact h.ends hi j hx h1
          · exact e (h.uniq hi hj hx h1)
          · exact h.ends hi j hx h1
      have htn : t ∉ cyc (r.things + j) (gl L j) := by
        simp only [cyc, List.mem_append, List.mem_cons, List.not_mem_nil, or_false]
        rintro ((h1 | h1) | h1)
        · omega
        · exact hno j hj h1
        · omega
      exact ((h.lk j hj).other (hnot p hp) htn).other htn (hnot s hs)
  · intro j hj
    rw [List.length_set] at hj
    rw [gl_set _ _ _ _ hi]
    simp only [Raw.ins]
    rw [getD_set' _ _ _ _ hic]
    by_cases e : i = j
    · subst e; simp only [if_pos]; omega
    · simp only [if_neg e]; exact h.cnt j hj
  · intro j x hj hx
    rw [List.length_set] at hj
    rw [gl_set _ _ _ _ hi] at hx
    simp only [Raw.ins]
    rw [getD_set' _ _ _ _ (by rw [hz.llist]; exact ht)]
    by_cases e : i = j
    · subst e
      rw [if_pos rfl] at hx
      rcases (hX x).1 hx with rfl | hx
      · exact ⟨ht, by rw [if_pos rfl]⟩
      · have := h.yes i x hi hx
        refine ⟨this.1, ?_⟩
        rw [if_neg (by rintro rfl; exact hno i hi hx)]; exact this.2
    · rw [if_neg e] at hx
      have := h.yes j x hj hx
      refine ⟨this.1, ?_⟩
      rw [if_neg (by rintro rfl; exact hno j hj hx)]; exact this.2
  · intro x hx hno'
    simp only [Raw.ins] at hx ⊢
    rw [getD_set' _ _ _ _ (by rw [hz.llist]; exact ht)]
    have hxt : t ≠ x := by
      rintro rfl
      have := hno' i (by simpa using hi)
      rw [gl_set _ _ _ _ hi, if_pos rfl] at this
      exact this ((hX t).2 (.inl rfl))
    rw [if_neg hxt]
    refine h.no x hx fun j hj hm => ?_
    have := hno' j (by simpa using hj)
    rw [gl_set _ _ _ _ hi] at this
    by_cases e : i = j
    · subst e; rw [if_pos rfl] at this; exact this ((hX x).2 (.inr hm))
    · rw [if_neg e] at this; exact this hm
  · intro j hj
    rw [List.length_set] at hj
    rw [gl_set _ _ _ _ hi]
    by_cases e : i = j
    · subst e; rw [if_pos rfl]; exact hXn
    · rw [if_neg e]; exact h.nd j hj

theorem inv_push {r : Raw} {L : List (List Nat)} (h : Inv r L) (hz : Sz r) {i t : Nat} (hi : i < L.length) (ht : t < r.things) (hno : ∀ j, j < L.length → t ∉ gl L j) :
    ∃ p, p < r.next.length ∧ r.back.getD (r.things + i) 0 = (p : Int) ∧ r.next.getD p 0 = ((r.things + i : Nat) : Int) ∧ Inv (r.ins i t p (r.things + i) (gl L i).length) (L.set i (gl L i ++ [t])) := by
  have hb := h.bnd hz hi
  obtain ⟨p, hp⟩ : ∃ p, ((r.things + i) :: gl L i).getLast (by simp) = p := ⟨_, rfl⟩
  have hpm : p ∈ (r.things + i) :: gl L i := hp ▸ List.getLast_mem _
  have hP : ((r.things + i) :: gl L i) = ((r.things + i) :: gl L i).dropLast ++ [p] := by rw [← hp]; exact (List.dropLast_concat_getLast (by simp)).symm
  have hk := Lk.Lk.at (xs := ((r.things + i) :: gl L i).dropLast) (a := p) (b := r.things + i) (ys := []) (nx := r.next) (bk := r.back) (by
    have e : cyc (r.things + i) (gl L i) = ((r.things + i) :: gl L i) ++ [r.things + i] := rfl
    have := h.lk i hi
    rw [e, hP] at this
    simpa using this)
  have htE : t ∉ (r.things + i) :: gl L i := by
    simp only [List.mem_cons, not_or]; exact ⟨by omega, hno i hi⟩
  refine ⟨p, hb p hpm, hk.2, hk.1, ?_⟩
  refine inv_ins h hz hi ht hno (fun x => by simp [or_comm]) ?_ (by simp) hpm (by simp) (cyc_push (by rw [hz.lnext, hz.lback]) (h.lk i hi) (h.nodupE hi i) htE hp hb (by rw [hz.lnext]; omega))
  refine List.nodup_append.2 ⟨h.nd i hi, by simp, ?_⟩
  rintro x hx y hy rfl
  simp at hy; subst hy; exact hno i hi hx
theorem inv_front {r : Raw} {L : List (List Nat)} (h : Inv r L) (hz : Sz r) {i t : Nat} (hi : i < L.length) (ht : t < r.things) (hno : ∀ j, j < L.length → t ∉ gl L j) :
    ∃ s, s < r.next.length ∧ r.next.getD (r.things + i) 0 = (s : Int) ∧ Inv (r.ins i t (r.things + i) s (gl L i).length) (L.set i (t :: gl L i)) := by
  have hb := h.bnd hz hi
  obtain ⟨s, hs⟩ : ∃ s, (gl L i ++ [r.things + i]).head (by simp) = s := ⟨_, rfl⟩
  have hsm : s ∈ (r.things + i) :: gl L i := by
    have : s ∈ gl L i ++ [r.things + i] := hs ▸ List.head_mem _
    simp only [List.mem_append, List.mem_cons, List.not_mem_nil, or_false] at this ⊢
    exact this.symm
  have hS : gl L i ++ [r.things + i] = s :: (gl L i ++ [r.things + i]).tail := by rw [← hs]; simp
  have hk := Lk.Lk.at (xs := []) (a := r.things + i) (b := s) (ys := (gl L i ++ [r.things + i]).tail) (nx := r.next) (bk := r.back) (by
    have e : cyc (r.things + i) (gl L i) = (r.things + i) :: (gl L i ++ [r.things + i]) := rfl
    have := h.lk i hi
    rw [e, hS] at this
    simpa using this)
  have htE : t ∉ (r.things + i) :: gl L i := by
    simp only [List.mem_cons, not_or]; exact ⟨by omega, hno i hi⟩
  refine ⟨s, hb s hsm, hk.1, ?_⟩
  exact inv_ins h hz hi ht hno (fun x => by simp) (List.nodup_cons.2 ⟨hno i hi, h.nd i hi⟩) (by simp) (by simp) hsm (cyc_front (by rw [hz.lnext, hz.lback]) (h.lk i hi) (h.nodupE hi i) htE hs hb (by rw [hz.lnext]; omega))
end Go.Proofs.Ytffjaaolcphonaa
/- What the links' five blocks mean: a thing goes; a list moves; new ones; the order of All. -/
namespace Go.Proofs.Ytffjaaolcphonaa
open Lk (cyc cyc_push cyc_front cyc_del cyc_move)

theorem inv_del {r : Raw} {L : List (List Nat)} (h : Inv r L) (hz : Sz r) {i t : Nat} {xs ys : List Nat} (hi : i < L.length) (hL : gl L i = xs ++ t :: ys) :
    ∃ a b, a < r.next.length ∧ b < r.next.length ∧ r.back.getD t 0 = (a : Int) ∧ r.next.getD t 0 = (b : Int) ∧ ((r.things + i) :: xs).getLast (by simp) = a ∧ Inv (r.del t a b i (gl L i).length) (L.set i (xs ++ ys)) := by
  have hb := h.bnd hz hi
  obtain ⟨a, ha⟩ : ∃ a, ((r.things + i) :: xs).getLast (by simp) = a := ⟨_, rfl⟩
  obtain ⟨b, hbb⟩ : ∃ b, (ys ++ [r.things + i]).head (by simp) = b := ⟨_, rfl⟩
  have ham : a ∈ (r.things + i) :: gl L i := by
    have : a ∈ (r.things + i) :: xs := ha ▸ List.getLast_mem _
    rw [hL]; simp only [List.mem_cons, List.mem_append] at this ⊢
    rcases this with h | h <;> simp [h]
  have hbm : b ∈ (r.things + i) :: gl L i := by
    have : b ∈ ys ++ [r.things + i] := hbb ▸ List.head_mem _
    rw [hL]; simp only [List.mem_cons, List.mem_append, List.not_mem_nil, or_false] at this ⊢
    rcases this with h | h <;> simp [h]
  have htm : t ∈ gl L i := by rw [hL]; simp
  have ht := h.yes i t hi htm
  obtain ⟨k1, k2, k3⟩ := cyc_del (by rw [hz.lnext, hz.lback]) (hL ▸ h.lk i hi) (hL ▸ h.nodupE hi i) ha hbb (hL ▸ hb)
  have hic : i < r.count.length := h.len ▸ hi
  have hnd := h.nd i hi
  rw [hL] at hnd
  have htx : t ∉ xs ++ ys := by
    have h1 := List.nodup_append.1 hnd
    simp only [List.mem_append, not_or]
    exact ⟨fun hx => h1.2.2 t hx t (by simp) rfl, (List.nodup_cons.1 h1.2.1).1⟩
  have hsub : ∀ x, x ∈ xs ++ ys → x ∈ gl L i := by
    intro x hx; rw [hL]; simp only [List.mem_append, List.mem_cons] at hx ⊢
    rcases hx with h | h <;> simp [h]
  refine ⟨a, b, hb a ham, hb b hbm, k2, k3, ha, by simp [Raw.del, h.len], ?_, ?_, ?_, ?_, ?_⟩
  · intro j hj
    rw [List.length_set] at hj
    rw [gl_set _ _ _ _ hi]
    by_cases e : i = j
    · subst e; rw [if_pos rfl]; exact k1
    · rw [if_neg e]
      have hnot : ∀ x, x ∈ (r.things + i) :: gl L i → x ∉ cyc (r.things + j) (gl L j) := by
        intro x hx hx2
        simp only [cyc, List.mem_append, List.mem_cons, List.not_mem_nil, or_false] at hx2
        rcases List.mem_cons.1 hx with rfl | hx
        · rcases hx2 with (h1 | h1) | h1
          · omega
          · exact h.ends hj i h1 rfl
          · omega
        · rcases hx2 with (h1 | h1) | h1
          · exact h.ends hi j hx h1
          · exact e (h.uniq hi hj hx h1)
          · exact h.ends hi j hx h1
      exact (h.lk j hj).other (hnot a ham) (hnot b hbm)
  · intro j hj
    rw [List.length_set] at hj
    rw [gl_set _ _ _ _ hi]
    simp only [Raw.del]
    rw [getD_set' _ _ _ _ hic]
    by_cases e : i = j
    · subst e; simp only [if_pos]; rw [hL]; simp; omega
    · simp only [if_neg e]; exact h.cnt j hj
  · intro j x hj hx
    rw [List.length_set] at hj
    rw [gl_set _ _ _ _ hi] at hx
    simp only [Raw.del]
    rw [getD_set' _ _ _ _ (by rw [hz.llist]; exact ht.1)]
    by_cases e : i = j
    · subst e
      rw [if_pos rfl] at hx
      have := h.yes i x hi (hsub x hx)
      exact ⟨this.1, by rw [if_neg (by rintro rfl; exact htx hx)]; exact this.2⟩
    · rw [if_neg e] at hx
      have := h.yes j x hj hx
      exact ⟨this.1, by rw [if_neg (by rintro rfl; exact e (h.uniq hi hj htm hx))]; exact this.2⟩
  · intro x hx hno'
    simp only [Raw.del] at hx ⊢
    rw [getD_set' _ _ _ _ (by rw [hz.llist]; exact ht.1)]
    by_cases hxt : t = x
    · rw [if_pos hxt]
    · rw [if_neg hxt]
      refine h.no x hx fun j hj hm => ?_
      have := hno' j (by simpa using hj)
      rw [gl_set _ _ _ _ hi] at this
      by_cases e : i = j
      · subst e; rw [if_pos rfl] at this
        rw [hL] at hm
        simp only [List.mem_append, List.mem_cons, not_or] at hm this
        rcases hm with h | h | h
        · exact this.1 h
        · exact hxt h.symm
        · exact this.2 h
      · rw [if_neg e] at this; exact this hm
  · intro j hj
    rw [List.length_set] at hj
    rw [gl_set _ _ _ _ hi]
    by_cases e : i = j
    · subst e; rw [if_pos rfl]
      have h1 := List.nodup_append.1 hnd
      exact List.nodup_append.2 ⟨h1.1, (List.nodup_cons.1 h1.2.1).2, fun x hx y hy => h1.2.2 x hx y (by simp [hy])⟩
    · rw [if_neg e]; exact h.nd j hj

theorem foldl_set_len (xs : List Nat) (v : Int) : ∀ l : List Int, (xs.foldl (fun l x => l.set x v) l).length = l.length := by
  induction xs with
  | nil => intro l; rfl
  | cons x xs ih => intro l; rw [List.foldl_cons, ih]; simp
theorem foldl_set_get (v : Int) (j : Nat) : ∀ (xs : List Nat) (l : List Int), (∀ x ∈ xs, x < l.length) → (xs.foldl (fun l x => l.set x v) l).getD j 0 = if j ∈ xs then v else l.getD j 0
  | [], l, _ => by simp
  | x :: xs, l, h => by
    rw [List.foldl_cons, foldl_set_get v j xs (l.set x v) (by intro y hy; simpa using h y (by simp [hy])), getD_set' _ _ _ _ (h x (by simp))]
    by_cases h1 : j ∈ xs
    · simp [h1]
    · by_cases h2 : x = j
      · subst h2; simp
      · have : j ≠ x := fun e => h2 e.symm
        simp [h1, h2, this]

theorem inv_move {r : Raw} {L : List (List Nat)} (h : Inv r L) (hz : Sz r) {f t : Nat} (hf : f < L.length) (ht : t < L.length) (hft : f ≠ t) (hF : gl L f ≠ []) :
    ∃ a z la, a < r.next.length ∧ z < r.next.length ∧ la < r.next.length ∧ r.next.getD (r.things + f) 0 = (a : Int) ∧ r.back.getD (r.things + f) 0 = (z : Int) ∧ r.back.getD (r.things + t) 0 = (la : Int) ∧
      Inv (r.mv f t (gl L f) a z la (gl L f).length (gl L t).length) ((L.set f []).set t (gl L t ++ gl L f)) := by
  have hbf := h.bnd hz hf
  have hbt := h.bnd hz ht
  have hne : r.things + f ≠ r.things + t := by omega
  have hn : ((r.things + f) :: (r.things + t) :: (gl L f ++ gl L t)).Nodup := by
    simp only [List.nodup_cons, List.mem_cons, List.mem_append, not_or]
    refine ⟨⟨hne, fun hm => h.ends hf f hm rfl, fun hm => h.ends ht f hm rfl⟩, ⟨fun hm => h.ends hf t hm rfl, fun hm => h.ends ht t hm rfl⟩, ?_⟩
    exact List.nodup_append.2 ⟨h.nd f hf, h.nd t ht, fun x hx y hy e => hft (h.uniq hf ht hx (e ▸ hy))⟩
  have hb : ∀ x ∈ (r.things + f) :: (r.things + t) :: (gl L f ++ gl L t), x < r.next.length := by
    intro x hx
    simp only [List.mem_cons, List.mem_append] at hx
    rcases hx with rfl | rfl | hx | hx
    · exact hbf _ (by simp)
    · exact hbt _ (by simp)
    · exact hbf _ (by simp [hx])
    · exact hbt _ (by simp [hx])
  obtain ⟨k1, k2, k3, k4, k5, ma, mz, ml⟩ := cyc_move (by rw [hz.lnext, hz.lback]) (h.lk f hf) (h.lk t ht) hn hF rfl rfl rfl hb
  have hfc : f < r.count.length := h.len ▸ hf
  have htc : t < r.count.length := h.len ▸ ht
  have hg : ∀ j, gl ((L.set f []).set t (gl L t ++ gl L f)) j = if t = j then gl L t ++ gl L f else if f = j then [] else gl L j := fun j => by
    rw [gl_set _ _ _ _ (by simpa using ht), gl_set _ _ _ _ hf]
  refine ⟨_, _, _, hbf _ (List.mem_cons_of_mem _ ma), hbf _ (List.mem_cons_of_mem _ mz), hbt _ ml, k3, k4, k5, by simp [Raw.mv, h.len], ?_, ?_, ?_, ?_, ?_⟩
  · intro j hj
    simp only [List.length_set] at hj
    rw [hg]
    by_cases e : t = j
    · subst e; rw [if_pos rfl]; exact k1
    · rw [if_neg e]
      by_cases e2 : f = j
      · subst e2; rw [if_pos rfl]; exact k2
      · rw [if_neg e2]
        have hnf : ∀ x, x ∈ (r.things + f) :: gl L f → x ∉ cyc (r.things + j) (gl L j) := by
          intro x hx hx2
          simp only [cyc, List.mem_append, List.mem_cons, List.not_mem_nil, or_false] at hx2
          rcases List.mem_cons.1 hx with rfl | hx
          · rcases hx2 with (h1 | h1) | h1
            · omega
            · exact h.ends hj f h1 rfl
            · omega
          · rcases hx2 with (h1 | h1) | h1
            · exact h.ends hf j hx h1
            · exact e2 (h.uniq hf hj hx h1)
            · exact h.ends hf j hx h1
        have hnt : ∀ x, x ∈ (r.things + t) :: gl L t → x ∉ cyc (r.things + j) (gl L j) := by
          intro x hx hx2
          simp only [cyc, List.mem_append, List.mem_cons, List.not_mem_nil, or_false] at hx2
          rcases List.mem_cons.1 hx with rfl | hx
          · rcases hx2 with (h1 | h1) | h1
            · omega
            · exact h.ends hj t h1 rfl
            · omega
          · rcases hx2 with (h1 | h1) | h1
            · exact h.ends ht j hx h1
            · exact e (h.uniq ht hj hx h1)
            · exact h.ends ht j hx h1
        exact (((h.lk j hj).other (hnt _ ml) (hnf _ (List.mem_cons_of_mem _ ma))).other (hnf _ (List.mem_cons_of_mem _ mz)) (hnt _ (by simp))).other (hnf _ (by simp)) (hnf _ (by simp))
  · intro j hj
    simp only [List.length_set] at hj
    rw [hg]
    simp only [Raw.mv]
    rw [getD_set' _ _ _ _ (by simpa using htc), getD_set' _ _ _ _ hfc]
    by_cases e : t = j
    · subst e; simp
    · by_cases e2 : f = j
      · subst e2; simp [e]
      · simp only [if_neg e, if_neg e2]; exact h.cnt j hj
  · intro j x hj hx
    simp only [List.length_set] at hj
    rw [hg] at hx
    simp only [Raw.mv]
    rw [foldl_set_get _ _ _ _ (fun y hy => by rw [hz.llist]; exact (h.yes f y hf hy).1)]
    by_cases e : t = j
    · subst e
      rw [if_pos rfl] at hx
      rcases List.mem_append.1 hx with hx | hx
      · have := h.yes t x ht hx
        exact ⟨this.1, by rw [if_neg (fun hm => hft (h.uniq hf ht hm hx))]; exact this.2⟩
      · exact ⟨(h.yes f x hf hx).1, by rw [if_pos hx]⟩
    · rw [if_neg e] at hx
      by_cases e2 : f = j
      · subst e2; simp at hx
      · rw [if_neg e2] at hx
        have := h.yes j x hj hx
        exact ⟨this.1, by rw [if_neg (fun hm => e2 (h.uniq hf hj hm hx))]; exact this.2⟩
  · intro x hx hno
    simp only [Raw.mv] at hx ⊢
    rw [foldl_set_get _ _ _ _ (fun y hy => by rw [hz.llist]; exact (h.yes f y hf hy).1)]
    have ht' := hno t (by simpa using ht)
    rw [hg, if_pos rfl] at ht'
    rw [if_neg (fun hm => ht' (List.mem_append.2 (.inr hm)))]
    refine h.no x hx fun j hj hm => ?_
    have hj' := hno j (by simpa using hj)
    rw [hg] at hj'
    by_cases e : t = j
    · subst e; exact ht' (List.mem_append.2 (.inl hm))
    · rw [if_neg e] at hj'
      by_cases e2 : f = j
      · subst e2; exact ht' (List.mem_append.2 (.inr hm))
      · rw [if_neg e2] at hj'; exact hj' hm
  · intro j hj
    simp only [List.length_set] at hj
    rw [hg]
    by_cases e : t = j
    · subst e; rw [if_pos rfl]
      exact List.nodup_append.2 ⟨h.nd t ht, h.nd f hf, fun x hx y hy e => hft (h.uniq hf ht (e ▸ hy) hx)⟩
    · rw [if_neg e]
      by_cases e2 : f = j
      · subst e2; simp
      · rw [if_neg e2]; exact h.nd j hj

theorem inv_new (t m : Nat) : Inv (Raw.new t m) (List.replicate m []) := by
  have hg : ∀ i, gl (List.replicate m []) i = [] := fun i => by
    unfold gl; by_cases h : i < m <;> simp [h]
  refine ⟨by simp [Raw.new], ?_, ?_, ?_, ?_, ?_⟩
  · intro i hi
    simp only [List.length_replicate] at hi
    rw [hg]
    have e : (idU (t + m) (t + m)).getD (t + i) 0 = ((t + i : Nat) : Int) := by simp [idU, show t + i < t + m by omega]
    exact ⟨e, e, trivial⟩
  · intro i hi
    simp only [List.length_replicate] at hi
    rw [hg]; simp [Raw.new, hi]
  · intro i x _ hx
    rw [hg] at hx; simp at hx
  · intro x hx _
    have hx' : x < t := hx
    simp [Raw.new, noU, hx']
  · intro i _; rw [hg]; simp

theorem seq_lk {nx bk : List Int} {E : Nat} : ∀ {l : List Nat} {q : Nat}, Lk.Lk nx bk (q :: l ++ [E]) → E ∉ l → (∀ x ∈ l, x < nx.length) → ∃ q', nx.getD q 0 = ((q' : Nat) : Int) ∧ Seq nx E q' l
  | [], q, h, _, _ => ⟨E, h.1, rfl⟩
  | a :: l, q, h, hE, hb => by
    obtain ⟨q', h1, h2⟩ := seq_lk (l := l) (q := a) h.2.2 (fun hm => hE (by simp [hm])) (fun x hx => hb x (by simp [hx]))
    exact ⟨a, h.1, rfl, fun e => hE (by simp [e]), hb a (by simp), q', h1, h2⟩
theorem Inv.seq {r : Raw} {L : List (List Nat)} (h : Inv r L) (hz : Sz r) {i : Nat} (hi : i < L.length) : ∃ q0, r.next.getD (r.things + i) 0 = ((q0 : Nat) : Int) ∧ Seq r.next (r.things + i) q0 (gl L i) :=
  seq_lk (h.lk i hi) (fun hm => h.ends hi i hm rfl) (fun x hx => h.bnd hz hi x (by simp [hx]))
end Go.Proofs.Ytffjaaolcphonaa
/- The links' calls, told by lists of things. -/
namespace Go.Proofs.Ytffjaaolcphonaa
open Go.RowKit

/-- The list in which a thing stands; -1: in none. -/
def wh (L : List (List Nat)) (t : Nat) : Int := match L.findIdx? (fun l => decide (t ∈ l)) with | some i => (i : Int) | none => -1
theorem wh_no {L : List (List Nat)} {t : Nat} : wh L t = -1 ↔ ∀ i, i < L.length → t ∉ gl L i := by
  unfold wh
  split
  · rename_i i hi
    rw [List.findIdx?_eq_some_iff_getElem] at hi
    obtain ⟨h1, h2, _⟩ := hi
    constructor
    · intro h; omega
    · intro h
      have := h i h1
      simp [gl, h1] at this
      simp at h2
      exact absurd h2 this
  · rename_i hi
    rw [List.findIdx?_eq_none_iff] at hi
    refine ⟨fun _ i hl hm => ?_, fun _ => rfl⟩
    have := hi (gl L i) (by simp [gl, hl])
    simp at this; exact this hm
theorem wh_yes {L : List (List Nat)} {t i : Nat} (h : wh L t = (i : Int)) : i < L.length ∧ t ∈ gl L i := by
  unfold wh at h
  split at h
  · rename_i j hi
    rw [List.findIdx?_eq_some_iff_getElem] at hi
    obtain ⟨h1, h2, _⟩ := hi
    have : j = i := by omega
    subst this
    exact ⟨h1, by simp [gl, h1]; simpa using h2⟩
  · omega
theorem wh_cases (L : List (List Nat)) (t : Nat) : wh L t = -1 ∨ ∃ i : Nat, wh L t = (i : Int) := by
  unfold wh; split
  · exact .inr ⟨_, rfl⟩
  · exact .inl rfl
theorem Inv.wh {r : Raw} {L : List (List Nat)} (h : Inv r L) {t : Nat} (ht : t < r.things) : r.list.getD t 0 = wh L t := by
  rcases wh_cases L t with e | ⟨i, e⟩
  · rw [e]; exact h.no t ht (wh_no.1 e)
  · rw [e]; obtain ⟨h1, h2⟩ := wh_yes e; exact (h.yes i t h1 h2).2
theorem Inv.wh_of {r : Raw} {L : List (List Nat)} (h : Inv r L) {t i : Nat} (hi : i < L.length) (hm : t ∈ gl L i) : Go.Proofs.Ytffjaaolcphonaa.wh L t = (i : Int) := by
  have h1 := h.yes i t hi hm
  rw [← h.wh h1.1, h1.2]

/-- The links at B are these lists of T things. -/
def LsAt (w : World) (B : LB) (T : Nat) (L : List (List Nat)) : Prop := ∃ r, RawAt w B r ∧ Inv r L ∧ r.things = T
theorem LsAt.fr {w w' : World} {B : LB} {T : Nat} {L : List (List Nat)} (h : LsAt w B T L) {F : Nat → Prop} (hf : Fr F w w') (hd : ∀ k, B.foot k → ¬ F k) : LsAt w' B T L := by
  obtain ⟨r, h1, h2, h3⟩ := h; exact ⟨r, h1.fr hf hd, h2, h3⟩
theorem LsAt.still {w w' : World} {B : LB} {T : Nat} {L : List (List Nat)} (h : LsAt w B T L) (hf : Still w w') : LsAt w' B T L := h.fr hf fun _ _ h => h
theorem LsAt.lt {w : World} {B : LB} {T : Nat} {L : List (List Nat)} (h : LsAt w B T L) {k : Nat} (hk : B.foot k) : k < w.heap.size := by
  obtain ⟨r, h, _⟩ := h
  simp only [LB.foot] at hk
  rcases hk with rfl | rfl | rfl | rfl | rfl
  · exact h.hp.lt
  · exact h.hn.lt
  · exact h.hb.lt
  · exact h.hl.lt
  · exact h.hc.lt

def pushE (T : Nat) (L : List (List Nat)) (i t : Int) : Int := if inR i L.length ∧ inR t T then (if wh L t.toNat = -1 then 0 else 5) else 8
def pushL (T : Nat) (L : List (List Nat)) (i t : Int) : List (List Nat) := if pushE T L i t = 0 then L.set i.toNat (gl L i.toNat ++ [t.toNat]) else L
def frontL (T : Nat) (L : List (List Nat)) (i t : Int) : List (List Nat) := if pushE T L i t = 0 then L.set i.toNat (t.toNat :: gl L i.toNat) else L
theorem mayE_eq {r : Raw} {L : List (List Nat)} (h : Inv r L) (i t : Int) : mayE r i t = pushE r.things L i t := by
  unfold mayE pushE
  rw [h.len]
  by_cases h1 : inR i r.count.length ∧ inR t r.things
  · rw [if_pos h1, if_pos h1, h.wh (by have := h1.2; unfold inR at this; omega)]
  · rw [if_neg h1, if_neg h1]
theorem pushE_zero {T : Nat} {L : List (List Nat)} {i t : Int} (h : pushE T L i t = 0) : inR i L.length ∧ inR t T ∧ wh L t.toNat = -1 := by
  unfold pushE at h
  split at h
  · rename_i h1
    split at h
    · rename_i h2; exact ⟨h1.1, h1.2, h2⟩
    · omega
  · omega
theorem push_ls {w : World} {B : LB} {T : Nat} {L : List (List Nat)} (h : LsAt w B T L) (i t : Int) : Calls Try.prog 21 #[.pointer (some ⟨B.p, 0, none⟩), .int .i64 i, .int .i64 t] w fun e w' =>
    e = .returned (.int .i64 (pushE T L i t)) ∧ LsAt w' B T (pushL T L i t) ∧ Fr B.foot w w' := by
  obtain ⟨r, hr, hv, rfl⟩ := h
  have he := mayE_eq hv i t
  by_cases h0 : pushE r.things L i t = 0
  · obtain ⟨hi, ht, hw⟩ := pushE_zero h0
    obtain ⟨i, rfl⟩ := Int.eq_ofNat_of_zero_le hi.1
    obtain ⟨t, rfl⟩ := Int.eq_ofNat_of_zero_le ht.1
    have hi' : i < L.length := by have := hi.2; omega
    have ht' : t < r.things := by have := ht.2; omega
    obtain ⟨p, hp1, hp2, hp3, hv'⟩ := inv_push hv hr.sz hi' ht' (wh_no.1 hw)
    refine (push_ok w B r hr i t p (r.things + i) (gl L i).length (he.trans h0) (hv.len ▸ hi') ht' hp2 hp1 hp3 (by rw [hr.lnext, ← hv.len]; omega) (hv.cnt i hi') (by have := hv.le hi'; have := hr.t1; omega)).mono ?_
    rintro e w' ⟨rfl, h1, h2⟩
    refine ⟨by rw [h0], ⟨_, h1, ?_, rfl⟩, h2⟩
    unfold pushL; rw [if_pos h0, Int.toNat_natCast, Int.toNat_natCast]; exact hv'
  · refine (push_err w B r hr i t _ he (by simpa using h0)).mono ?_
    rintro e w' ⟨rfl, h1⟩
    refine ⟨rfl, ?_, h1.fr _⟩
    unfold pushL; rw [if_neg h0]; exact ⟨r, hr.still h1, hv, rfl⟩
theorem front_ls {w : World} {B : LB} {T : Nat} {L : List (List Nat)} (h : LsAt w B T L) (i t : Int) : Calls Try.prog 22 #[.pointer (some ⟨B.p, 0, none⟩), .int .i64 i, .int .i64 t] w fun e w' =>
    e = .returned (.int .i64 (pushE T L i t)) ∧ LsAt w' B T (frontL T L i t) ∧ Fr B.foot w w' := by
  obtain ⟨r, hr, hv, rfl⟩ := h
  have he := mayE_eq hv i t
  by_cases h0 : pushE r.things L i t = 0
  · obtain ⟨hi, ht, hw⟩ := pushE_zero h0
    obtain ⟨i, rfl⟩ := Int.eq_ofNat_of_zero_le hi.1
    obtain ⟨t, rfl⟩ := Int.eq_ofNat_of_zero_le ht.1
    have hi' : i < L.length := by have := hi.2; omega
    have ht' : t < r.things := by have := ht.2; omega
    obtain ⟨s, hs1, hs2, hv'⟩ := inv_front hv hr.sz hi' ht' (wh_no.1 hw)
    refine (front_ok w B r hr i t s (gl L i).length (he.trans h0) (hv.len ▸ hi') ht' hs2 hs1 (hv.cnt i hi') (by have := hv.le hi'; have := hr.t1; omega)).mono ?_
    rintro e w' ⟨rfl, h1, h2⟩
    refine ⟨by rw [h0], ⟨_, h1, ?_, rfl⟩, h2⟩
    unfold frontL; rw [if_pos h0, Int.toNat_natCast, Int.toNat_natCast]; exact hv'
  · refine (front_err w B r hr i t _ he (by simpa using h0)).mono ?_
    rintro e w' ⟨rfl, h1⟩
    refine ⟨rfl, ?_, h1.fr _⟩
    unfold frontL; rw [if_neg h0]; exact ⟨r, hr.still h1, hv, rfl⟩

def whI (T : Nat) (L : List (List Nat)) (t : Int) : Int := if inR t T then wh L t.toNat else -1
theorem where_ls {w : World} {B : LB} {T : Nat} {L : List (List Nat)} (h : LsAt w B T L) (t : Int) : Calls Try.prog 29 #[.pointer (some ⟨B.p, 0, none⟩), .int .i64 t] w fun e w' => e = .returned (.int .i64 (whI T L t)) ∧ w = w' := by
  obtain ⟨r, hr, hv, rfl⟩ := h
  unfold whI
  by_cases ht : inR t r.things
  · rw [if_pos ht]
    obtain ⟨t, rfl⟩ := Int.eq_ofNat_of_zero_le ht.1
    have ht' : t < r.things := by have := ht.2; omega
    rw [Int.toNat_natCast, ← hv.wh ht']
    exact where_yes w B r hr t ht'
  · rw [if_neg ht]
    exact where_no w B r hr t (inR_no ht)
def lenI (L : List (List Nat)) (i : Int) : Int := if inR i L.length then ((gl L i.toNat).length : Int) else 0
theorem len_ls {w : World} {B : LB} {T : Nat} {L : List (List Nat)} (h : LsAt w B T L) (i : Int) : Calls Try.prog 25 #[.pointer (some ⟨B.p, 0, none⟩), .int .i64 i] w fun e w' => e = .returned (.int .i64 (lenI L i)) ∧ w = w' := by
  obtain ⟨r, hr, hv, rfl⟩ := h
  unfold lenI
  by_cases hi : inR i L.length
  · rw [if_pos hi]
    obtain ⟨i, rfl⟩ := Int.eq_ofNat_of_zero_le hi.1
    have hi' : i < L.length := by have := hi.2; omega
    rw [Int.toNat_natCast, ← hv.cnt i hi']
    exact len_yes w B r hr i (hv.len ▸ hi')
  · rw [if_neg hi]
    exact len_no w B r hr i (inR_no (hv.len ▸ hi))

def remE' (T : Nat) (L : List (List Nat)) (t : Int) : Int := if inR t T then (if wh L t.toNat = -1 then 4 else 0) else 8
def remL (T : Nat) (L : List (List Nat)) (t : Int) : List (List Nat) := if remE' T L t = 0 then L.set (wh L t.toNat).toNat ((gl L (wh L t.toNat).toNat).erase t.toNat) else L
theorem remove_ls {w : World} {B : LB} {T : Nat} {L : List (List Nat)} (h : LsAt w B T L) (t : Int) : Calls Try.prog 42 #[.pointer (some ⟨B.p, 0, none⟩), .int .i64 t] w fun e w' =>
    e = .returned (.int .i64 (remE' T L t)) ∧ LsAt w' B T (remL T L t) ∧ Fr B.foot w w' := by
  obtain ⟨r, hr, hv, rfl⟩ := h
  have he : remE r t = remE' r.things L t := by
    unfold remE remE'
    by_cases h1 : inR t r.things
    · rw [if_pos h1, if_pos h1, hv.wh (by unfold inR at h1; omega)]
    · rw [if_neg h1, if_neg h1]
  by_cases h0 : remE' r.things L t = 0
  · have ht : inR t r.things ∧ wh L t.toNat ≠ -1 := by
      unfold remE' at h0
      split at h0
      · rename_i h1
        split at h0
        · omega
        · rename_i h2; exact ⟨h1, h2⟩
      · omega
    obtain ⟨ht, hw⟩ := ht
    obtain ⟨t, rfl⟩ := Int.eq_ofNat_of_zero_le ht.1
    rw [Int.toNat_natCast] at hw
    have ht' : t < r.things := by have := ht.2; omega
    obtain ⟨i, hi⟩ := (wh_cases L t).resolve_left hw
    obtain ⟨hil, him⟩ := wh_yes hi
    obtain ⟨xs, ys, hL⟩ := List.append_of_mem him
    obtain ⟨a, b, ha, hb, ha2, hb2, _, hv'⟩ := inv_del hv hr.sz hil hL
    refine (remove_ok w B r hr t a b i (gl L i).length ht' (hv.len ▸ hil) ha hb ha2 hb2 (by rw [hv.wh ht', hi]) (hv.cnt i hil) (by have := hv.le hil; have := hr.t1; omega)).mono ?_
    rintro e w' ⟨rfl, h1, h2⟩
    refine ⟨by rw [h0], ⟨_, h1, ?_, rfl⟩, h2⟩
    unfold remL; rw [if_pos h0, Int.toNat_natCast, hi, Int.toNat_natCast]
    have hnx : t ∉ xs := by
      have := hv.nd i hil
      rw [hL] at this
      exact fun hx => (List.nodup_append.1 this).2.2 t hx t (by simp) rfl
    have e : (gl L i).erase t = xs ++ ys := by rw [hL, List.erase_append_right _ hnx]; simp
    rw [e]; exact hv'
  · refine (remove_err w B r hr t _ he (by simpa using h0)).mono ?_
    rintro e w' ⟨rfl, h1⟩
    refine ⟨rfl, ?_, h1.fr _⟩
    unfold remL; rw [if_neg h0]; exact ⟨r, hr.still h1, hv, rfl⟩

/-- The first of a list. -/
def popT (L : List (List Nat)) (i : Int) : Int := if inR i L.length then (((gl L i.toNat).head?.getD 0 : Nat) : Int) else 0
def popE' (L : List (List Nat)) (i : Int) : Int := if inR i L.length then (if gl L i.toNat = [] then 4 else 0) else 8
def popL (L : List (List Nat)) (i : Int) : List (List Nat) := if popE' L i = 0 then L.set i.toNat (gl L i.toNat).tail else L
theorem pop_ls {w : World} {B : LB} {T : Nat} {L : List (List Nat)} (h : LsAt w B T L) (i : Int) : Calls Try.prog 41 #[.pointer (some ⟨B.p, 0, none⟩), .int .i64 i] w fun e w' =>
    e = .returned (.tuple #[.int .i64 (popT L i), .int .i64 (popE' L i)]) ∧ LsAt w' B T (popL L i) ∧ Fr B.foot w w' := by
  obtain ⟨r, hr, hv, rfl⟩ := h
  have he : popE r i = popE' L i := by
    unfold popE popE'
    rw [hv.len]
    by_cases h1 : inR i r.count.length
    · rw [if_pos h1, if_pos h1, hv.cnt i.toNat (by rw [hv.len]; unfold inR at h1; omega)]
      by_cases h2 : gl L i.toNat = []
      · simp [h2]
      · rw [if_neg h2, if_neg (by simpa using h2)]
    · rw [if_neg h1, if_neg h1]
  by_cases h0 : popE' L i = 0
  · have ht : inR i L.length ∧ gl L i.toNat ≠ [] := by
      unfold popE' at h0
      split at h0
      · rename_i h1
        split at h0
        · omega
        · rename_i h2; exact ⟨h1, h2⟩
      · omega
    obtain ⟨hi, hne⟩ := ht
    obtain ⟨i, rfl⟩ := Int.eq_ofNat_of_zero_le hi.1
    rw [Int.toNat_natCast] at hne
    have hi' : i < L.length := by have := hi.2; omega
    obtain ⟨t, ys, hL⟩ := List.exists_cons_of_ne_nil hne
    have htm : t ∈ gl L i := by rw [hL]; simp
    have hyt := hv.yes i t hi' htm
    obtain ⟨a, b, ha, hb, ha2, hb2, ha3, hv'⟩ := inv_del hv hr.sz (xs := []) hi' hL
    simp at ha3; subst ha3
    obtain ⟨q0, hq0, hs⟩ := hv.seq hr.sz hi'
    rw [hL] at hs
    obtain ⟨rfl, _⟩ := hs
    refine (pop_ok w B r hr i q0 b (gl L i).length hyt.1 (hv.len ▸ hi') hb hq0 ha2 hb2 hyt.2 (hv.cnt i hi') (by have := hv.le hi'; have := hr.t1; omega) (by rw [hL]; simp)).mono ?_
    rintro e w' ⟨rfl, h1, h2⟩
    refine ⟨?_, ⟨_, h1, ?_, rfl⟩, h2⟩
    · rw [h0]; unfold popT; rw [if_pos hi, Int.toNat_natCast, hL]; rfl
    · unfold popL; rw [if_pos h0, Int.toNat_natCast]
      have e : (gl L i).tail = [] ++ ys := by rw [hL]; rfl
      rw [e]; exact hv'
  · refine (pop_err w B r hr i _ he (by simpa using h0)).mono ?_
    rintro e w' ⟨rfl, h1⟩
    refine ⟨?_, ?_, h1.fr _⟩
    · unfold popT
      by_cases hi : inR i L.length
      · have : gl L i.toNat = [] := by
          unfold popE' at h0; rw [if_pos hi] at h0
          by_cases h2 : gl L i.toNat = []
          · exact h2
          · rw [if_neg h2] at h0; exact absurd rfl h0
        rw [if_pos hi, this]; rfl
      · rw [if_neg hi]
    · unfold popL; rw [if_neg h0]; exact ⟨r, hr.still h1, hv, rfl⟩

theorem new_ls (w : World) (t m : Nat) (t0 : 1 ≤ t) (t1 : t ≤ 4096) (m0 : 1 ≤ m) (m1 : m ≤ 4096) : Calls Try.prog 19 #[.int .i64 t, .int .i64 m] w fun e w' =>
    ∃ B : LB, e = .returned (.pointer (some ⟨B.p, 0, none⟩)) ∧ LsAt w' B t (List.replicate m []) ∧ Still w w' ∧ ∀ k, B.foot k → w.heap.size ≤ k :=
  (new_ok w t m t0 t1 m0 m1).mono fun _ _ ⟨B, h1, h2, h3, h4⟩ => ⟨B, h1, ⟨_, h2, inv_new t m, rfl⟩, h3, h4⟩
theorem copy_ls {w : World} {B : LB} {T : Nat} {L : List (List Nat)} (h : LsAt w B T L) : Calls Try.prog 38 #[.pointer (some ⟨B.p, 0, none⟩)] w fun e w' =>
    ∃ C : LB, e = .returned (.pointer (some ⟨C.p, 0, none⟩)) ∧ LsAt w' C T L ∧ Still w w' ∧ ∀ k, C.foot k → w.heap.size ≤ k := by
  obtain ⟨r, hr, hv, rfl⟩ := h
  exact (copy_any w B r hr).mono fun _ _ ⟨C, h1, h2, h3, h4⟩ => ⟨C, h1, ⟨_, h2, hv, rfl⟩, h3, h4⟩
end Go.Proofs.Ytffjaaolcphonaa
