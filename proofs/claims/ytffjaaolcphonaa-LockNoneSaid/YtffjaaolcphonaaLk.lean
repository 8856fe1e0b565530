/- Lists that are linked in two tables of numbers: plain facts. -/
namespace Lk
/-- Each one's next is its follower, whose back it is. -/
def Lk (nx bk : List Int) : List Nat → Prop
  | a :: b :: l => nx.getD a 0 = ((b : Nat) : Int) ∧ bk.getD b 0 = ((a : Nat) : Int) ∧ Lk nx bk (b :: l)
  | _ => True
theorem getD_set (l : List Int) (i j : Nat) (v : Int) (h : i < l.length) : (l.set i v).getD j 0 = if i = j then v else l.getD j 0 := by
  by_cases e : i = j
  · subst e; simp [h]
  · simp [e]
theorem Lk.append {nx bk : List Int} : ∀ {xs : List Nat} {a : Nat} {ys : List Nat}, Lk nx bk (xs ++ a :: ys) ↔ Lk nx bk (xs ++ [a]) ∧ Lk nx bk (a :: ys)
  | [], a, ys => by simp [Lk]
  | [x], a, ys => by simp [Lk, and_assoc]
  | x :: y :: xs, a, ys => by
    have := @Lk.append nx bk (y :: xs) a ys
    simp only [List.cons_append, Lk] at this ⊢
    rw [this]
    constructor
    · rintro ⟨h1, h2, h3, h4⟩; exact ⟨⟨h1, h2, h3⟩, h4⟩
    · rintro ⟨⟨h1, h2, h3⟩, h4⟩; exact ⟨h1, h2, h3, h4⟩
theorem Lk.congr {nx bk nx' bk' : List Int} : ∀ {l : List Nat}, (∀ a ∈ l.dropLast, nx'.getD a 0 = nx.getD a 0) → (∀ a ∈ l.tail, bk'.getD a 0 = bk.getD a 0) → Lk nx bk l → Lk nx' bk' l
  | [], _, _, _ => trivial
  | [_], _, _, _ => trivial
  | a :: b :: l, h1, h2, ⟨h3, h4, h5⟩ => by
    refine ⟨by rw [h1 a (by simp), h3], by rw [h2 b (by simp), h4], Lk.congr (fun c hc => h1 c ?_) (fun c hc => h2 c ?_) h5⟩
    · rw [List.dropLast_cons_of_ne_nil (by simp)]; exact List.mem_cons_of_mem _ hc
    · simp only [List.tail_cons] at hc ⊢; exact List.mem_cons_of_mem _ hc
/-- Where a link stands. -/
theorem Lk.at {nx bk : List Int} {xs : List Nat} {a b : Nat} {ys : List Nat} (h : Lk nx bk (xs ++ a :: b :: ys)) : nx.getD a 0 = (b : Int) ∧ bk.getD b 0 = (a : Int) := by
  have := (Lk.append.1 h).2
  exact ⟨this.1, this.2.1⟩
theorem Lk.left {nx bk : List Int} {xs : List Nat} {a : Nat} {ys : List Nat} (h : Lk nx bk (xs ++ a :: ys)) : Lk nx bk (xs ++ [a]) := (Lk.append.1 h).1
theorem Lk.right {nx bk : List Int} {xs : List Nat} {a : Nat} {ys : List Nat} (h : Lk nx bk (xs ++ a :: ys)) : Lk nx bk (a :: ys) := (Lk.append.1 h).2

/-- A thing goes in between p and s. -/
theorem Lk.insert {nx bk : List Int} {xs ys : List Nat} {p t s : Nat} (hl : nx.length = bk.length) (h : Lk nx bk (xs ++ p :: s :: ys)) (hp : p < nx.length) (ht : t < nx.length) (hs : s < nx.length)
    (h1 : p ∉ xs) (h2 : t ∉ xs) (h3 : t ≠ p) (h4 : t ≠ s) (h5 : t ∉ ys) (h6 : s ∉ ys) (h7 : ∀ q r, xs = q :: r → s ∉ r ∧ (p ≠ s ∨ True)) (h8 : xs = [] ∨ s ≠ p) (h9 : ∀ q r, ys = r ++ [q] → p ∉ r) (h10 : ys = [] ∨ p ≠ s) :
    Lk ((nx.set p t).set t s) ((bk.set t p).set s t) (xs ++ p :: t :: s :: ys) := by
  have hb := hl ▸ hp; have hb2 := hl ▸ ht; have hb3 := hl ▸ hs
  have a1 : Lk ((nx.set p t).set t s) ((bk.set t p).set s t) (xs ++ [p]) := by
    refine Lk.congr (fun a ha => ?_) (fun a ha => ?_) h.left
    · rw [List.dropLast_concat] at ha
      rw [getD_set _ _ _ _ (by simpa using ht), getD_set _ _ _ _ hp, if_neg (by rintro rfl; exact h2 ha), if_neg (by rintro rfl; exact h1 ha)]
    · have : a ≠ s ∧ a ≠ t := by
        cases xs with
        | nil => simp at ha
        | cons q r =>
          have hh := h7 q r rfl
          simp only [List.cons_append, List.tail_cons, List.mem_append, List.mem_singleton] at ha
          rcases ha with ha | rfl
          · exact ⟨fun e => hh.1 (e ▸ ha), fun e => h2 (e ▸ List.mem_cons_of_mem _ ha)⟩
          · exact ⟨fun e => (h8.resolve_left (by simp)) e.symm, fun e => h3 e.symm⟩
      rw [getD_set _ _ _ _ (by simpa using hb3), getD_set _ _ _ _ hb2, if_neg (Ne.symm this.1), if_neg (Ne.symm this.2)]
  have a2 : Lk ((nx.set p t).set t s) ((bk.set t p).set s t) (s :: ys) := by
    refine Lk.congr (fun a ha => ?_) (fun a ha => ?_) (Lk.right (xs := xs ++ [p]) (by simpa using h))
    · have : a ≠ p ∧ a ≠ t := by
        rcases List.eq_nil_or_concat ys with rfl | ⟨r, q, rfl⟩
        · simp at ha
        · rw [List.concat_eq_append] at *
          rw [show s :: (r ++ [q]) = (s :: r) ++ [q] by simp, List.dropLast_concat] at ha
          rcases List.mem_cons.1 ha with rfl | ha
          · exact ⟨fun e => (h10.resolve_left (by simp)) e.symm, fun e => h4 e.symm⟩
          · exact ⟨fun e => h9 q r rfl (e ▸ ha), fun e => h5 (e ▸ by simp [ha])⟩
      rw [getD_set _ _ _ _ (by simpa using ht), getD_set _ _ _ _ hp, if_neg (Ne.symm this.2), if_neg (Ne.symm this.1)]
    · simp only [List.tail_cons] at ha
      rw [getD_set _ _ _ _ (by simpa using hb3), getD_set _ _ _ _ hb2, if_neg (by rintro rfl; exact h6 ha), if_neg (by rintro rfl; exact h5 ha)]
  refine Lk.append.2 ⟨a1, ?_, ?_, ?_, ?_, a2⟩
  · rw [getD_set _ _ _ _ (by simpa using ht), getD_set _ _ _ _ hp, if_neg h3, if_pos rfl]
  · rw [getD_set _ _ _ _ (by simpa using hb3), getD_set _ _ _ _ hb2, if_neg (Ne.symm h4), if_pos rfl]
  · rw [getD_set _ _ _ _ (by simpa using ht), if_pos rfl]
  · rw [getD_set _ _ _ _ (by simpa using hb3), if_pos rfl]

/-- A round list, from its end back to it. -/
def cyc (E : Nat) (l : List Nat) : List Nat := E :: l ++ [E]
theorem Lk.other {nx bk : List Int} {l : List Nat} (h : Lk nx bk l) {p q : Nat} {v u : Int} (hp : p ∉ l) (hq : q ∉ l) : Lk (nx.set p v) (bk.set q u) l := by
  refine Lk.congr (fun a ha => ?_) (fun a ha => ?_) h
  · have : p ≠ a := by rintro rfl; exact hp (List.dropLast_subset l ha)
    simp [this]
  · have : q ≠ a := by rintro rfl; exact hq (List.mem_of_mem_tail ha)
    simp [this]

theorem cyc_push {nx bk : List Int} {E t p : Nat} {l : List Nat} (hl : nx.length = bk.length) (h : Lk nx bk (cyc E l)) (hn : (E :: l).Nodup) (ht : t ∉ E :: l) (hp : (E :: l).getLast (by simp) = p) (h1 : ∀ x ∈ E :: l, x < nx.length) (h2 : t < nx.length) :
    Lk ((nx.set p t).set t E) ((bk.set t p).set E t) (cyc E (l ++ [t])) := by
  simp only [List.mem_cons, not_or] at ht
  rcases List.eq_nil_or_concat l with rfl | ⟨r, q, rfl⟩
  · simp at hp; subst hp
    have := Lk.insert (xs := []) (p := E) (s := E) (ys := []) (t := t) hl h (h1 E (by simp)) h2 (h1 E (by simp)) (by simp) (by simp) ht.1 ht.1 (by simp) (by simp) (by simp) (by simp) (by simp) (by simp)
    exact this
  · rw [List.concat_eq_append] at *
    have hpq : p = q := by rw [← hp, List.getLast_cons (by simp), List.getLast_concat]
    subst hpq
    simp only [List.nodup_cons, List.mem_append, List.mem_singleton, not_or] at hn
    have hr : r.Nodup ∧ p ∉ r := by
      have := List.nodup_append.1 hn.2
      exact ⟨this.1, fun hm => this.2.2 p hm p (by simp) rfl⟩
    have e : cyc E (r ++ [p]) = (E :: r) ++ p :: E :: [] := by simp [cyc]
    rw [e] at h
    have := Lk.insert (xs := E :: r) (p := p) (s := E) (ys := []) (t := t) hl h (h1 p (by simp)) h2 (h1 E (by simp)) (by simp only [List.mem_cons, not_or]; exact ⟨fun e => hn.1.2 e.symm, hr.2⟩)
      (by simp only [List.mem_cons, not_or]; exact ⟨ht.1, fun hm => ht.2 (by simp [hm])⟩) (fun e => ht.2 (by simp [e])) ht.1 (by simp) (by simp) (by rintro q r' h; cases h; exact ⟨hn.1.1, .inr trivial⟩) (.inr hn.1.2) (by simp) (.inl rfl)
    simpa [cyc] using this
theorem cyc_front {nx bk : List Int} {E t s : Nat} {l : List Nat} (hl : nx.length = bk.length) (h : Lk nx bk (cyc E l)) (hn : (E :: l).Nodup) (ht : t ∉ E :: l) (hs : (l ++ [E]).head (by simp) = s) (h1 : ∀ x ∈ E :: l, x < nx.length) (h2 : t < nx.length) :
    Lk ((nx.set E t).set t s) ((bk.set t E).set s t) (cyc E (t :: l)) := by
  simp only [List.mem_cons, not_or] at ht
  cases l with
  | nil =>
    simp at hs; subst hs
    exact Lk.insert (xs := []) (p := E) (s := E) (ys := []) (t := t) hl h (h1 E (by simp)) h2 (h1 E (by simp)) (by simp) (by simp) ht.1 ht.1 (by simp) (by simp) (by simp) (by simp) (by simp) (by simp)
  | cons q r =>
    simp at hs; subst hs
    simp only [List.nodup_cons, List.mem_cons, not_or] at hn
    simp only [List.mem_cons, not_or] at ht
    have := Lk.insert (xs := []) (p := E) (s := q) (ys := r ++ [E]) (t := t) hl h (h1 E (by simp)) h2 (h1 q (by simp)) (by simp) (by simp) ht.1 ht.2.1 (by simp only [List.mem_append, List.mem_singleton, not_or]; exact ⟨ht.2.2, ht.1⟩)
      (by simp only [List.mem_append, List.mem_singleton, not_or]; exact ⟨hn.2.1, Ne.symm hn.1.1⟩) (by simp) (by simp) (by
        rintro q' r' h
        have := List.append_inj_left' h (by simp)
        subst this; exact hn.1.2) (.inr hn.1.1)
    simpa [cyc] using this

/-- A thing goes. -/
theorem cyc_del {nx bk : List Int} {E t a b : Nat} {xs ys : List Nat} (hl : nx.length = bk.length) (h : Lk nx bk (cyc E (xs ++ t :: ys))) (hn : (E :: (xs ++ t :: ys)).Nodup) (ha : (E :: xs).getLast (by simp) = a) (hb : (ys ++ [E]).head (by simp) = b)
    (h1 : ∀ x ∈ E :: (xs ++ t :: ys), x < nx.length) : Lk (nx.set a b) (bk.set b a) (cyc E (xs ++ ys)) ∧ bk.getD t 0 = (a : Int) ∧ nx.getD t 0 = (b : Int) := by
  obtain ⟨P, hP⟩ : ∃ P, E :: xs = P ++ [a] := ⟨(E :: xs).dropLast, by rw [← ha]; exact (List.dropLast_concat_getLast (by simp)).symm⟩
  obtain ⟨S, hS⟩ : ∃ S, ys ++ [E] = b :: S := ⟨(ys ++ [E]).tail, by rw [← hb]; simp⟩
  have e : cyc E (xs ++ t :: ys) = P ++ a :: t :: b :: S := by
    have : cyc E (xs ++ t :: ys) = (E :: xs) ++ t :: (ys ++ [E]) := by simp [cyc]
    rw [this, hP, hS]; simp
  have e2 : cyc E (xs ++ ys) = P ++ a :: b :: S := by
    have : cyc E (xs ++ ys) = (E :: xs) ++ (ys ++ [E]) := by simp [cyc]
    rw [this, hP, hS]; simp
  rw [e] at h
  rw [e2]
  have hk := Lk.at h
  have hk2 := Lk.at (xs := P ++ [a]) (a := t) (b := b) (ys := S) (by simpa using h)
  refine ⟨?_, hk.2, hk2.1⟩
  have hn1 : (E :: xs).Nodup := by
    have := hn; rw [show E :: (xs ++ t :: ys) = (E :: xs) ++ t :: ys by simp] at this
    exact (List.nodup_append.1 this).1
  have hn2 : (ys ++ [E]).Nodup := by
    have h3 := hn
    simp only [List.nodup_cons, List.mem_append, List.mem_cons, not_or] at h3
    have h4 := (List.nodup_append.1 h3.2).2.1
    refine List.nodup_append.2 ⟨(List.nodup_cons.1 h4).2, by simp, ?_⟩
    rintro x hx y hy rfl
    simp at hy; subst hy
    exact h3.1.2.2 hx
  have hd : ∀ x ∈ xs, x ∉ ys := by
    intro x hx hy
    have h3 := (List.nodup_cons.1 hn).2
    exact (List.nodup_append.1 h3).2.2 x hx x (by simp [hy]) rfl
  have hE : E ∉ xs ∧ E ∉ ys := by
    have h3 := (List.nodup_cons.1 hn).1
    simp only [List.mem_append, List.mem_cons, not_or] at h3
    exact ⟨h3.1, h3.2.2⟩
  have ha1 : a < nx.length := h1 a (by have : a ∈ E :: xs := by rw [hP]; simp
                                       simp only [List.mem_cons] at this ⊢; rcases this with h | h <;> simp [h])
  have hb1 : b < nx.length := h1 b (by have : b ∈ ys ++ [E] := by rw [hS]; simp
                                       simp only [List.mem_append, List.mem_singleton] at this; rcases this with h | h <;> simp [h])
  have hPa : a ∉ P := by
    rw [hP] at hn1
    exact fun hm => (List.nodup_append.1 hn1).2.2 a hm a (by simp) rfl
  have hSb : b ∉ S := by rw [hS] at hn2; exact (List.nodup_cons.1 hn2).1
  refine Lk.append.2 ⟨?_, ?_, ?_, ?_⟩
  · refine Lk.congr (fun x hx => ?_) (fun x hx => ?_) (Lk.left h)
    · rw [List.dropLast_concat] at hx
      rw [getD_set _ _ _ _ ha1, if_neg (by rintro rfl; exact hPa hx)]
    · rw [← hP, List.tail_cons] at hx
      have : b ≠ x := by
        rintro rfl
        have : b ∈ ys ++ [E] := by rw [hS]; simp
        simp only [List.mem_append, List.mem_singleton] at this
        rcases this with h | h
        · exact hd _ hx h
        · exact hE.1 (h ▸ hx)
      rw [getD_set _ _ _ _ (hl ▸ hb1), if_neg this]
  · rw [getD_set _ _ _ _ ha1, if_pos rfl]
  · rw [getD_set _ _ _ _ (hl ▸ hb1), if_pos rfl]
  · refine Lk.congr (fun x hx => ?_) (fun x hx => ?_) (Lk.right (xs := P ++ [a, t]) (a := b) (ys := S) (by simpa using h))
    · have : a ≠ x := by
        rintro rfl
        rw [← hS, List.dropLast_concat] at hx
        have : a ∈ E :: xs := by rw [hP]; simp
        rcases List.mem_cons.1 this with h | h
        · exact hE.2 (h ▸ hx)
        · exact hd _ h hx
      rw [getD_set _ _ _ _ ha1, if_neg this]
    · rw [List.tail_cons] at hx
      rw [getD_set _ _ _ _ (hl ▸ hb1), if_neg (by rintro rfl; exact hSb hx)]
end Lk
