/- The links' closures: what each tells. -/
import Derived.Test.YtffjaaolcphonaaFirst
namespace Go.Proofs.Ytffjaaolcphonaa
open Go.RowKit

/-- A boxed variable. -/
def Box (w : World) (b : Nat) (v : Value) (T : TypeId) : Prop := Blk w b [v] T
theorem Box.c {w : World} {b : Nat} {v : Value} {T : TypeId} (h : Box w b v T) : w.cell? ⟨b, 0, none⟩ = some v := by rw [Blk.cell h]; rfl
theorem Box.still {w w' : World} {b : Nat} {v : Value} {T : TypeId} (h : Box w b v T) (hs : Still w w') : Box w' b v T := Blk.still h hs

def inR (i : Int) (n : Nat) : Prop := 0 ≤ i ∧ i < (n : Int)
instance (i : Int) (n : Nat) : Decidable (inR i n) := inferInstanceAs (Decidable (_ ∧ _))
theorem inR_no {i : Int} {n : Nat} (h : ¬ inR i n) : i < 0 ∨ (n : Int) ≤ i := by unfold inR at h; omega

theorem isList_dec (w : World) (B : LB) (r : Raw) (h : RawAt w B r) (i : Int) : Calls Try.prog 81 #[.pointer (some ⟨B.p, 0, none⟩), .int .i64 i] w fun e w' => e = .returned (.bool (decide (inR i r.count.length))) ∧ w = w' := by
  by_cases hi : inR i r.count.length
  · rw [decide_eq_true hi]; exact isList_yes w B r h i hi.1 hi.2
  · rw [decide_eq_false hi]; exact isList_no w B r h i (inR_no hi)
theorem isThing_dec (w : World) (B : LB) (r : Raw) (h : RawAt w B r) (i : Int) : Calls Try.prog 89 #[.pointer (some ⟨B.p, 0, none⟩), .int .i64 i] w fun e w' => e = .returned (.bool (decide (inR i r.things))) ∧ w = w' := by
  by_cases hi : inR i r.things
  · rw [decide_eq_true hi]; exact isThing_yes w B r h i hi.1 hi.2
  · rw [decide_eq_false hi]; exact isThing_no w B r h i (inR_no hi)

/-- Two results. -/
def Two (b : Bool) (n : Int) (w : World) (e : Ending) (w' : World) : Prop := e = .returned (.tuple #[.bool b, .int .i64 n]) ∧ Still w w'

theorem may1 (w : World) (B : LB) (r : Raw) (h : RawAt w B r) (b1 b2 b3 : Nat) (i t : Int) (h1 : Box w b1 (.pointer (some ⟨B.p, 0, none⟩)) 23) (h2 : Box w b2 (.int .i64 i) 3) (h3 : Box w b3 (.int .i64 t) 3) :
    Calls Try.prog 131 #[.pointer (some ⟨b1, 0, none⟩), .pointer (some ⟨b2, 0, none⟩), .pointer (some ⟨b3, 0, none⟩)] w (Two (decide (¬ inR i r.count.length ∨ ¬ inR t r.things)) 8 w) := by
  have c1 := h1.c
  have c2 := h2.c
  have c3 := h3.c
  by_cases hi : inR i r.count.length
  · by_cases ht : inR t r.things
    · have hd := hid (decide_eq_false (p := (¬ inR i r.count.length ∨ ¬ inR t r.things)) (by simp [hi, ht]))
      go_enter Try.func131, Try.ntmps131
      go_wp2_with (first | (go_at_call 81; refine (isList_yes _ B r h _ hi.1 hi.2).mono ?_; rintro e w' ⟨rfl, rfl⟩) | (go_at_call 89; refine (isThing_yes _ B r h _ ht.1 ht.2).mono ?_; rintro e w' ⟨rfl, rfl⟩))
      go_ret2
      exact ⟨by rw [hd.out]; rfl, Still.refl _⟩
    · have hd := hid (decide_eq_true (p := (¬ inR i r.count.length ∨ ¬ inR t r.things)) (by simp [hi, ht]))
      go_enter Try.func131, Try.ntmps131
      go_wp2_with (first | (go_at_call 81; refine (isList_yes _ B r h _ hi.1 hi.2).mono ?_; rintro e w' ⟨rfl, rfl⟩) | (go_at_call 89; refine (isThing_no _ B r h _ (inR_no ht)).mono ?_; rintro e w' ⟨rfl, rfl⟩))
      go_ret2
      exact ⟨by rw [hd.out]; rfl, Still.refl _⟩
  · have hd := hid (decide_eq_true (p := (¬ inR i r.count.length ∨ ¬ inR t r.things)) (by simp [hi]))
    go_enter Try.func131, Try.ntmps131
    go_wp2_with (first | (go_at_call 81; refine (isList_no _ B r h _ (inR_no hi)).mono ?_; rintro e w' ⟨rfl, rfl⟩))
    go_ret2
    exact ⟨by rw [hd.out]; rfl, Still.refl _⟩
theorem move1 (w : World) (B : LB) (r : Raw) (h : RawAt w B r) (b1 b2 b3 : Nat) (i t : Int) (h1 : Box w b1 (.pointer (some ⟨B.p, 0, none⟩)) 23) (h2 : Box w b2 (.int .i64 i) 3) (h3 : Box w b3 (.int .i64 t) 3) :
    Calls Try.prog 80 #[.pointer (some ⟨b1, 0, none⟩), .pointer (some ⟨b2, 0, none⟩), .pointer (some ⟨b3, 0, none⟩)] w (Two (decide (¬ inR i r.count.length ∨ ¬ inR t r.count.length)) 8 w) := by
  have c1 := h1.c
  have c2 := h2.c
  have c3 := h3.c
  by_cases hi : inR i r.count.length
  · have hd := hid (show decide (¬ inR i r.count.length ∨ ¬ inR t r.count.length) = !(decide (inR t r.count.length)) by simp [hi])
    go_enter Try.func80, Try.ntmps80
    go_wp2_with fail
    refine (isList_yes _ B r h _ hi.1 hi.2).mono ?_
    rintro e w' ⟨rfl, rfl⟩
    go_wp2_with fail
    refine (isList_dec _ B r h _).mono ?_
    rintro e w' ⟨rfl, rfl⟩
    go_wp2_with fail
    go_ret2
    exact ⟨by rw [hd.out]; rfl, Still.refl _⟩
  · have hd := hid (decide_eq_true (p := (¬ inR i r.count.length ∨ ¬ inR t r.count.length)) (by simp [hi]))
    go_enter Try.func80, Try.ntmps80
    go_wp2_with (first | (go_at_call 81; refine (isList_no _ B r h _ (inR_no hi)).mono ?_; rintro e w' ⟨rfl, rfl⟩))
    go_ret2
    exact ⟨by rw [hd.out]; rfl, Still.refl _⟩
theorem move2 (w : World) (b2 b3 : Nat) (i t : Int) (h2 : Box w b2 (.int .i64 i) 3) (h3 : Box w b3 (.int .i64 t) 3) :
    Calls Try.prog 82 #[.pointer (some ⟨b2, 0, none⟩), .pointer (some ⟨b3, 0, none⟩)] w (Two (i == t) 2 w) := by
  have c2 := h2.c
  have c3 := h3.c
  go_enter Try.func82, Try.ntmps82
  go_wp2
  go_ret2
  exact ⟨rfl, Still.refl _⟩
theorem pop1 (w : World) (B : LB) (r : Raw) (h : RawAt w B r) (b1 b2 : Nat) (i : Int) (h1 : Box w b1 (.pointer (some ⟨B.p, 0, none⟩)) 23) (h2 : Box w b2 (.int .i64 i) 3) :
    Calls Try.prog 94 #[.pointer (some ⟨b1, 0, none⟩), .pointer (some ⟨b2, 0, none⟩)] w (Two (decide (¬ inR i r.count.length)) 8 w) := by
  have c1 := h1.c
  have c2 := h2.c
  have hd := hid (show decide (¬ inR i r.count.length) = !(decide (inR i r.count.length)) by simp)
  go_enter Try.func94, Try.ntmps94
  go_wp2_with (first | (go_at_call 81; refine (isList_dec _ B r h _).mono ?_; rintro e w' ⟨rfl, rfl⟩))
  go_ret2
  exact ⟨by rw [hd.out]; rfl, Still.refl _⟩
theorem remove1 (w : World) (B : LB) (r : Raw) (h : RawAt w B r) (b1 b2 : Nat) (i : Int) (h1 : Box w b1 (.pointer (some ⟨B.p, 0, none⟩)) 23) (h2 : Box w b2 (.int .i64 i) 3) :
    Calls Try.prog 97 #[.pointer (some ⟨b1, 0, none⟩), .pointer (some ⟨b2, 0, none⟩)] w (Two (decide (¬ inR i r.things)) 8 w) := by
  have c1 := h1.c
  have c2 := h2.c
  have hd := hid (show decide (¬ inR i r.things) = !(decide (inR i r.things)) by simp)
  go_enter Try.func97, Try.ntmps97
  go_wp2_with (first | (go_at_call 89; refine (isThing_dec _ B r h _).mono ?_; rintro e w' ⟨rfl, rfl⟩))
  go_ret2
  exact ⟨by rw [hd.out]; rfl, Still.refl _⟩
theorem may2 (w : World) (B : LB) (r : Raw) (h : RawAt w B r) (b1 b2 : Nat) (t : Nat) (v : Int) (hv : v = r.list.getD t 0) (ht : t < r.things) (h1 : Box w b1 (.pointer (some ⟨B.p, 0, none⟩)) 23) (h2 : Box w b2 (.int .i64 t) 3) :
    Calls Try.prog 132 #[.pointer (some ⟨b1, 0, none⟩), .pointer (some ⟨b2, 0, none⟩)] w (Two (v != -1) 5 w) := by
  have c1 := h1.c
  have c2 := h2.c
  have F3 := h.f3
  have hi : (t : Int) < (r.things : Int) := by omega
  have C : w.cell? ⟨B.l, t, none⟩ = some (.int .i64 v) := hv ▸ h.hl.cell (by rw [h.llist]; omega)
  clear hv
  go_enter Try.func132, Try.ntmps132
  go_wp2
  go_quiet (fail)
  go_wp2
  go_ret2
  exact ⟨rfl, (Fr.refl _ _).drewN _⟩
theorem remove2 (w : World) (B : LB) (r : Raw) (h : RawAt w B r) (b1 b2 : Nat) (t : Nat) (v : Int) (hv : v = r.list.getD t 0) (ht : t < r.things) (h1 : Box w b1 (.pointer (some ⟨B.p, 0, none⟩)) 23) (h2 : Box w b2 (.int .i64 t) 3) :
    Calls Try.prog 98 #[.pointer (some ⟨b1, 0, none⟩), .pointer (some ⟨b2, 0, none⟩)] w (Two (v == -1) 4 w) := by
  have c1 := h1.c
  have c2 := h2.c
  have F3 := h.f3
  have hi : (t : Int) < (r.things : Int) := by omega
  have C : w.cell? ⟨B.l, t, none⟩ = some (.int .i64 v) := hv ▸ h.hl.cell (by rw [h.llist]; omega)
  clear hv
  go_enter Try.func98, Try.ntmps98
  go_wp2
  go_quiet (fail)
  go_wp2
  go_ret2
  exact ⟨rfl, (Fr.refl _ _).drewN _⟩
theorem pop2 (w : World) (B : LB) (r : Raw) (h : RawAt w B r) (b1 b2 : Nat) (t : Nat) (v : Int) (hv : v = r.count.getD t 0) (ht : t < r.count.length) (h1 : Box w b1 (.pointer (some ⟨B.p, 0, none⟩)) 23) (h2 : Box w b2 (.int .i64 t) 3) :
    Calls Try.prog 95 #[.pointer (some ⟨b1, 0, none⟩), .pointer (some ⟨b2, 0, none⟩)] w (Two (v == 0) 4 w) := by
  have c1 := h1.c
  have c2 := h2.c
  have F4 := h.f4
  have hi : (t : Int) < (r.count.length : Int) := by omega
  have C : w.cell? ⟨B.c, t, none⟩ = some (.int .i64 v) := hv ▸ h.hc.cell ht
  clear hv
  go_enter Try.func95, Try.ntmps95
  go_wp2
  go_quiet (fail)
  go_wp2
  go_ret2
  exact ⟨rfl, (Fr.refl _ _).drewN _⟩
end Go.Proofs.Ytffjaaolcphonaa
