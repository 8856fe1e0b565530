/- The law's act, on the links and on the document's. -/
import Derived.Test.YtffjaaolcphonaaRef5i
namespace Go.Proofs.Ytffjaaolcphonaa
open Go.RowKit
/-- What an act makes of lists, and what it tells. -/
def stepL (T : Nat) (L : List (List Nat)) (k i t : Int) : List (List Nat) :=
  if k = 0 then pushL T L i t else if k = 1 then frontL T L i t else if k = 2 then remL T L t else if k = 3 then popL L i else if k = 4 then moveL L i t else L
def tellL (T : Nat) (L : List (List Nat)) (k i t : Int) : Int × Int :=
  if k = 0 then (pushE T L i t, 0) else if k = 1 then (pushE T L i t, 0) else if k = 2 then (remE' T L t, 0) else if k = 3 then (popT L i, popE' L i) else if k = 4 then (moveN L i t, moveLE L i t) else (0, 0)
/-- The links and the document's, apart. -/
structure Both (w : World) (B : LB) (lo p R T : Nat) (L M : List (List Nat)) : Prop where
  l : LsAt w B T L
  r : RefAt w lo p R T M
  d : ∀ k, B.foot k → k < lo
def LB.both (B : LB) (R : Nat) (k : Nat) : Prop := B.foot k ∨ k = R
theorem Both.fr {w w' : World} {B : LB} {lo p R T : Nat} {L M : List (List Nat)} (h : Both w B lo p R T L M) {F : Nat → Prop} (hf : Fr F w w') (hd : ∀ k, k < w.heap.size → (B.foot k ∨ lo ≤ k) → ¬ F k) : Both w' B lo p R T L M :=
  ⟨h.l.fr hf fun k hk => hd k (h.l.lt hk) (.inl hk), h.r.fr hf fun k hk hl => hd k hl (.inr hk), h.d⟩
theorem Both.still {w w' : World} {B : LB} {lo p R T : Nat} {L M : List (List Nat)} (h : Both w B lo p R T L M) (hf : Still w w') : Both w' B lo p R T L M := h.fr hf fun _ _ _ h => h
theorem Both.stepl {w w' : World} {B : LB} {lo p R T : Nat} {L L' M : List (List Nat)} (h : Both w B lo p R T L M) (hl : LsAt w' B T L') (hf : Fr B.foot w w') : Both w' B lo p R T L' M :=
  ⟨hl, h.r.fr hf fun k hk _ hb => by have := h.d k hb; omega, h.d⟩
theorem Both.stepr {w w' : World} {B : LB} {lo p R T : Nat} {L M M' : List (List Nat)} (h : Both w B lo p R T L M) (hr : RefAt w' lo p R T M') (hf : Fr (fun k => k = R) w w') : Both w' B lo p R T L M' :=
  ⟨h.l.fr hf fun k hk hb => by have := h.d k hk; have := h.r.lR; omega, hr, h.d⟩
theorem both_frl {B : LB} {R : Nat} {w w' : World} (h : Fr B.foot w w') : Fr (B.both R) w w' := h.mono fun _ _ h => .inl h
theorem both_frr {B : LB} {R : Nat} {w w' : World} (h : Fr (fun k => k = R) w w') : Fr (B.both R) w w' := h.mono fun _ _ h => .inr h
theorem dec_pair (a b c d : Int) : decide ((a, b) = (c, d)) = ((a == c) && (b == d)) := by rw [Bool.eq_iff_iff]; simp
/-- The act's box behind a step of the links or of the document's. -/
theorem Fr.cellB {F : Nat → Prop} {w w' : World} (hf : Fr F w w') {b i : Nat} {v : Value} (h : w.cell? ⟨b, i, none⟩ = some v) (hn : ¬ F b) : w'.cell? ⟨b, i, none⟩ = some v := by
  rw [← h]; exact World.cell?_of_block (hf.block b (World.block_lt_of_cell? _ _ h) hn)
/-- How the act ends. -/
def ActPost (B : LB) (lo p R T : Nat) (L M : List (List Nat)) (k i t : Int) (w : World) (e : Ending) (w' : World) : Prop :=
  e = .returned (.bool (decide (tellL T L k i t = tellL T M k i t))) ∧ Both w' B lo p R T (stepL T L k i t) (stepL T M k i t) ∧ Fr (B.both R) w w'
section
variable {w : World} {B : LB} {lo p R T : Nat} {L M : List (List Nat)}
/-- The world behind the box. -/
theorem act_box (h : Both w B lo p R T L M) (k i t : Int) : ∃ W b, W = w.alloc (.cells #[.int .i64 k, .int .i64 i, .int .i64 t] 39) ∧ b = w.heap.size ∧ Both W B lo p R T L M ∧ ¬ B.foot b ∧ b ≠ R ∧ Fr (B.both R) w W ∧
    W.cell? ⟨b, 0, none⟩ = some (.int .i64 k) ∧ W.cell? ⟨b, 1, none⟩ = some (.int .i64 i) ∧ W.cell? ⟨b, 2, none⟩ = some (.int .i64 t) := by
  have e := Blk.new w [.int .i64 k, .int .i64 i, .int .i64 t] 39
  exact ⟨_, _, rfl, rfl, h.still ((Fr.refl _ _).alloc _), fun hb => (by have := h.l.lt hb; omega), (by obtain ⟨vs, _, h2, _⟩ := h.r.rows; have := h2.lt; omega), (Fr.refl _ _).alloc _, e.cell 0, e.cell 1, e.cell 2⟩

set_option maxRecDepth 100000 in
set_option maxHeartbeats 2000000 in
theorem act0 (h : Both w B lo p R T L M) (hn : Nice M) (i t : Int) :
    Calls Try.prog 28 #[.pointer (some ⟨B.p, 0, none⟩), .pointer (some ⟨p, 0, none⟩), .agg #[.int .i64 0, .int .i64 i, .int .i64 t]] w (ActPost B lo p R T L M 0 i t w) := by
  have hT1 : ∀ X : List (List Nat), tellL T X 0 i t = (pushE T X i t, 0) := fun _ => rfl
  have hS1 : ∀ X : List (List Nat), stepL T X 0 i t = pushL T X i t := fun _ => rfl
  unfold ActPost
  rw [hT1, hT1, hS1, hS1, dec_pair]
  clear hT1 hS1
  go_enter Try.func28, Try.ntmps28
  go_wp2_with fail
  obtain ⟨W, b, hW, hbb, hB, hb, hbR, hF, c0, c1, c2⟩ := act_box h 0 i t
  rw [← hW, ← hbb]
  clear hW hbb
  go_wp2_with fail
  go_region_held3 (fun w' => w'.cell? ⟨b, 1, none⟩ = some (.int .i64 i) ∧ w'.cell? ⟨b, 2, none⟩ = some (.int .i64 t))
    (first | exact ⟨c1, c2⟩ | exact ⟨d1, d2⟩ | exact ⟨e1, e2⟩)
    (first
      | (go_at_call 21; refine (push_ls (hB.still (Fr.drew (Fr.refl _ _))).l i t).mono ?_; rintro e w1 ⟨rfl, hl1, f1⟩; have d1 := f1.cellB c1 hb; have d2 := f1.cellB c2 hb; have hB1 := (hB.still (Fr.drew (Fr.refl _ _))).stepl hl1 f1)
      | (go_at_call 84; refine (rpush hB1.r hn i t).mono ?_; rintro e w2 ⟨rfl, hr2, f2⟩; have e1 := f2.cellB d1 hbR; have e2 := f2.cellB d2 hbR; have hB2 := hB1.stepr hr2 f2))
  go_wp2_with fail
  go_ret
  exact ⟨by simp, hB2, (hF.drew.then (both_frl f1) (fun _ _ h => h)).then (both_frr f2) (fun _ _ h => h)⟩

set_option maxRecDepth 100000 in
set_option maxHeartbeats 2000000 in
theorem act1 (h : Both w B lo p R T L M) (hn : Nice M) (i t : Int) :
    Calls Try.prog 28 #[.pointer (some ⟨B.p, 0, none⟩), .pointer (some ⟨p, 0, none⟩), .agg #[.int .i64 1, .int .i64 i, .int .i64 t]] w (ActPost B lo p R T L M 1 i t w) := by
  have hT1 : ∀ X : List (List Nat), tellL T X 1 i t = (pushE T X i t, 0) := fun _ => rfl
  have hS1 : ∀ X : List (List Nat), stepL T X 1 i t = frontL T X i t := fun _ => rfl
  unfold ActPost
  rw [hT1, hT1, hS1, hS1, dec_pair]
  clear hT1 hS1
  go_enter Try.func28, Try.ntmps28
  go_wp2_with fail
  obtain ⟨W, b, hW, hbb, hB, hb, hbR, hF, c0, c1, c2⟩ := act_box h 1 i t
  rw [← hW, ← hbb]
  clear hW hbb
  go_wp2_with fail
  go_region_held3 (fun w' => w'.cell? ⟨b, 1, none⟩ = some (.int .i64 i) ∧ w'.cell? ⟨b, 2, none⟩ = some (.int .i64 t))
    (first | exact ⟨c1, c2⟩ | exact ⟨d1, d2⟩ | exact ⟨e1, e2⟩)
    (first
      | (go_at_call 22; refine (front_ls (hB.still (Fr.drew (Fr.refl _ _))).l i t).mono ?_; rintro e w1 ⟨rfl, hl1, f1⟩; have d1 := f1.cellB c1 hb; have d2 := f1.cellB c2 hb; have hB1 := (hB.still (Fr.drew (Fr.refl _ _))).stepl hl1 f1)
      | (go_at_call 85; refine (rfront hB1.r hn i t).mono ?_; rintro e w2 ⟨rfl, hr2, f2⟩; have e1 := f2.cellB d1 hbR; have e2 := f2.cellB d2 hbR; have hB2 := hB1.stepr hr2 f2))
  go_wp2_with fail
  go_ret
  exact ⟨by simp, hB2, (hF.drew.then (both_frl f1) (fun _ _ h => h)).then (both_frr f2) (fun _ _ h => h)⟩

set_option maxRecDepth 100000 in
set_option maxHeartbeats 2000000 in
theorem act2 (h : Both w B lo p R T L M) (hn : Nice M) (i t : Int) :
    Calls Try.prog 28 #[.pointer (some ⟨B.p, 0, none⟩), .pointer (some ⟨p, 0, none⟩), .agg #[.int .i64 2, .int .i64 i, .int .i64 t]] w (ActPost B lo p R T L M 2 i t w) := by
  have hT1 : ∀ X : List (List Nat), tellL T X 2 i t = (remE' T X t, 0) := fun _ => rfl
  have hS1 : ∀ X : List (List Nat), stepL T X 2 i t = remL T X t := fun _ => rfl
  unfold ActPost
  rw [hT1, hT1, hS1, hS1, dec_pair]
  clear hT1 hS1
  go_enter Try.func28, Try.ntmps28
  go_wp2_with fail
  obtain ⟨W, b, hW, hbb, hB, hb, hbR, hF, c0, c1, c2⟩ := act_box h 2 i t
  rw [← hW, ← hbb]
  clear hW hbb
  go_wp2_with fail
  go_region_held3 (fun w' => w'.cell? ⟨b, 1, none⟩ = some (.int .i64 i) ∧ w'.cell? ⟨b, 2, none⟩ = some (.int .i64 t))
    (first | exact ⟨c1, c2⟩ | exact ⟨d1, d2⟩ | exact ⟨e1, e2⟩)
    (first
      | (go_at_call 42; refine (remove_ls (hB.still (Fr.drew (Fr.refl _ _))).l t).mono ?_; rintro e w1 ⟨rfl, hl1, f1⟩; have d1 := f1.cellB c1 hb; have d2 := f1.cellB c2 hb; have hB1 := (hB.still (Fr.drew (Fr.refl _ _))).stepl hl1 f1)
      | (go_at_call 86; refine (rremove hB1.r hn t).mono ?_; rintro e w2 ⟨rfl, hr2, f2⟩; have e1 := f2.cellB d1 hbR; have e2 := f2.cellB d2 hbR; have hB2 := hB1.stepr hr2 f2))
  go_wp2_with fail
  go_ret
  exact ⟨by simp, hB2, (hF.drew.then (both_frl f1) (fun _ _ h => h)).then (both_frr f2) (fun _ _ h => h)⟩

set_option maxRecDepth 100000 in
set_option maxHeartbeats 2000000 in
theorem act3 (h : Both w B lo p R T L M) (_hn : Nice M) (i t : Int) :
    Calls Try.prog 28 #[.pointer (some ⟨B.p, 0, none⟩), .pointer (some ⟨p, 0, none⟩), .agg #[.int .i64 3, .int .i64 i, .int .i64 t]] w (ActPost B lo p R T L M 3 i t w) := by
  have hT1 : ∀ X : List (List Nat), tellL T X 3 i t = (popT X i, popE' X i) := fun _ => rfl
  have hS1 : ∀ X : List (List Nat), stepL T X 3 i t = popL X i := fun _ => rfl
  unfold ActPost
  rw [hT1, hT1, hS1, hS1, dec_pair]
  clear hT1 hS1
  have P1 := fun (W : World) (hB : Both W B lo p R T L M) => pop_ls hB.l i
  have P2 := fun (W : World) (X : List (List Nat)) (hB : Both W B lo p R T X M) => rpop hB.r i
  obtain ⟨x1, hx1⟩ : ∃ x, popT L i = x := ⟨_, rfl⟩
  obtain ⟨x2, hx2⟩ : ∃ x, popE' L i = x := ⟨_, rfl⟩
  obtain ⟨y1, hy1⟩ : ∃ x, popT M i = x := ⟨_, rfl⟩
  obtain ⟨y2, hy2⟩ : ∃ x, popE' M i = x := ⟨_, rfl⟩
  rw [hx1, hx2] at P1 ⊢
  rw [hy1, hy2] at P2 ⊢
  have Q1 := hid P1
  have Q2 := hid P2
  clear hx1 hx2 hy1 hy2 P1 P2
  by_cases hxy : x1 = y1
  all_goals
    first | (have hd : (x1 == y1) = true := by simpa using hxy) | (have hd : (x1 == y1) = false := by simpa using hxy)
    have HD := hid hd
    clear hxy
    go_enter Try.func28, Try.ntmps28
    go_wp2_with fail
    obtain ⟨W, b, hW, hbb, hB, hb, hbR, hF, c0, c1, c2⟩ := act_box h 3 i t
    rw [← hW, ← hbb]
    clear hW hbb
    go_wp2_with fail
    refine (Q1.out _ hB).mono ?_
    rintro e w1 ⟨rfl, hl1, f1⟩
    have d1 := f1.cellB c1 hb
    have d2 := f1.cellB c2 hb
    have hB1 := hB.stepl hl1 f1
    go_wp2_with fail
    refine (Q2.out _ _ hB1).mono ?_
    rintro e w2 ⟨rfl, hr2, f2⟩
    have hB2 := hB1.stepr hr2 f2
    go_wp2_with fail
    go_ret
    exact ⟨by rw [HD.out]; rfl, hB2, (hF.then (both_frl f1) (fun _ _ h => h)).then (both_frr f2) (fun _ _ h => h)⟩

set_option maxRecDepth 100000 in
set_option maxHeartbeats 2000000 in
theorem act4 (h : Both w B lo p R T L M) (hn : Nice M) (i t : Int) :
    Calls Try.prog 28 #[.pointer (some ⟨B.p, 0, none⟩), .pointer (some ⟨p, 0, none⟩), .agg #[.int .i64 4, .int .i64 i, .int .i64 t]] w (ActPost B lo p R T L M 4 i t w) := by
  have hT1 : ∀ X : List (List Nat), tellL T X 4 i t = (moveN X i t, moveLE X i t) := fun _ => rfl
  have hS1 : ∀ X : List (List Nat), stepL T X 4 i t = moveL X i t := fun _ => rfl
  unfold ActPost
  rw [hT1, hT1, hS1, hS1, dec_pair]
  clear hT1 hS1
  have P1 := fun (W : World) (hB : Both W B lo p R T L M) => move_ls hB.l i t
  have P2 := fun (W : World) (X : List (List Nat)) (hB : Both W B lo p R T X M) => rmove hB.r hn i t
  obtain ⟨x1, hx1⟩ : ∃ x, moveN L i t = x := ⟨_, rfl⟩
  obtain ⟨x2, hx2⟩ : ∃ x, moveLE L i t = x := ⟨_, rfl⟩
  obtain ⟨y1, hy1⟩ : ∃ x, moveN M i t = x := ⟨_, rfl⟩
  obtain ⟨y2, hy2⟩ : ∃ x, moveLE M i t = x := ⟨_, rfl⟩
  rw [hx1, hx2] at P1 ⊢
  rw [hy1, hy2] at P2 ⊢
  have Q1 := hid P1
  have Q2 := hid P2
  clear hx1 hx2 hy1 hy2 P1 P2
  by_cases hxy : x1 = y1
  all_goals
    first | (have hd : (x1 == y1) = true := by simpa using hxy) | (have hd : (x1 == y1) = false := by simpa using hxy)
    have HD := hid hd
    clear hxy
    go_enter Try.func28, Try.ntmps28
    go_wp2_with fail
    obtain ⟨W, b, hW, hbb, hB, hb, hbR, hF, c0, c1, c2⟩ := act_box h 4 i t
    rw [← hW, ← hbb]
    clear hW hbb
    go_wp2_with fail
    refine (Q1.out _ hB).mono ?_
    rintro e w1 ⟨rfl, hl1, f1⟩
    have d1 := f1.cellB c1 hb
    have d2 := f1.cellB c2 hb
    have hB1 := hB.stepl hl1 f1
    go_wp2_with fail
    refine (Q2.out _ _ hB1).mono ?_
    rintro e w2 ⟨rfl, hr2, f2⟩
    have hB2 := hB1.stepr hr2 f2
    go_wp2_with fail
    go_ret
    exact ⟨by rw [HD.out]; rfl, hB2, (hF.then (both_frl f1) (fun _ _ h => h)).then (both_frr f2) (fun _ _ h => h)⟩

set_option maxRecDepth 100000 in
set_option maxHeartbeats 2000000 in
theorem act5 (h : Both w B lo p R T L M) (k i t : Int) (k0 : k ≠ 0) (k1 : k ≠ 1) (k2 : k ≠ 2) (k3 : k ≠ 3) (k4 : k ≠ 4) :
    Calls Try.prog 28 #[.pointer (some ⟨B.p, 0, none⟩), .pointer (some ⟨p, 0, none⟩), .agg #[.int .i64 k, .int .i64 i, .int .i64 t]] w (ActPost B lo p R T L M k i t w) := by
  have hT1 : ∀ X : List (List Nat), tellL T X k i t = (0, 0) := fun X => by unfold tellL; rw [if_neg k0, if_neg k1, if_neg k2, if_neg k3, if_neg k4]
  have hS1 : ∀ X : List (List Nat), stepL T X k i t = X := fun X => by unfold stepL; rw [if_neg k0, if_neg k1, if_neg k2, if_neg k3, if_neg k4]
  unfold ActPost
  rw [hT1, hT1, hS1, hS1]
  have a0 : (k == 0) = false := by simpa using k0
  have a1 : (k == 1) = false := by simpa using k1
  have a2 : (k == 2) = false := by simpa using k2
  have a3 : (k == 3) = false := by simpa using k3
  have a4 : (k == 4) = false := by simpa using k4
  clear hT1 hS1 k0 k1 k2 k3 k4
  go_enter Try.func28, Try.ntmps28
  go_wp2_with fail
  go_ret
  exact ⟨by simp, h.still ((Fr.refl _ _).alloc _), (Fr.refl _ _).alloc _⟩
theorem act_any (h : Both w B lo p R T L M) (hn : Nice M) (k i t : Int) :
    Calls Try.prog 28 #[.pointer (some ⟨B.p, 0, none⟩), .pointer (some ⟨p, 0, none⟩), .agg #[.int .i64 k, .int .i64 i, .int .i64 t]] w (ActPost B lo p R T L M k i t w) := by
  by_cases k0 : k = 0
  · subst k0; exact act0 h hn i t
  by_cases k1 : k = 1
  · subst k1; exact act1 h hn i t
  by_cases k2 : k = 2
  · subst k2; exact act2 h hn i t
  by_cases k3 : k = 3
  · subst k3; exact act3 h hn i t
  by_cases k4 : k = 4
  · subst k4; exact act4 h hn i t
  exact act5 h k i t k0 k1 k2 k3 k4
end
end Go.Proofs.Ytffjaaolcphonaa