/- The document's links: lists of lists, in the world. -/
import Derived.Test.YtffjaaolcphonaaApp2
import Derived.Test.YtffjaaolcphonaaLs2
import Derived.Test.YtffjaaolcphonaaMoves
namespace Go.Proofs.Ytffjaaolcphonaa
open Go.RowKit

/-- A row that lies in no block below lo, and not in R. -/
def RowIn (w : World) (lo R : Nat) (v : Value) (xs : List Int) : Prop := IRow w v xs ∧ (∀ b o c n, v = .slice (some ⟨b, o, none⟩) n c → lo ≤ b ∧ b ≠ R) ∧ ∀ a n c, v = .slice a n c → n ≤ c
theorem RowIn.fr {w w' : World} {lo R : Nat} {v : Value} {xs : List Int} (h : RowIn w lo R v xs) {F : Nat → Prop} (hf : Fr F w w') (hd : ∀ k, lo ≤ k → k < w.heap.size → k ≠ R → ¬ F k) : RowIn w' lo R v xs := by
  refine ⟨?_, h.2⟩
  rcases h.1 with h1 | ⟨h0, b, off, c, hv, hc⟩
  · exact .inl h1
  · refine .inr ⟨h0, b, off, c, hv, fun i hi => ?_⟩
    have hl := World.block_lt_of_cell? _ _ (hc i hi)
    have := h.2.1 b off c _ hv
    exact (World.cell?_of_block (hf.block b hl (hd b this.1 hl this.2))).trans (hc i hi)
theorem RowIn.own {w w0 : World} {base n R : Nat} {v : Value} {xs : List Int} (h : w.ownsRow base 3 1 v n (ints xs)) (hn : n = xs.length) (hR : R < base) {lo : Nat} (hlo : lo ≤ base) (_ : w0 = w) : RowIn w lo R v xs := by
  refine ⟨IRow.own h hn, ?_, ?_⟩
  rotate_left
  · rintro a n c rfl
    obtain ⟨_, ⟨h1, _⟩ | ⟨g, cap, _, hv, _, _, hg, _⟩⟩ := h
    · injection h1 with _ h2 h3; omega
    · injection hv with _ h2 h3; omega
  rintro b o c n rfl
  obtain ⟨_, ⟨_, _⟩ | ⟨g, cap, _, hv, hg, _⟩⟩ := h
  · simp_all
  · injection hv with e1 _ _
    injection e1 with e1
    injection e1 with e1 _ _
    omega
theorem RowIn.nil (w : World) (lo R : Nat) (c : Nat) : RowIn w lo R (.slice none 0 c) [] := ⟨.inl ⟨rfl, _, _, rfl⟩, fun b o c n h => (by cases h), fun a n c h => (by injection h with _ h2 h3; omega)⟩

theorem Fr.putR {R : Nat} {w W : World} (h : Fr (fun k => k = R) w W) (i : Nat) (v : Value) : Fr (fun k => k = R) w (W.setCell ⟨R, i, none⟩ v) := Fr.setCell h (p := ⟨R, i, none⟩) (.inl rfl) v
/-- The document's links lie at p, their rows' headers in block R; all of it in no block below lo. -/
structure RefAt (w : World) (lo p R T : Nat) (L : List (List Nat)) : Prop where
  hp : Blk w p [.int .i64 T, .slice (some ⟨R, 0, none⟩) L.length L.length] 126
  pR : p ≠ R
  lp : lo ≤ p
  lR : lo ≤ R
  rows : ∃ vs : List Value, vs.length = L.length ∧ Blk w R vs 28 ∧ ∀ i, i < L.length → RowIn w lo R (vs.getD i undef) (zi (gl L i))
  t1 : T ≤ 4096
  m1 : L.length ≤ 4096
  bd : ∀ i, i < L.length → ∀ x ∈ gl L i, x < T
  sh : ∀ i, i < L.length → (gl L i).length ≤ 4096

theorem RefAt.fr {w w' : World} {lo p R T : Nat} {L : List (List Nat)} (h : RefAt w lo p R T L) {F : Nat → Prop} (hf : Fr F w w') (hd : ∀ k, lo ≤ k → k < w.heap.size → ¬ F k) : RefAt w' lo p R T L :=
  { h with
    hp := h.hp.fr hf (hd _ h.lp h.hp.lt)
    rows := by
      obtain ⟨vs, h1, h2, h3⟩ := h.rows
      exact ⟨vs, h1, h2.fr hf (hd _ h.lR h2.lt), fun i hi => (h3 i hi).fr hf fun k a b _ => hd k a b⟩ }
theorem RefAt.still {w w' : World} {lo p R T : Nat} {L : List (List Nat)} (h : RefAt w lo p R T L) (hf : Still w w') : RefAt w' lo p R T L := h.fr hf fun _ _ _ h => h
theorem RefAt.f0 {w : World} {lo p R T : Nat} {L : List (List Nat)} (h : RefAt w lo p R T L) : w.cell? ⟨p, 0, none⟩ = some (.int .i64 T) := by rw [h.hp.cell]; rfl
theorem RefAt.f1 {w : World} {lo p R T : Nat} {L : List (List Nat)} (h : RefAt w lo p R T L) : w.cell? ⟨p, 1, none⟩ = some (.slice (some ⟨R, 0, none⟩) L.length L.length) := by rw [h.hp.cell]; rfl
/-- Row number i. -/
theorem RefAt.row {w : World} {lo p R T : Nat} {L : List (List Nat)} (h : RefAt w lo p R T L) {i : Nat} (hi : i < L.length) :
    ∃ a c, w.cell? ⟨R, i, none⟩ = some (.slice a (gl L i).length c) ∧ RowIn w lo R (.slice a (gl L i).length c) (zi (gl L i)) := by
  obtain ⟨vs, h1, h2, h3⟩ := h.rows
  obtain ⟨a, c, hv⟩ := (h3 i hi).1.len
  rw [zi_len] at hv
  refine ⟨a, c, ?_, hv ▸ h3 i hi⟩
  have hi' : i < vs.length := by omega
  rw [h2.cell, ← hv, List.getElem?_eq_getElem hi']; simp [hi']
theorem RefAt.frz {w : World} {lo p R T : Nat} {L : List (List Nat)} (h : RefAt w lo p R T L) (i : Nat) : w.frozen? ⟨R, i, none⟩ = false := by
  obtain ⟨vs, h1, h2, h3⟩ := h.rows
  exact h2.frozen i
theorem gl_set_self (L : List (List Nat)) (i : Nat) (l : List Nat) (h : i < L.length) : gl (L.set i l) i = l := by simp [gl, h]
theorem gl_set_ne (L : List (List Nat)) {i j : Nat} (l : List Nat) (h : i ≠ j) : gl (L.set i l) j = gl L j := by simp [gl, h]
/-- Another row at a place. -/
theorem RefAt.put {w : World} {lo p R T : Nat} {L : List (List Nat)} (h : RefAt w lo p R T L) {i : Nat} {v : Value} {l : List Nat} (hv : RowIn w lo R v (zi l)) (hb : ∀ x ∈ l, x < T) (hs : l.length ≤ 4096) :
    RefAt (w.setCell ⟨R, i, none⟩ v) lo p R T (L.set i l) := by
  have hfr : Fr (fun k => k = R) w (w.setCell ⟨R, i, none⟩ v) := (Fr.refl (fun k => k = R) w).setCell (p := ⟨R, i, none⟩) (.inl rfl) v
  obtain ⟨vs, h1, h2, h3⟩ := h.rows
  refine { h with hp := ?_, rows := ⟨vs.set i v, by simp [h1], h2.put i v, fun j hj => ?_⟩, m1 := by simpa using h.m1, bd := fun j hj x hx => ?_, sh := fun j hj => ?_ }
  · simpa using h.hp.fr hfr h.pR
  · rw [List.length_set] at hj
    by_cases e : i = j
    · subst e
      rw [gl_set_self _ _ _ hj, show (vs.set i v).getD i undef = v by simp [List.getD, h1, hj]]
      exact hv.fr hfr fun k _ _ hk => hk
    · rw [gl_set_ne _ _ e, show (vs.set i v).getD j undef = vs.getD j undef by simp [List.getD, e]]
      exact (h3 j hj).fr hfr fun k _ _ hk => hk
  · rw [List.length_set] at hj
    by_cases e : i = j
    · subst e; rw [gl_set_self _ _ _ hj] at hx; exact hb x hx
    · rw [gl_set_ne _ _ e] at hx; exact h.bd j hj x hx
  · rw [List.length_set] at hj
    by_cases e : i = j
    · subst e; rw [gl_set_self _ _ _ hj]; exact hs
    · rw [gl_set_ne _ _ e]; exact h.sh j hj

section
variable {w : World} {lo p R T : Nat} {L : List (List Nat)}
theorem rlist (h : RefAt w lo p R T L) (i : Int) : Calls Try.prog 90 #[.pointer (some ⟨p, 0, none⟩), .int .i64 i] w fun e w' => e = .returned (.bool (decide (inR i L.length))) ∧ w = w' := by
  have F1 := h.f1
  by_cases hi : inR i L.length
  · obtain ⟨i0, i1⟩ := hi
    have HD := hid (decide_eq_true (p := inR i L.length) ⟨i0, i1⟩)
    go_enter Try.func90, Try.ntmps90
    go_wp2
    go_ret
    exact ⟨by rw [HD.out]; rfl, rfl⟩
  · have HD := hid (decide_eq_false hi)
    rcases inR_no hi with h0 | h0
    all_goals
      clear hi
      go_enter Try.func90, Try.ntmps90
      go_wp2
      go_ret
      exact ⟨by rw [HD.out]; first | rfl | (simp; try omega), rfl⟩
theorem rthing (h : RefAt w lo p R T L) (i : Int) : Calls Try.prog 135 #[.pointer (some ⟨p, 0, none⟩), .int .i64 i] w fun e w' => e = .returned (.bool (decide (inR i T))) ∧ w = w' := by
  have F1 := h.f0
  by_cases hi : inR i T
  · obtain ⟨i0, i1⟩ := hi
    have HD := hid (decide_eq_true (p := inR i T) ⟨i0, i1⟩)
    go_enter Try.func135, Try.ntmps135
    go_wp2
    go_ret
    exact ⟨by rw [HD.out]; rfl, rfl⟩
  · have HD := hid (decide_eq_false hi)
    rcases inR_no hi with h0 | h0
    all_goals
      clear hi
      go_enter Try.func135, Try.ntmps135
      go_wp2
      go_ret
      exact ⟨by rw [HD.out]; first | rfl | (simp; try omega), rfl⟩
end
end Go.Proofs.Ytffjaaolcphonaa
