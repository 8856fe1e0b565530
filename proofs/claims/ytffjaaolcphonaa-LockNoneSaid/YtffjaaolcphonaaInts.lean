/- ref03.Ints: two rows of integers are alike. -/
import Derived.Test.YtffjaaolcphonaaSmall
namespace Go.Proofs.Ytffjaaolcphonaa
open Go.RowKit

/-- A slice of integers in the world. -/
def IRow (w : World) (v : Value) (xs : List Int) : Prop :=
  (xs = [] ∧ ∃ a c, v = .slice a 0 c) ∨ (0 < xs.length ∧ ∃ b off c, v = .slice (some ⟨b, off, none⟩) xs.length c ∧ ∀ i, i < xs.length → w.cell? ⟨b, off + i, none⟩ = some (.int .i64 (xs.getD i 0)))
theorem IRow.len {w : World} {v : Value} {xs : List Int} (h : IRow w v xs) : ∃ a c, v = .slice a xs.length c := by
  rcases h with ⟨rfl, a, c, rfl⟩ | ⟨_, b, off, c, rfl, _⟩
  · exact ⟨_, _, rfl⟩
  · exact ⟨_, _, rfl⟩
theorem IRow.of_owns {w : World} {base n : Nat} {v : Value} {xs : List Int} (h : w.ownsRow base 3 1 v n (xs.map (Value.int .i64))) (hn : n = xs.length) : IRow w v xs := by
  by_cases h0 : 0 < xs.length
  · obtain ⟨g, cap, rfl, _, _, hb⟩ := IBlk.of_owns h (by omega)
    exact .inr ⟨h0, g, 0, cap, by rw [hn], fun i hi => by rw [Nat.zero_add]; exact hb.cell hi⟩
  · have : xs = [] := List.length_eq_zero_iff.1 (by omega)
    subst this
    subst hn
    obtain ⟨_, ⟨rfl, _⟩ | ⟨g, cap, _, rfl, _⟩⟩ := h
    · exact .inl ⟨rfl, _, _, rfl⟩
    · exact .inl ⟨rfl, _, _, rfl⟩
theorem IRow.of_blk {w : World} {b c : Nat} {xs : List Int} {T : TypeId} (h : Blk w b (xs.map (Value.int .i64)) T) (h0 : 0 < xs.length) : IRow w (.slice (some ⟨b, 0, none⟩) xs.length c) xs :=
  .inr ⟨h0, b, 0, c, rfl, fun i hi => by rw [Nat.zero_add, h.cell]; simp [hi]⟩
theorem getD_all {xs ys : List Int} (h : xs.length = ys.length) (k : ∀ i, i < xs.length → xs.getD i 0 = ys.getD i 0) : xs = ys := by
  apply List.ext_getElem h
  intro i h1 h2
  have := k i h1
  simpa [List.getD, h1, h2] using this

theorem ints_len (w : World) (a1 a2 : Option Addr) (n1 n2 c1 c2 : Nat) (h : n1 ≠ n2) : Calls Try.prog 26 #[.slice a1 n1 c1, .slice a2 n2 c2] w fun e w' => e = .returned (.bool false) ∧ w = w' := by
  have hd : ((n1 : Int) != (n2 : Int)) = true := by simp; omega
  go_enter Try.func26, Try.ntmps26
  go_wp2
  go_ret
  exact ⟨rfl, rfl⟩
theorem ints_zero (w : World) (a1 a2 : Option Addr) (c1 c2 : Nat) : Calls Try.prog 26 #[.slice a1 0 c1, .slice a2 0 c2] w fun e w' => e = .returned (.bool true) ∧ w = w' := by
  go_enter Try.func26, Try.ntmps26
  go_wp2
  go_loopw [13] (fun i wr => i = .int .i64 0 ∧ w = wr) (fun _ _ => 0)
  case atStart => exact ⟨rfl, rfl⟩
  case round =>
    obtain ⟨rfl, rfl⟩ := hrel
    go_wp2
    go_ret
    exact ⟨rfl, rfl⟩
theorem ints_more (w : World) (b1 o1 c1 b2 o2 c2 n : Nat) (X Y : Nat → Int) (hn : n ≤ 9223372036854775807) (hX : ∀ i, i < n → w.cell? ⟨b1, o1 + i, none⟩ = some (.int .i64 (X i))) (hY : ∀ i, i < n → w.cell? ⟨b2, o2 + i, none⟩ = some (.int .i64 (Y i))) :
    Calls Try.prog 26 #[.slice (some ⟨b1, o1, none⟩) n c1, .slice (some ⟨b2, o2, none⟩) n c2] w fun e w' => ∃ r, e = .returned (.bool r) ∧ (r = true ↔ ∀ i, i < n → X i = Y i) ∧ Still w w' := by
  have HX := hid hX
  have HY := hid hY
  clear hX hY
  go_enter Try.func26, Try.ntmps26
  go_wp2
  go_loopw [13] (fun i wr => ∃ j : Nat, i = .int .i64 j ∧ j ≤ n ∧ (∀ i, i < j → X i = Y i) ∧ Still w wr) (fun i _ => n - (intOf i).toNat)
  case atStart => exact ⟨0, rfl, Nat.zero_le _, fun _ h => absurd h (Nat.not_lt_zero _), Still.refl _⟩
  case round =>
    obtain ⟨j, rfl, hj, hall, hst⟩ := hrel
    have HA := hid hall
    clear hall
    by_cases hlt : j < n
    · have hlt' : (j : Int) < (n : Int) := by omega
      have hbw : Below w.heap.size w wr := hst.below (Nat.le_refl _) (fun _ h => h.elim)
      have cx : wr.cell? ⟨b1, o1 + j, none⟩ = some (.int .i64 (X j)) := (hbw.cell (World.block_lt_of_cell? _ _ (HX.out j hlt))).trans (HX.out j hlt)
      have cy : wr.cell? ⟨b2, o2 + j, none⟩ = some (.int .i64 (Y j)) := (hbw.cell (World.block_lt_of_cell? _ _ (HY.out j hlt))).trans (HY.out j hlt)
      obtain ⟨x, hx⟩ : ∃ x, X j = x := ⟨_, rfl⟩
      obtain ⟨y, hy⟩ : ∃ y, Y j = y := ⟨_, rfl⟩
      rw [hx] at cx
      rw [hy] at cy
      have Hx := hid hx
      have Hy := hid hy
      clear hx hy
      by_cases hxy : x = y
      · have hd : (x != y) = false := by simp [hxy]
        have HE := hid hxy
        clear hxy
        go_wp2_with fail
        go_quiet (fail)
        go_wp2_with fail
        go_roundw
        case rel =>
          refine ⟨j + 1, by go_num, by omega, fun i hi => ?_, hst.drewN _⟩
          by_cases e : i = j
          · subst e; rw [Hx.out, Hy.out]; exact HE.out
          · exact HA.out i (by omega)
        case measure => simp [intOf]; omega
      · have hd : (x != y) = true := by simp [hxy]
        have HE := hid hxy
        clear hxy
        go_wp2_with fail
        go_quiet (fail)
        go_wp2_with fail
        go_ret
        exact ⟨false, rfl, by simp; exact ⟨j, hlt, by rw [Hx.out, Hy.out]; exact HE.out⟩, hst.drewN _⟩
    · go_wp2
      go_ret
      exact ⟨true, rfl, by simp; intro i hi; exact HA.out i (by omega), hst⟩
theorem ints_ok (w : World) (v1 v2 : Value) (xs ys : List Int) (h1 : IRow w v1 xs) (h2 : IRow w v2 ys) (hl : xs.length ≤ 9223372036854775807) : Calls Try.prog 26 #[v1, v2] w fun e w' => e = .returned (.bool (decide (xs = ys))) ∧ Still w w' := by
  by_cases hn : xs.length = ys.length
  · rcases h1 with ⟨rfl, a, c, rfl⟩ | ⟨h0, b, off, c, rfl, hc⟩
    · obtain rfl : ys = [] := List.length_eq_zero_iff.1 (by simpa using hn.symm)
      obtain ⟨a2, c2, rfl⟩ := h2.len
      refine (ints_zero w a a2 c c2).mono ?_
      rintro e w' ⟨rfl, rfl⟩
      exact ⟨rfl, Still.refl _⟩
    · rcases h2 with ⟨rfl, _⟩ | ⟨_, b2, off2, c2, rfl, hc2⟩
      · rw [hn] at h0; exact absurd h0 (by simp)
      · rw [← hn] at hc2 ⊢
        refine (ints_more w b off c b2 off2 c2 xs.length (fun i => xs.getD i 0) (fun i => ys.getD i 0) hl hc hc2).mono ?_
        rintro e w' ⟨r, rfl, hr, hs⟩
        refine ⟨?_, hs⟩
        congr 2
        by_cases e : xs = ys
        · rw [decide_eq_true e]; exact hr.2 (by subst e; intros; rfl)
        · rw [decide_eq_false e]
          cases r with
          | false => rfl
          | true => exact absurd (getD_all hn (hr.1 rfl)) e
  · obtain ⟨a1, c1, rfl⟩ := h1.len
    obtain ⟨a2, c2, rfl⟩ := h2.len
    refine (ints_len w a1 a2 _ _ c1 c2 hn).mono ?_
    rintro e w' ⟨rfl, rfl⟩
    exact ⟨by rw [decide_eq_false (fun e => hn (by rw [e]))], Still.refl _⟩
end Go.Proofs.Ytffjaaolcphonaa
