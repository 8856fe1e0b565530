/- The slots in the world: their block, mark. -/
import Derived.Test.YtffjaaolcphonaaDoorIds1
import Derived.Laws.BitsAll
namespace Go.Proofs.YtffjaaolcphonaaDoor
open Go.RowKit
/-- Slots: of each index its age, and whether it is free; how many are taken. -/
structure SS where
  ages : List Int
  fr : List Bool
  n : Int
structure SB where
  P : Nat
  A : Nat
  c : Nat
def SB.foot (B : SB) (k : Nat) : Prop := k = B.P ∨ k = B.A
def words (W : Nat → Nat) : List Value := (List.range 64).map fun k => Value.int .u64 ((W k : Nat) : Int)
def cellsS (B : SB) (s : SS) (W : Nat → Nat) : List Value := sl B.A s.ages.length B.c :: (words W ++ [.int .i64 s.n])
structure WAt (W : Nat → Nat) (fr : List Bool) : Prop where
  lt : ∀ k, W k < 18446744073709551616
  bit : ∀ k j, k < 64 → j < 64 → (W k).testBit j = fr.getD (64 * k + j) false
structure SAt (w : World) (B : SB) (s : SS) : Prop where
  hp : ∃ W, WAt W s.fr ∧ Blk w B.P (cellsS B s W) 53
  ha : IBlk w B.A s.ages
  PA : B.P ≠ B.A
  lf : s.fr.length = s.ages.length
  T0 : 1 ≤ s.ages.length
  T1 : s.ages.length ≤ 4096
theorem SAt.fr {w w' : World} {B : SB} {s : SS} (h : SAt w B s) {F : Nat → Prop} (hf : Fr F w w') (hd : ∀ k, B.foot k → ¬ F k) : SAt w' B s :=
  { h with hp := by obtain ⟨W, h1, h2⟩ := h.hp; exact ⟨W, h1, h2.fr hf (hd _ (.inl rfl))⟩, ha := IBlk.fr h.ha hf (hd _ (.inr rfl)) }
theorem SAt.still {w w' : World} {B : SB} {s : SS} (h : SAt w B s) (hf : Still w w') : SAt w' B s := h.fr hf fun _ _ h => h
theorem SAt.lt {w : World} {B : SB} {s : SS} (h : SAt w B s) {k : Nat} (hk : B.foot k) : k < w.heap.size := by
  obtain ⟨W, _, h2⟩ := h.hp
  rcases hk with rfl | rfl
  · exact h2.lt
  · exact h.ha.lt
theorem words_at (W : Nat → Nat) (k : Nat) (hk : k < 64) : (words W)[k]? = some (.int .u64 ((W k : Nat) : Int)) := by simp [words, hk]
theorem words_len (W : Nat → Nat) : (words W).length = 64 := by simp [words]
def up (W : Nat → Nat) (k v : Nat) : Nat → Nat := fun j => if j = k then v else W j
theorem words_set (W : Nat → Nat) (k v : Nat) : (words W).set k (.int .u64 ((v : Nat) : Int)) = words (up W k v) := by
  apply List.ext_getElem
  · simp [words]
  · intro i h1 h2
    simp [words] at h1 h2
    simp only [List.getElem_set, words, List.getElem_map, List.getElem_range, up]
    by_cases h : k = i
    · subst h; simp
    · rw [if_neg h, if_neg (fun e => h e.symm)]
theorem cellsS_word {B : SB} {s : SS} {W : Nat → Nat} {k : Nat} (hk : k < 64) : (cellsS B s W)[1 + k]? = some (.int .u64 ((W k : Nat) : Int)) := by
  unfold cellsS
  rw [show 1 + k = k + 1 by omega, List.getElem?_cons_succ, List.getElem?_append_left (by rw [words_len]; exact hk), words_at W k hk]
theorem cellsS_n {B : SB} {s : SS} {W : Nat → Nat} : (cellsS B s W)[65]? = some (.int .i64 s.n) := by
  unfold cellsS
  rw [List.getElem?_cons_succ, List.getElem?_append_right (by rw [words_len]; omega), words_len]; rfl
theorem cellsS_put {B : SB} {s : SS} {W : Nat → Nat} {k v : Nat} (hk : k < 64) : (cellsS B s W).set (1 + k) (.int .u64 ((v : Nat) : Int)) = cellsS B s (up W k v) := by
  unfold cellsS
  rw [show 1 + k = k + 1 by omega, List.set_cons_succ, List.set_append_left _ _ (by rw [words_len]; exact hk), words_set W k v]
theorem bit_set {x : Nat} {r : Nat} (hx : x < 18446744073709551616) (hr : r < 64) : (x ||| 2 ^ r) < 18446744073709551616 := by
  have h1 : 2 ^ r < 2 ^ 64 := Nat.pow_lt_pow_right (by omega) hr
  exact Nat.or_lt_two_pow (n := 64) (by simpa using hx) h1
theorem WAt.on {W : Nat → Nat} {fr : List Bool} (h : WAt W fr) {i : Nat} (hi : i < fr.length) : WAt (up W (i / 64) (W (i / 64) ||| 2 ^ (i % 64))) (fr.set i true) := by
  refine ⟨fun k => ?_, fun k j hk hj => ?_⟩
  · unfold up; split
    · exact bit_set (h.lt _) (by omega)
    · exact h.lt k
  · unfold up
    by_cases e : k = i / 64
    · rw [if_pos e]
      subst e
      rw [Nat.testBit_or, Nat.testBit_two_pow, h.bit _ _ hk hj]
      by_cases e2 : i % 64 = j
      · rw [show 64 * (i / 64) + j = i by omega]; simp [e2, hi]
      · simp only [List.getD_eq_getElem?_getD]
        rw [List.getElem?_set_ne (by omega)]; simp [e2]
    · rw [if_neg e, h.bit _ _ hk hj]
      simp only [List.getD_eq_getElem?_getD]
      rw [List.getElem?_set_ne (by omega)]
theorem WAt.off {W : Nat → Nat} {fr : List Bool} (h : WAt W fr) {i : Nat} (hi : i < fr.length) : WAt (up W (i / 64) (W (i / 64) &&& (18446744073709551615 - 2 ^ (i % 64)))) (fr.set i false) := by
  have hp : 2 ^ (i % 64) < 2 ^ 64 := Nat.pow_lt_pow_right (by omega) (Nat.mod_lt _ (by omega))
  refine ⟨fun k => ?_, fun k j hk hj => ?_⟩
  · unfold up; split
    · exact Nat.lt_of_le_of_lt Nat.and_le_left (h.lt _)
    · exact h.lt k
  · unfold up
    by_cases e : k = i / 64
    · rw [if_pos e]
      subst e
      have hb : (18446744073709551615 - 2 ^ (i % 64)).testBit j = !decide (i % 64 = j) := by
        have := Nat.testBit_two_pow_sub_succ (n := 64) (x := 2 ^ (i % 64)) hp j
        rw [show 2 ^ 64 - (2 ^ (i % 64) + 1) = 18446744073709551615 - 2 ^ (i % 64) by omega] at this
        rw [this, Nat.testBit_two_pow]; simp [hj]
      rw [Nat.testBit_and, hb, h.bit _ _ hk hj]
      by_cases e2 : i % 64 = j
      · rw [show 64 * (i / 64) + j = i by omega]; simp [e2, hi]
      · simp only [List.getD_eq_getElem?_getD]
        rw [List.getElem?_set_ne (by omega)]; simp [e2]
    · rw [if_neg e, h.bit _ _ hk hj]
      simp only [List.getD_eq_getElem?_getD]
      rw [List.getElem?_set_ne (by omega)]
end Go.Proofs.YtffjaaolcphonaaDoor
