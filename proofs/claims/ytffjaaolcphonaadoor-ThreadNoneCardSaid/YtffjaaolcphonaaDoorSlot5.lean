/- The least free index. -/
import Derived.Test.YtffjaaolcphonaaDoorSlot4
namespace Go.Proofs.YtffjaaolcphonaaDoor
open Go.RowKit
/-- May an index be taken? -/
def may (s : SS) (i : Nat) : Bool := s.fr.getD i false && decide (s.ages.getD i 0 < 2147483647)
/-- The least that may be taken, at or behind i. -/
def leastFrom (s : SS) (i : Nat) : Nat → Option Nat
  | 0 => none
  | k + 1 => if may s i then some i else leastFrom s (i + 1) k
def leastS (s : SS) : Option Nat := leastFrom s 0 s.ages.length
theorem leastFrom_some (s : SS) : ∀ k i j, i ≤ j → j < i + k → may s j = true → (∀ m, i ≤ m → m < j → may s m = false) → leastFrom s i k = some j := by
  intro k
  induction k with
  | zero => intro i j h1 h2; omega
  | succ k ih =>
    intro i j h1 h2 h3 h4
    rw [leastFrom]
    by_cases e : i = j
    · subst e; rw [if_pos h3]
    · rw [if_neg (by rw [h4 i (Nat.le_refl _) (by omega)]; decide)]
      exact ih _ _ (by omega) (by omega) h3 fun m m1 m2 => h4 m (by omega) m2
theorem leastFrom_none (s : SS) : ∀ k i, (∀ m, i ≤ m → m < i + k → may s m = false) → leastFrom s i k = none := by
  intro k
  induction k with
  | zero => intro i _; rfl
  | succ k ih =>
    intro i h
    rw [leastFrom, if_neg (by rw [h i (Nat.le_refl _) (by omega)]; decide)]
    exact ih _ fun m m1 m2 => h m (by omega) (by omega)
theorem leastS_none {s : SS} (h : ∀ m, m < s.ages.length → may s m = false) : leastS s = none := leastFrom_none s _ _ fun m _ m2 => h m (by omega)
theorem leastS_some {s : SS} {j : Nat} (hj : j < s.ages.length) (h1 : may s j = true) (h2 : ∀ m, m < j → may s m = false) : leastS s = some j := leastFrom_some s _ _ _ (Nat.zero_le _) (by omega) h1 fun m _ m2 => h2 m m2
/-- The lowest bit, by its place. -/
theorem ctz_spec {x : Nat} (h0 : x ≠ 0) (hx : x < 18446744073709551616) : Lib.ctz 64 x < 64 ∧ x.testBit (Lib.ctz 64 x) = true ∧ ∀ j, j < Lib.ctz 64 x → x.testBit j = false := by
  have hs := Lib.ctzFrom_spec 64 x (by omega) hx
  rw [show Lib.ctz 64 x = Lib.ctzFrom 64 x from if_neg h0]
  obtain ⟨m, hm, hlt⟩ := hs
  generalize Lib.ctzFrom 64 x = k at hm hlt
  refine ⟨hlt, ?_, fun j hj => ?_⟩
  · rw [hm, Nat.testBit_two_pow_mul]; simp
  · rw [hm, Nat.testBit_two_pow_mul]; simp; omega
/-- The lowest bit struck. -/
theorem strike_spec {x : Nat} (h0 : x ≠ 0) (hx : x < 18446744073709551616) (j : Nat) : (x &&& (x - 1)).testBit j = (x.testBit j && !decide (j = Lib.ctz 64 x)) := by
  have hs := Lib.ctzFrom_spec 64 x (by omega) hx
  rw [show Lib.ctz 64 x = Lib.ctzFrom 64 x from if_neg h0]
  obtain ⟨m, hm, hlt⟩ := hs
  generalize Lib.ctzFrom 64 x = k at hm hlt
  have e : x - 1 = 2 ^ k * (2 * m) + (2 ^ k - 1) := by
    have : 0 < 2 ^ k := Nat.two_pow_pos k
    rw [hm, Nat.mul_add]; omega
  have e2 : x = 2 ^ k * (2 * m + 1) + 0 := by omega
  have hk : 2 ^ k - 1 < 2 ^ k := Nat.sub_lt (Nat.two_pow_pos k) (by omega)
  rw [Nat.testBit_and, e, e2, Nat.testBit_two_pow_mul_add _ (Nat.two_pow_pos k), Nat.testBit_two_pow_mul_add _ hk]
  by_cases h1 : j < k
  · simp [h1]
  · rw [if_neg h1, if_neg h1]
    by_cases h2 : j = k
    · subst h2; simp
    · obtain ⟨d, hd⟩ : ∃ d, j - k = d + 1 := ⟨j - k - 1, by omega⟩
      rw [hd, Nat.testBit_succ, Nat.testBit_succ]
      have : (2 * m + 1) / 2 = m := by omega
      have : 2 * m / 2 = m := by omega
      simp [*]
end Go.Proofs.YtffjaaolcphonaaDoor
