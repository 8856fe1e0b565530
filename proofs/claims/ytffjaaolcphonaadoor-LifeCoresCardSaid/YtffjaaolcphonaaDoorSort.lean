/- sort.Ints over a row of the call's own. -/
import Derived.Test.YtffjaaolcphonaaDoorBase
import Derived.Test.YtffjaaolcphonaaDoorShelf
import Derived.Sort.OwnSortedInts
namespace Go.Proofs.YtffjaaolcphonaaDoor
open Go.RowKit
def sortI (xs : List Int) : List Int := xs.mergeSort fun x y => decide (x ≤ y)
theorem sortI_len (xs : List Int) : (sortI xs).length = xs.length := List.length_mergeSort _
theorem sort_own (w : World) (base n : Nat) (v : Value) (xs : List Int) (h : w.ownsRow base 3 1 v n (ints xs)) (hn : n = xs.length) (hl : xs.length ≤ 1000000) :
    Calls Tryd.prog 87 #[v] w fun e w' => e = .returned (.tuple #[]) ∧ w'.ownsRow base 3 1 v n (ints (sortI xs)) ∧ Fr (fun k => base ≤ k) w w' := by
  subst hn
  rcases h.2 with ⟨rfl, h0⟩ | ⟨g, cap, cur, rfl, hg, hb, h1, h2, h3, h4⟩
  · have e : xs = [] := List.length_eq_zero_iff.1 h0
    subst e
    refine (Tryd.sort_Ints_none none 0 w).mono ?_
    rintro e w' ⟨rfl, rfl⟩
    exact ⟨rfl, by simpa [sortI] using h, Fr.refl _ _⟩
  · have hh : Go.Sort.Holds (Value.int .i64) w g 0 xs.toArray := holds_of_blockI hb (by simpa [ints] using h4)
    refine (Tryd.sort_Ints g 0 cap xs w hh (Array.getElem?_eq_some_iff.1 hb).1 (by omega)).mono ?_
    rintro e w' ⟨rfl, m, os, rfl⟩
    refine ⟨rfl, ?_, ?_⟩
    · exact ownsRow_sortedI (sortI_len xs) hg hb h1 h2 h3
    · exact Fr.of_grownBy (grownBy_sortedI _) fun k hk _ => by
        have e : g = k := Option.some.inj hk
        show base ≤ k
        omega
end Go.Proofs.YtffjaaolcphonaaDoor
