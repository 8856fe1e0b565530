/- A row of no elements. -/
import Derived.Test.YtffjaaolcphonaaMem
namespace Go.Proofs.Ytffjaaolcphonaa
open Go.RowKit
theorem owns_zero0 {w : World} {base : Nat} {e : TypeId} {size : Nat} {v : Value} {xs : List Value} (h : w.ownsRow base e size v 0 xs) : ∃ a c, v = .slice a 0 c := by
  obtain ⟨_, ⟨rfl, _⟩ | ⟨g, cap, _, rfl, _⟩⟩ := h
  · exact ⟨_, _, rfl⟩
  · exact ⟨_, _, rfl⟩
end Go.Proofs.Ytffjaaolcphonaa
