/- The keys of a map, sorted, by the shelf's contracts. -/
import Derived.Test.YtffjaaolcphonaaDoorShelf2
import Derived.Test.YtffjaaolcphonaaDoorMapR
import Derived.Test.YtffjaaolcphonaaDoorIns
import Derived.Shelf.SlIterI.Nil
import Derived.Shelf.SortM.Plain
import Derived.Shelf.SortM.SortNone
namespace Go.Proofs.YtffjaaolcphonaaDoor
open Go.RowKit Go.Maps Go.Sort Go.Shelf
theorem sorts123 (m : Nat) : AnyZI.SortsIn Tryd.prog Tryd.sorted95_ren Fence.wide m :=
  ⟨fun blk off cap ss W hH hblk hsz => callsIn_wide.2 (AnyM.slices_Sort_int Tryd.sort123 blk off cap ss W hH hblk hsz),
   fun p cap W => callsIn_wide.2 (AnyM.slices_Sort_int_none Tryd.sort123 p cap W)⟩
theorem El.keys_eq {α : Type} (E : El α) (L : List α) : intKeys (E.D L) = L.map E.key := by
  show (L.map E.ent).map _ = _
  rw [List.map_map]; rfl
theorem El.sorted_eq {α : Type} (E : El α) {L : List α} (h : E.Up L) {ss : List Int} (hp : ss.Perm (L.map E.key)) : ss.mergeSort (fun x y => decide (x ≤ y)) = L.map E.key := by
  refine (sortI_of hp.symm ?_).symm
  rw [List.pairwise_map]
  exact h.imp fun h => by omega
theorem keysT (b : Nat) (w : World) : Calls Tryd.prog 96 #[.map (some b)] w fun e w' => e = .returned (.func (.func 125) #[] #[.pointer (some ⟨w.heap.size, 0, none⟩)]) ∧ w' = w.alloc (.cells #[.map (some b)] 88) :=
  callsIn_wide.1 (AnyZI.keys_in Tryd.keysT Fence.wide 5 trivial rfl (some b) w)
set_option maxHeartbeats 1000000 in
theorem sortedT {α : Type} {E : El α} {L : List α} {b : Nat} {w : World} (h : MapL E Tryd.prog w b L) (hl : L.length ≤ 1000000) : Calls Tryd.prog 95 #[.func (.func 125) #[] #[.pointer (some ⟨w.heap.size, 0, none⟩)]] (w.alloc (.cells #[.map (some b)] 88)) fun e w' =>
    ∃ v, e = .returned v ∧ w'.ownsRow (w.heap.size + 1) 3 1 v L.length (ints (L.map E.key)) ∧ Still w w' := by
  have hbl := h.lt
  have hown := h.1
  have hseq : SeqGives Fence.wide 2 Tryd.prog 125 #[.pointer (some ⟨w.heap.size, 0, none⟩)] encZ (fun ss => ss.Perm (intKeys (E.D L))) (Maps.size (E.D L)) (w.alloc (.cells #[.map (some b)] 88)) :=
    AnyZI.keys_gives (ρ := Tryd.keysT_ren) { Tryd.keysT with } Fence.wide _ trivial rfl (by omega) w.heap.size b L.length (E.D L) _ (by simp) (by simp) (hown.alloc _)
  have hs := E.D_size L
  have cS := AnyZI.sorted_in Tryd.sorted95 Fence.wide 5 trivial trivial trivial trivial rfl (by omega) (sorts123 _) (enters_of Tryd.func123 (by kernel_rfl) rfl) 125 #[.pointer (some ⟨w.heap.size, 0, none⟩)] trivial (enters_of Tryd.func125 (by kernel_rfl) rfl) _ _ (by rw [hs]; unfold maxLen; omega) (by rw [hs]; omega) _ hseq
  change CallsIn _ _ Tryd.prog 95 _ _ _ at cS
  refine (callsIn_wide.1 cS).mono ?_
  rintro e w' ⟨v, ss, rfl, hS, hrow, _, hb⟩
  rw [E.keys_eq] at hS
  have hlen : ss.length = L.length := by rw [hS.length_eq, List.length_map]
  rw [E.sorted_eq h.2 hS, hlen] at hrow
  have h2 : w'.ownsRow (w.alloc (.cells #[.map (some b)] 88)).heap.size 3 1 v L.length ((L.map E.key).map encZ) := hrow
  exact ⟨v, rfl, by simpa [ints, encZ] using h2, ((Fr.refl _ w).alloc _).trans (Fr.of_below0 hb _)⟩
end Go.Proofs.YtffjaaolcphonaaDoor
