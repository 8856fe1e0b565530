/- All tells as many as are taken. -/
import Derived.Test.YtffjaaolcphonaaDoorSInv2
namespace Go.Proofs.YtffjaaolcphonaaDoor
open Go.RowKit
theorem count_range (fr : List Bool) : (List.range fr.length).countP (fun i => !(fr.getD i false)) = fr.count false := by
  have e : fr = (List.range fr.length).map (fun i => fr.getD i false) := by
    apply List.ext_getElem
    · simp
    · intro i h1 h2
      simp [List.getD_eq_getElem?_getD, h1]
  conv => rhs; rw [e]
  rw [List.count, List.countP_map]
  congr 1
  funext i
  show (!(fr.getD i false)) = (fr.getD i false == false)
  cases fr.getD i false <;> rfl
theorem idsS_n {s : SS} (h : SI s) (h2 : SI2 s) : ((idsS s).length : Int) = s.n := by
  unfold idsS
  rw [sortI_len, h.cnt, ← count_range, h.len]
  unfold preI
  rw [← List.countP_eq_length_filter, List.countP_map]
  congr 1
  refine List.countP_congr fun i hi => ?_
  have := live_at h h2 (List.mem_range.1 hi)
  show liveB s (idAt s i) = true ↔ _
  rw [this]
end Go.Proofs.YtffjaaolcphonaaDoor
