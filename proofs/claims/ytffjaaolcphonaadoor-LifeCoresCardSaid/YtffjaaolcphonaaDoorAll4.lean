/- All: those that are taken, sorted. -/
import Derived.Test.YtffjaaolcphonaaDoorSlot9
import Derived.Test.YtffjaaolcphonaaDoorSort
namespace Go.Proofs.YtffjaaolcphonaaDoor
open Go.RowKit
def idAt (s : SS) (i : Nat) : Int := idMk i (s.ages.getD i 0)
def preI (s : SS) (j : Nat) : List Int := ((List.range j).map (idAt s)).filter (liveB s)
theorem preI_len (s : SS) (j : Nat) : (preI s j).length ≤ j := by
  unfold preI
  exact Nat.le_trans (List.length_filter_le _ _) (by simp)
theorem preI_yes {s : SS} {j : Nat} (h : liveB s (idAt s j) = true) : preI s (j + 1) = preI s j ++ [idAt s j] := by
  unfold preI; rw [List.range_succ, List.map_append, List.filter_append]; simp [h]
theorem preI_no {s : SS} {j : Nat} (h : liveB s (idAt s j) = false) : preI s (j + 1) = preI s j := by
  unfold preI; rw [List.range_succ, List.map_append, List.filter_append]; simp [h]
def idsS (s : SS) : List Int := sortI (preI s s.ages.length)
theorem owns_nil (w : World) (b : Nat) : w.ownsRow b 3 1 (.slice none 0 0) 0 (ints []) := ⟨rfl, .inl ⟨rfl, rfl⟩⟩
theorem app_still {w w' : World} {base n : Nat} {v : Value} {xs : List Int} (hown : w.ownsRow base 3 1 v n (ints xs)) (t : Int) (hg : (w.alloc (.cells #[.int .i64 t] 3)).grownBy w' v.ownBlock) : Fr (fun k => base ≤ k) w w' :=
  ((Fr.refl (fun k => base ≤ k) w).alloc (.cells #[.int .i64 t] 3)).trans (Fr.own_fr (hown.alloc _) hg)
set_option maxRecDepth 100000 in
set_option maxHeartbeats 4000000 in
theorem sall (w : World) (B : SB) (s : SS) (h : SAt w B s) : Calls Tryd.prog 36 #[.pointer (some ⟨B.P, 0, none⟩)] w fun e w' => ∃ v, e = .returned v ∧ w'.ownsRow w.heap.size 3 1 v (idsS s).length (ints (idsS s)) ∧ Still w w' := by
  have M := hid (smade w B s h)
  have F0 := h.f0
  have t1 := h.T1
  have H := hid h
  clear h
  go_enter Tryd.func36, Tryd.ntmps36
  go_wp2_with (go_at_call 85; refine M.out.mono ?_; rintro e w' ⟨rfl, rfl⟩)
  go_loopg [3, 4, 5, 6, 15] s.ages.length (fun g s3 s4 s5 s6 s15 wr => ∃ j : Nat, j + g = s.ages.length ∧ s15 = .int .i64 (j : Int) ∧ Hid (wr.ownsRow w.heap.size 3 1 s3 (preI s j).length (ints (preI s j))) ∧ Hid (Still w wr))
  case atStart => exact ⟨0, by omega, rfl, hid (owns_nil _ _), hid (Still.refl _)⟩
  case round =>
    obtain ⟨j, hj, rfl, O, S⟩ := hrel
    cases gk with
    | zero =>
      have hlt : ¬ (j : Int) < (s.ages.length : Int) := by omega
      have e : Hid (j = s.ages.length) := hid (by omega)
      have X := hid (sort_own wr w.heap.size _ u3 _ O.out rfl (by have := preI_len s j; omega))
      go_wp2_with (go_at_call 87; refine X.out.mono ?_; rintro e w2 ⟨rfl, O2, F2⟩)
      go_ret
      refine ⟨_, rfl, ?_, S.out.then F2 fun k hk hf => by omega⟩
      unfold idsS
      rw [sortI_len]
      rw [e.out] at O2
      exact O2
    | succ g =>
      have hlt : (j : Int) < (s.ages.length : Int) := by omega
      have hlt' : j < s.ages.length := by omega
      have C := Still.cell S.out (H.out.cA hlt')
      obtain ⟨a, ha⟩ : ∃ a, s.ages.getD j 0 = a := ⟨_, rfl⟩
      rw [ha] at C
      have X := hid (xid wr j a)
      have hid1 : idMk j a = idAt s j := by unfold idAt; rw [ha]
      rw [hid1] at X
      obtain ⟨x, hx⟩ : ∃ x, idAt s j = x := ⟨_, rfl⟩
      rw [hx] at X
      have hi : inI x := by rw [← hx]; exact idMk_in _ _
      have L := hid (slive wr B s (H.out.still S.out) x hi)
      have z1 := preI_len s j
      have hz := S.out.size
      cases hb : liveB s x with
      | false =>
        have hp : Hid (preI s (j + 1) = preI s j) := hid (preI_no (by rw [hx]; exact hb))
        rw [hb] at L
        clear ha hid1 hx hb
        go_wp2_with (first | (go_at_call 18; refine X.out.mono ?_; rintro e w' ⟨rfl, rfl⟩) | (go_at_call 31; refine L.out.mono ?_; rintro e w2 ⟨rfl, s2⟩))
        go_roundg g
        case measure => omega
        case rel => exact ⟨j + 1, by omega, by go_num, hid (by rw [hp.out]; exact owns_fr O.out s2 (fun _ _ _ h => h)), hid (S.out.trans s2)⟩
      | true =>
        have hp : Hid (preI s (j + 1) = preI s j ++ [x]) := hid (by have := preI_yes (s := s) (j := j) (by rw [hx]; exact hb); rw [hx] at this; exact this)
        rw [hb] at L
        clear ha hid1 hx hb
        go_wp2_with (first | (go_at_call 18; refine X.out.mono ?_; rintro e w' ⟨rfl, rfl⟩) | (go_at_call 31; refine L.out.mono ?_; rintro e w2 ⟨rfl, s2⟩; have O2 := hid (owns_fr O.out s2 (fun _ _ _ h => h)); have hz2 := s2.size) | (at_builtin; refine wpList_append_irow rfl (.tmp 26) (.tmp 28) rfl w.heap.size (preI s j).length (preI s j) [x] u3 _ rfl rfl (O2.out.alloc _) (one_new _ _ _) (by simp; omega) (by simp; omega) ?_; intro v5 w5 ho5 hg5 _; have f5 := hid (app_still O2.out x hg5)))
        go_roundg g
        case measure => omega
        case rel =>
          refine ⟨j + 1, by omega, by go_num, hid ?_, hid ((S.out.trans s2).then f5.out fun k hk hf => by omega)⟩
          rw [hp.out, List.length_append]; exact ho5
end Go.Proofs.YtffjaaolcphonaaDoor
