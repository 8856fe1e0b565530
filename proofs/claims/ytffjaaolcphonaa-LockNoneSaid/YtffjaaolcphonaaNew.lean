/- The links' New. -/
import Derived.Test.YtffjaaolcphonaaOut
import Derived.Deep.DeepCutAuto
namespace Go.Proofs.Ytffjaaolcphonaa
open Go.RowKit

def ints (xs : List Int) : List Value := xs.map (Value.int .i64)
def zr (n : Nat) : Array Value := (ints (List.replicate n 0)).toArray
theorem info3 : (Try.prog.info? 3).map (fun i => (i.zero, i.size, i.bytes)) = some (some (.int .i64 0), 1, 8) := by kernel_rfl
theorem mk_ints (n : Nat) (hn : n ≤ 1000000) : ∀ w, (Instr.makeSlice 28 (.int .i64 (n : Int)) (.int .i64 (n : Int))).run Try.prog w = .ok (.slice (some ⟨w.heap.size, 0, none⟩) n n) (w.alloc (.cells (zr n) 3)) := by
  intro w
  obtain ⟨i0, hi, hz0, hz1, hz2⟩ := info_parts info3
  have := run_make (P := Try.prog) w 28 3 i0 _ Try.underlying28 hi hz0 .i64 .i64 (n : Int) (n : Int) (by omega) (by omega) (by rw [hz2]; omega) (by omega)
  rw [this, hz1, Int.toNat_natCast, Nat.mul_one]
  have e : madeCells (Value.int .i64 0).cells n = zr n := by
    show madeCells #[.int .i64 0] n = _
    apply Array.ext'
    rw [toList_madeCells_one]; simp [zr, ints]
  rw [e]

def idU (k n : Nat) : List Int := (List.range n).map fun j => if j < k then (j : Int) else 0
theorem idU_zero (n : Nat) : idU 0 n = List.replicate n 0 := by
  apply List.ext_getElem <;> simp [idU]
theorem idU_len (k n : Nat) : (idU k n).length = n := by simp [idU]
theorem idU_succ (k n : Nat) : (idU k n).set k (k : Int) = idU (k + 1) n := by
  apply List.ext_getElem
  · simp [idU]
  · intro i h1 h2
    simp [idU, List.getElem_set]
    by_cases e : k = i
    · subst e; simp
    · simp [e]; by_cases h : i < k
      · rw [if_pos h, if_pos (by omega)]
      · rw [if_neg h, if_neg (by omega)]
def noU (k n : Nat) : List Int := (List.range n).map fun j => if j < k then -1 else 0
theorem noU_zero (n : Nat) : noU 0 n = List.replicate n 0 := by
  apply List.ext_getElem <;> simp [noU]
theorem noU_len (k n : Nat) : (noU k n).length = n := by simp [noU]
theorem noU_succ (k n : Nat) : (noU k n).set k (-1 : Int) = noU (k + 1) n := by
  apply List.ext_getElem
  · simp [noU]
  · intro i h1 h2
    simp [noU, List.getElem_set]
    by_cases e : k = i
    · subst e; simp
    · simp [e]; by_cases h : i < k
      · rw [if_pos h, if_pos (by omega)]
      · rw [if_neg h, if_neg (by omega)]
def Raw.z (t m : Nat) : Raw := ⟨t, List.replicate (t + m) 0, List.replicate (t + m) 0, List.replicate t 0, List.replicate m 0⟩
def Raw.new (t m : Nat) : Raw := ⟨t, idU (t + m) (t + m), idU (t + m) (t + m), noU t t, List.replicate m 0⟩

theorem heap_at (w : World) (o : Obj) (n : Nat) (h : n = w.heap.size) : (w.alloc o).heap[n]? = some o := by subst h; show (w.heap.push o)[w.heap.size]? = _; simp
/-- Five new blocks in whatever order. -/
theorem raw_of (w W : World) (t m N p n b l c : Nat) (hN : N = t + m) (t0 : 1 ≤ t) (t1 : t ≤ 4096) (m0 : 1 ≤ m) (m1 : m ≤ 4096)
    (hp : Blk W p [.int .i64 t, .slice (some ⟨n, 0, none⟩) N N, .slice (some ⟨b, 0, none⟩) N N, .slice (some ⟨l, 0, none⟩) t t, .slice (some ⟨c, 0, none⟩) m m] 63)
    (hn : Blk W n (ints (List.replicate N 0)) 3) (hb : Blk W b (ints (List.replicate N 0)) 3) (hl : Blk W l (ints (List.replicate t 0)) 3) (hc : Blk W c (ints (List.replicate m 0)) 3)
    (hW : Still w W) (hd : [p, n, b, l, c].Nodup) (hf : ∀ k ∈ [p, n, b, l, c], w.heap.size ≤ k) :
    ∃ B : LB, Value.pointer (some ⟨p, 0, none⟩) = .pointer (some ⟨B.p, 0, none⟩) ∧ RawAt W.drew B (Raw.z t m) ∧ Still w W.drew ∧ ∀ k, B.foot k → w.heap.size ≤ k := by
  subst hN
  simp only [List.nodup_cons, List.mem_cons, List.not_mem_nil, or_false, not_or] at hd
  obtain ⟨⟨h1, h2, h3, h4⟩, ⟨h5, h6, h7⟩, ⟨h8, h9⟩, h10, _⟩ := hd
  refine ⟨⟨p, n, b, l, c, t + m, t + m, t, m⟩, rfl, RawAt.drew ⟨h1, h2, h3, h4, h5, h6, h7, h8, h9, h10, ?_, ⟨[], by rw [List.append_nil]; exact hn⟩, ⟨[], by rw [List.append_nil]; exact hb⟩, ⟨[], by rw [List.append_nil]; exact hl⟩, ⟨[], by rw [List.append_nil]; exact hc⟩, by simp [Raw.z], by simp [Raw.z], by simp [Raw.z], t0, t1, by simpa [Raw.z] using m0, by simpa [Raw.z] using m1⟩, hW.drew, ?_⟩
  · simpa [Raw.z, sl] using hp
  · intro k hk
    apply hf
    simpa [LB.foot] using hk
theorem new_nil (w : World) (t m : Int) (h : (t < 1 ∨ 4096 < t) ∨ (m < 1 ∨ 4096 < m)) : Calls Try.prog 19 #[.int .i64 t, .int .i64 m] w fun e w' => e = .returned (.pointer none) ∧ w = w' := by
  by_cases h1 : t < 1
  · go_enter Try.func19, Try.ntmps19
    go_wp2
    go_ret
    exact ⟨rfl, rfl⟩
  · by_cases h2 : 4096 < t
    · go_enter Try.func19, Try.ntmps19
      go_wp2
      go_ret
      exact ⟨rfl, rfl⟩
    · by_cases h3 : m < 1
      · go_enter Try.func19, Try.ntmps19
        go_wp2
        go_ret
        exact ⟨rfl, rfl⟩
      · have h4 : 4096 < m := by omega
        go_enter Try.func19, Try.ntmps19
        go_wp2
        go_ret
        exact ⟨rfl, rfl⟩

set_option maxRecDepth 100000 in
set_option maxHeartbeats 4000000 in
theorem new_ok (w : World) (t m : Nat) (t0 : 1 ≤ t) (t1 : t ≤ 4096) (m0 : 1 ≤ m) (m1 : m ≤ 4096) : Calls Try.prog 19 #[.int .i64 t, .int .i64 m] w fun e w' =>
    ∃ B : LB, e = .returned (.pointer (some ⟨B.p, 0, none⟩)) ∧ RawAt w' B (Raw.new t m) ∧ Still w w' ∧ ∀ k, B.foot k → w.heap.size ≤ k := by
  obtain ⟨N, hN⟩ : ∃ N, N = t + m := ⟨_, rfl⟩
  have hmkN := mk_ints N (by omega)
  have hmkt := mk_ints t (by omega)
  have hmkm := mk_ints m (by omega)
  have eN : ((t : Int) + (m : Int)) = (N : Int) := by omega
  have hN2 : N ≤ 8192 := by omega
  have HN := hid hN
  clear hN
  go_enter Try.func19, Try.ntmps19
  go_upto_region 4 with fail
  go_cut [6] (fun s6 wx => ∃ B : LB, s6 = .pointer (some ⟨B.p, 0, none⟩) ∧ RawAt wx B (Raw.z t m) ∧ Still w wx ∧ ∀ k, B.foot k → w.heap.size ≤ k)
  case first =>
    go_region
    all_goals
      go_wp2_with fail
      go_meet
      refine raw_of w _ t m N _ _ _ _ _ HN.out t0 t1 m0 m1 (heap_at _ _ _ (by simp)) ?_ ?_ ?_ ?_ (((((((Still.refl w).alloc _).alloc _).alloc _).alloc _).alloc _)) (by simp; omega) (by simp; omega)
      all_goals first
        | (refine heap_at _ _ _ ?_; simp; done)
        | (refine (Below.heap_alloc _ _ _ ?_).trans ?_; (simp <;> omega); first
          | (refine heap_at _ _ _ ?_; simp; done)
          | (refine (Below.heap_alloc _ _ _ ?_).trans ?_; (simp <;> omega); first
            | (refine heap_at _ _ _ ?_; simp; done)
            | (refine (Below.heap_alloc _ _ _ ?_).trans ?_; (simp <;> omega); first
              | (refine heap_at _ _ _ ?_; simp; done)
              | (refine (Below.heap_alloc _ _ _ ?_).trans ?_; (simp <;> omega); refine heap_at _ _ _ ?_; simp; done))))
  case rest =>
    obtain ⟨B, rfl, hB, hS, hF⟩ := hcut
    have hSS : Fr B.foot w wc := hS.fr _
    clear hmkN hmkt hmkm eN
    go_wp2
    go_loopw [38] (fun i wr => ∃ k : Nat, k ≤ N ∧ i = .int .i64 k ∧ RawAt wr B { Raw.z t m with next := idU k N, back := idU k N } ∧ Fr B.foot w wr) (fun i _ => N - (intOf i).toNat)
    case atStart => exact ⟨0, Nat.zero_le _, rfl, by rw [idU_zero, HN.out]; exact hB, hSS⟩
    case round =>
      obtain ⟨k, hk, rfl, hR, hfr⟩ := hrel
      by_cases hlt : k < N
      · have hlt' : (k : Int) < (N : Int) := by omega
        have F1 := hR.f1
        have F2 := hR.f2
        simp only [idU_len] at F1 F2
        have C1 : wr.cell? ⟨B.n, k, none⟩ = some (.int .i64 ((idU k N).getD k 0)) := hR.hn.cell (by simp [idU_len]; omega)
        have C2 : wr.cell? ⟨B.b, k, none⟩ = some (.int .i64 ((idU k N).getD k 0)) := hR.hb.cell (by simp [idU_len]; omega)
        have Z1 := hR.zn k
        have Z2 := hR.zb k
        have d1 := hR.nb
        have hR' := ((hR.setN k k).setB k k).drew
        simp only [idU_succ] at hR'
        have hfr' := ((hfr.setCell (p := ⟨B.n, k, none⟩) (.inl (by simp [LB.foot])) (.int .i64 k)).setCell (p := ⟨B.b, k, none⟩) (.inl (by simp [LB.foot])) (.int .i64 k)).drew
        go_wp2
        go_region
        go_wp2
        go_roundw
        case rel => exact ⟨k + 1, by omega, by go_num, hR', hfr'⟩
        case measure => simp [intOf]; omega
      · obtain rfl : k = N := by omega
        clear hlt hk hS hSS hB
        go_wp2
        have eL : List.replicate t (0 : Int) = noU 0 t := (noU_zero t).symm
        go_loopw [57] (fun i w2 => ∃ j : Nat, j ≤ t ∧ i = .int .i64 j ∧ RawAt w2 B { Raw.z t m with next := idU k k, back := idU k k, list := noU j t } ∧ Fr B.foot w w2) (fun i _ => t - (intOf i).toNat)
        case atStart => exact ⟨0, Nat.zero_le _, rfl, by rw [noU_zero]; exact hR, hfr⟩
        case round =>
          obtain ⟨j, hj, rfl, hR2, hfr2⟩ := hrel
          by_cases hlt : j < t
          · have hlt' : (j : Int) < (t : Int) := by omega
            have F3 : _ = some (Value.slice (some ⟨B.l, 0, none⟩) t B.kl) := hR2.f3
            have C3 : _ = some (Value.int .i64 ((noU j t).getD j 0)) := hR2.hl.cell (i := j) (by simp [noU_len]; omega)
            have Z3 := hR2.zl j
            have hR' := (hR2.setL j (-1))
            simp only [noU_succ] at hR'
            have hfr' := (hfr2.setCell (p := ⟨B.l, j, none⟩) (.inl (by simp [LB.foot])) (.int .i64 (-1)))
            go_wp2
            go_roundw
            case rel => exact ⟨j + 1, by omega, by go_num, hR', hfr'⟩
            case measure => simp [intOf]; omega
          · obtain rfl : j = t := by omega
            go_wp2
            go_ret
            have e := HN.out
            refine ⟨B, rfl, ?_, ?_, hF⟩
            · unfold Raw.new; rw [← e]; exact hR2
            · exact hfr2.mono fun i hi hb => by have := hF i hb; omega
end Go.Proofs.Ytffjaaolcphonaa
