/- LockWaits: plain facts. -/
import Derived.Test.YtffjaaolcphonaaActs19
namespace Go.Proofs.Ytffjaaolcphonaa
open Go.RowKit
theorem getS_T (s : LS) (o : Nat) (t : Int) : (getS s o t).T = s.T := by unfold getS; split <;> rfl
theorem sigS_T (s : LS) (c : Nat) : (sigS s c).T = s.T := by unfold sigS; split; rfl; rw [getS_T]
theorem castF_nT : ∀ (f : Nat) (s : LS) (c : Nat) (acc : List Int), (castF f s c acc).2.n = s.n ∧ (castF f s c acc).2.T = s.T
  | 0, _, _, _ => ⟨rfl, rfl⟩
  | f + 1, s, c, acc => by
    unfold castF
    obtain ⟨h1, h2⟩ := castF_nT f (sigS s c) c (acc ++ (if sigT s c = -1 then [] else [sigT s c]))
    exact ⟨h1.trans (sigS_n s c), h2.trans (sigS_T s c)⟩
theorem dropF_nT : ∀ (f o : Nat) (s : LS) (t : Int) (acc : List Int), (dropF f o s t acc).2.n = s.n ∧ (dropF f o s t acc).2.T = s.T
  | 0, _, _, _, _ => ⟨rfl, rfl⟩
  | f + 1, o, s, t, acc => by
    unfold dropF
    split
    · exact dropF_nT f (o + 1) (passS s o) t _
    · exact dropF_nT f (o + 1) s t acc
theorem stepS_nT (s : LS) (k o c t : Int) : (stepS s k o c t).n = s.n ∧ (stepS s k o c t).T = s.T := by
  unfold stepS
  split
  · unfold lockS; split
    · exact ⟨getS_n _ _ _, getS_T _ _ _⟩
    · exact ⟨rfl, rfl⟩
  split
  · unfold unlockS; split <;> exact ⟨rfl, rfl⟩
  split
  · unfold waitS; split <;> exact ⟨rfl, rfl⟩
  split
  · unfold signalS; split
    · exact ⟨sigS_n _ _, sigS_T _ _⟩
    · exact ⟨rfl, rfl⟩
  split
  · unfold castS; split
    · exact castF_nT _ _ _ _
    · exact ⟨rfl, rfl⟩
  split
  · unfold dropR; split
    · exact dropF_nT _ _ _ _ _
    · exact ⟨rfl, rfl⟩
  · exact ⟨rfl, rfl⟩
/-- All that stand in the lists of the first locks and conditions. -/
def preL (s : LS) : Nat → List Nat
  | 0 => []
  | o + 1 => preL s o ++ gl s.L o ++ gl s.L (s.n + o)
theorem preL_mem (s : LS) (t : Nat) : ∀ o, t ∈ preL s o ↔ ∃ i, i < o ∧ (t ∈ gl s.L i ∨ t ∈ gl s.L (s.n + i))
  | 0 => by simp [preL]
  | o + 1 => by
    unfold preL
    rw [List.mem_append, List.mem_append, preL_mem s t o]
    constructor
    · rintro ((⟨i, h1, h2⟩ | h) | h)
      · exact ⟨i, by omega, h2⟩
      · exact ⟨o, by omega, .inl h⟩
      · exact ⟨o, by omega, .inr h⟩
    · rintro ⟨i, h1, h2⟩
      by_cases e : i = o
      · subst e
        rcases h2 with h2 | h2
        · exact .inl (.inr h2)
        · exact .inr h2
      · exact .inl (.inl ⟨i, by omega, h2⟩)
theorem preL_nodup {s : LS} (h : LInv s) : ∀ o, o ≤ s.n → (preL s o).Nodup
  | 0, _ => List.nodup_nil
  | o + 1, ho => by
    unfold preL
    have hL := h.ll
    refine List.nodup_append.2 ⟨List.nodup_append.2 ⟨preL_nodup h o (by omega), h.nc.nd o (by omega), fun a ha b hb e => ?_⟩, h.nc.nd _ (by omega), fun a ha b hb e => ?_⟩
    · subst e
      obtain ⟨i, h1, h2⟩ := (preL_mem s a o).1 ha
      rcases h2 with h2 | h2
      · have := h.nc.uq i o a (by omega) (by omega) h2 hb; omega
      · have := h.nc.uq (s.n + i) o a (by omega) (by omega) h2 hb; omega
    · subst e
      rcases List.mem_append.1 ha with ha | ha
      · obtain ⟨i, h1, h2⟩ := (preL_mem s a o).1 ha
        rcases h2 with h2 | h2
        · have := h.nc.uq i (s.n + o) a (by omega) (by omega) h2 hb; omega
        · have := h.nc.uq (s.n + i) (s.n + o) a (by omega) (by omega) h2 hb; omega
      · have := h.nc.uq o (s.n + o) a (by omega) (by omega) ha hb; omega
/-- How often each of six stands in a list. -/
def TM (l : List Nat) : List Int := (List.range 6).map fun t => (l.count t : Int)
theorem TM_len (l : List Nat) : (TM l).length = 6 := by simp [TM]
theorem TM_nil : TM [] = List.replicate 6 0 := by decide
theorem TM_at (l : List Nat) {t : Nat} (h : t < 6) : (TM l)[t]? = some (l.count t : Int) := by simp [TM, h]
theorem TM_snoc (l : List Nat) (t : Nat) : TM (l ++ [t]) = (TM l).set t ((l.count t : Int) + 1) := by
  refine List.ext_getElem (by simp [TM]) fun i h1 h2 => ?_
  have hi : i < 6 := by simpa [TM] using h1
  rw [List.getElem_set]
  by_cases e : t = i
  · subst e; rw [if_pos rfl]; simp [TM, List.count_append]
  · rw [if_neg e]; simp [TM, List.count_append, List.count_cons, e]
theorem count_le {s : LS} (h : LInv s) {o : Nat} (ho : o ≤ s.n) (t : Nat) : (preL s o).count t ≤ 1 := List.nodup_iff_count.1 (preL_nodup h o ho) t
section
variable {s : LS}
theorem wait_where (h : LInv s) {o x : Nat} (ho : o < s.n) (hx : x ∈ gl s.L o) : x < s.T ∧ whereK s x = 1 ∧ whereO s x = o ∧ s.ow.getD o 0 ≠ (x : Int) := by
  have hxT := h.bd o (by omega) x hx
  have hw := whI_in h.nc (i := o) (by rw [h.ll]; omega) hx hxT
  refine ⟨hxT, ?_, ?_, h.own o ho x hx⟩
  · unfold whereK; rw [hw, if_neg (by omega), if_pos (by omega)]
  · unfold whereO; rw [hw, if_neg (by omega), if_pos (by omega)]
theorem sleep_where (h : LInv s) {c x : Nat} (hc : c < s.n) (hx : x ∈ gl s.L (s.n + c)) : x < s.T ∧ whereK s x = 2 ∧ whereO s x = c := by
  have hxT := h.bd (s.n + c) (by omega) x hx
  have hw := whI_in h.nc (i := s.n + c) (by rw [h.ll]; omega) hx hxT
  refine ⟨hxT, ?_, ?_⟩
  · unfold whereK; rw [hw, if_neg (by omega), if_neg (by omega)]
  · unfold whereO; rw [hw, if_neg (by omega), if_neg (by omega)]; omega
theorem times_where (h : LInv s) {t : Nat} (ht : t < s.T) : ((preL s s.n).count t = 0 ∧ whereK s t = 0) ∨ ((preL s s.n).count t = 1 ∧ (whereK s t = 1 ∨ whereK s t = 2)) := by
  by_cases hm : t ∈ preL s s.n
  · refine .inr ⟨?_, ?_⟩
    · have := count_le h (Nat.le_refl _) t
      have := List.count_pos_iff.2 hm
      omega
    · obtain ⟨i, hi, h2⟩ := (preL_mem s t s.n).1 hm
      rcases h2 with h2 | h2
      · exact .inl (wait_where h hi h2).2.1
      · exact .inr (sleep_where h hi h2).2.1
  · refine .inl ⟨List.count_eq_zero.2 hm, ?_⟩
    have : whI s.T s.L t = -1 := whI_no fun i hi x hx e => hm ((preL_mem s t s.n).2 (by
      have : x = t := by omega
      subst this
      rw [h.ll] at hi
      by_cases e : i < s.n
      · exact ⟨i, e, .inl hx⟩
      · exact ⟨i - s.n, by omega, .inr (by rw [show s.n + (i - s.n) = i by omega]; exact hx)⟩))
    unfold whereK; rw [this]; rfl
end
theorem run_index6_0 (n0 n1 n2 n3 n4 n5 : Int) : ∀ w, (Instr.index 110 (.agg #[.int .i64 n0, .int .i64 n1, .int .i64 n2, .int .i64 n3, .int .i64 n4, .int .i64 n5]) (.int .i64 0)).run Try.prog w = .ok (.int .i64 n0) w := fun _ => by kernel_rfl
theorem run_index6_1 (n0 n1 n2 n3 n4 n5 : Int) : ∀ w, (Instr.index 110 (.agg #[.int .i64 n0, .int .i64 n1, .int .i64 n2, .int .i64 n3, .int .i64 n4, .int .i64 n5]) (.int .i64 1)).run Try.prog w = .ok (.int .i64 n1) w := fun _ => by kernel_rfl
theorem run_index6_2 (n0 n1 n2 n3 n4 n5 : Int) : ∀ w, (Instr.index 110 (.agg #[.int .i64 n0, .int .i64 n1, .int .i64 n2, .int .i64 n3, .int .i64 n4, .int .i64 n5]) (.int .i64 2)).run Try.prog w = .ok (.int .i64 n2) w := fun _ => by kernel_rfl
theorem run_index6_3 (n0 n1 n2 n3 n4 n5 : Int) : ∀ w, (Instr.index 110 (.agg #[.int .i64 n0, .int .i64 n1, .int .i64 n2, .int .i64 n3, .int .i64 n4, .int .i64 n5]) (.int .i64 3)).run Try.prog w = .ok (.int .i64 n3) w := fun _ => by kernel_rfl
theorem run_index6_4 (n0 n1 n2 n3 n4 n5 : Int) : ∀ w, (Instr.index 110 (.agg #[.int .i64 n0, .int .i64 n1, .int .i64 n2, .int .i64 n3, .int .i64 n4, .int .i64 n5]) (.int .i64 4)).run Try.prog w = .ok (.int .i64 n4) w := fun _ => by kernel_rfl
theorem run_index6_5 (n0 n1 n2 n3 n4 n5 : Int) : ∀ w, (Instr.index 110 (.agg #[.int .i64 n0, .int .i64 n1, .int .i64 n2, .int .i64 n3, .int .i64 n4, .int .i64 n5]) (.int .i64 5)).run Try.prog w = .ok (.int .i64 n5) w := fun _ => by kernel_rfl
theorem run_index6 (n0 n1 n2 n3 n4 n5 : Int) (k : Nat) (hk : k < 6) (w : World) : (Instr.index 110 (.agg #[.int .i64 n0, .int .i64 n1, .int .i64 n2, .int .i64 n3, .int .i64 n4, .int .i64 n5]) (.int .i64 (k : Int))).run Try.prog w = .ok (.int .i64 ([n0, n1, n2, n3, n4, n5].getD k 0)) w := by
  have h : k = 0 ∨ k = 1 ∨ k = 2 ∨ k = 3 ∨ k = 4 ∨ k = 5 := by omega
  rcases h with rfl | rfl | rfl | rfl | rfl | rfl
  · exact run_index6_0 n0 n1 n2 n3 n4 n5 w
  · exact run_index6_1 n0 n1 n2 n3 n4 n5 w
  · exact run_index6_2 n0 n1 n2 n3 n4 n5 w
  · exact run_index6_3 n0 n1 n2 n3 n4 n5 w
  · exact run_index6_4 n0 n1 n2 n3 n4 n5 w
  · exact run_index6_5 n0 n1 n2 n3 n4 n5 w
end Go.Proofs.Ytffjaaolcphonaa
