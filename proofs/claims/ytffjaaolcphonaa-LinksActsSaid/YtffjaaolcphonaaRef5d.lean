/- The document's links: Front, All. -/
import Derived.Test.YtffjaaolcphonaaRef5c
namespace Go.Proofs.Ytffjaaolcphonaa
open Go.RowKit
theorem owns_one (w : World) (t : Int) : (w.alloc (.cells #[.int .i64 t] 3)).ownsRow w.heap.size 3 1 (.slice (some ⟨w.heap.size, 0, none⟩) 1 1) 1 (ints [t]) :=
  ⟨rfl, .inr ⟨_, 1, #[.int .i64 t], rfl, Nat.le_refl _, heap_at _ _ _ rfl, Nat.le_refl _, by unfold maxLen; omega, rfl, rfl⟩⟩
section
variable {w : World} {lo p R T : Nat} {L : List (List Nat)}
set_option maxRecDepth 100000 in
set_option maxHeartbeats 2000000 in
theorem rfront_ok (h : RefAt w lo p R T L) (i t : Nat) (he : pushE T L i t = 0) (hi : i < L.length) (htT : t < T) (hsz : (gl L i).length < 4096) :
    Calls Try.prog 85 #[.pointer (some ⟨p, 0, none⟩), .int .i64 i, .int .i64 t] w fun e w' => e = .returned (.int .i64 0) ∧ RefAt w' lo p R T (L.set i (t :: gl L i)) ∧ Fr (fun k => k = R) w w' := by
  have HE := hid he
  clear he
  have F1 := h.f1
  have hi' : (i : Int) < (L.length : Int) := by omega
  obtain ⟨a, c, C1, hr⟩ := h.row hi
  have Z := h.frz i
  have hs := h.sh i hi
  have hRl : R < w.heap.size := World.block_lt_of_cell? _ _ C1
  have hpl : p < w.heap.size := World.block_lt_of_cell? _ _ F1
  have hpR := h.pR
  have hr1 := hr.1
  obtain ⟨l, hl⟩ : ∃ l, gl L i = l := ⟨_, rfl⟩
  have HL := hid hl
  rw [hl] at C1 hs hr1 hsz
  clear hl
  go_enter Try.func85, Try.ntmps85
  go_wp2_with (go_at_call 134; refine (rmay h _ _).mono ?_; rw [HE.out]; rintro e w' ⟨rfl, rfl⟩)
  go_region_held3 (fun w' => w'.cell? ⟨p, 1, none⟩ = some (.slice (some ⟨R, 0, none⟩) L.length L.length))
    (first | exact Still.cell ‹Still w _› F1 | exact put_far (Still.cell ‹Still w _› F1) hpR | go_keep)
    (first
      | (refine step_append_irow rfl (.tmp 21) (.tmp 28) rfl w.heap.size 1 [(t : Int)] (zi l) (.slice (some ⟨_, 0, none⟩) 1 1) _ rfl rfl ?_ ?_ ?_ ?_ ?_
         · exact (owns_one w _).drew
         · exact (hr1.alloc _).drew
         · rw [zi_len]; omega
         · simp; try omega
         intro v2 w2 ho2 hg2 _
         obtain ⟨a2, c2, rfl⟩ := own_shape ho2 (l.length + 1) (by simp [zi_len]; omega)
         have s2 : Still w w2 := Fr.of_own ((Fr.refl _ w).alloc _).drew (owns_one w _).drew hg2 (Nat.le_refl _)
         have C2 := Still.cell s2 C1
         have Z2 := Still.frz s2 hRl Z))
  all_goals
    go_wp2
    go_ret
    refine ⟨rfl, ?_, Fr.putR (s2.fr _) _ _⟩
    rw [HL.out]
    have hz : ([(t : Int)] ++ zi l) = zi (t :: l) := by simp [zi]
    rw [hz] at ho2
    refine (h.still s2).put (RowIn.own ho2 (by simp [zi_len]; omega) hRl (by have := h.lp; omega) rfl) (fun x hx => ?_) (by have := hsz; simp; omega)
    rcases List.mem_cons.1 hx with hx | hx
    · subst hx; exact htT
    · exact h.bd i hi x (by rw [HL.out]; exact hx)
theorem rall (h : RefAt w lo p R T L) (i : Int) : Calls Try.prog 31 #[.pointer (some ⟨p, 0, none⟩), .int .i64 i] w fun e w' => ∃ a c, e = .returned (.slice a (if inR i L.length then gl L i.toNat else []).length c) ∧
      IRow w' (.slice a (if inR i L.length then gl L i.toNat else []).length c) (zi (if inR i L.length then gl L i.toNat else [])) ∧ Still w w' := by
  by_cases hi : inR i L.length
  · simp only [if_pos hi]
    obtain ⟨i, rfl⟩ := Int.eq_ofNat_of_zero_le hi.1
    rw [Int.toNat_natCast]
    have hi' : i < L.length := by have := hi.2; omega
    have hi'' : (i : Int) < (L.length : Int) := hi.2
    have HD := hid (decide_eq_true hi)
    have F1 := h.f1
    obtain ⟨a, c, C1, hr⟩ := h.row hi'
    have hs := h.sh i hi'
    have hr1 := hr.1
    have hRl : R < w.heap.size := World.block_lt_of_cell? _ _ C1
    have hpl : p < w.heap.size := World.block_lt_of_cell? _ _ F1
    obtain ⟨l, hl⟩ : ∃ l, gl L i = l := ⟨_, rfl⟩
    rw [hl] at C1 hs hr1 ⊢
    clear hl hi
    go_enter Try.func31, Try.ntmps31
    go_wp2_with (first | (go_at_call 90; refine (rlist h _).mono ?_; rw [HD.out]; rintro e w' ⟨rfl, rfl⟩) | (at_builtin; refine wpList_append_irow rfl (.tmp 9) (.tmp 16) rfl w.heap.size 0 [] (zi l) (.slice (some ⟨_, 0, none⟩) 0 0) _ rfl rfl (owns_b w _ (Nat.le_refl _)) (hr1.alloc _) (by rw [zi_len]; omega) (by simp) ?_; intro v2 w2 ho2 hg2 _; obtain ⟨a2, c2, rfl⟩ := own_shape ho2 l.length (by simp [zi_len])))
    go_ret
    exact ⟨a2, c2, rfl, by simpa using IRow.own ho2 (by simp [zi_len]), Fr.of_own ((Fr.refl _ w).alloc _) (owns_b w _ (Nat.le_refl _)) hg2 (Nat.le_refl _)⟩
  · simp only [if_neg hi]
    have HD := hid (decide_eq_false hi)
    clear hi
    go_enter Try.func31, Try.ntmps31
    go_wp2_with (first | (go_at_call 90; refine (rlist h _).mono ?_; rw [HD.out]; rintro e w' ⟨rfl, rfl⟩))
    go_ret
    exact ⟨none, 0, rfl, .inl ⟨rfl, _, _, rfl⟩, Fr.refl _ _⟩
end
end Go.Proofs.Ytffjaaolcphonaa
