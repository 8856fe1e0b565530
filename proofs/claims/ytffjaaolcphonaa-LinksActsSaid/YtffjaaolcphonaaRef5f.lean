/- The document's links: Move. -/
import Derived.Test.YtffjaaolcphonaaRef5e
namespace Go.Proofs.Ytffjaaolcphonaa
open Go.RowKit
section
variable {w : World} {lo p R T : Nat} {L : List (List Nat)}
set_option maxRecDepth 100000 in
set_option maxHeartbeats 4000000 in
theorem rmove_ok (h : RefAt w lo p R T L) (f t : Nat) (hf : f < L.length) (ht : t < L.length) (hft : f ≠ t) (hsz : (gl L t).length + (gl L f).length ≤ 4096) :
    Calls Try.prog 88 #[.pointer (some ⟨p, 0, none⟩), .int .i64 f, .int .i64 t] w fun e w' => e = .returned (.tuple #[.int .i64 (gl L f).length, .int .i64 0]) ∧
      RefAt w' lo p R T ((L.set t (gl L t ++ gl L f)).set f []) ∧ Fr (fun k => k = R) w w' := by
  have F1 := h.f1
  have hf' : (f : Int) < (L.length : Int) := by omega
  have ht' : (t : Int) < (L.length : Int) := by omega
  have hft' : (f : Int) ≠ (t : Int) := by omega
  have HDf := hid (decide_eq_true (p := inR f L.length) ⟨by omega, hf'⟩)
  have HDt := hid (decide_eq_true (p := inR t L.length) ⟨by omega, ht'⟩)
  obtain ⟨af, cf, Cf, hrf⟩ := h.row hf
  obtain ⟨a, c, Ct, hrt⟩ := h.row ht
  have Z := h.frz t
  have hsf := h.sh f hf
  have hst := h.sh t ht
  have hRl : R < w.heap.size := World.block_lt_of_cell? _ _ Ct
  have hpl : p < w.heap.size := World.block_lt_of_cell? _ _ F1
  have hpR := h.pR
  have hr1f := hrf.1
  have hr1t := hrt.1
  obtain ⟨lf, hlf⟩ : ∃ l, gl L f = l := ⟨_, rfl⟩
  obtain ⟨lt, hlt⟩ : ∃ l, gl L t = l := ⟨_, rfl⟩
  have HLf := hid hlf
  have HLt := hid hlt
  rw [hlf] at Cf hsf hr1f hsz
  rw [hlt] at Ct hst hr1t hsz
  rw [hlf, hlt]
  clear hlf hlt hrf hrt
  go_enter Try.func88, Try.ntmps88
  go_wp2_with (first | (go_at_call 90; refine (rlist h _).mono ?_; (first | rw [HDf.out] | rw [HDt.out]); rintro e w' ⟨rfl, rfl⟩))
  go_region_held3 (fun w' => w'.cell? ⟨p, 1, none⟩ = some (.slice (some ⟨R, 0, none⟩) L.length L.length))
    (first | exact Still.cell ‹Still w _› F1 | exact put_far (Still.cell ‹Still w _› F1) hpR | go_keep)
    (first
      | (refine step_append_irow rfl (.tmp 35) (.tmp 42) rfl w.heap.size 0 [] (zi lt) (.slice (some ⟨_, 0, none⟩) 0 0) _ rfl rfl ?_ ?_ ?_ ?_ ?_
         · exact (owns_b w _ (Nat.le_refl _)).drew
         · exact (hr1t.alloc _).drew
         · rw [zi_len]; omega
         · simp; try omega
         intro v1 w1 ho1 hg1 _
         have s1 : Still w w1 := Fr.of_own ((Fr.refl _ w).alloc _).drew (owns_b w _ (Nat.le_refl _)).drew hg1 (Nat.le_refl _)
         have z1 := s1.size
         have Cf1 := Still.cell s1 Cf)
      | (refine step_append_irow rfl (.tmp 43) (.tmp 50) rfl w.heap.size (0 + (zi lt).length) ([] ++ zi lt) (zi lf) _ _ rfl rfl ?_ ?_ ?_ ?_ ?_
         · exact ho1
         · exact hr1f.still s1
         · simp only [zi_len]; omega
         · exact z1
         intro v2 w2 ho2 hg2 _
         obtain ⟨a2, c2, rfl⟩ := own_shape ho2 (lt.length + lf.length) (by simp [zi_len])
         have s2 : Still w w2 := Fr.of_own s1 ho1 hg2 (Nat.le_refl _)
         have C2 := Still.cell s2 Ct
         have Z2 := Still.frz s2 hRl Z))
  all_goals
    have hz : ([] ++ zi lt ++ zi lf) = zi (lt ++ lf) := by simp [zi]
    rw [hz] at ho2
    have hP := (h.still s2).put (i := t) (RowIn.own ho2 (by simp [zi_len]) hRl (by have := h.lp; omega) rfl) (fun x hx => by
      rcases List.mem_append.1 hx with hx | hx
      · exact h.bd t ht x (by rw [HLt.out]; exact hx)
      · exact h.bd f hf x (by rw [HLf.out]; exact hx)) (by simp; omega)
    have hF : Fr (fun k => k = R) w (w2.setCell ⟨R, t, none⟩ (.slice a2 (lt.length + lf.length) c2)) := Fr.putR (s2.fr _) _ _
    generalize w2.setCell ⟨R, t, none⟩ (.slice a2 (lt.length + lf.length) c2) = W at hP hF ⊢
    clear Ct Cf F1 C2 Z2 Z ho2 hg2 s2
    have F1 := hP.f1
    obtain ⟨a3, c3, C3, _⟩ := hP.row (i := f) (by simpa using hf)
    have Z3 := hP.frz f
    rw [List.length_set] at F1
    go_wp2
    go_ret2
    refine ⟨rfl, ?_, Fr.putR hF _ _⟩
    exact hP.put (RowIn.nil _ _ _ _) (fun x hx => by simp at hx) (by simp)
end
end Go.Proofs.Ytffjaaolcphonaa
