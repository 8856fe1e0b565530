/- The document's ends: that they lie in the world as they ought to; place, State, Start. -/
import Derived.Test.YtffjaaolcphonaaBdL
import Derived.Test.YtffjaaolcphonaaJoinZ
import Derived.Test.YtffjaaolcphonaaBdB
namespace Go.Proofs.Ytffjaaolcphonaa
open Go.RowKit
set_option linter.unusedSimpArgs false
/-- What may stand in a row's field. -/
def okF (w : World) (lo R N f : Nat) (v : Value) : Prop :=
  (f = 0 → ∃ a, v = .int .i64 a) ∧ (f = 1 → ∃ b, v = .bool b) ∧ (f = 2 → ∃ a, v = .int .i64 a) ∧ (f = 3 → ∃ xs, RowX w lo (fun k => k = R) v xs ∧ xs.length ≤ N ∧ ∀ x ∈ xs, inI x)
theorem okF.fr {w w' : World} {lo R N f : Nat} {v : Value} (h : okF w lo R N f v) {F : Nat → Prop} (hf : Fr F w w') (hd : ∀ k, lo ≤ k → k < w.heap.size → k ≠ R → ¬ F k) : okF w' lo R N f v :=
  ⟨h.1, h.2.1, h.2.2.1, fun e => by obtain ⟨xs, h1, h2, h3⟩ := h.2.2.2 e; exact ⟨xs, h1.fr hf hd, h2, h3⟩⟩
theorem okF.more {w : World} {lo R N M f : Nat} {v : Value} (h : okF w lo R N f v) (hm : N ≤ M) : okF w lo R M f v :=
  ⟨h.1, h.2.1, h.2.2.1, fun e => by obtain ⟨xs, h1, h2, h3⟩ := h.2.2.2 e; exact ⟨xs, h1, by omega, h3⟩⟩
structure RE (w : World) (lo P R T N : Nat) : Prop where
  hp : Blk w P [sl R T T] 144
  hr : ∃ V : List Value, V.length = T * 4 ∧ Blk w R V 147 ∧ ∀ i, i < T → ∀ f, f < 4 → okF w lo R N f (V.getD (i * 4 + f) undef)
  PR : P ≠ R
  lp : lo ≤ P
  lR : lo ≤ R
  T0 : 1 ≤ T
  T1 : T ≤ 1024
  N1 : N ≤ 1000
section
variable {w w' : World} {lo P R T N : Nat}
theorem RE.fr (h : RE w lo P R T N) {F : Nat → Prop} (hf : Fr F w w') (hd : ∀ k, lo ≤ k → k < w.heap.size → ¬ F k) : RE w' lo P R T N := by
  obtain ⟨V, h1, h2, h3⟩ := h.hr
  exact { h with hp := h.hp.fr hf (hd _ h.lp h.hp.lt), hr := ⟨V, h1, h2.fr hf (hd _ h.lR h2.lt), fun i hi f hf4 => (h3 i hi f hf4).fr hf fun k a b _ => hd k a b⟩ }
theorem RE.still (h : RE w lo P R T N) (hf : Still w w') : RE w' lo P R T N := h.fr hf fun _ _ _ h => h
theorem RE.more (h : RE w lo P R T N) {M : Nat} (hm : N ≤ M) (h1 : M ≤ 1000) : RE w lo P R T M := by
  obtain ⟨V, a, b, c⟩ := h.hr
  exact { h with hr := ⟨V, a, b, fun i hi f hf => (c i hi f hf).more hm⟩, N1 := h1 }
theorem RE.ltR (h : RE w lo P R T N) : R < w.heap.size := by obtain ⟨V, _, h2, _⟩ := h.hr; exact h2.lt
theorem RE.f0 (h : RE w lo P R T N) : w.cell? ⟨P, 0, none⟩ = some (.slice (some ⟨R, 0, none⟩) T T) := by rw [h.hp.cell]; rfl
theorem RE.frz (h : RE w lo P R T N) (i : Nat) : w.frozen? ⟨R, i, none⟩ = false := by obtain ⟨V, _, h2, _⟩ := h.hr; exact h2.frozen i
theorem RE.at (h : RE w lo P R T N) {i f : Nat} (hi : i < T) (hf : f < 4) : ∃ v, w.cell? ⟨R, i * 4 + f, none⟩ = some v ∧ okF w lo R N f v := by
  obtain ⟨V, h1, h2, h3⟩ := h.hr
  have hl : i * 4 + f < V.length := by omega
  refine ⟨V.getD (i * 4 + f) undef, ?_, h3 i hi f hf⟩
  rw [h2.cell, List.getElem?_eq_getElem hl]; simp [List.getD, hl]
theorem RE.row (h : RE w lo P R T N) {i : Nat} (hi : i < T) : ∃ (a : Int) (b : Bool) (c : Int) (s : Option Addr) (xs : List Int) (k : Nat), w.cell? ⟨R, i * 4, none⟩ = some (.int .i64 a) ∧ w.cell? ⟨R, i * 4 + 1, none⟩ = some (.bool b) ∧
    w.cell? ⟨R, i * 4 + 2, none⟩ = some (.int .i64 c) ∧ w.cell? ⟨R, i * 4 + 3, none⟩ = some (.slice s xs.length k) ∧ RowX w lo (fun k => k = R) (.slice s xs.length k) xs ∧ xs.length ≤ N ∧ ∀ x ∈ xs, inI x := by
  obtain ⟨v0, c0, o0⟩ := h.at hi (f := 0) (by omega)
  obtain ⟨v1, c1, o1⟩ := h.at hi (f := 1) (by omega)
  obtain ⟨v2, c2, o2⟩ := h.at hi (f := 2) (by omega)
  obtain ⟨v3, c3, o3⟩ := h.at hi (f := 3) (by omega)
  obtain ⟨a, rfl⟩ := o0.1 rfl
  obtain ⟨b, rfl⟩ := o1.2.1 rfl
  obtain ⟨c, rfl⟩ := o2.2.2.1 rfl
  obtain ⟨xs, hx, hl, hin⟩ := o3.2.2.2 rfl
  obtain ⟨s, k, hv⟩ := hx.1.len
  subst hv
  exact ⟨a, b, c, s, xs, k, c0, c1, c2, c3, hx, hl, hin⟩
theorem RE.set (h : RE w lo P R T N) {i f : Nat} (_hi : i < T) (hf : f < 4) {v : Value} (hv : okF w lo R N f v) : RE (w.setCell ⟨R, i * 4 + f, none⟩ v) lo P R T N := by
  have hfr : Fr (fun k => k = R) w (w.setCell ⟨R, i * 4 + f, none⟩ v) := (Fr.refl (fun k => k = R) w).setCell (p := ⟨R, i * 4 + f, none⟩) (.inl rfl) v
  obtain ⟨V, h1, h2, h3⟩ := h.hr
  refine { h with hp := h.hp.fr hfr h.PR, hr := ⟨V.set (i * 4 + f) v, by simpa using h1, h2.put _ _, fun j hj g hg => ?_⟩ }
  have hd : ∀ k, lo ≤ k → k < w.heap.size → k ≠ R → ¬ k = R := fun _ _ _ h => h
  by_cases e : j * 4 + g = i * 4 + f
  · have e1 : g = f := by omega
    subst e1
    rw [show (V.set (i * 4 + g) v).getD (j * 4 + g) undef = v by rw [e]; simp [List.getD, show i * 4 + g < V.length by omega]]
    exact hv.fr hfr hd
  · rw [show (V.set (i * 4 + f) v).getD (j * 4 + g) undef = V.getD (j * 4 + g) undef by simp [List.getD, Ne.symm e]]
    exact (h3 j hj g hg).fr hfr hd
theorem okF_int (a : Int) {f : Nat} (hf : f = 0 ∨ f = 2) : okF w lo R N f (.int .i64 a) := ⟨fun _ => ⟨a, rfl⟩, fun e => by omega, fun _ => ⟨a, rfl⟩, fun e => by omega⟩
theorem okF_bool (b : Bool) : okF w lo R N 1 (.bool b) := ⟨fun e => by omega, fun _ => ⟨b, rfl⟩, fun e => by omega, fun e => by omega⟩
theorem okF_nil : okF w lo R N 3 (.slice none 0 0) := ⟨fun e => by omega, fun e => by omega, fun e => by omega, fun _ => ⟨[], RowX.nil _ _ _ _, by simp, by simp⟩⟩
theorem okF_row {v : Value} {xs : List Int} (h : RowX w lo (fun k => k = R) v xs) (hl : xs.length ≤ N) (hi : ∀ x ∈ xs, inI x) : okF w lo R N 3 v := ⟨fun e => by omega, fun e => by omega, fun e => by omega, fun _ => ⟨xs, h, hl, hi⟩⟩
theorem rright (w : World) (id : Int) (hi : inI id) : Calls Try.prog 154 #[.int .i64 id] w fun e w' => e = .returned (.bool (decide (idOk id))) ∧ w = w' := by
  unfold inI at hi
  by_cases h0 : 65536 ≤ id
  · by_cases h1 : id / 65536 ≤ 2147483647
    · have HA : Hid (decide (idOk id) = true) := hid (decide_eq_true ⟨h0, h1⟩)
      rw [HA.out]
      go_enter Try.func154, Try.ntmps154
      go_wp2
      go_ret
      exact ⟨rfl, rfl⟩
    · have HA : Hid (decide (idOk id) = false) := hid (decide_eq_false fun h => h1 h.2)
      rw [HA.out]
      go_enter Try.func154, Try.ntmps154
      go_wp2
      go_ret
      exact ⟨by first | rfl | (simp; omega), rfl⟩
  · have HA : Hid (decide (idOk id) = false) := hid (decide_eq_false fun h => h0 h.1)
    rw [HA.out]
    go_enter Try.func154, Try.ntmps154
    go_wp2
    go_ret
    exact ⟨by first | rfl | (simp; omega), rfl⟩
theorem rindex (w : World) (id : Int) (hi : inI id) : Calls Try.prog 143 #[.int .i64 id] w fun e w' => e = .returned (.int .i64 (idxI id)) ∧ w = w' := by
  have A := rright w id hi
  unfold inI at hi
  rcases idxI_cases id with ⟨h, e⟩ | ⟨h, e, _, _⟩
  · rw [e]
    rw [decide_eq_false h] at A
    have HA := hid A
    clear A h e
    go_enter Try.func143, Try.ntmps143
    go_wp2_with (go_at_call 154; refine HA.out.mono ?_; rintro e w' ⟨rfl, rfl⟩)
    go_ret
    exact ⟨rfl, rfl⟩
  · rw [e]
    rw [decide_eq_true h] at A
    have h0 := h.1
    have HA := hid A
    clear A h e
    go_enter Try.func143, Try.ntmps143
    go_wp2_with (go_at_call 154; refine HA.out.mono ?_; rintro e w' ⟨rfl, rfl⟩)
    go_ret
    exact ⟨rfl, rfl⟩
def plR (T : Nat) (id : Int) : Int := if idxI id < T then idxI id else -1
theorem plR_cases (T : Nat) (id : Int) : plR T id = -1 ∨ ∃ i : Nat, plR T id = (i : Int) ∧ i < T := by
  unfold plR
  rcases idxI_cases id with ⟨_, e⟩ | ⟨_, e, b0, b1⟩
  · rw [e]; split <;> exact .inl rfl
  · rw [e]; split
    · obtain ⟨i, hi⟩ := Int.eq_ofNat_of_zero_le b0
      exact .inr ⟨i, hi, by omega⟩
    · exact .inl rfl
theorem rplace (h : RE w lo P R T N) (id : Int) (hi : inI id) : Calls Try.prog 115 #[.pointer (some ⟨P, 0, none⟩), .int .i64 id] w fun e w' => e = .returned (.int .i64 (plR T id)) ∧ w = w' := by
  have F0 := h.f0
  have HA := hid (rindex w id hi)
  unfold plR
  obtain ⟨x, hx⟩ : ∃ x, idxI id = x := ⟨_, rfl⟩
  rw [hx] at HA ⊢
  clear hx
  by_cases hlt : x < (T : Int)
  · rw [if_pos hlt]
    go_enter Try.func115, Try.ntmps115
    go_wp2_with (go_at_call 143; refine HA.out.mono ?_; rintro e w' ⟨rfl, rfl⟩)
    go_ret
    exact ⟨rfl, rfl⟩
  · rw [if_neg hlt]
    have hge : (T : Int) ≤ x := by omega
    go_enter Try.func115, Try.ntmps115
    go_wp2_with (go_at_call 143; refine HA.out.mono ?_; rintro e w' ⟨rfl, rfl⟩)
    go_ret
    exact ⟨rfl, rfl⟩
set_option maxRecDepth 100000 in
theorem rstate (h : RE w lo P R T N) (id : Int) (hi : inI id) : Calls Try.prog 114 #[.pointer (some ⟨P, 0, none⟩), .int .i64 id] w fun e w' => ∃ x : Int, e = .returned (.int .i64 x) ∧ (x = 0 ∨ ((x = 1 ∨ x = 2) ∧ 0 ≤ plR T id)) ∧ w = w' := by
  have F0 := h.f0
  have HA := hid (rplace h id hi)
  have T1 := h.T1
  rcases plR_cases T id with e | ⟨i, e, hiT⟩
  · rw [e] at HA ⊢
    clear e
    go_enter Try.func114, Try.ntmps114
    go_wp2_with (go_at_call 115; refine HA.out.mono ?_; rintro e w' ⟨rfl, rfl⟩)
    go_ret
    exact ⟨0, rfl, .inl rfl, rfl⟩
  · rw [e] at HA ⊢
    obtain ⟨a, b, c, s, xs, k, c0, c1, _⟩ := h.row hiT
    have hiT' : (i : Int) < (T : Int) := by omega
    clear e
    by_cases ha : a = id
    · have d : (a != id) = false := by simp [ha]
      clear ha
      cases b
      · go_enter Try.func114, Try.ntmps114
        go_wp2_with (go_at_call 115; refine HA.out.mono ?_; rintro e w' ⟨rfl, rfl⟩)
        go_ret
        exact ⟨1, rfl, .inr ⟨.inl rfl, by omega⟩, rfl⟩
      · go_enter Try.func114, Try.ntmps114
        go_wp2_with (go_at_call 115; refine HA.out.mono ?_; rintro e w' ⟨rfl, rfl⟩)
        go_ret
        exact ⟨2, rfl, .inr ⟨.inr rfl, by omega⟩, rfl⟩
    · have d : (a != id) = true := by simp [ha]
      clear ha
      go_enter Try.func114, Try.ntmps114
      go_wp2_with (go_at_call 115; refine HA.out.mono ?_; rintro e w' ⟨rfl, rfl⟩)
      go_ret
      exact ⟨0, rfl, .inl rfl, rfl⟩
/-- What a call made of the ends, whatever it tells. -/
def REPost (lo P R T N : Nat) (w : World) (v : Value → Prop) (e : Ending) (w' : World) : Prop := (∃ x, e = .returned x ∧ v x) ∧ RE w' lo P R T N ∧ Fr (fun k => k = R) w w'
set_option maxRecDepth 100000 in
set_option maxHeartbeats 1000000 in
theorem rstart (h : RE w lo P R T N) (id : Int) (hi : inI id) : Calls Try.prog 116 #[.pointer (some ⟨P, 0, none⟩), .int .i64 id] w (REPost lo P R T N w fun x => ∃ z, x = .int .i64 z) := by
  unfold REPost
  have F0 := h.f0
  have HA := hid (rplace h id hi)
  have HH := hid h
  have T1 := h.T1
  rcases plR_cases T id with e | ⟨i, e, hiT⟩
  · rw [e] at HA
    clear e
    go_enter Try.func116, Try.ntmps116
    go_wp2_with (go_at_call 115; refine HA.out.mono ?_; rintro e w' ⟨rfl, rfl⟩)
    go_ret
    exact ⟨⟨_, rfl, _, rfl⟩, h, Fr.refl _ _⟩
  · rw [e] at HA
    obtain ⟨a, b, c, s, xs, k, c0, c1, c2, c3, _⟩ := h.row hiT
    have hiT' : (i : Int) < (T : Int) := by omega
    have z0 := h.frz (i * 4)
    have z1 := h.frz (i * 4 + 1)
    have z2 := h.frz (i * 4 + 2)
    have z3 := h.frz (i * 4 + 3)
    have hq := (((h.set hiT (f := 0) (by omega) (okF_int id (.inl rfl))).set hiT (f := 1) (by omega) (okF_bool false)).set hiT (f := 2) (by omega) (okF_int 0 (.inr rfl))).set hiT (f := 3) (by omega) okF_nil
    have hf : Fr (fun k => k = R) w ((((w.setCell ⟨R, i * 4 + 0, none⟩ (.int .i64 id)).setCell ⟨R, i * 4 + 1, none⟩ (.bool false)).setCell ⟨R, i * 4 + 2, none⟩ (.int .i64 0)).setCell ⟨R, i * 4 + 3, none⟩ (.slice none 0 0)) :=
      ((((Fr.refl (fun k => k = R) w).setCell (p := ⟨R, i * 4 + 0, none⟩) (.inl rfl) _).setCell (p := ⟨R, i * 4 + 1, none⟩) (.inl rfl) _).setCell (p := ⟨R, i * 4 + 2, none⟩) (.inl rfl) _).setCell (p := ⟨R, i * 4 + 3, none⟩) (.inl rfl) _
    have HQ := hid hq
    have HF := hid hf
    clear e hq hf
    by_cases ha : a = 0
    · have d : (a != 0) = false := by simp [ha]
      clear ha
      go_enter Try.func116, Try.ntmps116
      go_wp2_with (go_at_call 115; refine HA.out.mono ?_; rintro e w' ⟨rfl, rfl⟩)
      go_ret
      exact ⟨⟨_, rfl, _, rfl⟩, HQ.out, HF.out⟩
    · have d : (a != 0) = true := by simp [ha]
      clear ha
      cases b
      · go_enter Try.func116, Try.ntmps116
        go_wp2_with (go_at_call 115; refine HA.out.mono ?_; rintro e w' ⟨rfl, rfl⟩)
        go_ret
        exact ⟨⟨_, rfl, _, rfl⟩, HH.out, Fr.refl _ _⟩
      · go_enter Try.func116, Try.ntmps116
        go_wp2_with (go_at_call 115; refine HA.out.mono ?_; rintro e w' ⟨rfl, rfl⟩)
        go_ret
        exact ⟨⟨_, rfl, _, rfl⟩, HQ.out, HF.out⟩
end
end Go.Proofs.Ytffjaaolcphonaa
/- The document's ends: End, at. -/
namespace Go.Proofs.Ytffjaaolcphonaa
open Go.RowKit
set_option linter.unusedSimpArgs false
section
variable {w w' : World} {lo P R T N : Nat}
set_option maxRecDepth 100000 in
set_option maxHeartbeats 1000000 in
theorem rend (h : RE w lo P R T N) (id v : Int) (hi : inI id) : Calls Try.prog 60 #[.pointer (some ⟨P, 0, none⟩), .int .i64 id, .int .i64 v] w (REPost lo P R T N w fun x => ∃ a n c z, x = .tuple #[.slice a n c, .int .i64 z]) := by
  unfold REPost
  have F0 := h.f0
  have HS := hid (rstate h id hi)
  have HP := hid (fun W (hs : Still w W) => rplace (h.still hs) id hi)
  have HH := hid h
  have T1 := h.T1
  rcases plR_cases T id with e | ⟨i, e, hiT⟩
  · rw [e] at HS
    clear e
    go_enter Try.func60, Try.ntmps60
    go_wp2_with fail
    refine HS.out.mono ?_
    rintro e w' ⟨x, rfl, hx, rfl⟩
    have d : (x != 1) = true := by simp; omega
    clear hx
    go_wp2_with fail
    go_ret2
    exact ⟨⟨_, rfl, _, _, _, _, rfl⟩, h, Fr.refl _ _⟩
  · rw [e] at HP
    obtain ⟨a, b, c, s, xs, k, c0, c1, c2, c3, _⟩ := h.row hiT
    have hiT' : (i : Int) < (T : Int) := by omega
    have z1 := h.frz (i * 4 + 1)
    have z2 := h.frz (i * 4 + 2)
    have z3 := h.frz (i * 4 + 3)
    have HQ := hid (fun W (hW : Still w W) => (⟨(((HH.out.still hW).set hiT (f := 1) (by omega) (okF_bool true)).set hiT (f := 2) (by omega) (okF_int v (.inr rfl))).set hiT (f := 3) (by omega) okF_nil,
      ((((hW.fr (fun k => k = R))).setCell (p := ⟨R, i * 4 + 1, none⟩) (.inl rfl) _).setCell (p := ⟨R, i * 4 + 2, none⟩) (.inl rfl) _).setCell (p := ⟨R, i * 4 + 3, none⟩) (.inl rfl) _⟩ :
        RE (((W.setCell ⟨R, i * 4 + 1, none⟩ (.bool true)).setCell ⟨R, i * 4 + 2, none⟩ (.int .i64 v)).setCell ⟨R, i * 4 + 3, none⟩ (.slice none 0 0)) lo P R T N ∧
        Fr (fun k => k = R) w (((W.setCell ⟨R, i * 4 + 1, none⟩ (.bool true)).setCell ⟨R, i * 4 + 2, none⟩ (.int .i64 v)).setCell ⟨R, i * 4 + 3, none⟩ (.slice none 0 0))))
    clear e
    go_enter Try.func60, Try.ntmps60
    go_wp2_with fail
    refine HS.out.mono ?_
    rintro e w' ⟨x, rfl, hx, rfl⟩
    by_cases h1 : x = 1
    · have d : (x != 1) = false := by simp [h1]
      clear hx h1
      go_wp2_with fail
      go_quiet ((go_at_call 115; exact Calls.quiet_of_same (calls_flip (HP.out _ ((Fr.refl _ _).drewN _)))))
      go_wp2_with fail
      go_ret2
      exact ⟨⟨_, rfl, _, _, _, _, rfl⟩, HQ.out _ ((Fr.refl _ w).drewN _)⟩
    · have d : (x != 1) = true := by simp [h1]
      clear hx h1
      go_wp2_with fail
      go_ret2
      exact ⟨⟨_, rfl, _, _, _, _, rfl⟩, h, Fr.refl _ _⟩
def IntPost (w : World) (e : Ending) (w' : World) : Prop := ∃ z : Int, e = .returned (.int .i64 z) ∧ Still w w'
theorem box147 (w : World) (a : Int) (b : Bool) (c : Int) (v : Value) : ∃ W g, W = w.alloc (.cells #[.int .i64 a, .bool b, .int .i64 c, v] 147) ∧ g = w.heap.size ∧ Still w W ∧ W.cell? ⟨g, 0, none⟩ = some (.int .i64 a) ∧ W.cell? ⟨g, 3, none⟩ = some v :=
  ⟨_, _, rfl, rfl, (Fr.refl _ _).alloc _, (Blk.new w [.int .i64 a, .bool b, .int .i64 c, v] 147).cell 0, (Blk.new w [.int .i64 a, .bool b, .int .i64 c, v] 147).cell 3⟩
set_option maxRecDepth 100000 in
set_option maxHeartbeats 2000000 in
theorem rat (h : RE w lo P R T N) (p : Int) : Calls Try.prog 144 #[.pointer (some ⟨P, 0, none⟩), .int .i64 p] w (IntPost w) := by
  have F0 := h.f0
  have HH := hid h
  have T1 := h.T1
  have N1 := h.N1
  go_enter Try.func144, Try.ntmps144
  go_wp2_with fail
  go_loopw [14] (fun c wr => ∃ i : Nat, c = .int .i64 i ∧ i ≤ T ∧ Still w wr) (fun c _ => T - (intOf c).toNat)
  case atStart => exact ⟨0, rfl, Nat.zero_le _, Fr.refl _ _⟩
  case round =>
    obtain ⟨i, rfl, hi, hst⟩ := hrel
    by_cases hlt : i < T
    · have hlt' : (i : Int) < (T : Int) := by omega
      obtain ⟨a, b, c, s, xs, k, c0, c1, c2, c3, hx, hl, hin⟩ := (HH.out.still hst).row hlt
      have HX := hid hx.1
      have HIN := hid hin
      clear hx hin F0
      go_wp2_with fail
      obtain ⟨W, g, hW, hg, hs, g0, g3⟩ := box147 wr a b c (.slice s xs.length k)
      rw [← hW, ← hg]
      clear hW hg
      obtain ⟨wo, rfl⟩ : ∃ wo : World, wo = wr := ⟨_, rfl⟩
      go_loopw [22] (fun c wr => ∃ j : Nat, c = .int .i64 j ∧ j ≤ xs.length ∧ Still W wr) (fun c _ => xs.length - (intOf c).toNat)
      case atStart => exact ⟨0, rfl, Nat.zero_le _, Fr.refl _ _⟩
      case round =>
        obtain ⟨j, rfl, hj, hst2⟩ := hrel
        by_cases hl2 : j < xs.length
        · have hl2' : (j : Int) < (xs.length : Int) := by omega
          rcases HX.out with ⟨e0, _⟩ | ⟨_, bb, off, c', hv, hcell⟩
          · exfalso; have e1 := congrArg List.length e0; have e2 : xs.length = 0 := e1; omega
          obtain rfl : s = some ⟨bb, off, none⟩ := by injection hv
          clear hv
          have hy := Still.cell (hs.trans hst2) (hcell j hl2)
          rw [show xs.getD j 0 = xs[j] by simp [List.getD, hl2]] at hy
          clear hcell
          have HI := hid (fun W => rindex W xs[j] (HIN.out xs[j] (List.getElem_mem _)))
          generalize xs[j] = y at hy HI
          obtain ⟨z, hz⟩ : ∃ z, idxI y = z := ⟨_, rfl⟩
          rw [hz] at HI
          clear hz
          by_cases hzp : z = p
          · have d : (z == p) = true := by simp [hzp]
            clear hzp
            go_wp2_with (go_at_call 143; refine (HI.out _).mono ?_; rintro e w' ⟨rfl, rfl⟩)
            go_ret
            exact ⟨_, rfl, (hst.trans hs).trans hst2⟩
          · have d : (z == p) = false := by simpa using hzp
            clear hzp
            go_wp2_with (go_at_call 143; refine (HI.out _).mono ?_; rintro e w' ⟨rfl, rfl⟩)
            go_roundw
            case rel => exact ⟨j + 1, by go_num, by omega, hst2⟩
            case measure => simp [intOf]; omega
        · have hl2' : ¬ (j : Int) < (xs.length : Int) := by omega
          go_wp2_with fail
          go_roundw
          case rel => exact ⟨i + 1, by go_num, by omega, (hst.trans hs).trans hst2⟩
          case measure => simp [intOf]; omega
    · have hlt' : ¬ (i : Int) < (T : Int) := by omega
      go_wp2_with fail
      go_ret
      exact ⟨_, rfl, hst⟩
end
end Go.Proofs.Ytffjaaolcphonaa
/- The document's ends: Join. -/
namespace Go.Proofs.Ytffjaaolcphonaa
open Go.RowKit
set_option linter.unusedSimpArgs false
section
variable {w w' : World} {lo P R T N : Nat}
def JoinV (x : Value) : Prop := ∃ (a : Int) (b : Bool) (c : Int), x = .tuple #[.int .i64 a, .bool b, .int .i64 c]
set_option maxRecDepth 100000 in
set_option maxHeartbeats 4000000 in
theorem rjoin (h : RE w lo P R T N) (hN : N + 1 ≤ 1000) (id y : Int) (hi : inI id) (hy : inI y) : Calls Try.prog 117 #[.pointer (some ⟨P, 0, none⟩), .int .i64 id, .int .i64 y] w (REPost lo P R T (N + 1) w JoinV) := by
  unfold REPost
  have F0 := h.f0
  have HP1 := hid (rplace h y hy)
  have HA := hid (rat h (plR T y))
  have HS := hid (fun W (hs : Still w W) => rstate (h.still hs) id hi)
  have HP := hid (fun W (hs : Still w W) => rplace (h.still hs) id hi)
  have HH := hid (h.more (Nat.le_succ N) hN)
  have T1 := h.T1
  by_cases hp0 : plR T y < 0
  · generalize plR T y = p at HP1 HA hp0
    go_enter Try.func117, Try.ntmps117
    go_wp2_with (go_at_call 115; refine HP1.out.mono ?_; rintro e w' ⟨rfl, rfl⟩)
    go_ret3
    exact ⟨⟨_, rfl, _, _, _, rfl⟩, HH.out, Fr.refl _ _⟩
  have hp1 : ¬ plR T y < 0 := hp0
  generalize plR T y = p at HP1 HA hp1
  clear hp0
  unfold IntPost at HA
  go_enter Try.func117, Try.ntmps117
  go_wp2_with fail
  refine HP1.out.mono ?_
  rintro e w' ⟨rfl, rfl⟩
  go_wp2_with fail
  refine HA.out.mono ?_
  rintro e w1 ⟨z, rfl, hs1⟩
  by_cases hz : 0 ≤ z
  · have d : decide (0 ≤ z) = true := decide_eq_true hz
    clear hz
    go_wp2_with fail
    go_ret3
    exact ⟨⟨_, rfl, _, _, _, rfl⟩, HH.out.still hs1, hs1.fr _⟩
  have d : decide (0 ≤ z) = false := decide_eq_false hz
  clear hz
  by_cases hyi : y = id
  · have d2 : (y == id) = true := by simp [hyi]
    clear hyi
    go_wp2_with fail
    go_ret3
    exact ⟨⟨_, rfl, _, _, _, rfl⟩, HH.out.still hs1, hs1.fr _⟩
  have d2 : (y == id) = false := by simpa using hyi
  clear hyi
  go_wp2_with fail
  refine (HS.out w1 hs1).mono ?_
  rintro e w' ⟨x, rfl, hx, rfl⟩
  rcases hx with rfl | ⟨hx, hpl⟩
  · go_wp2_with fail
    go_ret3
    exact ⟨⟨_, rfl, _, _, _, rfl⟩, HH.out.still hs1, hs1.fr _⟩
  obtain ⟨i, e, hiT⟩ : ∃ i : Nat, plR T id = (i : Int) ∧ i < T := by
    rcases plR_cases T id with e | e
    · omega
    · exact e
  rw [e] at HP
  clear hpl e
  obtain ⟨a, b, c, s, xs, k, c0, c1, c2, c3, hxr, hxl, hin⟩ := (h.still hs1).row hiT
  have hiT' : (i : Int) < (T : Int) := by omega
  have G0 := Still.cell hs1 F0
  have z3 := (h.still hs1).frz (i * 4 + 3)
  have hzw := hs1.size
  clear F0
  rcases hx with rfl | rfl
  · have HX := hid hxr
    have HIN := hid hin
    have HR1 := hid (HH.out.still hs1)
    have hRl := HR1.out.ltR
    have hlo : lo ≤ w1.heap.size := by have := HH.out.lp; have := HH.out.hp.lt; omega
    have c3n : ∀ n, ((w1.drewN n).alloc (.cells #[] 3)).cell? ⟨R, i * 4 + 3, none⟩ = some (.slice s xs.length k) := fun n => Still.cell (((Fr.refl _ w1).drewN n).alloc _) c3
    clear hxr hin
    go_wp2_with fail
    go_quiet ((go_at_call 115; exact Calls.quiet_of_same (calls_flip (HP.out _ (hs1.drewN _)))))
    go_wp2_with (first
      | (at_builtin; refine wpList_append_irow rfl (.tmp 51) (.tmp 55) rfl w1.heap.size 0 [] xs (.slice (some ⟨_, 0, none⟩) 0 0) _ rfl rfl (ownsRow_base (owns_new _ 3) (Nat.le_refl _)) (HX.out.1.still (((Fr.refl _ w1).drewN _).alloc _)) (by omega) (by simp) ?_; intro v3 w3 ho3 hg3 _; have s3 : Still w1 w3 := Fr.of_own (((Fr.refl _ w1).drewN _).alloc _) (ownsRow_base (owns_new _ 3) (Nat.le_refl _)) hg3 (Nat.le_refl _); have q3 := Still.cell s3 c3; have y3 := Still.frz s3 hRl z3; have zz3 := s3.size)
      | (at_builtin; refine wpList_append_irow rfl (.tmp 56) (.tmp 58) rfl w1.heap.size (0 + xs.length) ([] ++ xs) [y] _ _ rfl rfl (ho3.alloc _) (one_new _ _ _) (by simp; omega) (by simp; omega) ?_; intro v4 w4 ho4 hg4 _; obtain ⟨a4, k4, rfl⟩ := own_shape ho4 (xs.length + 1) (by simp); have s4 : Still w1 w4 := Fr.of_own (s3.alloc _) (ho3.alloc _) hg4 (Nat.le_refl _); have q4 := Still.cell s4 c3; have y4 := Still.frz s4 hRl z3))
    go_ret3
    have hrow : RowX w4 lo (fun k => k = R) (.slice a4 (xs.length + 1) k4) (xs ++ [y]) := by
      refine RowX.own (base := w1.heap.size) (n := xs.length + 1) ?_ (by simp) (fun k hk e => by omega) hlo
      have := ho4; simpa using this
    have hq := (HR1.out.still s4).set hiT (f := 3) (by omega) (okF_row hrow (by simp; omega) (fun x hx => by
      rcases List.mem_append.1 hx with hx | hx
      · exact HIN.out x hx
      · simp at hx; subst hx; exact hy))
    exact ⟨⟨_, rfl, _, _, _, rfl⟩, hq, ((hs1.trans s4).fr (fun k => k = R)).setCell (p := ⟨R, i * 4 + 3, none⟩) (.inl rfl) _⟩
  · go_wp2_with fail
    go_quiet ((go_at_call 115; exact Calls.quiet_of_same (calls_flip (HP.out _ (hs1.drewN _)))))
    go_wp2_with fail
    go_ret3
    exact ⟨⟨_, rfl, _, _, _, rfl⟩, HH.out.still (hs1.drewN _), (hs1.drewN _).fr _⟩
end
end Go.Proofs.Ytffjaaolcphonaa
/- The document's ends: Drop, New. -/
namespace Go.Proofs.Ytffjaaolcphonaa
open Go.RowKit
set_option linter.unusedSimpArgs false
section
variable {w w' : World} {lo P R T N : Nat}
def BoolV (x : Value) : Prop := ∃ b, x = .bool b
set_option maxRecDepth 100000 in
set_option maxHeartbeats 4000000 in
theorem rdrop (h : RE w lo P R T N) (y : Int) : Calls Try.prog 118 #[.pointer (some ⟨P, 0, none⟩), .int .i64 y] w (REPost lo P R T N w BoolV) := by
  unfold REPost
  have F0 := h.f0
  have HH := hid h
  have T1 := h.T1
  have N1 := h.N1
  have hPR := h.PR
  go_enter Try.func118, Try.ntmps118
  go_wp2_with fail
  go_loopw [15] (fun c wr => ∃ i : Nat, c = .int .i64 i ∧ i ≤ T ∧ Still w wr) (fun c _ => T - (intOf c).toNat)
  case atStart => exact ⟨0, rfl, Nat.zero_le _, Fr.refl _ _⟩
  case round =>
    obtain ⟨i, rfl, hi, hst⟩ := hrel
    by_cases hlt : i < T
    · have hlt' : (i : Int) < (T : Int) := by omega
      have HR := hid (HH.out.still hst)
      obtain ⟨a, b, c, s, xs, k, c0, c1, c2, c3, hx, hl, hin⟩ := HR.out.row hlt
      have G0 := Still.cell hst F0
      have z3 := HR.out.frz (i * 4 + 3)
      have hRl := HR.out.ltR
      have hlo : lo ≤ wr.heap.size := by have := HR.out.lp; have := HR.out.hp.lt; omega
      have HX := hid hx.1
      have HIN := hid hin
      clear hx hin F0
      go_wp2_with fail
      obtain ⟨W, g, hW, hg, hs, g0, g3⟩ := box147 wr a b c (.slice s xs.length k)
      rw [← hW, ← hg]
      have hgl : wr.heap.size ≤ g := by omega
      have HGG := hid hg
      clear hW hg
      obtain ⟨wo, rfl⟩ : ∃ wo : World, wo = wr := ⟨_, rfl⟩
      have hzW := hs.size
      go_loopw [7, 23] (fun l c wr => ∃ (j : Nat) (ys : List Int), c = .int .i64 j ∧ j ≤ xs.length ∧ ys.length ≤ j ∧ (∀ x ∈ ys, inI x) ∧ wr.ownsRow W.heap.size 3 1 l ys.length (ints ys) ∧ Still W wr) (fun _ c _ => xs.length - (intOf c).toNat)
      case atStart => exact ⟨0, [], rfl, Nat.zero_le _, Nat.le_refl _, fun x hx => by simp at hx, World.ownsRow_nil _ _ _ _, Fr.refl _ _⟩
      case round =>
        obtain ⟨j, ys, rfl, hj, hyl, hyi, hown, hst2⟩ := hrel
        obtain ⟨a5, c5, rfl⟩ := own_shape hown ys.length rfl
        have HYI := hid hyi
        clear hyi
        by_cases hl2 : j < xs.length
        · have hl2' : (j : Int) < (xs.length : Int) := by omega
          rcases HX.out with ⟨e0, _⟩ | ⟨_, bb, off, c', hv, hcell⟩
          · exfalso; have e1 := congrArg List.length e0; have e2 : xs.length = 0 := e1; omega
          obtain rfl : s = some ⟨bb, off, none⟩ := by injection hv
          clear hv
          have hy := Still.cell (hs.trans hst2) (hcell j hl2)
          rw [show xs.getD j 0 = xs[j] by simp [List.getD, hl2]] at hy
          clear hcell
          have hxi := hid (HIN.out xs[j] (List.getElem_mem _))
          generalize xs[j] = x at hy hxi
          obtain ⟨m, hm⟩ : ∃ m, ys.length = m := ⟨_, rfl⟩
          rw [hm] at hown hyl ⊢
          have HM := hid hm
          clear hm
          have hz2 := hst2.size
          by_cases hxy : x = y
          · have d : (x != y) = false := by simp [hxy]
            clear hxy
            go_wp2_with fail
            go_roundw
            case rel => exact ⟨j + 1, ys, by go_num, by omega, by have := HM.out; omega, HYI.out, by rw [HM.out]; exact hown, hst2⟩
            case measure => simp [intOf]; omega
          · have d : (x != y) = true := by simp [hxy]
            clear hxy
            go_wp2_with (at_builtin; refine wpList_append_irow rfl (.tmp 30) (.tmp 32) rfl W.heap.size m ys [x] (.slice a5 m c5) _ rfl rfl (hown.alloc _) (one_new _ _ _) (by simp; omega) (by simp; omega) ?_; intro v4 w4 ho4 hg4 _; have s4 : Still W w4 := Fr.of_own (hst2.alloc _) (hown.alloc _) hg4 (Nat.le_refl _))
            go_roundw
            case rel =>
              exact ⟨j + 1, ys ++ [x], by go_num, by omega, by have := HM.out; rw [List.length_append]; simp; omega, fun z hz => by
                rcases List.mem_append.1 hz with hz | hz
                · exact HYI.out z hz
                · simp at hz; subst hz; exact hxi.out, by rw [List.length_append, HM.out]; exact ho4, s4⟩
            case measure => simp [intOf]; omega
        · have hl2' : ¬ (j : Int) < (xs.length : Int) := by omega
          have gg3 := Still.cell hst2 g3
          have hst3 := hs.trans hst2
          by_cases hlen : ys.length < xs.length
          · have d : decide (ys.length < xs.length) = true := decide_eq_true hlen
            have K0 := Still.cell hst3 G0
            have K3 := Still.cell hst3 c3
            have Y3 := Still.frz hst3 hRl z3
            have hrow : RowX wr lo (fun k => k = R) (.slice a5 ys.length c5) ys := RowX.own hown rfl (fun k hk e => by omega) (by omega)
            have hq := (HR.out.still hst3).set hlt (f := 3) (by omega) (okF_row hrow (by omega) HYI.out)
            have hf : Fr (fun k => k = R) w (wr.setCell ⟨R, i * 4 + 3, none⟩ (.slice a5 ys.length c5)) := ((hst.trans hst3).fr (fun k => k = R)).setCell (p := ⟨R, i * 4 + 3, none⟩) (.inl rfl) _
            have HQ := hid hq
            have HF := hid hf
            clear hq hf hrow
            go_wp2_with fail
            go_ret
            exact ⟨⟨_, rfl, _, rfl⟩, HQ.out, HF.out⟩
          · have d : decide (ys.length < xs.length) = false := decide_eq_false hlen
            go_wp2_with fail
            go_roundw
            case rel => exact ⟨i + 1, by go_num, by omega, hst.trans hst3⟩
            case measure => simp [intOf]; omega
    · have hlt' : ¬ (i : Int) < (T : Int) := by omega
      go_wp2_with fail
      go_ret
      exact ⟨⟨_, rfl, _, rfl⟩, HH.out.still hst, hst.fr _⟩
theorem info147 : (Try.prog.info? 147).map (fun i => (i.zero, i.size, i.bytes)) = some (some (.agg #[.int .i64 0, .bool false, .int .i64 0, .slice none 0 0]), 4, 48) := by kernel_rfl
theorem mk_ends (n : Nat) (hn : n ≤ 1000000) : ∀ w, (Instr.makeSlice 142 (.int .i64 (n : Int)) (.int .i64 (n : Int))).run Try.prog w = .ok (.slice (some ⟨w.heap.size, 0, none⟩) n n) (w.alloc (.cells (madeCells #[.int .i64 0, .bool false, .int .i64 0, .slice none 0 0] (n * 4)) 147)) := by
  intro w
  obtain ⟨i0, hi, hz0, hz1, hz2⟩ := info_parts info147
  have := run_make (P := Try.prog) w 142 147 i0 _ Try.underlying142 hi hz0 .i64 .i64 (n : Int) (n : Int) (by omega) (by omega) (by rw [hz2]; omega) (by omega)
  rw [this, hz1, Int.toNat_natCast]; rfl
def REMade (w : World) (T : Nat) (e : Ending) (w' : World) : Prop := ∃ P R, e = .returned (.pointer (some ⟨P, 0, none⟩)) ∧ RE w' w.heap.size P R T 0 ∧ Still w w'
theorem re_new (w : World) (T : Nat) (T0 : 1 ≤ T) (T1 : T ≤ 1024) : Calls Try.prog 57 #[.int .i64 T] w (REMade w T) := by
  have a3 : ¬ (T : Int) < 1 := by omega
  have a4 : ¬ (1024 : Int) < (T : Int) := by omega
  have HM := mk_ends T (by omega)
  have hV : (madeCells #[.int .i64 0, .bool false, .int .i64 0, .slice none 0 0] (T * 4)).toList.length = T * 4 := by simp [madeCells]
  have hrow : ∀ (W : World) (lo R : Nat) i, i < T → ∀ f, f < 4 → okF W lo R 0 f ((madeCells #[.int .i64 0, .bool false, .int .i64 0, .slice none 0 0] (T * 4)).toList.getD (i * 4 + f) undef) := fun W lo R i hi f hf => by
    have e : (madeCells #[.int .i64 0, .bool false, .int .i64 0, .slice none 0 0] (T * 4)).toList.getD (i * 4 + f) undef = #[Value.int .i64 0, .bool false, .int .i64 0, .slice none 0 0][f]! := by
      have hl : i * 4 + f < T * 4 := by omega
      have hmod : (i * 4 + f) % 4 = f := by omega
      simp [madeCells, List.getD, hl, hmod]
    rw [e]
    rcases (show f = 0 ∨ f = 1 ∨ f = 2 ∨ f = 3 by omega) with rfl | rfl | rfl | rfl
    · exact okF_int 0 (.inl rfl)
    · exact okF_bool false
    · exact okF_int 0 (.inr rfl)
    · exact okF_nil
  have HR := hid hrow
  have HV := hid hV
  generalize madeCells #[.int .i64 0, .bool false, .int .i64 0, .slice none 0 0] (T * 4) = V at HM HR HV
  clear hV hrow
  go_enter Try.func57, Try.ntmps57
  go_wp2
  go_ret
  have hb1 : Blk ((w.alloc (.cells V 147)).alloc (.cells #[sl w.heap.size T T] 144)) (w.heap.size + 1) [sl w.heap.size T T] 144 := blk_new1 w _ [sl w.heap.size T T] 144
  have hb2 : Blk ((w.alloc (.cells V 147)).alloc (.cells #[sl w.heap.size T T] 144)) w.heap.size V.toList 147 := by
    have := (Blk.new w V.toList 147).alloc (.cells #[sl w.heap.size T T] 144)
    simpa using this
  exact ⟨w.heap.size + 1, w.heap.size, rfl, { hp := hb1, hr := ⟨V.toList, HV.out, hb2, fun i hi f hf => HR.out _ _ _ i hi f hf⟩, PR := by omega, lp := by omega, lR := by omega, T0 := T0, T1 := T1, N1 := by omega }, ((Fr.refl _ w).alloc _).alloc _⟩
end
end Go.Proofs.Ytffjaaolcphonaa
