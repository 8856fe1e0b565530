/- The document's links: lists of lists, in the world. -/
import Derived.Test.YtffjaaolcphonaaBdB
import Derived.Test.YtffjaaolcphonaaBdE
import Derived.Test.YtffjaaolcphonaaBdF
import Derived.Test.YtffjaaolcphonaaBdA
import Derived.StillTail
import Derived.Deep.RegionHeld
namespace Go.Proofs.Ytffjaaolcphonaa
open Go.RowKit

/-- A row that lies in no block below lo, and not in R. -/
def RowIn (w : World) (lo R : Nat) (v : Value) (xs : List Int) : Prop := IRow w v xs ∧ (∀ b o c n, v = .slice (some ⟨b, o, none⟩) n c → lo ≤ b ∧ b ≠ R) ∧ ∀ a n c, v = .slice a n c → n ≤ c
theorem RowIn.fr {w w' : World} {lo R : Nat} {v : Value} {xs : List Int} (h : RowIn w lo R v xs) {F : Nat → Prop} (hf : Fr F w w') (hd : ∀ k, lo ≤ k → k < w.heap.size → k ≠ R → ¬ F k) : RowIn w' lo R v xs := by
  refine ⟨?_, h.2⟩
  rcases h.1 with h1 | ⟨h0, b, off, c, hv, hc⟩
  · exact .inl h1
  · refine .inr ⟨h0, b, off, c, hv, fun i hi => ?_⟩
    have hl := World.block_lt_of_cell? _ _ (hc i hi)
    have := h.2.1 b off c _ hv
    exact (World.cell?_of_block (hf.block b hl (hd b this.1 hl this.2))).trans (hc i hi)
theorem RowIn.own {w w0 : World} {base n R : Nat} {v : Value} {xs : List Int} (h : w.ownsRow base 3 1 v n (ints xs)) (hn : n = xs.length) (hR : R < base) {lo : Nat} (hlo : lo ≤ base) (_ : w0 = w) : RowIn w lo R v xs := by
  refine ⟨IRow.own h hn, ?_, ?_⟩
  rotate_left
  · rintro a n c rfl
    obtain ⟨_, ⟨h1, _⟩ | ⟨g, cap, _, hv, _, _, hg, _⟩⟩ := h
    · injection h1 with _ h2 h3; omega
    · injection hv with _ h2 h3; omega
  rintro b o c n rfl
  obtain ⟨_, ⟨_, _⟩ | ⟨g, cap, _, hv, hg, _⟩⟩ := h
  · simp_all
  · injection hv with e1 _ _
    injection e1 with e1
    injection e1 with e1 _ _
    omega
theorem RowIn.nil (w : World) (lo R : Nat) (c : Nat) : RowIn w lo R (.slice none 0 c) [] := ⟨.inl ⟨rfl, _, _, rfl⟩, fun b o c n h => (by cases h), fun a n c h => (by injection h with _ h2 h3; omega)⟩

theorem Fr.putR {R : Nat} {w W : World} (h : Fr (fun k => k = R) w W) (i : Nat) (v : Value) : Fr (fun k => k = R) w (W.setCell ⟨R, i, none⟩ v) := Fr.setCell h (p := ⟨R, i, none⟩) (.inl rfl) v
/-- The document's links lie at p, their rows' headers in block R; all of it in no block below lo. -/
structure RefAt (w : World) (lo p R T : Nat) (L : List (List Nat)) : Prop where
  hp : Blk w p [.int .i64 T, .slice (some ⟨R, 0, none⟩) L.length L.length] 126
  pR : p ≠ R
  lp : lo ≤ p
  lR : lo ≤ R
  rows : ∃ vs : List Value, vs.length = L.length ∧ Blk w R vs 28 ∧ ∀ i, i < L.length → RowIn w lo R (vs.getD i undef) (zi (gl L i))
  t1 : T ≤ 4096
  m1 : L.length ≤ 4096
  bd : ∀ i, i < L.length → ∀ x ∈ gl L i, x < T
  sh : ∀ i, i < L.length → (gl L i).length ≤ 4096

theorem RefAt.fr {w w' : World} {lo p R T : Nat} {L : List (List Nat)} (h : RefAt w lo p R T L) {F : Nat → Prop} (hf : Fr F w w') (hd : ∀ k, lo ≤ k → k < w.heap.size → ¬ F k) : RefAt w' lo p R T L :=
  { h with
    hp := h.hp.fr hf (hd _ h.lp h.hp.lt)
    rows := by
      obtain ⟨vs, h1, h2, h3⟩ := h.rows
      exact ⟨vs, h1, h2.fr hf (hd _ h.lR h2.lt), fun i hi => (h3 i hi).fr hf fun k a b _ => hd k a b⟩ }
theorem RefAt.still {w w' : World} {lo p R T : Nat} {L : List (List Nat)} (h : RefAt w lo p R T L) (hf : Still w w') : RefAt w' lo p R T L := h.fr hf fun _ _ _ h => h
theorem RefAt.f0 {w : World} {lo p R T : Nat} {L : List (List Nat)} (h : RefAt w lo p R T L) : w.cell? ⟨p, 0, none⟩ = some (.int .i64 T) := by rw [h.hp.cell]; rfl
theorem RefAt.f1 {w : World} {lo p R T : Nat} {L : List (List Nat)} (h : RefAt w lo p R T L) : w.cell? ⟨p, 1, none⟩ = some (.slice (some ⟨R, 0, none⟩) L.length L.length) := by rw [h.hp.cell]; rfl
/-- Row number i. -/
theorem RefAt.row {w : World} {lo p R T : Nat} {L : List (List Nat)} (h : RefAt w lo p R T L) {i : Nat} (hi : i < L.length) :
    ∃ a c, w.cell? ⟨R, i, none⟩ = some (.slice a (gl L i).length c) ∧ RowIn w lo R (.slice a (gl L i).length c) (zi (gl L i)) := by
  obtain ⟨vs, h1, h2, h3⟩ := h.rows
  obtain ⟨a, c, hv⟩ := (h3 i hi).1.len
  rw [zi_len] at hv
  refine ⟨a, c, ?_, hv ▸ h3 i hi⟩
  have hi' : i < vs.length := by omega
  rw [h2.cell, ← hv, List.getElem?_eq_getElem hi']; simp [hi']
theorem RefAt.frz {w : World} {lo p R T : Nat} {L : List (List Nat)} (h : RefAt w lo p R T L) (i : Nat) : w.frozen? ⟨R, i, none⟩ = false := by
  obtain ⟨vs, h1, h2, h3⟩ := h.rows
  exact h2.frozen i
theorem gl_set_self (L : List (List Nat)) (i : Nat) (l : List Nat) (h : i < L.length) : gl (L.set i l) i = l := by simp [gl, h]
theorem gl_set_ne (L : List (List Nat)) {i j : Nat} (l : List Nat) (h : i ≠ j) : gl (L.set i l) j = gl L j := by simp [gl, h]
/-- Another row at a place. -/
theorem RefAt.put {w : World} {lo p R T : Nat} {L : List (List Nat)} (h : RefAt w lo p R T L) {i : Nat} {v : Value} {l : List Nat} (hv : RowIn w lo R v (zi l)) (hb : ∀ x ∈ l, x < T) (hs : l.length ≤ 4096) :
    RefAt (w.setCell ⟨R, i, none⟩ v) lo p R T (L.set i l) := by
  have hfr : Fr (fun k => k = R) w (w.setCell ⟨R, i, none⟩ v) := (Fr.refl (fun k => k = R) w).setCell (p := ⟨R, i, none⟩) (.inl rfl) v
  obtain ⟨vs, h1, h2, h3⟩ := h.rows
  refine { h with hp := ?_, rows := ⟨vs.set i v, by simp [h1], h2.put i v, fun j hj => ?_⟩, m1 := by simpa using h.m1, bd := fun j hj x hx => ?_, sh := fun j hj => ?_ }
  · simpa using h.hp.fr hfr h.pR
  · rw [List.length_set] at hj
    by_cases e : i = j
    · subst e
      rw [gl_set_self _ _ _ hj, show (vs.set i v).getD i undef = v by simp [List.getD, h1, hj]]
      exact hv.fr hfr fun k _ _ hk => hk
    · rw [gl_set_ne _ _ e, show (vs.set i v).getD j undef = vs.getD j undef by simp [List.getD, e]]
      exact (h3 j hj).fr hfr fun k _ _ hk => hk
  · rw [List.length_set] at hj
    by_cases e : i = j
    · subst e; rw [gl_set_self _ _ _ hj] at hx; exact hb x hx
    · rw [gl_set_ne _ _ e] at hx; exact h.bd j hj x hx
  · rw [List.length_set] at hj
    by_cases e : i = j
    · subst e; rw [gl_set_self _ _ _ hj]; exact hs
    · rw [gl_set_ne _ _ e]; exact h.sh j hj

section
variable {w : World} {lo p R T : Nat} {L : List (List Nat)}
theorem rlist (h : RefAt w lo p R T L) (i : Int) : Calls Try.prog 90 #[.pointer (some ⟨p, 0, none⟩), .int .i64 i] w fun e w' => e = .returned (.bool (decide (inR i L.length))) ∧ w = w' := by
  have F1 := h.f1
  by_cases hi : inR i L.length
  · obtain ⟨i0, i1⟩ := hi
    have HD := hid (decide_eq_true (p := inR i L.length) ⟨i0, i1⟩)
    go_enter Try.func90, Try.ntmps90
    go_wp2
    go_ret
    exact ⟨by rw [HD.out]; rfl, rfl⟩
  · have HD := hid (decide_eq_false hi)
    rcases inR_no hi with h0 | h0
    all_goals
      clear hi
      go_enter Try.func90, Try.ntmps90
      go_wp2
      go_ret
      exact ⟨by rw [HD.out]; first | rfl | (simp; try omega), rfl⟩
theorem rthing (h : RefAt w lo p R T L) (i : Int) : Calls Try.prog 135 #[.pointer (some ⟨p, 0, none⟩), .int .i64 i] w fun e w' => e = .returned (.bool (decide (inR i T))) ∧ w = w' := by
  have F1 := h.f0
  by_cases hi : inR i T
  · obtain ⟨i0, i1⟩ := hi
    have HD := hid (decide_eq_true (p := inR i T) ⟨i0, i1⟩)
    go_enter Try.func135, Try.ntmps135
    go_wp2
    go_ret
    exact ⟨by rw [HD.out]; rfl, rfl⟩
  · have HD := hid (decide_eq_false hi)
    rcases inR_no hi with h0 | h0
    all_goals
      clear hi
      go_enter Try.func135, Try.ntmps135
      go_wp2
      go_ret
      exact ⟨by rw [HD.out]; first | rfl | (simp; try omega), rfl⟩
end
end Go.Proofs.Ytffjaaolcphonaa
/- The document's links: Where, may. -/
namespace Go.Proofs.Ytffjaaolcphonaa
open Go.RowKit

theorem whI_no {T : Nat} {L : List (List Nat)} {t : Int} (h : ∀ i, i < L.length → ∀ x ∈ gl L i, (x : Int) ≠ t) : whI T L t = -1 := by
  unfold whI; split
  · rename_i ht
    refine wh_no.2 fun i hi hm => h i hi _ hm ?_
    unfold inR at ht; omega
  · rfl
theorem whI_yes {T : Nat} {L : List (List Nat)} {t : Int} {i x : Nat} (hi : i < L.length) (h : ∀ k, k < i → ∀ x ∈ gl L k, (x : Int) ≠ t) (hx : x ∈ gl L i) (hxt : (x : Int) = t) (hT : x < T) : whI T L t = i := by
  subst hxt
  unfold whI; rw [if_pos ⟨by omega, by omega⟩, Int.toNat_natCast]
  unfold wh
  have e : L.findIdx? (fun l => decide (x ∈ l)) = some i := by
    rw [List.findIdx?_eq_some_iff_getElem]
    refine ⟨hi, by simpa [gl, hi] using hx, fun j hj => ?_⟩
    have := h j hj
    have hj' : j < L.length := by omega
    simp only [gl, List.getD_eq_getElem?_getD, List.getElem?_eq_getElem hj', Option.getD_some] at this
    simp only [decide_eq_true_eq]
    intro hm; exact this x hm rfl
  rw [e]
section
variable {w : World} {lo p R T : Nat} {L : List (List Nat)}
set_option maxHeartbeats 1000000 in
theorem rwhere (h : RefAt w lo p R T L) (t : Int) : Calls Try.prog 30 #[.pointer (some ⟨p, 0, none⟩), .int .i64 t] w fun e w' => e = .returned (.int .i64 (whI T L t)) ∧ w = w' := by
  have F1 := h.f1
  have m1 := h.m1
  have H := hid h
  go_enter Try.func30, Try.ntmps30
  go_wp2
  go_loop [14] (fun c => ∃ i : Nat, c = .int .i64 i ∧ i ≤ L.length ∧ ∀ k, k < i → ∀ x ∈ gl L k, (x : Int) ≠ t) (fun c => L.length - (intOf c).toNat)
  case atStart => exact ⟨0, rfl, Nat.zero_le _, fun _ h => absurd h (Nat.not_lt_zero _)⟩
  case round =>
    obtain ⟨i, rfl, hi, hno⟩ := hrel
    have HN := hid hno
    clear hno
    by_cases hlt : i < L.length
    · have hlt' : (i : Int) < (L.length : Int) := by omega
      obtain ⟨a, c, hc, hr⟩ := H.out.row hlt
      have hs := H.out.sh i hlt
      have HR := hid hr
      have HB := hid (H.out.bd i hlt)
      clear hr
      obtain ⟨l, hl⟩ : ∃ l, gl L i = l := ⟨_, rfl⟩
      rw [hl] at hc hs
      have HL := hid hl
      clear hl
      go_wp2
      go_loop [21] (fun c => ∃ j : Nat, c = .int .i64 j ∧ j ≤ l.length ∧ ∀ k, k < j → ((l.getD k 0 : Nat) : Int) ≠ t) (fun c => l.length - (intOf c).toNat)
      case atStart => exact ⟨0, rfl, Nat.zero_le _, fun _ h => absurd h (Nat.not_lt_zero _)⟩
      case round =>
        obtain ⟨j, rfl, hj, hnj⟩ := hrel
        have HJ := hid hnj
        clear hnj
        by_cases hjl : j < l.length
        · have hjl' : (j : Int) < (l.length : Int) := by omega
          rcases HR.out.1 with ⟨h0, _⟩ | ⟨_, b, off, c', hv, hcell⟩
          · rw [HL.out] at h0; simp [zi] at h0; subst h0; simp at hjl
          · injection hv with hv _ _
            subst hv
            have hx := hcell j (by rw [zi_len, HL.out]; exact hjl)
            rw [show (zi (gl L i)).getD j 0 = ((l.getD j 0 : Nat) : Int) by rw [HL.out]; simp [zi, hjl]] at hx
            clear hcell
            obtain ⟨x, hxe⟩ : ∃ x, l.getD j 0 = x := ⟨_, rfl⟩
            rw [hxe] at hx
            have HX := hid hxe
            clear hxe
            by_cases hxt : (x : Int) = t
            · have hd : ((x : Int) == t) = true := by simpa using hxt
              have HT := hid hxt
              clear hxt
              go_wp2
              go_ret
              have hm : x ∈ gl L i := by
                rw [HL.out, ← HX.out, List.getD_eq_getElem?_getD, List.getElem?_eq_getElem hjl, Option.getD_some]; exact List.getElem_mem _
              exact ⟨by rw [whI_yes hlt HN.out hm HT.out (HB.out x hm)]; rfl, rfl⟩
            · have hd : ((x : Int) == t) = false := by simpa using hxt
              have HT := hid hxt
              clear hxt
              go_wp2
              go_round
              case rel =>
                refine ⟨j + 1, by go_num, by omega, fun k hk => ?_⟩
                by_cases e : k = j
                · subst e; rw [HX.out]; exact HT.out
                · exact HJ.out k (by omega)
              case measure => simp [intOf]; omega
        · have hjl' : ¬ (j : Int) < (l.length : Int) := by omega
          go_wp2
          go_round
          case rel =>
            refine ⟨i + 1, by go_num, by omega, fun k hk x hx => ?_⟩
            by_cases e : k = i
            · subst e
              rw [HL.out] at hx
              obtain ⟨n, hn, rfl⟩ := List.getElem_of_mem hx
              have := HJ.out n (by omega)
              rwa [List.getD_eq_getElem?_getD, List.getElem?_eq_getElem hn, Option.getD_some] at this
            · exact HN.out k (by omega) x hx
          case measure => simp [intOf]; omega
    · have hlt' : ¬ (i : Int) < (L.length : Int) := by omega
      go_wp2
      go_ret
      exact ⟨by rw [whI_no fun k hk => HN.out k (by omega)]; rfl, rfl⟩
theorem wh_ge (L : List (List Nat)) (t : Nat) : wh L t = -1 ∨ 0 ≤ wh L t := by
  rcases wh_cases L t with h | ⟨i, h⟩
  · exact .inl h
  · exact .inr (by omega)
theorem rmay (h : RefAt w lo p R T L) (i t : Int) : Calls Try.prog 134 #[.pointer (some ⟨p, 0, none⟩), .int .i64 i, .int .i64 t] w fun e w' => e = .returned (.int .i64 (pushE T L i t)) ∧ w = w' := by
  by_cases hi : inR i L.length
  · have hi' := hid (decide_eq_true hi)
    by_cases ht : inR t T
    · have ht' := hid (decide_eq_true ht)
      have hw : whI T L t = wh L t.toNat := by unfold whI; rw [if_pos ht]
      have hc := wh_ge L t.toNat
      obtain ⟨z, hz⟩ : ∃ z, whI T L t = z := ⟨_, rfl⟩
      have HE : Hid (pushE T L i t = if z = -1 then 0 else 5) := by unfold pushE; rw [if_pos ⟨hi, ht⟩, ← hw, hz]; exact rfl
      rw [← hw, hz] at hc
      have HZ := hid hz
      clear hz hw hi ht
      by_cases hz : z = -1
      · subst hz
        go_enter Try.func134, Try.ntmps134
        go_wp2_with (first | (go_at_call 90; refine (rlist h _).mono ?_; rw [hi'.out]; rintro e w' ⟨rfl, rfl⟩) | (go_at_call 135; refine (rthing h _).mono ?_; rw [ht'.out]; rintro e w' ⟨rfl, rfl⟩) | (go_at_call 30; refine (rwhere h _).mono ?_; rw [HZ.out]; rintro e w' ⟨rfl, rfl⟩))
        go_ret
        exact ⟨by rw [HE.out]; rfl, rfl⟩
      · have hz0 : 0 ≤ z := by omega
        have HZ' := hid hz
        clear hz hc
        go_enter Try.func134, Try.ntmps134
        go_wp2_with (first | (go_at_call 90; refine (rlist h _).mono ?_; rw [hi'.out]; rintro e w' ⟨rfl, rfl⟩) | (go_at_call 135; refine (rthing h _).mono ?_; rw [ht'.out]; rintro e w' ⟨rfl, rfl⟩) | (go_at_call 30; refine (rwhere h _).mono ?_; rw [HZ.out]; rintro e w' ⟨rfl, rfl⟩))
        go_ret
        exact ⟨by rw [HE.out, if_neg HZ'.out]; rfl, rfl⟩
    · have ht' := hid (decide_eq_false ht)
      have HE : Hid (pushE T L i t = 8) := by unfold pushE; rw [if_neg (fun h => ht h.2)]; exact rfl
      clear hi ht
      go_enter Try.func134, Try.ntmps134
      go_wp2_with (first | (go_at_call 90; refine (rlist h _).mono ?_; rw [hi'.out]; rintro e w' ⟨rfl, rfl⟩) | (go_at_call 135; refine (rthing h _).mono ?_; rw [ht'.out]; rintro e w' ⟨rfl, rfl⟩))
      go_ret
      exact ⟨by rw [HE.out]; rfl, rfl⟩
  · have hi' := hid (decide_eq_false hi)
    have HE : Hid (pushE T L i t = 8) := by unfold pushE; rw [if_neg (fun h => hi h.1)]; exact rfl
    clear hi
    go_enter Try.func134, Try.ntmps134
    go_wp2_with (first | (go_at_call 90; refine (rlist h _).mono ?_; rw [hi'.out]; rintro e w' ⟨rfl, rfl⟩))
    go_ret
    exact ⟨by rw [HE.out]; rfl, rfl⟩
end
end Go.Proofs.Ytffjaaolcphonaa
/- A region that draws its order and ends in a forced tail (stores): the tail is cut off, and the rest may be walked by the held walk. -/
namespace Go.Proofs.Ytffjaaolcphonaa.Held
open Go

section
variable {P : Program} {md : Region.Mode}
/-- The post of the region without its tail. -/
def tailQ (P : Program) (ops : Array Oper) (Q : Exit → Act → World → Prop) (tail : List Oper) : Exit → Act → World → Prop
  | .normal, a, w => wpList P ops Q tail a w
  | e, a, w => Q e a w
theorem tailQ_normal {ops : Array Oper} {Q : Exit → Act → World → Prop} {tail : List Oper} {a : Act} {w : World} (h : wpList P ops Q tail a w) : tailQ P ops Q tail .normal a w := h

theorem upon_tail {o : Oper} {a : Act} {ops : Array Oper} {Q : Exit → Act → World → Prop} {tail : List Oper} {K K' : Act → World → Prop} (hK : ∀ a w, K a w → K' a w) {r : Result Next}
    (h : o.upon P a K (tailQ P ops Q tail) r) : o.upon P a K' Q r := by
  cases r with
  | ok n w' =>
    cases n <;> simp only [Oper.upon] at h ⊢
    case value u => exact hK _ _ h
    case skip => exact hK _ _ h
    case defer d => exact hK _ _ h
    case enter f args =>
      refine Calls.mono h fun e w'' he => ?_
      cases e with
      | returned u => exact hK _ _ he
      | panicked c => exact he
      | outgrown => exact he
    case row row args => exact Rows.mono h fun u w'' he => hK _ _ he
  | halt x w' =>
    cases x <;> simp only [Oper.upon] at h ⊢
    case panic u => exact h

theorem yielded_pre {pre tail : List Oper} {tmps : Array Value} {g : Nat} (h : g < pre.length) : yielded (pre ++ tail).toArray tmps g = yielded pre.toArray tmps g := by
  unfold yielded
  have : (pre ++ tail).toArray[g]? = pre.toArray[g]? := by simp [List.getElem?_append_left h]
  rw [this]
def guardB (n : Nat) (o : Oper) : Bool := match o.guard with
  | none => true
  | some (g, _) => decide (g < n)
theorem wanted_pre {pre tail : List Oper} {tmps : Array Value} {o : Oper} (h : guardB pre.length o = true) : Region.wanted o (yielded (pre ++ tail).toArray tmps) = Region.wanted o (yielded pre.toArray tmps) := by
  unfold guardB at h
  unfold Region.wanted
  cases hg : o.guard with
  | none => rfl
  | some p =>
    obtain ⟨g, b⟩ := p
    rw [hg] at h
    simp only [decide_eq_true_eq] at h
    simp only [yielded_pre h]

theorem wpOp_tail {pre tail : List Oper} {Q : Exit → Act → World → Prop} {K K' : Act → World → Prop} {i : Nat} {a : Act} {w : World} (hi : i < pre.length) (hg : ∀ o, pre[i]? = some o → guardB pre.length o = true)
    (hK : ∀ a w, K a w → K' a w) (h : wpOp P pre.toArray (tailQ P (pre ++ tail).toArray Q tail) i K a w) : wpOp P (pre ++ tail).toArray Q i K' a w := by
  unfold wpOp at h ⊢
  have e : (pre ++ tail).toArray[i]? = pre.toArray[i]? := by simp [List.getElem?_append_left hi]
  rw [e]
  cases ho : pre.toArray[i]? with
  | none => rw [ho] at h; exact hK _ _ h
  | some o =>
    rw [ho] at h
    simp only [] at h ⊢
    rw [wanted_pre (hg o (by simpa using ho))]
    split
    · rename_i hw
      rw [if_pos hw] at h
      rcases h with h | ⟨h1, h2⟩
      · exact .inl (upon_tail hK h)
      · exact .inr ⟨h1, h2⟩
    · rename_i hw
      rw [if_neg hw] at h
      exact hK _ _ h

theorem wpAny_more {ops : Array Oper} {Q : Exit → Act → World → Prop} : ∀ (f : Nat) (listed : Array Bool) (a : Act) (w : World), wpAny P md ops Q f listed a w → wpAny P md ops Q (f + 1) listed a w
  | 0, listed, a, w, h => ⟨fun _ => h.2, fun i hi => by rw [h.1] at hi; cases hi⟩
  | f + 1, listed, a, w, h => ⟨h.1, fun i hi => wpOp_mono (fun a w h => wpAny_more f _ a w h) (h.2 i hi)⟩
theorem wpAny_more' {ops : Array Oper} {Q : Exit → Act → World → Prop} {g : Nat} {listed : Array Bool} {a : Act} {w : World} (h : wpAny P md ops Q g listed a w) : ∀ f, wpAny P md ops Q (f + g) listed a w
  | 0 => by rw [Nat.zero_add]; exact h
  | f + 1 => by rw [show f + 1 + g = (f + g) + 1 by omega]; exact wpAny_more _ _ _ _ (wpAny_more' h f)

/-- All edges lead back. -/
def backB (md : Region.Mode) (ops : Array Oper) : Bool := (List.range ops.size).all fun i => match ops[i]? with
  | some o => o.after.all fun e => !Region.binds md e || decide (e.on < i)
  | none => true
theorem backB_spec {ops : Array Oper} (h : backB md ops = true) {i : Nat} {o : Oper} (ho : ops[i]? = some o) {e : Edge} (he : e ∈ o.after) (hb : Region.binds md e = true) : e.on < i := by
  have hi : i < ops.size := (Array.getElem?_eq_some_iff.1 ho).1
  have := List.all_eq_true.1 h i (List.mem_range.2 hi)
  rw [ho] at this
  have := Array.all_eq_true_iff_forall_mem.1 this e he
  simpa [hb] using this
def doneL (n m : Nat) : Array Bool := (List.replicate n true ++ List.replicate m false).toArray
def tailB (pre tail : List Oper) : Bool :=
  backB .any (pre ++ tail).toArray && pre.all (guardB pre.length) && Region.sinkB .any (pre ++ tail).toArray pre.length && Region.chainB .any (pre ++ tail).toArray pre.length && decide (0 < tail.length) &&
  Region.seqB .any (pre ++ tail).toArray tail.length pre.length (doneL pre.length tail.length)

theorem all_listed {ops : Array Oper} (hb : backB md ops = true) {listed : Array Bool} (hs : listed.size = ops.size) (hr : Region.ready md ops listed = []) : ∀ i, i < ops.size → listed.getD i false = true := by
  intro i
  induction i using Nat.strongRecOn with
  | _ i ih =>
    intro hi
    cases hl : listed.getD i false with
    | true => rfl
    | false =>
      have : i ∈ Region.ready md ops listed := by
        refine mem_ready.2 ⟨getD_in (by omega) hl, ops[i], by simp [hi], fun e he hbe => ?_⟩
        have hlt := backB_spec hb (i := i) (o := ops[i]) (by simp [hi]) he hbe
        exact ih e.on hlt (by omega)
      rw [hr] at this; cases this

theorem wpAny_tail {pre tail : List Oper} {Q : Exit → Act → World → Prop} (hB : tailB pre tail = true) : ∀ (f : Nat) (lp l : Array Bool) (a : Act) (w : World),
    lp.size = pre.length → HeadInv .any (pre ++ tail).toArray pre.length l → (∀ i, i < pre.length → l.getD i false = lp.getD i false) →
    wpAny P .any pre.toArray (tailQ P (pre ++ tail).toArray Q tail) f lp a w → wpAny P .any (pre ++ tail).toArray Q (f + tail.length) l a w := by
  simp only [tailB, Bool.and_eq_true, decide_eq_true_eq] at hB
  obtain ⟨⟨⟨⟨⟨hback, hguard⟩, hsink⟩, hchain⟩, htl⟩, hseq⟩ := hB
  have hn : pre.length < (pre ++ tail).toArray.size := by simp; omega
  have hpre : ∀ i, i < pre.length → (pre ++ tail).toArray[i]? = pre.toArray[i]? := fun i hi => by simp [List.getElem?_append_left hi]
  have hbackp : backB .any pre.toArray = true := by
    refine List.all_eq_true.2 fun i hi => ?_
    have hi' : i < pre.length := by simpa using hi
    have := List.all_eq_true.1 hback i (List.mem_range.2 (by simp; omega))
    rw [hpre i hi'] at this; exact this
  -- ready there and here
  have hready : ∀ (lp l : Array Bool), lp.size = pre.length → HeadInv .any (pre ++ tail).toArray pre.length l → (∀ i, i < pre.length → l.getD i false = lp.getD i false) → ∀ i, i < pre.length →
      (i ∈ Region.ready .any (pre ++ tail).toArray l ↔ i ∈ Region.ready .any pre.toArray lp) := by
    intro lp l hs inv hl i hi
    have hls : l.size = (pre ++ tail).toArray.size := inv.size
    have hli : i < l.size := by rw [hls]; omega
    have e1 : l.getD i true = lp.getD i true := by
      have h1 := hl i hi
      have hlp : i < lp.size := by omega
      simp only [Array.getD, hli, hlp, dif_pos] at h1 ⊢
      exact h1
    rw [mem_ready, mem_ready, e1, hpre i hi]
    refine and_congr_right fun _ => exists_congr fun o => and_congr_right fun ho => ?_
    refine forall_congr' fun e => forall_congr' fun he => forall_congr' fun hb => ?_
    have hlt := backB_spec hbackp ho he hb
    rw [hl e.on (by omega)]
  have hend : ∀ (lp l : Array Bool) (a : Act) (w : World), lp.size = pre.length → HeadInv .any (pre ++ tail).toArray pre.length l → (∀ i, i < pre.length → l.getD i false = lp.getD i false) →
      Region.ready .any pre.toArray lp = [] → tailQ P (pre ++ tail).toArray Q tail .normal a w → wpAny P .any (pre ++ tail).toArray Q tail.length l a w := by
    intro lp l a w hs inv hl hr hq
    have hall := all_listed hbackp (listed := lp) (by simpa using hs) hr
    have hl' : l = doneL pre.length tail.length := by
      apply Array.ext
      · rw [inv.size]; simp [doneL]
      · intro i h1 h2
        by_cases hi : i < pre.length
        · have := hl i hi
          rw [hall i (by simpa using hi)] at this
          simp only [Array.getD, h1, dif_pos] at this
          simp only [doneL, List.getElem_toArray]
          rw [List.getElem_append_left (by simpa using hi)]
          simpa using this
        · have := inv.tail i (by omega) (by rw [← inv.size]; exact h1)
          simp only [Array.getD, h1, dif_pos] at this
          simp only [doneL, List.getElem_toArray]
          rw [List.getElem_append_right (by simpa using hi)]
          simpa using this
    subst hl'
    exact wpAny_of_seq tail pre.length _ a w (fun j => by simp [List.getElem?_append_right]) hseq hq
  intro f
  induction f with
  | zero =>
    intro lp l a w hs inv hl h
    rw [Nat.zero_add]
    exact hend lp l a w hs inv hl h.1 h.2
  | succ f ih =>
    intro lp l a w hs inv hl h
    by_cases hr : Region.ready .any pre.toArray lp = []
    · exact wpAny_more' (hend lp l a w hs inv hl hr (h.1 hr)) _
    · obtain ⟨i0, hi0⟩ := List.exists_mem_of_ne_nil _ hr
      have hi0n : i0 < pre.length := by
        obtain ⟨_, o, ho, _⟩ := mem_ready.1 hi0
        have := (Array.getElem?_eq_some_iff.1 ho).1; simpa using this
      rw [show f + 1 + tail.length = (f + tail.length) + 1 by omega]
      refine ⟨fun h0 => ?_, fun i hi => ?_⟩
      · have := (hready lp l hs inv hl i0 hi0n).2 hi0
        rw [h0] at this; cases this
      · have hin : i < pre.length := by
          rcases Nat.lt_or_ge i pre.length with h1 | h1
          · exact h1
          · exact absurd hi (tail_waits hsink hchain hn inv _ i0 rfl hi0n (by
              have := (mem_ready.1 ((hready lp l hs inv hl i0 hi0n).2 hi0)).1; exact this) i h1)
        have hi' := (hready lp l hs inv hl i hin).1 hi
        refine wpOp_tail hin (fun o ho => ?_) (fun a' w' h' => ?_) (h.2 i hi')
        · exact List.all_eq_true.1 hguard o (List.mem_of_getElem? ho)
        · refine ih (lp.setIfInBounds i true) (l.setIfInBounds i true) a' w' (by simpa using hs) (inv.set hi hin) (fun j hj => ?_) h'
          by_cases e : i = j
          · subst e
            have h1 : i < l.size := by rw [inv.size]; omega
            have h2 : i < lp.size := by omega
            simp [Array.getD, h1, h2]
          · rw [getD_set_ne false e, getD_set_ne false e]; exact hl j hj

/-- THE REGION WITHOUT ITS TAIL, BY THE HELD WALK. -/
theorem wp_region_held_tail {id : Nat} {Q : Exit → Act → World → Prop} {a : Act} {w : World} {S : World → Prop} {l : List Oper} (n : Nat) (hm : P.follows .mixedOrders = true) (hB : tailB (l.take n) (l.drop n) = true) (hn : n ≤ l.length)
    (hS : S w.drew) (h : S w.drew → wpAnyH P .any (l.take n).toArray (tailQ P l.toArray Q (l.drop n)) S n (Array.replicate n false) a w.drew) : (Code.region id l.toArray true).wp P Q a w := by
  have hl : l.take n ++ l.drop n = l := List.take_append_drop n l
  have hlen : (l.take n).length = n := by simp [hn]
  refine wp_region_any hm ?_
  have h0 := wpAny_of_held _ _ _ _ (h hS)
  have inv0 : HeadInv .any (l.take n ++ l.drop n).toArray (l.take n).length (Array.replicate l.length false) :=
    ⟨by simp, fun j oj _ hl => (by rw [getD_replicate_false] at hl; cases hl), fun t _ ht => getD_in (by simpa using ht) (getD_replicate_false _ _)⟩
  have := wpAny_tail (P := P) (Q := Q) hB n (Array.replicate n false) (Array.replicate l.length false) a w.drew (by simp [hn]) inv0 (fun i _ => by rw [getD_replicate_false, getD_replicate_false]) (by rw [hl]; exact h0)
  rw [hl] at this
  have e : n + (l.drop n).length = l.toArray.size := by simp; omega
  rw [e] at this
  exact this
end
end Go.Proofs.Ytffjaaolcphonaa.Held
/- The document's links: Push. -/
namespace Go.Proofs.Ytffjaaolcphonaa
open Go.RowKit
set_option linter.unusedSimpArgs false
theorem grown_cell {w w' : World} {row : Option Nat} (hg : w.grownBy w' row) {b i : Nat} {v : Value} (hc : w.cell? ⟨b, i, none⟩ = some v) (hn : row ≠ some b) : w'.cell? ⟨b, i, none⟩ = some v := by
  rw [← hc]; exact World.cell?_of_block (hg.block b (World.block_lt_of_cell? _ _ hc) (fun e => hn e.symm))
theorem IRow.drew {w : World} {v : Value} {xs : List Int} (h : IRow w v xs) : IRow w.drew v xs := h
theorem owns_alloc0 (w : World) (b : Nat) (o : Obj) (hb : b ≤ w.heap.size) : ((w.alloc (.cells #[] 3)).alloc o).ownsRow b 3 1 (.slice (some ⟨w.heap.size, 0, none⟩) 0 0) 0 [] :=
  (ownsRow_base (owns_new w 3) hb).alloc o
theorem owns_b (w : World) (b : Nat) (hb : b ≤ w.heap.size) : (w.alloc (.cells #[] 3)).ownsRow b 3 1 (.slice (some ⟨w.heap.size, 0, none⟩) 0 0) 0 [] := ownsRow_base (owns_new w 3) hb
theorem blk_new1 (w : World) (o : Obj) (A : List Value) (T : TypeId) : Blk ((w.alloc o).alloc (.cells A.toArray T)) (w.heap.size + 1) A T := by have := Blk.new (w.alloc o) A T; simpa using this
theorem one_new (w : World) (t : Int) (c : Nat) : IRow (w.alloc (.cells #[.int .i64 t] 3)) (.slice (some ⟨w.heap.size, 0, none⟩) 1 c) [t] := IRow.of_blk (xs := [t]) (Blk.new w [.int .i64 t] 3) (Nat.succ_pos 0)
theorem one_grown {W w1 : World} {b g c : Nat} {t : Int} (h : Blk W b [.int .i64 t] 3) (hg : W.grownBy w1 (some g)) (hn : g ≠ b) : IRow w1 (.slice (some ⟨b, 0, none⟩) 1 c) [t] := IRow.of_blk (xs := [t]) (h.grown hg (by simpa using hn)) (Nat.succ_pos 0)
theorem own_shape {w : World} {base : Nat} {e : TypeId} {size n : Nat} {v : Value} {xs : List Value} (h : w.ownsRow base e size v n xs) (m : Nat) (hm : n = m) : ∃ a c, v = .slice a m c := by
  subst hm
  obtain ⟨_, ⟨rfl, rfl⟩ | ⟨g, cap, _, rfl, _⟩⟩ := h
  · exact ⟨_, _, rfl⟩
  · exact ⟨_, _, rfl⟩
theorem put_far {w : World} {p R i j : Nat} {v u : Value} (h : w.cell? ⟨p, j, none⟩ = some v) (hn : p ≠ R) : (w.setCell ⟨R, i, none⟩ u).cell? ⟨p, j, none⟩ = some v :=
  (World.cell?_of_block (Below.heap_setCell w ⟨R, i, none⟩ u p hn)).trans h
theorem owns_b1 (w : World) (o : Obj) : ((w.alloc o).alloc (.cells #[] 3)).ownsRow w.heap.size 3 1 (.slice (some ⟨w.heap.size + 1, 0, none⟩) 0 0) 0 [] := by
  have := owns_b (w.alloc o) w.heap.size (by simp); simpa using this
theorem own_ne {w : World} {base : Nat} {e : TypeId} {size n b : Nat} {v : Value} {xs : List Value} (h : w.ownsRow base e size v n xs) (hb : b < base) : v.ownBlock ≠ some b := by
  obtain ⟨_, ⟨rfl, _⟩ | ⟨g, cap, _, rfl, hg, _⟩⟩ := h
  · simp [Value.ownBlock]
  · intro e; have : g = b := by simpa [Value.ownBlock] using e
    omega
theorem Still.frz {w w' : World} (hs : Still w w') {b i : Nat} {f : Bool} (hb : b < w.heap.size) (h : w.frozen? ⟨b, i, none⟩ = f) : w'.frozen? ⟨b, i, none⟩ = f := by
  rw [← h]; unfold World.frozen?; rw [hs.block b hb (fun h => h)]
section
variable {w : World} {lo p R T : Nat} {L : List (List Nat)}
set_option maxRecDepth 100000 in
set_option maxHeartbeats 2000000 in
theorem rpush_ok (h : RefAt w lo p R T L) (i t : Nat) (he : pushE T L i t = 0) (hi : i < L.length) (htT : t < T) (hsz : (gl L i).length < 4096) :
    Calls Try.prog 84 #[.pointer (some ⟨p, 0, none⟩), .int .i64 i, .int .i64 t] w fun e w' => e = .returned (.int .i64 0) ∧ RefAt w' lo p R T (L.set i (gl L i ++ [t])) ∧ Fr (fun k => k = R) w w' := by
  have HE := hid he
  clear he
  have F1 := h.f1
  have hi' : (i : Int) < (L.length : Int) := by omega
  obtain ⟨a, c, C1, hr⟩ := h.row hi
  have Z := h.frz i
  have hs := h.sh i hi
  have hRl : R < w.heap.size := World.block_lt_of_cell? _ _ C1
  have hpl : p < w.heap.size := World.block_lt_of_cell? _ _ F1
  have hpR := h.pR
  have hr1 := hr.1
  obtain ⟨l, hl⟩ : ∃ l, gl L i = l := ⟨_, rfl⟩
  have HL := hid hl
  rw [hl] at C1 hs hr1 hsz
  clear hl
  go_enter Try.func84, Try.ntmps84
  go_wp2_with (go_at_call 134; refine (rmay h _ _).mono ?_; rw [HE.out]; rintro e w' ⟨rfl, rfl⟩)
  refine Held.wp_region_held_tail (S := (fun w' => w'.cell? ⟨p, 1, none⟩ = some (.slice (some ⟨R, 0, none⟩) L.length L.length) ∧ w'.cell? ⟨R, i, none⟩ = some (.slice a l.length c))) 18 (by kernel_rfl) (by kernel_rfl) (by decide) ?hS1 (fun hHeld => ?hR1)
  case hS1 =>
    exact ⟨F1, C1⟩
  simp only [List.take_succ_cons, List.take_zero, List.drop_succ_cons, List.drop_zero]
  refine wpAnyH_take (i := 0) (oi := _) (v := ?v2) rfl (by kernel_rfl) (by kernel_rfl) (by kernel_rfl) (fun _ _ _ h => h) (Or.inl ⟨by rfl, ?y2⟩) (by assumption) ?r2
  case y2 => ((intro w hSw); (try dsimp only at hSw); go_simp; (try with_reducible rfl))
  (try simp only [Act.put, List.setIfInBounds_toArray, List.set_cons_zero, List.set_cons_succ])
  refine wpAnyH_take (i := 1) (oi := _) (v := ?v3) rfl (by kernel_rfl) (by kernel_rfl) (by kernel_rfl) (fun _ _ _ h => h) (Or.inl ⟨by rfl, ?y3⟩) (by assumption) ?r3
  case y3 => ((intro w hSw); (try dsimp only at hSw); go_simp; (try with_reducible rfl))
  (try simp only [Act.put, List.setIfInBounds_toArray, List.set_cons_zero, List.set_cons_succ])
  refine wpAnyH_take (i := 2) (oi := _) (v := ?v4) rfl (by kernel_rfl) (by kernel_rfl) (by kernel_rfl) (fun _ _ _ h => h) (Or.inl ⟨by rfl, ?y4⟩) (by assumption) ?r4
  case y4 => ((intro w hSw); (try dsimp only at hSw); go_simp; (try with_reducible rfl))
  (try simp only [Act.put, List.setIfInBounds_toArray, List.set_cons_zero, List.set_cons_succ])
  refine wpAnyH_take (i := 3) (oi := _) (v := ?v5) rfl (by kernel_rfl) (by kernel_rfl) (by kernel_rfl) (fun _ _ _ h => h) (Or.inl ⟨by rfl, ?y5⟩) (by assumption) ?r5
  case y5 => ((intro w hSw); (try dsimp only at hSw); go_simp; (try with_reducible rfl))
  (try simp only [Act.put, List.setIfInBounds_toArray, List.set_cons_zero, List.set_cons_succ])
  refine wpAnyH_take (i := 4) (oi := _) (v := ?v6) rfl (by kernel_rfl) (by kernel_rfl) (by kernel_rfl) (fun _ _ _ h => h) (Or.inl ⟨by rfl, ?y6⟩) (by assumption) ?r6
  case y6 => ((intro w hSw); (try dsimp only at hSw); go_simp; (try with_reducible rfl))
  (try simp only [Act.put, List.setIfInBounds_toArray, List.set_cons_zero, List.set_cons_succ])
  refine wpAnyH_take (i := 6) (oi := _) (v := ?v7) rfl (by kernel_rfl) (by kernel_rfl) (by kernel_rfl) (fun _ _ _ h => h) (Or.inl ⟨by rfl, ?y7⟩) (by assumption) ?r7
  case y7 => ((intro w hSw); (try dsimp only at hSw); go_simp; (try with_reducible rfl))
  (try simp only [Act.put, List.setIfInBounds_toArray, List.set_cons_zero, List.set_cons_succ])
  refine wpAnyH_take (i := 7) (oi := _) (v := ?v8) rfl (by kernel_rfl) (by kernel_rfl) (by kernel_rfl) (fun _ _ _ h => h) (Or.inl ⟨by rfl, ?y8⟩) (by assumption) ?r8
  case y8 => ((intro w hSw); (try dsimp only at hSw); go_simp; (try with_reducible rfl))
  (try simp only [Act.put, List.setIfInBounds_toArray, List.set_cons_zero, List.set_cons_succ])
  refine wpAnyH_take (i := 8) (oi := _) (v := ?v9) rfl (by kernel_rfl) (by kernel_rfl) (by kernel_rfl) (fun _ _ _ h => h) (Or.inl ⟨by rfl, ?y9⟩) (by assumption) ?r9
  case y9 => ((intro w hSw); (try dsimp only at hSw); go_simp; (try with_reducible rfl))
  (try simp only [Act.put, List.setIfInBounds_toArray, List.set_cons_zero, List.set_cons_succ])
  refine wpAnyH_take (i := 9) (oi := _) (v := ?v10) rfl (by kernel_rfl) (by kernel_rfl) (by kernel_rfl) (fun _ _ _ h => h) (Or.inl ⟨by rfl, ?y10⟩) (by assumption) ?r10
  case y10 => ((intro w hSw); (try dsimp only at hSw); go_simp; (try with_reducible rfl))
  (try simp only [Act.put, List.setIfInBounds_toArray, List.set_cons_zero, List.set_cons_succ])
  refine wpAnyH_take (i := 10) (oi := _) (v := ?v11) rfl (by kernel_rfl) (by kernel_rfl) (by kernel_rfl) (fun _ _ _ h => h) (Or.inl ⟨by rfl, ?y11⟩) (by assumption) ?r11
  case y11 => ((intro w hSw); (try dsimp only at hSw); go_simp; (try with_reducible rfl))
  (try simp only [Act.put, List.setIfInBounds_toArray, List.set_cons_zero, List.set_cons_succ])
  refine wpAnyH_take (i := 11) (oi := _) (v := ?v12) rfl (by kernel_rfl) (by kernel_rfl) (by kernel_rfl) (fun _ _ _ h => h) (Or.inl ⟨by rfl, ?y12⟩) (by assumption) ?r12
  case y12 => ((intro w hSw); (try dsimp only at hSw); go_simp; (try with_reducible rfl))
  (try simp only [Act.put, List.setIfInBounds_toArray, List.set_cons_zero, List.set_cons_succ])
  refine wpAnyH_take (i := 12) (oi := _) (v := ?v13) rfl (by kernel_rfl) (by kernel_rfl) (by kernel_rfl) (fun _ _ _ h => h) (Or.inl ⟨by rfl, ?y13⟩) (by assumption) ?r13
  case y13 => ((intro w hSw); (try dsimp only at hSw); go_simp; (try with_reducible rfl))
  (try simp only [Act.put, List.setIfInBounds_toArray, List.set_cons_zero, List.set_cons_succ])
  refine wpAnyH_take (i := 14) (oi := _) (v := ?v14) rfl (by kernel_rfl) (by kernel_rfl) (by kernel_rfl) (fun _ _ _ h => h) (Or.inl ⟨by rfl, ?y14⟩) (by assumption) ?r14
  case y14 => ((intro w hSw); (try dsimp only at hSw); go_simp; (try with_reducible rfl))
  (try simp only [Act.put, List.setIfInBounds_toArray, List.set_cons_zero, List.set_cons_succ])
  refine wpAnyH_ready (rs := [5, 15]) (by kernel_rfl) (by simp) ?_
  refine AllReadyH.cons rfl (fun K hK => ?_) (AllReadyH.cons rfl (fun K hK => ?_) AllReadyH.nil)
  · skip
    go_simp
    refine hK.out _ _ ?k15 (fun hHeld15 => ?_)
    case k15 =>
      go_keep
    clear hK K
    (try simp only [Act.put, List.setIfInBounds_toArray, List.set_cons_zero, List.set_cons_succ])
    refine wpAnyH_ready (rs := [13, 15]) (by kernel_rfl) (by simp) ?_
    refine AllReadyH.cons rfl (fun K hK => ?_) (AllReadyH.cons rfl (fun K hK => ?_) AllReadyH.nil)
    · skip
      refine step_append_irow rfl (.tmp 20) (.tmp 27) rfl w.heap.size 0 [] (zi l) (.slice (some ⟨_, 0, none⟩) 0 0) _ rfl rfl ?_ ?_ ?_ ?_ ?_
      · exact (owns_b w w.heap.size (Nat.le_refl _)).drew
      · exact (hr1.alloc _).drew
      · rw [zi_len]; omega
      · simp; try omega
      intro v1 w1 ho1 hg1 _
      have s1 : Still w w1 := Fr.of_own ((Fr.refl _ w).alloc _).drew (owns_b w w.heap.size (Nat.le_refl _)).drew hg1 (Nat.le_refl _)
      have z1 := s1.size
      refine hK.out _ _ ?k16 (fun hHeld16 => ?_)
      case k16 =>
        exact ⟨Still.cell s1 F1, Still.cell s1 C1⟩
      clear hK K
      (try simp only [Act.put, List.setIfInBounds_toArray, List.set_cons_zero, List.set_cons_succ])
      refine wpAnyH_ready (rs := [15]) (by kernel_rfl) (by simp) ?_
      refine AllReadyH.cons rfl (fun K hK => ?st17) AllReadyH.nil
      go_simp
      refine hK.out _ _ ?k17 (fun hHeld17 => ?_)
      case k17 =>
        exact ⟨Still.cell (s1.alloc _) F1, Still.cell (s1.alloc _) C1⟩
      clear hK K
      (try simp only [Act.put, List.setIfInBounds_toArray, List.set_cons_zero, List.set_cons_succ])
      refine wpAnyH_ready (rs := [16]) (by kernel_rfl) (by simp) ?_
      refine AllReadyH.cons rfl (fun K hK => ?st18) AllReadyH.nil
      refine step_append_irow rfl (.tmp 28) (.tmp 30) rfl w.heap.size (0 + (zi l).length) ([] ++ zi l) [(t : Int)] _ _ rfl rfl ?_ ?_ ?_ ?_ ?_
      · exact (ho1.alloc _)
      · exact one_new _ _ _
      · simp only [zi_len, List.length_cons, List.length_nil]; omega
      · (simp; omega)
      intro v2 w2 ho2 hg2 _
      obtain ⟨a2, c2, rfl⟩ := own_shape ho2 (l.length + 1) (by simp [zi_len])
      have s2 : Still w w2 := Fr.of_own (s1.alloc _) (ho1.alloc _) hg2 (Nat.le_refl _)
      have C2 := Still.cell s2 C1
      have Z2 := Still.frz s2 hRl Z
      refine hK.out _ _ ?k18 (fun hHeld18 => ?_)
      case k18 =>
        exact ⟨Still.cell s2 F1, C2⟩
      clear hK K
      (try simp only [Act.put, List.setIfInBounds_toArray, List.set_cons_zero, List.set_cons_succ])
      refine wpAnyH_take (i := 17) (oi := _) (v := ?v19) rfl (by kernel_rfl) (by kernel_rfl) (by kernel_rfl) (fun _ _ _ h => h) (Or.inl ⟨by rfl, ?y19⟩) (by assumption) ?r19
      case y19 => ((intro w hSw); (try dsimp only at hSw); go_simp; (try with_reducible rfl))
      (try simp only [Act.put, List.setIfInBounds_toArray, List.set_cons_zero, List.set_cons_succ])
      refine wpAnyH_done (by kernel_rfl) (Held.tailQ_normal ?_) _
      go_wp2
      go_ret
      refine ⟨rfl, ?_, Fr.putR (s2.fr _) _ _⟩
      rw [HL.out]
      have hz : ([] ++ zi l ++ [(t : Int)]) = zi (l ++ [t]) := by simp [zi]
      rw [hz] at ho2
      refine (h.still s2).put (RowIn.own ho2 (by simp [zi_len]) hRl (by have := h.lp; omega) rfl) (fun x hx => ?_) (by have := hsz; simp; omega)
      rcases List.mem_append.1 hx with hx | hx
      · exact h.bd i hi x (by rw [HL.out]; exact hx)
      · simp at hx; subst hx; exact htT
    · skip
      go_simp
      refine hK.out _ _ ?k20 (fun hHeld20 => ?_)
      case k20 =>
        go_keep
      clear hK K
      (try simp only [Act.put, List.setIfInBounds_toArray, List.set_cons_zero, List.set_cons_succ])
      refine wpAnyH_ready (rs := [13]) (by kernel_rfl) (by simp) ?_
      refine AllReadyH.cons rfl (fun K hK => ?st21) AllReadyH.nil
      refine step_append_irow rfl (.tmp 20) (.tmp 27) rfl w.heap.size 0 [] (zi l) (.slice (some ⟨_, 0, none⟩) 0 0) _ rfl rfl ?_ ?_ ?_ ?_ ?_
      · exact (owns_alloc0 w w.heap.size _ (Nat.le_refl _)).drew
      · exact ((hr1.alloc _).alloc _).drew
      · rw [zi_len]; omega
      · simp; try omega
      intro v1 w1 ho1 hg1 _
      have s1 : Still w w1 := Fr.of_own (((Fr.refl _ w).alloc _).alloc _).drew (owns_alloc0 w w.heap.size _ (Nat.le_refl _)).drew hg1 (Nat.le_refl _)
      have z1 := s1.size
      refine hK.out _ _ ?k21 (fun hHeld21 => ?_)
      case k21 =>
        exact ⟨Still.cell s1 F1, Still.cell s1 C1⟩
      clear hK K
      (try simp only [Act.put, List.setIfInBounds_toArray, List.set_cons_zero, List.set_cons_succ])
      refine wpAnyH_ready (rs := [16]) (by kernel_rfl) (by simp) ?_
      refine AllReadyH.cons rfl (fun K hK => ?st22) AllReadyH.nil
      refine step_append_irow rfl (.tmp 28) (.tmp 30) rfl w.heap.size (0 + (zi l).length) ([] ++ zi l) [(t : Int)] _ _ rfl rfl ?_ ?_ ?_ ?_ ?_
      · exact ho1
      · exact one_grown (blk_new1 w _ [.int .i64 (t : Int)] 3).drew hg1 (by simp)
      · simp only [zi_len, List.length_cons, List.length_nil]; omega
      · exact z1
      intro v2 w2 ho2 hg2 _
      obtain ⟨a2, c2, rfl⟩ := own_shape ho2 (l.length + 1) (by simp [zi_len])
      have s2 : Still w w2 := Fr.of_own s1 ho1 hg2 (Nat.le_refl _)
      have C2 := Still.cell s2 C1
      have Z2 := Still.frz s2 hRl Z
      refine hK.out _ _ ?k22 (fun hHeld22 => ?_)
      case k22 =>
        exact ⟨Still.cell s2 F1, C2⟩
      clear hK K
      (try simp only [Act.put, List.setIfInBounds_toArray, List.set_cons_zero, List.set_cons_succ])
      refine wpAnyH_take (i := 17) (oi := _) (v := ?v23) rfl (by kernel_rfl) (by kernel_rfl) (by kernel_rfl) (fun _ _ _ h => h) (Or.inl ⟨by rfl, ?y23⟩) (by assumption) ?r23
      case y23 => ((intro w hSw); (try dsimp only at hSw); go_simp; (try with_reducible rfl))
      (try simp only [Act.put, List.setIfInBounds_toArray, List.set_cons_zero, List.set_cons_succ])
      refine wpAnyH_done (by kernel_rfl) (Held.tailQ_normal ?_) _
      go_wp2
      go_ret
      refine ⟨rfl, ?_, Fr.putR (s2.fr _) _ _⟩
      rw [HL.out]
      have hz : ([] ++ zi l ++ [(t : Int)]) = zi (l ++ [t]) := by simp [zi]
      rw [hz] at ho2
      refine (h.still s2).put (RowIn.own ho2 (by simp [zi_len]) hRl (by have := h.lp; omega) rfl) (fun x hx => ?_) (by have := hsz; simp; omega)
      rcases List.mem_append.1 hx with hx | hx
      · exact h.bd i hi x (by rw [HL.out]; exact hx)
      · simp at hx; subst hx; exact htT
  · skip
    go_simp
    refine hK.out _ _ ?k24 (fun hHeld24 => ?_)
    case k24 =>
      go_keep
    clear hK K
    (try simp only [Act.put, List.setIfInBounds_toArray, List.set_cons_zero, List.set_cons_succ])
    refine wpAnyH_ready (rs := [5]) (by kernel_rfl) (by simp) ?_
    refine AllReadyH.cons rfl (fun K hK => ?st25) AllReadyH.nil
    go_simp
    refine hK.out _ _ ?k25 (fun hHeld25 => ?_)
    case k25 =>
      go_keep
    clear hK K
    (try simp only [Act.put, List.setIfInBounds_toArray, List.set_cons_zero, List.set_cons_succ])
    refine wpAnyH_ready (rs := [13]) (by kernel_rfl) (by simp) ?_
    refine AllReadyH.cons rfl (fun K hK => ?st26) AllReadyH.nil
    refine step_append_irow rfl (.tmp 20) (.tmp 27) rfl w.heap.size 0 [] (zi l) (.slice (some ⟨_, 0, none⟩) 0 0) _ rfl rfl ?_ ?_ ?_ ?_ ?_
    · exact (owns_b1 w _).drew
    · exact ((hr1.alloc _).alloc _).drew
    · rw [zi_len]; omega
    · simp; try omega
    intro v1 w1 ho1 hg1 _
    have s1 : Still w w1 := Fr.of_own (((Fr.refl _ w).alloc _).alloc _).drew (owns_b1 w _).drew hg1 (Nat.le_refl _)
    have z1 := s1.size
    refine hK.out _ _ ?k26 (fun hHeld26 => ?_)
    case k26 =>
      exact ⟨Still.cell s1 F1, Still.cell s1 C1⟩
    clear hK K
    (try simp only [Act.put, List.setIfInBounds_toArray, List.set_cons_zero, List.set_cons_succ])
    refine wpAnyH_ready (rs := [16]) (by kernel_rfl) (by simp) ?_
    refine AllReadyH.cons rfl (fun K hK => ?st27) AllReadyH.nil
    refine step_append_irow rfl (.tmp 28) (.tmp 30) rfl w.heap.size (0 + (zi l).length) ([] ++ zi l) [(t : Int)] _ _ rfl rfl ?_ ?_ ?_ ?_ ?_
    · exact ho1
    · exact one_grown ((Blk.new w [.int .i64 (t : Int)] 3).alloc _).drew hg1 (by simp)
    · simp only [zi_len, List.length_cons, List.length_nil]; omega
    · exact z1
    intro v2 w2 ho2 hg2 _
    obtain ⟨a2, c2, rfl⟩ := own_shape ho2 (l.length + 1) (by simp [zi_len])
    have s2 : Still w w2 := Fr.of_own s1 ho1 hg2 (Nat.le_refl _)
    have C2 := Still.cell s2 C1
    have Z2 := Still.frz s2 hRl Z
    refine hK.out _ _ ?k27 (fun hHeld27 => ?_)
    case k27 =>
      exact ⟨Still.cell s2 F1, C2⟩
    clear hK K
    (try simp only [Act.put, List.setIfInBounds_toArray, List.set_cons_zero, List.set_cons_succ])
    refine wpAnyH_take (i := 17) (oi := _) (v := ?v28) rfl (by kernel_rfl) (by kernel_rfl) (by kernel_rfl) (fun _ _ _ h => h) (Or.inl ⟨by rfl, ?y28⟩) (by assumption) ?r28
    case y28 => ((intro w hSw); (try dsimp only at hSw); go_simp; (try with_reducible rfl))
    (try simp only [Act.put, List.setIfInBounds_toArray, List.set_cons_zero, List.set_cons_succ])
    refine wpAnyH_done (by kernel_rfl) (Held.tailQ_normal ?_) _
    go_wp2
    go_ret
    refine ⟨rfl, ?_, Fr.putR (s2.fr _) _ _⟩
    rw [HL.out]
    have hz : ([] ++ zi l ++ [(t : Int)]) = zi (l ++ [t]) := by simp [zi]
    rw [hz] at ho2
    refine (h.still s2).put (RowIn.own ho2 (by simp [zi_len]) hRl (by have := h.lp; omega) rfl) (fun x hx => ?_) (by have := hsz; simp; omega)
    rcases List.mem_append.1 hx with hx | hx
    · exact h.bd i hi x (by rw [HL.out]; exact hx)
    · simp at hx; subst hx; exact htT
end
end Go.Proofs.Ytffjaaolcphonaa
/- The document's links: Front, All. -/
namespace Go.Proofs.Ytffjaaolcphonaa
open Go.RowKit
set_option linter.unusedSimpArgs false
theorem owns_one (w : World) (t : Int) : (w.alloc (.cells #[.int .i64 t] 3)).ownsRow w.heap.size 3 1 (.slice (some ⟨w.heap.size, 0, none⟩) 1 1) 1 (ints [t]) :=
  ⟨rfl, .inr ⟨_, 1, #[.int .i64 t], rfl, Nat.le_refl _, heap_at _ _ _ rfl, Nat.le_refl _, by unfold maxLen; omega, rfl, rfl⟩⟩
section
variable {w : World} {lo p R T : Nat} {L : List (List Nat)}
set_option maxRecDepth 100000 in
set_option maxHeartbeats 2000000 in
theorem rfront_ok (h : RefAt w lo p R T L) (i t : Nat) (he : pushE T L i t = 0) (hi : i < L.length) (htT : t < T) (hsz : (gl L i).length < 4096) :
    Calls Try.prog 85 #[.pointer (some ⟨p, 0, none⟩), .int .i64 i, .int .i64 t] w fun e w' => e = .returned (.int .i64 0) ∧ RefAt w' lo p R T (L.set i (t :: gl L i)) ∧ Fr (fun k => k = R) w w' := by
  have HE := hid he
  clear he
  have F1 := h.f1
  have hi' : (i : Int) < (L.length : Int) := by omega
  obtain ⟨a, c, C1, hr⟩ := h.row hi
  have Z := h.frz i
  have hs := h.sh i hi
  have hRl : R < w.heap.size := World.block_lt_of_cell? _ _ C1
  have hpl : p < w.heap.size := World.block_lt_of_cell? _ _ F1
  have hpR := h.pR
  have hr1 := hr.1
  obtain ⟨l, hl⟩ : ∃ l, gl L i = l := ⟨_, rfl⟩
  have HL := hid hl
  rw [hl] at C1 hs hr1 hsz
  clear hl
  go_enter Try.func85, Try.ntmps85
  go_wp2_with (go_at_call 134; refine (rmay h _ _).mono ?_; rw [HE.out]; rintro e w' ⟨rfl, rfl⟩)
  refine Held.wp_region_held_tail (S := (fun w' => w'.cell? ⟨p, 1, none⟩ = some (.slice (some ⟨R, 0, none⟩) L.length L.length) ∧ w'.cell? ⟨R, i, none⟩ = some (.slice a l.length c))) 16 (by kernel_rfl) (by kernel_rfl) (by decide) ?hS1 (fun hHeld => ?hR1)
  case hS1 =>
    exact ⟨F1, C1⟩
  simp only [List.take_succ_cons, List.take_zero, List.drop_succ_cons, List.drop_zero]
  refine wpAnyH_take (i := 0) (oi := _) (v := ?v2) rfl (by kernel_rfl) (by kernel_rfl) (by kernel_rfl) (fun _ _ _ h => h) (Or.inl ⟨by rfl, ?y2⟩) (by assumption) ?r2
  case y2 => ((intro w hSw); (try dsimp only at hSw); go_simp; (try with_reducible rfl))
  (try simp only [Act.put, List.setIfInBounds_toArray, List.set_cons_zero, List.set_cons_succ])
  refine wpAnyH_take (i := 1) (oi := _) (v := ?v3) rfl (by kernel_rfl) (by kernel_rfl) (by kernel_rfl) (fun _ _ _ h => h) (Or.inl ⟨by rfl, ?y3⟩) (by assumption) ?r3
  case y3 => ((intro w hSw); (try dsimp only at hSw); go_simp; (try with_reducible rfl))
  (try simp only [Act.put, List.setIfInBounds_toArray, List.set_cons_zero, List.set_cons_succ])
  refine wpAnyH_take (i := 2) (oi := _) (v := ?v4) rfl (by kernel_rfl) (by kernel_rfl) (by kernel_rfl) (fun _ _ _ h => h) (Or.inl ⟨by rfl, ?y4⟩) (by assumption) ?r4
  case y4 => ((intro w hSw); (try dsimp only at hSw); go_simp; (try with_reducible rfl))
  (try simp only [Act.put, List.setIfInBounds_toArray, List.set_cons_zero, List.set_cons_succ])
  refine wpAnyH_take (i := 3) (oi := _) (v := ?v5) rfl (by kernel_rfl) (by kernel_rfl) (by kernel_rfl) (fun _ _ _ h => h) (Or.inl ⟨by rfl, ?y5⟩) (by assumption) ?r5
  case y5 => ((intro w hSw); (try dsimp only at hSw); go_simp; (try with_reducible rfl))
  (try simp only [Act.put, List.setIfInBounds_toArray, List.set_cons_zero, List.set_cons_succ])
  refine wpAnyH_take (i := 4) (oi := _) (v := ?v6) rfl (by kernel_rfl) (by kernel_rfl) (by kernel_rfl) (fun _ _ _ h => h) (Or.inl ⟨by rfl, ?y6⟩) (by assumption) ?r6
  case y6 => ((intro w hSw); (try dsimp only at hSw); go_simp; (try with_reducible rfl))
  (try simp only [Act.put, List.setIfInBounds_toArray, List.set_cons_zero, List.set_cons_succ])
  refine wpAnyH_take (i := 5) (oi := _) (v := ?v7) rfl (by kernel_rfl) (by kernel_rfl) (by kernel_rfl) (fun _ _ _ h => h) (Or.inl ⟨by rfl, ?y7⟩) (by assumption) ?r7
  case y7 => ((intro w hSw); (try dsimp only at hSw); go_simp; (try with_reducible rfl))
  (try simp only [Act.put, List.setIfInBounds_toArray, List.set_cons_zero, List.set_cons_succ])
  refine wpAnyH_take (i := 7) (oi := _) (v := ?v8) rfl (by kernel_rfl) (by kernel_rfl) (by kernel_rfl) (fun _ _ _ h => h) (Or.inl ⟨by rfl, ?y8⟩) (by assumption) ?r8
  case y8 => ((intro w hSw); (try dsimp only at hSw); go_simp; (try with_reducible rfl))
  (try simp only [Act.put, List.setIfInBounds_toArray, List.set_cons_zero, List.set_cons_succ])
  refine wpAnyH_take (i := 8) (oi := _) (v := ?v9) rfl (by kernel_rfl) (by kernel_rfl) (by kernel_rfl) (fun _ _ _ h => h) (Or.inl ⟨by rfl, ?y9⟩) (by assumption) ?r9
  case y9 => ((intro w hSw); (try dsimp only at hSw); go_simp; (try with_reducible rfl))
  (try simp only [Act.put, List.setIfInBounds_toArray, List.set_cons_zero, List.set_cons_succ])
  refine wpAnyH_take (i := 9) (oi := _) (v := ?v10) rfl (by kernel_rfl) (by kernel_rfl) (by kernel_rfl) (fun _ _ _ h => h) (Or.inl ⟨by rfl, ?y10⟩) (by assumption) ?r10
  case y10 => ((intro w hSw); (try dsimp only at hSw); go_simp; (try with_reducible rfl))
  (try simp only [Act.put, List.setIfInBounds_toArray, List.set_cons_zero, List.set_cons_succ])
  refine wpAnyH_take (i := 10) (oi := _) (v := ?v11) rfl (by kernel_rfl) (by kernel_rfl) (by kernel_rfl) (fun _ _ _ h => h) (Or.inl ⟨by rfl, ?y11⟩) (by assumption) ?r11
  case y11 => ((intro w hSw); (try dsimp only at hSw); go_simp; (try with_reducible rfl))
  (try simp only [Act.put, List.setIfInBounds_toArray, List.set_cons_zero, List.set_cons_succ])
  refine wpAnyH_take (i := 11) (oi := _) (v := ?v12) rfl (by kernel_rfl) (by kernel_rfl) (by kernel_rfl) (fun _ _ _ h => h) (Or.inl ⟨by rfl, ?y12⟩) (by assumption) ?r12
  case y12 => ((intro w hSw); (try dsimp only at hSw); go_simp; (try with_reducible rfl))
  (try simp only [Act.put, List.setIfInBounds_toArray, List.set_cons_zero, List.set_cons_succ])
  refine wpAnyH_take (i := 12) (oi := _) (v := ?v13) rfl (by kernel_rfl) (by kernel_rfl) (by kernel_rfl) (fun _ _ _ h => h) (Or.inl ⟨by rfl, ?y13⟩) (by assumption) ?r13
  case y13 => ((intro w hSw); (try dsimp only at hSw); go_simp; (try with_reducible rfl))
  (try simp only [Act.put, List.setIfInBounds_toArray, List.set_cons_zero, List.set_cons_succ])
  refine wpAnyH_take (i := 13) (oi := _) (v := ?v14) rfl (by kernel_rfl) (by kernel_rfl) (by kernel_rfl) (fun _ _ _ h => h) (Or.inl ⟨by rfl, ?y14⟩) (by assumption) ?r14
  case y14 => ((intro w hSw); (try dsimp only at hSw); go_simp; (try with_reducible rfl))
  (try simp only [Act.put, List.setIfInBounds_toArray, List.set_cons_zero, List.set_cons_succ])
  refine wpAnyH_ready (rs := [6]) (by kernel_rfl) (by simp) ?_
  refine AllReadyH.cons rfl (fun K hK => ?st15) AllReadyH.nil
  go_simp
  refine hK.out _ _ ?k15 (fun hHeld15 => ?_)
  case k15 =>
    go_keep
  clear hK K
  (try simp only [Act.put, List.setIfInBounds_toArray, List.set_cons_zero, List.set_cons_succ])
  refine wpAnyH_ready (rs := [14]) (by kernel_rfl) (by simp) ?_
  refine AllReadyH.cons rfl (fun K hK => ?st16) AllReadyH.nil
  refine step_append_irow rfl (.tmp 21) (.tmp 28) rfl w.heap.size 1 [(t : Int)] (zi l) (.slice (some ⟨_, 0, none⟩) 1 1) _ rfl rfl ?_ ?_ ?_ ?_ ?_
  · exact (owns_one w _).drew
  · exact (hr1.alloc _).drew
  · rw [zi_len]; omega
  · simp; try omega
  intro v2 w2 ho2 hg2 _
  obtain ⟨a2, c2, rfl⟩ := own_shape ho2 (l.length + 1) (by simp [zi_len]; omega)
  have s2 : Still w w2 := Fr.of_own ((Fr.refl _ w).alloc _).drew (owns_one w _).drew hg2 (Nat.le_refl _)
  have C2 := Still.cell s2 C1
  have Z2 := Still.frz s2 hRl Z
  refine hK.out _ _ ?k16 (fun hHeld16 => ?_)
  case k16 =>
    exact ⟨Still.cell s2 F1, C2⟩
  clear hK K
  (try simp only [Act.put, List.setIfInBounds_toArray, List.set_cons_zero, List.set_cons_succ])
  refine wpAnyH_take (i := 15) (oi := _) (v := ?v17) rfl (by kernel_rfl) (by kernel_rfl) (by kernel_rfl) (fun _ _ _ h => h) (Or.inl ⟨by rfl, ?y17⟩) (by assumption) ?r17
  case y17 => ((intro w hSw); (try dsimp only at hSw); go_simp; (try with_reducible rfl))
  (try simp only [Act.put, List.setIfInBounds_toArray, List.set_cons_zero, List.set_cons_succ])
  refine wpAnyH_done (by kernel_rfl) (Held.tailQ_normal ?_) _
  all_goals
    go_wp2
    go_ret
    refine ⟨rfl, ?_, Fr.putR (s2.fr _) _ _⟩
    rw [HL.out]
    have hz : ([(t : Int)] ++ zi l) = zi (t :: l) := by simp [zi]
    rw [hz] at ho2
    refine (h.still s2).put (RowIn.own ho2 (by simp [zi_len]; omega) hRl (by have := h.lp; omega) rfl) (fun x hx => ?_) (by have := hsz; simp; omega)
    rcases List.mem_cons.1 hx with hx | hx
    · subst hx; exact htT
    · exact h.bd i hi x (by rw [HL.out]; exact hx)
theorem rall (h : RefAt w lo p R T L) (i : Int) : Calls Try.prog 31 #[.pointer (some ⟨p, 0, none⟩), .int .i64 i] w fun e w' => ∃ a c, e = .returned (.slice a (if inR i L.length then gl L i.toNat else []).length c) ∧
      IRow w' (.slice a (if inR i L.length then gl L i.toNat else []).length c) (zi (if inR i L.length then gl L i.toNat else [])) ∧ Still w w' := by
  by_cases hi : inR i L.length
  · simp only [if_pos hi]
    obtain ⟨i, rfl⟩ := Int.eq_ofNat_of_zero_le hi.1
    rw [Int.toNat_natCast]
    have hi' : i < L.length := by have := hi.2; omega
    have hi'' : (i : Int) < (L.length : Int) := hi.2
    have HD := hid (decide_eq_true hi)
    have F1 := h.f1
    obtain ⟨a, c, C1, hr⟩ := h.row hi'
    have hs := h.sh i hi'
    have hr1 := hr.1
    have hRl : R < w.heap.size := World.block_lt_of_cell? _ _ C1
    have hpl : p < w.heap.size := World.block_lt_of_cell? _ _ F1
    obtain ⟨l, hl⟩ : ∃ l, gl L i = l := ⟨_, rfl⟩
    rw [hl] at C1 hs hr1 ⊢
    clear hl hi
    go_enter Try.func31, Try.ntmps31
    go_wp2_with (first | (go_at_call 90; refine (rlist h _).mono ?_; rw [HD.out]; rintro e w' ⟨rfl, rfl⟩) | (at_builtin; refine wpList_append_irow rfl (.tmp 9) (.tmp 16) rfl w.heap.size 0 [] (zi l) (.slice (some ⟨_, 0, none⟩) 0 0) _ rfl rfl (owns_b w _ (Nat.le_refl _)) (hr1.alloc _) (by rw [zi_len]; omega) (by simp) ?_; intro v2 w2 ho2 hg2 _; obtain ⟨a2, c2, rfl⟩ := own_shape ho2 l.length (by simp [zi_len])))
    go_ret
    exact ⟨a2, c2, rfl, by simpa using IRow.own ho2 (by simp [zi_len]), Fr.of_own ((Fr.refl _ w).alloc _) (owns_b w _ (Nat.le_refl _)) hg2 (Nat.le_refl _)⟩
  · simp only [if_neg hi]
    have HD := hid (decide_eq_false hi)
    clear hi
    go_enter Try.func31, Try.ntmps31
    go_wp2_with (first | (go_at_call 90; refine (rlist h _).mono ?_; rw [HD.out]; rintro e w' ⟨rfl, rfl⟩))
    go_ret
    exact ⟨none, 0, rfl, .inl ⟨rfl, _, _, rfl⟩, Fr.refl _ _⟩
end
end Go.Proofs.Ytffjaaolcphonaa
