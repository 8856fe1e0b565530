/- The law's act, on the ends and on the document's. -/
import Derived.Test.YtffjaaolcphonaaJoinI
import Derived.Test.YtffjaaolcphonaaBdR
namespace Go.Proofs.Ytffjaaolcphonaa
open Go.RowKit
set_option linter.unusedSimpArgs false
/-- The ends and the document's, apart. -/
structure TwinJ (w : World) (J : JB) (lo P R N : Nat) (s : JS) : Prop where
  l : JAt w J s
  r : RE w lo P R s.T N
  d : ∀ k, J.all k → k < lo
def JB.both (J : JB) (R : Nat) (k : Nat) : Prop := J.foot k ∨ k = R
def idA (p a : Int) (q : Bool) : Int := if q then p else idMk p a
theorem idA_in {p a : Int} {q : Bool} (h : inI p) : inI (idA p a q) := by unfold idA; split; exact h; exact idMk_in _ _
def stepJ (s : JS) (k id y : Int) : JS := if k = 0 then startS s id else if k = 2 then joinS s id y else if k = 3 then dropJ s y else s
theorem JInv.step {s : JS} (h : JInv s) (k id y : Int) (hi : inI id) (hy : inI y) : JInv (stepJ s k id y) := by
  unfold stepJ
  split
  · exact h.start id hi
  split
  · exact h.join id y hy
  split
  · exact h.drop y
  · exact h
section
variable {w w' : World} {J : JB} {lo P R N : Nat} {s t : JS}
theorem TwinJ.fr (h : TwinJ w J lo P R N s) {F : Nat → Prop} (hf : Fr F w w') (hd : ∀ k, k < w.heap.size → (J.all k ∨ lo ≤ k) → ¬ F k) : TwinJ w' J lo P R N s :=
  ⟨h.l.fr hf fun k hk => hd k (h.l.lt hk) (.inl hk), h.r.fr hf fun k hk hl => hd k hl (.inr hk), h.d⟩
theorem TwinJ.still (h : TwinJ w J lo P R N s) (hf : Still w w') : TwinJ w' J lo P R N s := h.fr hf fun _ _ _ h => h
theorem TwinJ.stepl (h : TwinJ w J lo P R N s) (hl : JAt w' J t) (hT : t.T = s.T) (hf : Fr J.foot w w') : TwinJ w' J lo P R N t :=
  ⟨hl, by rw [hT]; exact h.r.fr hf fun k hk _ hb => by have := h.d k (.inr hb); omega, h.d⟩
theorem TwinJ.stepr {M : Nat} (h : TwinJ w J lo P R N s) (hr : RE w' lo P R s.T M) (hf : Fr (fun k => k = R) w w') : TwinJ w' J lo P R M s :=
  ⟨h.l.fr hf fun k hk hb => by have := h.d k hk; have := h.r.lR; omega, hr, h.d⟩
theorem TwinJ.more (h : TwinJ w J lo P R N s) {M : Nat} (hm : N ≤ M) (h1 : M ≤ 1000) : TwinJ w J lo P R M s := ⟨h.l, h.r.more hm h1, h.d⟩
theorem twj_frl (h : Fr J.foot w w') : Fr (J.both R) w w' := h.mono fun _ _ h => .inl h
theorem twj_frr (h : Fr (fun k => k = R) w w') : Fr (J.both R) w w' := h.mono fun _ _ h => .inr h
theorem TwinJ.lt (h : TwinJ w J lo P R N s) {k : Nat} (hk : J.both R k) : k < w.heap.size := by
  rcases hk with hk | rfl
  · exact h.l.lt (.inr hk)
  · exact h.r.ltR
theorem startS_T (s : JS) (id : Int) : (startS s id).T = s.T := by unfold startS; split <;> rfl
theorem joinS_T (s : JS) (id y : Int) : (joinS s id y).T = s.T := by unfold joinS; split <;> rfl
theorem dropJ_T (s : JS) (y : Int) : (dropJ s y).T = s.T := by unfold dropJ; split <;> rfl
theorem endS_T (s : JS) (id v : Int) : (endS s id v).T = s.T := by unfold endS; split <;> rfl
theorem stepJ_T (s : JS) (k id y : Int) : (stepJ s k id y).T = s.T := by
  unfold stepJ
  split
  · exact startS_T _ _
  split
  · exact joinS_T _ _ _
  split
  · exact dropJ_T _ _
  · rfl
/-- The world behind the box. -/
theorem twj_box (h : TwinJ w J lo P R N s) (k p a y b : Int) (q : Bool) (v : Int) : ∃ W g, W = w.alloc (.cells #[.int .i64 k, .int .i64 p, .int .i64 a, .int .i64 y, .int .i64 b, .bool q, .int .i64 v] 87) ∧ g = w.heap.size ∧ TwinJ W J lo P R N s ∧ ¬ J.both R g ∧ Fr (J.both R) w W ∧
    W.cell? ⟨g, 0, none⟩ = some (.int .i64 k) ∧ W.cell? ⟨g, 1, none⟩ = some (.int .i64 p) ∧ W.cell? ⟨g, 2, none⟩ = some (.int .i64 a) ∧ W.cell? ⟨g, 3, none⟩ = some (.int .i64 y) ∧ W.cell? ⟨g, 4, none⟩ = some (.int .i64 b) ∧ W.cell? ⟨g, 5, none⟩ = some (.bool q) ∧ W.cell? ⟨g, 6, none⟩ = some (.int .i64 v) := by
  have e := Blk.new w [.int .i64 k, .int .i64 p, .int .i64 a, .int .i64 y, .int .i64 b, .bool q, .int .i64 v] 87
  exact ⟨_, _, rfl, rfl, h.still ((Fr.refl _ _).alloc _), fun hb => by (have := h.lt hb; omega), (Fr.refl _ _).alloc _, e.cell 0, e.cell 1, e.cell 2, e.cell 3, e.cell 4, e.cell 5, e.cell 6⟩
def TwjPost (J : JB) (lo P R N : Nat) (t : JS) (w : World) (e : Ending) (w' : World) : Prop := (∃ b, e = .returned (.bool b)) ∧ TwinJ w' J lo P R N t ∧ Fr (J.both R) w w'
set_option maxRecDepth 100000 in
set_option maxHeartbeats 4000000 in
theorem twj_act (h : TwinJ w J lo P R N s) (hN : N + 1 ≤ 1000) (k p a y b : Int) (q : Bool) (v : Int) (hp : inI p) (hy : inI y) (hk1 : k ≠ 1) :
    Calls Try.prog 61 #[.pointer (some ⟨J.P, 0, none⟩), .pointer (some ⟨P, 0, none⟩), .agg #[.int .i64 k, .int .i64 p, .int .i64 a, .int .i64 y, .int .i64 b, .bool q, .int .i64 v]] w (TwjPost J lo P R (N + 1) (stepJ s k (idA p a q) (idA y b q)) w) := by
  have hIi := idA_in (a := a) (q := q) hp
  have hIy := idA_in (a := b) (q := q) hy
  have HID := hid (fun W => jids58 W k p a y b q v)
  rw [show (if q = true then p else idMk p a) = idA p a q from rfl, show (if q = true then y else idMk y b) = idA y b q from rfl] at HID
  unfold TwjPost
  generalize idA p a q = id at HID hIi ⊢
  generalize idA y b q = yy at HID hIy ⊢
  have b1 : (k == 1) = false := by simpa using hk1
  by_cases h0 : k = 0
  · have hS : Hid (stepJ s k id yy = startS s id) := hid (by unfold stepJ; rw [if_pos h0])
    rw [hS.out]
    subst h0
    clear hk1 b1
    go_enter Try.func61, Try.ntmps61
    go_wp2_with fail
    obtain ⟨W, g, hW, hg, hB, hb, hF, c0, c1, c2, c3, c4, c5, c6⟩ := twj_box h 0 p a y b q v
    rw [← hW, ← hg]
    clear hW hg h
    refine (HID.out W).mono ?_
    rintro e w1 ⟨rfl, hs1⟩
    have e0 := Still.cell hs1 c0
    have hB1 := hB.still hs1
    go_wp2_with fail
    refine (jstart hB1.l id hIi).mono ?_
    rintro e w2 ⟨rfl, hl2, f2⟩
    have hB2 := hB1.stepl hl2 (startS_T _ _) f2
    go_wp2_with fail
    refine (rstart hB2.r id hIi).mono ?_
    rintro e w3 ⟨⟨x, rfl, z, rfl⟩, hr3, f3⟩
    have hB3 := hB2.stepr hr3 f3
    go_wp2_with fail
    go_ret
    exact ⟨⟨_, rfl⟩, hB3.more (Nat.le_succ _) hN, ((hF.trans (hs1.fr _)).trans (twj_frl f2)).trans (twj_frr f3)⟩
  by_cases h2 : k = 2
  · have hS : Hid (stepJ s k id yy = joinS s id yy) := hid (by unfold stepJ; rw [if_neg h0, if_pos h2])
    rw [hS.out]
    subst h2
    clear hk1 b1 h0
    go_enter Try.func61, Try.ntmps61
    go_wp2_with fail
    obtain ⟨W, g, hW, hg, hB, hb, hF, c0, c1, c2, c3, c4, c5, c6⟩ := twj_box h 2 p a y b q v
    rw [← hW, ← hg]
    clear hW hg h
    refine (HID.out W).mono ?_
    rintro e w1 ⟨rfl, hs1⟩
    have e0 := Still.cell hs1 c0
    have hB1 := hB.still hs1
    go_wp2_with fail
    have HJ := jjoin hB1.l id yy hIi hIy
    generalize joinV s id yy = jv at HJ
    generalize joinD s id yy = jd at HJ
    generalize joinE s id yy = je at HJ
    refine HJ.mono ?_
    rintro e w2 ⟨rfl, hl2, f2⟩
    have hB2 := hB1.stepl hl2 (joinS_T _ _ _) f2
    go_wp2_with fail
    refine (rjoin hB2.r hN id yy hIi hIy).mono ?_
    rintro e w3 ⟨⟨x, rfl, z1, z2, z3, rfl⟩, hr3, f3⟩
    have hB3 := hB2.stepr hr3 f3
    go_wp2_with fail
    all_goals
      go_ret
      exact ⟨⟨_, rfl⟩, hB3, ((hF.trans (hs1.fr _)).trans (twj_frl f2)).trans (twj_frr f3)⟩
  by_cases h3 : k = 3
  · have hS : Hid (stepJ s k id yy = dropJ s yy) := hid (by unfold stepJ; rw [if_neg h0, if_neg h2, if_pos h3])
    rw [hS.out]
    subst h3
    clear hk1 b1 h0 h2
    go_enter Try.func61, Try.ntmps61
    go_wp2_with fail
    obtain ⟨W, g, hW, hg, hB, hb, hF, c0, c1, c2, c3, c4, c5, c6⟩ := twj_box h 3 p a y b q v
    rw [← hW, ← hg]
    clear hW hg h
    refine (HID.out W).mono ?_
    rintro e w1 ⟨rfl, hs1⟩
    have e0 := Still.cell hs1 c0
    have hB1 := hB.still hs1
    go_wp2_with fail
    refine (jdrop hB1.l yy hIy).mono ?_
    rintro e w2 ⟨rfl, hl2, f2⟩
    have hB2 := hB1.stepl hl2 (dropJ_T _ _) f2
    go_wp2_with fail
    refine (rdrop hB2.r yy).mono ?_
    rintro e w3 ⟨⟨x, rfl, z, rfl⟩, hr3, f3⟩
    have hB3 := hB2.stepr hr3 f3
    go_wp2_with fail
    go_ret
    exact ⟨⟨_, rfl⟩, hB3.more (Nat.le_succ _) hN, ((hF.trans (hs1.fr _)).trans (twj_frl f2)).trans (twj_frr f3)⟩
  · have hS : Hid (stepJ s k id yy = s) := hid (by unfold stepJ; rw [if_neg h0, if_neg h2, if_neg h3])
    rw [hS.out]
    have b0 : (k == 0) = false := by simpa using h0
    have b2 : (k == 2) = false := by simpa using h2
    have b3 : (k == 3) = false := by simpa using h3
    clear hk1 h0 h2 h3
    go_enter Try.func61, Try.ntmps61
    go_wp2_with fail
    obtain ⟨W, g, hW, hg, hB, hb, hF, c0, c1, c2, c3, c4, c5, c6⟩ := twj_box h k p a y b q v
    rw [← hW, ← hg]
    clear hW hg h
    refine (HID.out W).mono ?_
    rintro e w1 ⟨rfl, hs1⟩
    have e0 := Still.cell hs1 c0
    have hB1 := hB.still hs1
    go_wp2_with fail
    go_ret
    exact ⟨⟨_, rfl⟩, hB1.more (Nat.le_succ _) hN, hF.trans (hs1.fr _)⟩
end
end Go.Proofs.Ytffjaaolcphonaa
