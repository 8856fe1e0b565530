/- The document's threads: New; both sides; the one that an act is about. -/
import Derived.Test.YtffjaaolcphonaaDoorTInv
import Derived.Test.YtffjaaolcphonaaDoorBdLA
import Derived.Test.YtffjaaolcphonaaDoorCopyW
import Derived.Test.YtffjaaolcphonaaDoorNewNo
import Derived.BigQuiet
namespace Go.Proofs.YtffjaaolcphonaaDoor
open Go.RowKit Go.Maps
set_option linter.unusedSimpArgs false
theorem rtnew_no (w : World) (x : Int) (hx : x < 1 ∨ 32 < x) : Calls Tryd.prog 39 #[.int .i64 x] w fun e w' => e = .returned (.pointer none) ∧ w = w' := by
  go_enter Tryd.func39, Tryd.ntmps39
  rcases hx with h | h
  · go_wp2_with fail
    go_ret
    exact ⟨rfl, rfl⟩
  · have h2 : ¬ x < 1 := by omega
    go_wp2_with fail
    go_ret
    exact ⟨rfl, rfl⟩
set_option maxRecDepth 100000 in
set_option maxHeartbeats 4000000 in
theorem rtnew (w : World) (x : Nat) (x0 : 1 ≤ x) (x1 : x ≤ 32) : Calls Tryd.prog 39 #[.int .i64 (x : Int)] w fun e w' => ∃ Q p A T cA cT, e = .returned (.pointer (some ⟨Q, 0, none⟩)) ∧ RTAt w' (fun k => w.heap.size ≤ k ∧ k < w'.heap.size) Q p A T cA cT (zeroS x x) [] ∧ Still w w' := by
  have h1 : ¬ (x : Int) < 1 := by omega
  have h2 : ¬ (32 : Int) < (x : Int) := by omega
  have HN := hid (rnew w x x0 (by omega))
  go_enter Tryd.func39, Tryd.ntmps39
  go_wp2_with fail
  refine HN.out.mono ?_
  rintro e w1 ⟨p, A, T, cA, cT, rfl, hR, hs, p0, A0, T0⟩
  have R1 := hid hR
  have S1 := hid hs
  have l1 := hR.hp.lt
  have l2 := hR.hA.lt
  have l3 := hR.hT.lt
  clear hR hs HN
  go_wp2_with fail
  go_ret
  have S1s := S1.out.size
  have hB := Blk.new w1 [.pointer (some ⟨p, 0, none⟩), .slice none 0 0] 75
  have zz : (w1.alloc (.cells #[.pointer (some ⟨p, 0, none⟩), .slice none 0 0] 75)).heap.size = w1.heap.size + 1 := by simp
  refine ⟨w1.heap.size, p, A, T, cA, cT, rfl, ⟨hB.cell 0, ⟨_, hB.cell 1, owns_nilS (S := S66) _ _, fun b hb => by cases hb⟩, hB.frozen 1, R1.out.still ((Fr.refl _ _).alloc _), by omega, by omega, by omega, ⟨S1s, by omega⟩, ⟨p0, by omega⟩, ⟨A0, by omega⟩, ⟨T0, by omega⟩, fun k hk => hk.2, List.Pairwise.nil, by simp⟩, S1.out.alloc _⟩
/-- A table's blocks, the document's. -/
structure TB where
  P : Nat
  B : SB
  M : Nat
  Q : Nat
  p : Nat
  A : Nat
  T : Nat
  cA : Nat
  cT : Nat
/-- What the program's table writes. -/
def TB.own (K : TB) (k : Nat) : Prop := K.B.foot k ∨ k = K.M
/-- What a step writes. -/
def TB.foot (K : TB) (O : Nat → Prop) (k : Nat) : Prop := K.own k ∨ O k
/-- Both sides, alike. -/
structure TwoT (w : World) (K : TB) (O : Nat → Prop) (s : SS) (L : List Thr) : Prop where
  t : TAt w K.P K.B K.M s L
  r : RTAt w O K.Q K.p K.A K.T K.cA K.cT s L
  v : TInv s L
  nP : ¬ O K.P
  nO : ∀ k, K.own k → ¬ O k
  h8 : ∀ k, K.foot O k → 8 ≤ k
section
variable {w w' : World} {K : TB} {O : Nat → Prop} {s s' : SS} {L L' : List Thr}
theorem TAt.ltM {P : Nat} {B : SB} {M : Nat} (h : TAt w P B M s L) : M < w.heap.size := h.m.lt
theorem TwoT.lt (h : TwoT w K O s L) : ∀ k, K.foot O k → k < w.heap.size := by
  rintro k ((h1 | rfl) | h1)
  · exact h.t.sl.lt h1
  · exact h.t.m.lt
  · exact h.r.ub k h1
theorem TwoT.fr (h : TwoT w K O s L) {F : Nat → Prop} (hf : Fr F w w') (hF : ∀ k, K.foot O k → ¬ F k) (hP : ¬ F K.P) : TwoT w' K O s L :=
  { h with t := h.t.fr hf hP (hF _ (.inl (.inr rfl))) (fun k hk => hF k (.inl (.inl hk))), r := h.r.fr hf (fun k hk => hF k (.inr hk)) }
theorem TwoT.still (h : TwoT w K O s L) (hs : Still w w') : TwoT w' K O s L := h.fr hs (fun _ _ h => h) (fun h => h)
/-- The program's step, then the document's. -/
theorem TwoT.step {w1 : World} (h : TwoT w K O s L) (h1 : TAt w1 K.P K.B K.M s' L') (f1 : Fr K.own w w1) (h2 : RTAt w' (upO O w1 w') K.Q K.p K.A K.T K.cA K.cT s' L') (f2 : Fr O w1 w') (hv : TInv s' L') : TwoT w' K (upO O w w') s' L' ∧ Fr (K.foot O) w w' := by
  have z1 := f1.size
  have z2 := f2.size
  have lP := h.t.ltP
  have h8 := h.h8
  have hub := h.r.ub
  refine ⟨⟨h1.fr f2 h.nP (h.nO _ (.inr rfl)) (fun k hk => h.nO k (.inl hk)), h2.mono (fun k hk => hk.imp _root_.id fun e => ⟨Nat.le_trans z1 e.1, e.2⟩) (fun k hk => hk.elim (fun e => by have := hub k e; omega) (fun e => e.2)), hv, fun e => e.elim h.nP (fun e => by omega), fun k hk e => ?_, fun k hk => ?_⟩, (f1.mono fun k _ hk => .inl hk).trans (f2.mono fun k _ hk => .inr hk)⟩
  · have hl := h.lt k (.inl hk)
    exact e.elim (h.nO k hk) (fun e => by omega)
  · rcases hk with hk | hk | hk
    · exact h8 k (.inl hk)
    · exact h8 k (.inr hk)
    · have := h8 _ (.inr h.r.lQ)
      have := hub _ h.r.lQ
      omega
/-- .. and ahead of it. -/
theorem TwoT.rfr {w1 : World} (h : TwoT w K O s L) (f1 : Fr K.own w w1) : RTAt w1 O K.Q K.p K.A K.T K.cA K.cT s L := h.r.fr f1 (fun k hk e => h.nO k e hk)
end
/-- The one that an act is about. -/
def idT (L : List Thr) (x : LAct) : Int := if x.re = true then (if L.length = 0 then x.i else (L.getD ((IntKind.u64.wrap x.i).tmod (L.length : Int)).toNat t0).i) else x.i
theorem idT_wf {s : SS} {L : List Thr} (h : TInv s L) (x : LAct) (hx : (Lit.int .i64 x.i).wf = true) : (Lit.int .i64 (idT L x)).wf = true := by
  unfold idT
  split
  · split
    · exact hx
    · have hr := wrap_mod x.i (show 0 < L.length by omega)
      simp only [List.getD_eq_getElem?_getD, List.getElem?_eq_getElem hr]
      exact h.wf _ (List.getElem_mem hr)
  · exact hx
set_option maxRecDepth 100000 in
set_option maxHeartbeats 4000000 in
theorem tid {w : World} {O : Nat → Prop} {Q p A T cA cT : Nat} {s : SS} {L : List Thr} (h : RTAt w O Q p A T cA cT s L) (x : LAct) : Calls Tryd.prog 44 #[.pointer (some ⟨Q, 0, none⟩), (Value.agg #[.int .i64 x.k, .int .i64 x.i, .int .i64 x.t, .bool x.re, .int .i64 x.c.p, .int .i64 x.c.q, .int .i64 x.c.r0, .int .i64 x.c.r1, .int .i64 x.c.r2, .int .i64 x.c.r3, .int .i64 x.c.r4, .int .i64 x.c.r5, .int .i64 x.c.r6, .int .i64 x.c.r7, .int .i64 x.c.d])] w fun e w' => e = .returned (.int .i64 (idT L x)) ∧ Still w w' := by
  have H := hid h
  have hQ := World.block_lt_of_cell? _ _ h.f0
  clear h
  unfold idT
  by_cases hre : x.re = true
  · rw [if_pos hre]
    rcases H.out.opened' with ⟨hL, qn⟩ | ⟨g, cap, C, ho⟩
    · rw [if_pos (show L.length = 0 by rw [hL]; rfl)]
      go_enter Tryd.func44, Tryd.ntmps44
      go_wp2_with fail
      go_ret
      exact ⟨rfl, (Fr.refl _ _).alloc _⟩
    · have HO := hid ho
      have q2 := ho.v1
      have hb := H.out.len
      clear ho
      by_cases h0 : L.length = 0
      · rw [if_pos h0]
        have h0' : (L.length : Int) = 0 := by omega
        rw [h0] at q2
        go_enter Tryd.func44, Tryd.ntmps44
        go_wp2_with fail
        go_ret
        exact ⟨rfl, (Fr.refl _ _).alloc _⟩
      · rw [if_neg h0]
        have hn : 0 < L.length := by omega
        obtain ⟨m, hm⟩ : ∃ m, L.length = m := ⟨_, rfl⟩
        have hr := wrap_mod x.i hn
        have hrr := wrap_mod' x.i hn
        have hat := HO.out.at hr
        have d0 := hat 0 _ rfl
        have hi0 : L.getD ((IntKind.u64.wrap x.i).tmod (L.length : Int)).toNat t0 = L[((IntKind.u64.wrap x.i).tmod (L.length : Int)).toNat] := by simp only [List.getD_eq_getElem?_getD, List.getElem?_eq_getElem hr]; rfl
        rw [hi0]
        obtain ⟨y, hy⟩ : ∃ y, L[((IntKind.u64.wrap x.i).tmod (L.length : Int)).toNat] = y := ⟨_, rfl⟩
        rw [hy] at d0 ⊢
        have d1 : w.cell? ⟨g, ((IntKind.u64.wrap x.i).tmod (L.length : Int)).toNat * 15, none⟩ = some (.int .i64 y.i) := d0
        rw [hm] at d1 hrr q2 hr
        have hr0 := hrr.1
        have hr1 := hrr.2
        have m1 : (0 : Int) < (m : Int) := by omega
        have hg : g < w.heap.size := World.block_lt_of_cell? _ _ d1
        clear d0 hat hi0 hy
        go_enter Tryd.func44, Tryd.ntmps44
        go_wp2_with fail
        go_quiet (fail)
        go_wp2_with fail
        go_ret
        exact ⟨rfl, ((Fr.refl _ _).alloc _).drewN _⟩
  · rw [if_neg hre]
    have hre' : x.re = false := by simpa using hre
    go_enter Tryd.func44, Tryd.ntmps44
    go_wp2_with fail
    go_ret
    exact ⟨rfl, (Fr.refl _ _).alloc _⟩
end Go.Proofs.YtffjaaolcphonaaDoor
