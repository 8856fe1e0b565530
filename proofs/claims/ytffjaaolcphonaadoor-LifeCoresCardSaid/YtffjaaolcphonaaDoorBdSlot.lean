/- The slots in the world: their block, mark. -/
import Derived.Test.YtffjaaolcphonaaDoorIds1
import Derived.Laws.BitsAll
import Derived.Shelf.Spec.TrailingZeros
namespace Go.Proofs.YtffjaaolcphonaaDoor
open Go.RowKit
/-- Slots: of each index its age, and whether it is free; how many are taken. -/
structure SS where
  ages : List Int
  fr : List Bool
  n : Int
structure SB where
  P : Nat
  A : Nat
  c : Nat
def SB.foot (B : SB) (k : Nat) : Prop := k = B.P ∨ k = B.A
def words (W : Nat → Nat) : List Value := (List.range 64).map fun k => Value.int .u64 ((W k : Nat) : Int)
def cellsS (B : SB) (s : SS) (W : Nat → Nat) : List Value := sl B.A s.ages.length B.c :: (words W ++ [.int .i64 s.n])
structure WAt (W : Nat → Nat) (fr : List Bool) : Prop where
  lt : ∀ k, W k < 18446744073709551616
  bit : ∀ k j, k < 64 → j < 64 → (W k).testBit j = fr.getD (64 * k + j) false
structure SAt (w : World) (B : SB) (s : SS) : Prop where
  hp : ∃ W, WAt W s.fr ∧ Blk w B.P (cellsS B s W) 53
  ha : IBlk w B.A s.ages
  PA : B.P ≠ B.A
  lf : s.fr.length = s.ages.length
  T0 : 1 ≤ s.ages.length
  T1 : s.ages.length ≤ 4096
theorem SAt.fr {w w' : World} {B : SB} {s : SS} (h : SAt w B s) {F : Nat → Prop} (hf : Fr F w w') (hd : ∀ k, B.foot k → ¬ F k) : SAt w' B s :=
  { h with hp := by obtain ⟨W, h1, h2⟩ := h.hp; exact ⟨W, h1, h2.fr hf (hd _ (.inl rfl))⟩, ha := IBlk.fr h.ha hf (hd _ (.inr rfl)) }
theorem SAt.still {w w' : World} {B : SB} {s : SS} (h : SAt w B s) (hf : Still w w') : SAt w' B s := h.fr hf fun _ _ h => h
theorem SAt.lt {w : World} {B : SB} {s : SS} (h : SAt w B s) {k : Nat} (hk : B.foot k) : k < w.heap.size := by
  obtain ⟨W, _, h2⟩ := h.hp
  rcases hk with rfl | rfl
  · exact h2.lt
  · exact h.ha.lt
theorem words_at (W : Nat → Nat) (k : Nat) (hk : k < 64) : (words W)[k]? = some (.int .u64 ((W k : Nat) : Int)) := by simp [words, hk]
theorem words_len (W : Nat → Nat) : (words W).length = 64 := by simp [words]
def up (W : Nat → Nat) (k v : Nat) : Nat → Nat := fun j => if j = k then v else W j
theorem words_set (W : Nat → Nat) (k v : Nat) : (words W).set k (.int .u64 ((v : Nat) : Int)) = words (up W k v) := by
  apply List.ext_getElem
  · simp [words]
  · intro i h1 h2
    simp [words] at h1 h2
    simp only [List.getElem_set, words, List.getElem_map, List.getElem_range, up]
    by_cases h : k = i
    · subst h; simp
    · rw [if_neg h, if_neg (fun e => h e.symm)]
theorem cellsS_word {B : SB} {s : SS} {W : Nat → Nat} {k : Nat} (hk : k < 64) : (cellsS B s W)[1 + k]? = some (.int .u64 ((W k : Nat) : Int)) := by
  unfold cellsS
  rw [show 1 + k = k + 1 by omega, List.getElem?_cons_succ, List.getElem?_append_left (by rw [words_len]; exact hk), words_at W k hk]
theorem cellsS_n {B : SB} {s : SS} {W : Nat → Nat} : (cellsS B s W)[65]? = some (.int .i64 s.n) := by
  unfold cellsS
  rw [List.getElem?_cons_succ, List.getElem?_append_right (by rw [words_len]; omega), words_len]; rfl
theorem cellsS_put {B : SB} {s : SS} {W : Nat → Nat} {k v : Nat} (hk : k < 64) : (cellsS B s W).set (1 + k) (.int .u64 ((v : Nat) : Int)) = cellsS B s (up W k v) := by
  unfold cellsS
  rw [show 1 + k = k + 1 by omega, List.set_cons_succ, List.set_append_left _ _ (by rw [words_len]; exact hk), words_set W k v]
theorem bit_set {x : Nat} {r : Nat} (hx : x < 18446744073709551616) (hr : r < 64) : (x ||| 2 ^ r) < 18446744073709551616 := by
  have h1 : 2 ^ r < 2 ^ 64 := Nat.pow_lt_pow_right (by omega) hr
  exact Nat.or_lt_two_pow (n := 64) (by simpa using hx) h1
theorem WAt.on {W : Nat → Nat} {fr : List Bool} (h : WAt W fr) {i : Nat} (hi : i < fr.length) : WAt (up W (i / 64) (W (i / 64) ||| 2 ^ (i % 64))) (fr.set i true) := by
  refine ⟨fun k => ?_, fun k j hk hj => ?_⟩
  · unfold up; split
    · exact bit_set (h.lt _) (by omega)
    · exact h.lt k
  · unfold up
    by_cases e : k = i / 64
    · rw [if_pos e]
      subst e
      rw [Nat.testBit_or, Nat.testBit_two_pow, h.bit _ _ hk hj]
      by_cases e2 : i % 64 = j
      · rw [show 64 * (i / 64) + j = i by omega]; simp [e2, hi]
      · simp only [List.getD_eq_getElem?_getD]
        rw [List.getElem?_set_ne (by omega)]; simp [e2]
    · rw [if_neg e, h.bit _ _ hk hj]
      simp only [List.getD_eq_getElem?_getD]
      rw [List.getElem?_set_ne (by omega)]
theorem WAt.off {W : Nat → Nat} {fr : List Bool} (h : WAt W fr) {i : Nat} (hi : i < fr.length) : WAt (up W (i / 64) (W (i / 64) &&& (18446744073709551615 - 2 ^ (i % 64)))) (fr.set i false) := by
  have hp : 2 ^ (i % 64) < 2 ^ 64 := Nat.pow_lt_pow_right (by omega) (Nat.mod_lt _ (by omega))
  refine ⟨fun k => ?_, fun k j hk hj => ?_⟩
  · unfold up; split
    · exact Nat.lt_of_le_of_lt Nat.and_le_left (h.lt _)
    · exact h.lt k
  · unfold up
    by_cases e : k = i / 64
    · rw [if_pos e]
      subst e
      have hb : (18446744073709551615 - 2 ^ (i % 64)).testBit j = !decide (i % 64 = j) := by
        have := Nat.testBit_two_pow_sub_succ (n := 64) (x := 2 ^ (i % 64)) hp j
        rw [show 2 ^ 64 - (2 ^ (i % 64) + 1) = 18446744073709551615 - 2 ^ (i % 64) by omega] at this
        rw [this, Nat.testBit_two_pow]; simp [hj]
      rw [Nat.testBit_and, hb, h.bit _ _ hk hj]
      by_cases e2 : i % 64 = j
      · rw [show 64 * (i / 64) + j = i by omega]; simp [e2, hi]
      · simp only [List.getD_eq_getElem?_getD]
        rw [List.getElem?_set_ne (by omega)]; simp [e2]
    · rw [if_neg e, h.bit _ _ hk hj]
      simp only [List.getD_eq_getElem?_getD]
      rw [List.getElem?_set_ne (by omega)]
end Go.Proofs.YtffjaaolcphonaaDoor
/- mark. -/
namespace Go.Proofs.YtffjaaolcphonaaDoor
open Go.RowKit
theorem SAt.put {w : World} {B : SB} {s : SS} (h : SAt w B s) {W' : Nat → Nat} {k v : Nat} {fr : List Bool} (hk : k < 64) {W : Nat → Nat} (h2 : Blk w B.P (cellsS B s W) 53) (hW : W' = up W k v) (h3 : WAt W' fr) (hl : fr.length = s.ages.length) :
    SAt (w.setCell ⟨B.P, 1 + k, none⟩ (.int .u64 ((v : Nat) : Int))) B { s with fr := fr } :=
  { h with
    hp := ⟨W', h3, by have := h2.put (1 + k) (.int .u64 ((v : Nat) : Int)); rw [cellsS_put hk, ← hW] at this; exact this⟩
    ha := h.ha.other (fun e => h.PA e.symm) _
    lf := hl }
theorem pow_lt {r : Nat} (hr : r < 64) : 2 ^ r < 18446744073709551616 := by
  have h : 2 ^ r < 2 ^ 64 := Nat.pow_lt_pow_right (by omega) hr
  exact h
theorem pow_u64 (r : Nat) (hr : r < 64) : IntKind.u64.wrap (2 ^ r) = ((2 ^ r : Nat) : Int) := by
  have hp := pow_lt hr
  have e2 : ((2 : Int) ^ r) = ((2 ^ r : Nat) : Int) := by simp
  rw [e2, IntKind.wrap_u64]
  generalize 2 ^ r = x at hp
  omega
set_option maxRecDepth 100000 in
set_option maxHeartbeats 1000000 in
theorem smark (w : World) (B : SB) (s : SS) (h : SAt w B s) (i : Nat) (hi : i < s.ages.length) :
    Calls Tryd.prog 84 #[.pointer (some ⟨B.P, 0, none⟩), .int .i64 (i : Int), .bool true] w fun e w' => e = .returned (.tuple #[]) ∧ SAt w' B { s with fr := s.fr.set i true } ∧ Fr (fun k => k = B.P) w w' := by
  obtain ⟨W, hW, hb⟩ := h.hp
  have t1 := h.T1
  obtain ⟨r, hr⟩ : ∃ r : Nat, i % 64 = r := ⟨_, rfl⟩
  obtain ⟨q, hq⟩ : ∃ q : Nat, i / 64 = q := ⟨_, rfl⟩
  have e1 : (i : Int) % 64 = (r : Int) := by omega
  have e2 : (i : Int) / 64 = (q : Int) := by omega
  have q1 : q < 64 := by omega
  have r1 : r < 64 := by omega
  have q2 : (q : Int) < 64 := by omega
  have r2 : (r : Int) < 64 := by omega
  have C1 : w.cell? ⟨B.P, 1 + q, none⟩ = some (.int .u64 ((W q : Nat) : Int)) := by rw [hb.cell]; exact cellsS_word q1
  have Z1 := hb.frozen (1 + q)
  have hs := pow_u64 r r1
  go_enter Tryd.func84, Tryd.ntmps84
  go_wp2_with (simp only [e1])

  go_region
  go_wp2
  go_end0
  refine ⟨rfl, ?_, ((Fr.refl (fun k => k = B.P) w).setCell (.inl rfl) _).drew⟩
  have ev : bits BinOp.or IntKind.u64 (↑(W q)) (2 ^ r) = ((W q ||| 2 ^ r : Nat) : Int) := by
    rw [show ((2 : Int) ^ r) = ((2 ^ r : Nat) : Int) by simp]
    exact u64_or_nat _ _ (hW.lt _) (pow_lt r1)
  rw [ev]
  subst hr hq
  exact (h.put q1 hb rfl (hW.on (by rw [h.lf]; exact hi)) (by simp [h.lf])).still ((Fr.refl _ _).drew)
set_option maxRecDepth 100000 in
set_option maxHeartbeats 1000000 in
theorem sunmark (w : World) (B : SB) (s : SS) (h : SAt w B s) (i : Nat) (hi : i < s.ages.length) :
    Calls Tryd.prog 84 #[.pointer (some ⟨B.P, 0, none⟩), .int .i64 (i : Int), .bool false] w fun e w' => e = .returned (.tuple #[]) ∧ SAt w' B { s with fr := s.fr.set i false } ∧ Fr (fun k => k = B.P) w w' := by
  obtain ⟨W, hW, hb⟩ := h.hp
  have t1 := h.T1
  obtain ⟨r, hr⟩ : ∃ r : Nat, i % 64 = r := ⟨_, rfl⟩
  obtain ⟨q, hq⟩ : ∃ q : Nat, i / 64 = q := ⟨_, rfl⟩
  have e1 : (i : Int) % 64 = (r : Int) := by omega
  have e2 : (i : Int) / 64 = (q : Int) := by omega
  have q1 : q < 64 := by omega
  have r1 : r < 64 := by omega
  have q2 : (q : Int) < 64 := by omega
  have r2 : (r : Int) < 64 := by omega
  have C1 : w.cell? ⟨B.P, 1 + q, none⟩ = some (.int .u64 ((W q : Nat) : Int)) := by rw [hb.cell]; exact cellsS_word q1
  have Z1 := hb.frozen (1 + q)
  have hs := pow_u64 r r1
  go_enter Tryd.func84, Tryd.ntmps84
  go_wp2_with (simp only [e1])

  go_region
  go_wp2
  go_end0
  refine ⟨rfl, ?_, ((Fr.refl (fun k => k = B.P) w).setCell (.inl rfl) _).drew⟩
  have ev : bits BinOp.andNot IntKind.u64 (↑(W q)) (2 ^ r) = ((W q &&& (18446744073709551615 - 2 ^ r) : Nat) : Int) := by
    rw [show ((2 : Int) ^ r) = ((2 ^ r : Nat) : Int) by simp]
    exact u64_andNot_nat _ _ (hW.lt _) (pow_lt r1)
  rw [ev]
  subst hr hq
  exact (h.put q1 hb rfl (hW.off (by rw [h.lf]; exact hi)) (by simp [h.lf])).still ((Fr.refl _ _).drew)
end Go.Proofs.YtffjaaolcphonaaDoor
/- made, Live, TrailingZeros64. -/
namespace Go.Proofs.YtffjaaolcphonaaDoor
open Go.RowKit
theorem SAt.f0 {w : World} {B : SB} {s : SS} (h : SAt w B s) : w.cell? ⟨B.P, 0, none⟩ = some (.slice (some ⟨B.A, 0, none⟩) s.ages.length B.c) := by
  obtain ⟨W, _, hb⟩ := h.hp
  rw [hb.cell]; rfl
theorem SAt.fn {w : World} {B : SB} {s : SS} (h : SAt w B s) : w.cell? ⟨B.P, 65, none⟩ = some (.int .i64 s.n) := by
  obtain ⟨W, _, hb⟩ := h.hp
  rw [hb.cell]; exact cellsS_n
theorem SAt.cA {w : World} {B : SB} {s : SS} (h : SAt w B s) {i : Nat} (hi : i < s.ages.length) : w.cell? ⟨B.A, i, none⟩ = some (.int .i64 (s.ages.getD i 0)) := h.ha.cell hi
theorem smade (w : World) (B : SB) (s : SS) (h : SAt w B s) : Calls Tryd.prog 85 #[.pointer (some ⟨B.P, 0, none⟩)] w fun e w' => e = .returned (.bool true) ∧ w = w' := by
  have F0 := h.f0
  have t0 := h.T0
  have t1 : (0 : Int) < (s.ages.length : Int) := by omega
  have d : decide (0 < s.ages.length) = true := decide_eq_true t0
  go_enter Tryd.func85, Tryd.ntmps85
  go_wp2
  go_ret
  exact ⟨rfl, rfl⟩
/-- The library's table lies in its variable. -/
def TabD (w : World) : Prop := TabAt 7 Lib.deBruijn64tab w
theorem TabD.fr {w w' : World} (h : TabD w) {F : Nat → Prop} (hf : Fr F w w') (hn : ¬ F 7) : TabD w' := fun j hj => hf.cellK (h j hj) hn
set_option maxRecDepth 100000 in
set_option maxHeartbeats 1000000 in
theorem tz_core (x k idx : Nat) (w : World) (hx0 : ((x : Int) == 0) = false)
    (key : IntKind.u64.wrap (bits BinOp.and IntKind.u64 (x : Int) (IntKind.u64.wrap (-(x : Int))) * 285870213051353865) / 288230376151711744 = (idx : Int))
    (hi : idx < 64) (hk : k < 64) (hcell : w.cell? ⟨7, idx, none⟩ = some (.int .u8 k)) :
    Calls Tryd.prog 122 #[.int .u64 x] w fun e w' => e = .returned (.int .i64 k) ∧ w = w' := by
  go_enter Tryd.func122, Tryd.ntmps122
  go_wp2_with (simp only [key])
  go_ret
  exact ⟨rfl, rfl⟩
theorem stz (x : Nat) (hx : x < 18446744073709551616) (hx0 : x ≠ 0) (w : World) (hT : TabD w) :
    Calls Tryd.prog 122 #[.int .u64 x] w fun e w' => e = .returned (.int .i64 (Lib.ctz 64 x)) ∧ w = w' := by
  obtain ⟨hlow, hk⟩ := Lib.lowest_bit 64 x hx0 hx
  obtain ⟨hi, htab⟩ := Lib.deBruijn64_at _ hk
  have hcell := hT _ hi
  rw [htab] at hcell
  exact tz_core x _ _ w (by simp; omega) (tz64_key x _ hx hx0 hlow) hi hk hcell
end Go.Proofs.YtffjaaolcphonaaDoor
/- Live. -/
namespace Go.Proofs.YtffjaaolcphonaaDoor
open Go.RowKit
/-- Is an id taken? -/
def liveB (s : SS) (id : Int) : Bool := decide (inR (idxI id) s.ages.length) && (s.ages.getD (idxI id).toNat 0 == ageI id && !(s.fr.getD (idxI id).toNat false))
theorem shr_bit (x r : Nat) (hx : x < 18446744073709551616) : bits BinOp.and IntKind.u64 ((x : Int) / 2 ^ r) 1 = ((x.testBit r).toNat : Int) := by
  have e : (x : Int) / 2 ^ r = ((x / 2 ^ r : Nat) : Int) := by simp
  rw [e, show (1 : Int) = ((1 : Nat) : Int) from rfl, u64_and_nat _ _ (Nat.lt_of_le_of_lt (Nat.div_le_self _ _) hx) (by omega), Nat.and_one_is_mod, Nat.testBit_eq_decide_div_mod_eq]
  rcases Nat.mod_two_eq_zero_or_one (x / 2 ^ r) with h | h <;> simp [h]
set_option maxRecDepth 100000 in
set_option maxHeartbeats 1000000 in
theorem slive (w : World) (B : SB) (s : SS) (h : SAt w B s) (id : Int) (hi : inI id) : Calls Tryd.prog 31 #[.pointer (some ⟨B.P, 0, none⟩), .int .i64 id] w fun e w' => e = .returned (.bool (liveB s id)) ∧ Still w w' := by
  have A := hid (xindex w id hi)
  have M := hid (smade w B s h)
  have G := fun u => hid (xage u id hi)
  have F0 := h.f0
  by_cases hr : inR (idxI id) s.ages.length
  · obtain ⟨W, hW, hb⟩ := h.hp
    have t1 := h.T1
    obtain ⟨i, hi2⟩ := Int.eq_ofNat_of_zero_le hr.1
    have hlt : i < s.ages.length := by have := hr.2; omega
    obtain ⟨r, hr'⟩ : ∃ r : Nat, i % 64 = r := ⟨_, rfl⟩
    obtain ⟨q, hq⟩ : ∃ q : Nat, i / 64 = q := ⟨_, rfl⟩
    have e1 : (i : Int) % 64 = (r : Int) := by omega
    have e2 : (i : Int) / 64 = (q : Int) := by omega
    have q1 : q < 64 := by omega
    have r1 : r < 64 := by omega
    have q2 : (q : Int) < 64 := by omega
    have r2 : (r : Int) < 64 := by omega
    have C1 : w.cell? ⟨B.P, 1 + q, none⟩ = some (.int .u64 ((W q : Nat) : Int)) := by rw [hb.cell]; exact cellsS_word q1
    have C2 := h.cA hlt
    have i0 : ¬ (i : Int) < 0 := by omega
    have i1 : (i : Int) < (s.ages.length : Int) := by omega
    have HL : Hid (liveB s id = (s.ages.getD i 0 == ageI id && !(W q).testBit r)) := hid (by
      unfold liveB
      rw [decide_eq_true hr, hi2, hW.bit q r q1 r1, show 64 * q + r = i by omega]; rfl)
    rw [HL.out]
    rw [hi2] at A
    have HX := hid (hW.lt q)
    clear hr hr' hq hi2
    have hb2 := shr_bit (W q) r HX.out
    have r0 : (0 : Int) ≤ (r : Int) := by omega
    have r64 : (r : Int) ≤ 64 := by omega
    obtain ⟨a, ha⟩ : ∃ a, s.ages.getD i 0 = a := ⟨_, rfl⟩
    rw [ha] at C2 ⊢
    by_cases hg : a = ageI id
    · have HE : Hid ((a == ageI id) = true) := hid (by simp [hg])
      have d1 := HE.out
      rw [HE.out]
      clear hg ha HE
      go_enter Tryd.func31, Tryd.ntmps31
      go_wp2_with (first | (go_at_call 20; refine A.out.mono ?_; rintro e w' ⟨rfl, rfl⟩) | (go_at_call 85; refine M.out.mono ?_; rintro e w' ⟨rfl, rfl⟩))
      go_quiet (first | (go_at_call 22; exact Calls.quiet_of_same (calls_flip (G _).out)))
      go_wp2_with fail
      go_ret
      exact ⟨by cases (W q).testBit r <;> rfl, (Fr.refl _ _).drewN _⟩
    · have HE : Hid ((a == ageI id) = false) := hid (by simp [hg])
      have d1 := HE.out
      rw [HE.out]
      clear hg ha HE
      go_enter Tryd.func31, Tryd.ntmps31
      go_wp2_with (first | (go_at_call 20; refine A.out.mono ?_; rintro e w' ⟨rfl, rfl⟩) | (go_at_call 85; refine M.out.mono ?_; rintro e w' ⟨rfl, rfl⟩))
      go_quiet (first | (go_at_call 22; exact Calls.quiet_of_same (calls_flip (G _).out)))
      go_wp2_with fail
      go_ret
      exact ⟨rfl, (Fr.refl _ _).drewN _⟩
  · have HL : Hid (liveB s id = false) := hid (by unfold liveB; rw [decide_eq_false hr]; rfl)
    rw [HL.out]
    rcases inR_no hr with h1 | h1
    · obtain ⟨x, hx⟩ : ∃ x, idxI id = x := ⟨_, rfl⟩
      rw [hx] at A h1
      clear hr hx
      go_enter Tryd.func31, Tryd.ntmps31
      go_wp2_with (first | (go_at_call 20; refine A.out.mono ?_; rintro e w' ⟨rfl, rfl⟩) | (go_at_call 85; refine M.out.mono ?_; rintro e w' ⟨rfl, rfl⟩))
      go_ret
      exact ⟨rfl, Fr.refl _ _⟩
    · obtain ⟨x, hx⟩ : ∃ x, idxI id = x := ⟨_, rfl⟩
      rw [hx] at A h1
      have h2 : ¬ x < 0 := by omega
      clear hr hx
      go_enter Tryd.func31, Tryd.ntmps31
      go_wp2_with (first | (go_at_call 20; refine A.out.mono ?_; rintro e w' ⟨rfl, rfl⟩) | (go_at_call 85; refine M.out.mono ?_; rintro e w' ⟨rfl, rfl⟩))
      go_ret
      exact ⟨rfl, Fr.refl _ _⟩
end Go.Proofs.YtffjaaolcphonaaDoor
/- The least free index. -/
namespace Go.Proofs.YtffjaaolcphonaaDoor
open Go.RowKit
/-- May an index be taken? -/
def may (s : SS) (i : Nat) : Bool := s.fr.getD i false && decide (s.ages.getD i 0 < 2147483647)
/-- The least that may be taken, at or behind i. -/
def leastFrom (s : SS) (i : Nat) : Nat → Option Nat
  | 0 => none
  | k + 1 => if may s i then some i else leastFrom s (i + 1) k
def leastS (s : SS) : Option Nat := leastFrom s 0 s.ages.length
theorem leastFrom_some (s : SS) : ∀ k i j, i ≤ j → j < i + k → may s j = true → (∀ m, i ≤ m → m < j → may s m = false) → leastFrom s i k = some j := by
  intro k
  induction k with
  | zero => intro i j h1 h2; omega
  | succ k ih =>
    intro i j h1 h2 h3 h4
    rw [leastFrom]
    by_cases e : i = j
    · subst e; rw [if_pos h3]
    · rw [if_neg (by rw [h4 i (Nat.le_refl _) (by omega)]; decide)]
      exact ih _ _ (by omega) (by omega) h3 fun m m1 m2 => h4 m (by omega) m2
theorem leastFrom_none (s : SS) : ∀ k i, (∀ m, i ≤ m → m < i + k → may s m = false) → leastFrom s i k = none := by
  intro k
  induction k with
  | zero => intro i _; rfl
  | succ k ih =>
    intro i h
    rw [leastFrom, if_neg (by rw [h i (Nat.le_refl _) (by omega)]; decide)]
    exact ih _ fun m m1 m2 => h m (by omega) (by omega)
theorem leastS_none {s : SS} (h : ∀ m, m < s.ages.length → may s m = false) : leastS s = none := leastFrom_none s _ _ fun m _ m2 => h m (by omega)
theorem leastS_some {s : SS} {j : Nat} (hj : j < s.ages.length) (h1 : may s j = true) (h2 : ∀ m, m < j → may s m = false) : leastS s = some j := leastFrom_some s _ _ _ (Nat.zero_le _) (by omega) h1 fun m _ m2 => h2 m m2
/-- The lowest bit, by its place. -/
theorem ctz_spec {x : Nat} (h0 : x ≠ 0) (hx : x < 18446744073709551616) : Lib.ctz 64 x < 64 ∧ x.testBit (Lib.ctz 64 x) = true ∧ ∀ j, j < Lib.ctz 64 x → x.testBit j = false := by
  have hs := Lib.ctzFrom_spec 64 x (by omega) hx
  rw [show Lib.ctz 64 x = Lib.ctzFrom 64 x from if_neg h0]
  obtain ⟨m, hm, hlt⟩ := hs
  generalize Lib.ctzFrom 64 x = k at hm hlt
  refine ⟨hlt, ?_, fun j hj => ?_⟩
  · rw [hm, Nat.testBit_two_pow_mul]; simp
  · rw [hm, Nat.testBit_two_pow_mul]; simp; omega
/-- The lowest bit struck. -/
theorem strike_spec {x : Nat} (h0 : x ≠ 0) (hx : x < 18446744073709551616) (j : Nat) : (x &&& (x - 1)).testBit j = (x.testBit j && !decide (j = Lib.ctz 64 x)) := by
  have hs := Lib.ctzFrom_spec 64 x (by omega) hx
  rw [show Lib.ctz 64 x = Lib.ctzFrom 64 x from if_neg h0]
  obtain ⟨m, hm, hlt⟩ := hs
  generalize Lib.ctzFrom 64 x = k at hm hlt
  have e : x - 1 = 2 ^ k * (2 * m) + (2 ^ k - 1) := by
    have : 0 < 2 ^ k := Nat.two_pow_pos k
    rw [hm, Nat.mul_add]; omega
  have e2 : x = 2 ^ k * (2 * m + 1) + 0 := by omega
  have hk : 2 ^ k - 1 < 2 ^ k := Nat.sub_lt (Nat.two_pow_pos k) (by omega)
  rw [Nat.testBit_and, e, e2, Nat.testBit_two_pow_mul_add _ (Nat.two_pow_pos k), Nat.testBit_two_pow_mul_add _ hk]
  by_cases h1 : j < k
  · simp [h1]
  · rw [if_neg h1, if_neg h1]
    by_cases h2 : j = k
    · subst h2; simp
    · obtain ⟨d, hd⟩ : ∃ d, j - k = d + 1 := ⟨j - k - 1, by omega⟩
      rw [hd, Nat.testBit_succ, Nat.testBit_succ]
      have : (2 * m + 1) / 2 = m := by omega
      have : 2 * m / 2 = m := by omega
      simp [*]
end Go.Proofs.YtffjaaolcphonaaDoor
