/- The document's locks in the world. -/
import Derived.Test.YtffjaaolcphonaaBdH
import Derived.Test.YtffjaaolcphonaaBdK
namespace Go.Proofs.Ytffjaaolcphonaa
open Go.RowKit
/-- A row that lies in no block below lo, and in none of X. -/
def RowX (w : World) (lo : Nat) (X : Nat → Prop) (v : Value) (xs : List Int) : Prop := IRow w v xs ∧ (∀ b o c n, v = .slice (some ⟨b, o, none⟩) n c → lo ≤ b ∧ b < w.heap.size ∧ ¬ X b) ∧ ∀ a n c, v = .slice a n c → n ≤ c
theorem RowX.fr {w w' : World} {lo : Nat} {X : Nat → Prop} {v : Value} {xs : List Int} (h : RowX w lo X v xs) {F : Nat → Prop} (hf : Fr F w w') (hd : ∀ k, lo ≤ k → k < w.heap.size → ¬ X k → ¬ F k) : RowX w' lo X v xs := by
  refine ⟨?_, fun b o c n e => ⟨(h.2.1 b o c n e).1, Nat.lt_of_lt_of_le (h.2.1 b o c n e).2.1 hf.size, (h.2.1 b o c n e).2.2⟩, h.2.2⟩
  rcases h.1 with h1 | ⟨h0, b, off, c, hv, hc⟩
  · exact .inl h1
  · refine .inr ⟨h0, b, off, c, hv, fun i hi => ?_⟩
    have hl := World.block_lt_of_cell? _ _ (hc i hi)
    have := h.2.1 b off c _ hv
    exact (World.cell?_of_block (hf.block b hl (hd b this.1 hl this.2.2))).trans (hc i hi)
theorem own_lt {w : World} {base : Nat} {e : TypeId} {size n c m : Nat} {b o : Nat} {xs : List Value} (h : w.ownsRow base e size (.slice (some ⟨b, o, none⟩) m c) n xs) : b < w.heap.size := by
  obtain ⟨_, ⟨h1, _⟩ | ⟨g, cap, _, h1, _, h3, _⟩⟩ := h
  · cases h1
  · injection h1 with h1; injection h1 with h1; injection h1 with h1; subst h1; exact (Array.getElem?_eq_some_iff.1 h3).1
theorem RowX.own {w : World} {base n : Nat} {v : Value} {xs : List Int} (h : w.ownsRow base 3 1 v n (ints xs)) (hn : n = xs.length) {X : Nat → Prop} (hX : ∀ k, base ≤ k → ¬ X k) {lo : Nat} (hlo : lo ≤ base) : RowX w lo X v xs := by
  refine ⟨IRow.own h hn, ?_, ?_⟩
  · rintro b o c n rfl
    have := own_addr h b o rfl
    exact ⟨by omega, own_lt h, hX b this⟩
  · rintro a n c rfl
    obtain ⟨_, ⟨h1, _⟩ | ⟨g, cap, _, hv, _, _, hg, _⟩⟩ := h
    · injection h1 with _ h2 h3; omega
    · injection hv with _ h2 h3; omega
theorem RowX.nil (w : World) (lo : Nat) (X : Nat → Prop) (c : Nat) : RowX w lo X (.slice none 0 c) [] := ⟨.inl ⟨rfl, _, _, rfl⟩, fun b o c n h => (by cases h), fun a n c h => (by injection h with _ h2 h3; omega)⟩
/-- A table of rows. -/
def TabAt (w : World) (lo : Nat) (X : Nat → Prop) (R : Nat) (n : Nat) (g : Nat → List Nat) : Prop := ∃ vs : List Value, vs.length = n ∧ Blk w R vs 28 ∧ ∀ i, i < n → RowX w lo X (vs.getD i undef) (zi (g i))
theorem TabAt.fr {w w' : World} {lo R n : Nat} {X : Nat → Prop} {g : Nat → List Nat} (h : TabAt w lo X R n g) {F : Nat → Prop} (hf : Fr F w w') (hR : ¬ F R) (hd : ∀ k, lo ≤ k → k < w.heap.size → ¬ X k → ¬ F k) : TabAt w' lo X R n g := by
  obtain ⟨vs, h1, h2, h3⟩ := h
  exact ⟨vs, h1, h2.fr hf hR, fun i hi => (h3 i hi).fr hf hd⟩
theorem TabAt.row {w : World} {lo R n : Nat} {X : Nat → Prop} {g : Nat → List Nat} (h : TabAt w lo X R n g) {i : Nat} (hi : i < n) : ∃ a c, w.cell? ⟨R, i, none⟩ = some (.slice a (g i).length c) ∧ RowX w lo X (.slice a (g i).length c) (zi (g i)) := by
  obtain ⟨vs, h1, h2, h3⟩ := h
  obtain ⟨a, c, hv⟩ := (h3 i hi).1.len
  rw [zi_len] at hv
  refine ⟨a, c, ?_, hv ▸ h3 i hi⟩
  have hi' : i < vs.length := by omega
  rw [h2.cell, ← hv, List.getElem?_eq_getElem hi']; simp [hi']
theorem TabAt.frz {w : World} {lo R n : Nat} {X : Nat → Prop} {g : Nat → List Nat} (h : TabAt w lo X R n g) (i : Nat) : w.frozen? ⟨R, i, none⟩ = false := by
  obtain ⟨vs, h1, h2, h3⟩ := h; exact h2.frozen i
theorem TabAt.put {w : World} {lo R n : Nat} {X : Nat → Prop} {g : Nat → List Nat} (h : TabAt w lo X R n g) (hX : X R) {i : Nat} {v : Value} {l : List Nat} (hv : RowX w lo X v (zi l)) : TabAt (w.setCell ⟨R, i, none⟩ v) lo X R n (fun j => if j = i then l else g j) := by
  have hfr : Fr (fun k => k = R) w (w.setCell ⟨R, i, none⟩ v) := (Fr.refl (fun k => k = R) w).setCell (p := ⟨R, i, none⟩) (.inl rfl) v
  have hd : ∀ k, lo ≤ k → k < w.heap.size → ¬ X k → ¬ k = R := fun k _ _ hk e => hk (e ▸ hX)
  obtain ⟨vs, h1, h2, h3⟩ := h
  refine ⟨vs.set i v, by simp [h1], h2.put i v, fun j hj => ?_⟩
  show RowX _ lo X _ (zi (if j = i then l else g j))
  by_cases e : j = i
  · subst e
    rw [if_pos rfl, show (vs.set j v).getD j undef = v by simp [List.getD, h1, hj]]
    exact hv.fr hfr hd
  · rw [if_neg e, show (vs.set i v).getD j undef = vs.getD j undef by simp [List.getD, Ne.symm e]]
    exact (h3 j hj).fr hfr hd
theorem TabAt.congr {w : World} {lo R n : Nat} {X : Nat → Prop} {g g' : Nat → List Nat} (h : TabAt w lo X R n g) (e : ∀ i, i < n → g i = g' i) : TabAt w lo X R n g' := by
  obtain ⟨vs, h1, h2, h3⟩ := h
  exact ⟨vs, h1, h2, fun i hi => e i hi ▸ h3 i hi⟩

structure QB where
  p : Nat
  O : Nat
  W : Nat
  S : Nat
  A : Nat
  kO : Nat
  kA : Nat
  E : Nat → Prop
def QB.X (Q : QB) (k : Nat) : Prop := k = Q.O ∨ k = Q.W ∨ k = Q.S ∨ k = Q.A
def QB.Y (Q : QB) (k : Nat) : Prop := Q.X k ∨ Q.E k
/-- The document's locks; no row of theirs lies in E. -/
structure QAt (w : World) (lo : Nat) (Q : QB) (s : LS) : Prop where
  hp : Blk w Q.p [.int .i64 s.T, sl Q.O s.n Q.kO, sl Q.W s.n s.n, sl Q.S s.n s.n, sl Q.A s.T Q.kA] 152
  ho : IBlk w Q.O s.ow
  ha : IBlk w Q.A s.ag
  hw : TabAt w lo Q.Y Q.W s.n (fun i => gl s.L i)
  hs : TabAt w lo Q.Y Q.S s.n (fun i => gl s.L (s.n + i))
  pX : ¬ Q.X Q.p
  eX : ∀ k, Q.E k → k < w.heap.size
  xE : ∀ k, k = Q.p ∨ Q.X k → ¬ Q.E k
  OW : Q.O ≠ Q.W
  OS : Q.O ≠ Q.S
  OA : Q.O ≠ Q.A
  WS : Q.W ≠ Q.S
  WA : Q.W ≠ Q.A
  SA : Q.S ≠ Q.A
  lp : lo ≤ Q.p
  lX : ∀ k, Q.X k → lo ≤ k
  lo' : s.ow.length = s.n
  la : s.ag.length = s.T
  ll : s.L.length = 2 * s.n
  n1 : s.n ≤ 64
  T1 : s.T ≤ 1024
  wf : ∀ t, t < s.T → inR (s.ag.getD t 0) s.n
  bd : ∀ i, i < 2 * s.n → ∀ x ∈ gl s.L i, x < s.T
  sh : ∀ i, i < 2 * s.n → (gl s.L i).length ≤ 1024
  nn : ∀ o, o < s.n → -1 ≤ s.ow.getD o 0
theorem QAt.fr {w w' : World} {lo : Nat} {Q : QB} {s : LS} (h : QAt w lo Q s) {F : Nat → Prop} (hf : Fr F w w') (hd : ∀ k, lo ≤ k → k < w.heap.size → ¬ F k) : QAt w' lo Q s := by
  obtain ⟨_, _, hW, _⟩ := h.hw
  obtain ⟨_, _, hS, _⟩ := h.hs
  exact { h with eX := fun k hk => Nat.lt_of_lt_of_le (h.eX k hk) hf.size, hp := h.hp.fr hf (hd _ h.lp h.hp.lt), ho := IBlk.fr h.ho hf (hd _ (h.lX _ (.inl rfl)) h.ho.lt), ha := IBlk.fr h.ha hf (hd _ (h.lX _ (.inr (.inr (.inr rfl)))) h.ha.lt),
                  hw := h.hw.fr hf (hd _ (h.lX _ (.inr (.inl rfl))) hW.lt) (fun k a b _ => hd k a b), hs := h.hs.fr hf (hd _ (h.lX _ (.inr (.inr (.inl rfl)))) hS.lt) (fun k a b _ => hd k a b) }
/-- Behind what turns none but what is E, or new. -/
theorem QAt.frE {w w' : World} {lo : Nat} {Q : QB} {s : LS} (h : QAt w lo Q s) {E' : Nat → Prop} (hf : Fr Q.E w w') (hE : ∀ k, E' k → Q.E k ∨ w.heap.size ≤ k) (hlt : ∀ k, E' k → k < w'.heap.size) : QAt w' lo { Q with E := E' } s := by
  obtain ⟨vw, hW1, hW, hWr⟩ := h.hw
  obtain ⟨vs, hS1, hS, hSr⟩ := h.hs
  have nX : ∀ k, k = Q.p ∨ Q.X k → ¬ Q.E k := h.xE
  have lX : ∀ k, k = Q.p ∨ Q.X k → k < w.heap.size := fun k hk => by
    rcases hk with rfl | rfl | rfl | rfl | rfl
    · exact h.hp.lt
    · exact h.ho.lt
    · exact hW.lt
    · exact hS.lt
    · exact h.ha.lt
  have row : ∀ v xs, RowX w lo Q.Y v xs → RowX w' lo (QB.Y { Q with E := E' }) v xs := fun v xs hr => by
    have := hr.fr hf (fun k _ _ hk e => hk (.inr e))
    refine ⟨this.1, fun b o c n e => ⟨(this.2.1 b o c n e).1, (this.2.1 b o c n e).2.1, fun hy => ?_⟩, this.2.2⟩
    have h1 := hr.2.1 b o c n e
    rcases hy with hy | hy
    · exact h1.2.2 (.inl hy)
    · rcases hE b hy with hb | hb
      · exact h1.2.2 (.inr hb)
      · omega
  exact { h with
    eX := hlt
    xE := fun k hk he => by
      rcases hE k he with h1 | h1
      · exact nX k hk h1
      · have := lX k hk; omega
    hp := h.hp.fr hf (nX _ (.inl rfl)), ho := IBlk.fr h.ho hf (nX _ (.inr (.inl rfl))), ha := IBlk.fr h.ha hf (nX _ (.inr (.inr (.inr (.inr rfl)))))
    hw := ⟨vw, hW1, hW.fr hf (nX _ (.inr (.inr (.inl rfl)))), fun i hi => row _ _ (hWr i hi)⟩
    hs := ⟨vs, hS1, hS.fr hf (nX _ (.inr (.inr (.inr (.inl rfl))))), fun i hi => row _ _ (hSr i hi)⟩ }
theorem QAt.still {w w' : World} {lo : Nat} {Q : QB} {s : LS} (h : QAt w lo Q s) (hf : Still w w') : QAt w' lo Q s := h.fr hf fun _ _ _ h => h
section
variable {w : World} {lo : Nat} {Q : QB} {s : LS}
theorem QAt.f0 (h : QAt w lo Q s) : w.cell? ⟨Q.p, 0, none⟩ = some (.int .i64 s.T) := by rw [h.hp.cell]; rfl
theorem QAt.f1 (h : QAt w lo Q s) : w.cell? ⟨Q.p, 1, none⟩ = some (.slice (some ⟨Q.O, 0, none⟩) s.n Q.kO) := by rw [h.hp.cell]; rfl
theorem QAt.f2 (h : QAt w lo Q s) : w.cell? ⟨Q.p, 2, none⟩ = some (.slice (some ⟨Q.W, 0, none⟩) s.n s.n) := by rw [h.hp.cell]; rfl
theorem QAt.f3 (h : QAt w lo Q s) : w.cell? ⟨Q.p, 3, none⟩ = some (.slice (some ⟨Q.S, 0, none⟩) s.n s.n) := by rw [h.hp.cell]; rfl
theorem QAt.f4 (h : QAt w lo Q s) : w.cell? ⟨Q.p, 4, none⟩ = some (.slice (some ⟨Q.A, 0, none⟩) s.T Q.kA) := by rw [h.hp.cell]; rfl
theorem QAt.cO (h : QAt w lo Q s) {i : Nat} (hi : i < s.n) : w.cell? ⟨Q.O, i, none⟩ = some (.int .i64 (s.ow.getD i 0)) := h.ho.cell (by rw [h.lo']; exact hi)
theorem QAt.cA (h : QAt w lo Q s) {i : Nat} (hi : i < s.T) : w.cell? ⟨Q.A, i, none⟩ = some (.int .i64 (s.ag.getD i 0)) := h.ha.cell (by rw [h.la]; exact hi)
theorem qobject (h : QAt w lo Q s) (i : Int) : Calls Try.prog 145 #[.pointer (some ⟨Q.p, 0, none⟩), .int .i64 i] w fun e w' => e = .returned (.bool (decide (inR i s.n))) ∧ w = w' := by
  have F1 := h.f1
  by_cases hi : inR i s.n
  · obtain ⟨i0, i1⟩ := hi
    have HD := hid (decide_eq_true (p := inR i s.n) ⟨i0, i1⟩)
    go_enter Try.func145, Try.ntmps145
    go_wp2
    go_ret
    exact ⟨by rw [HD.out]; first | rfl | (simp; omega), rfl⟩
  · have HD := hid (decide_eq_false hi)
    rcases inR_no hi with h0 | h0
    all_goals
      clear hi
      go_enter Try.func145, Try.ntmps145
      go_wp2
      go_ret
      exact ⟨by rw [HD.out]; first | rfl | (simp; omega) | simp, rfl⟩
theorem qthread (h : QAt w lo Q s) (i : Int) : Calls Try.prog 146 #[.pointer (some ⟨Q.p, 0, none⟩), .int .i64 i] w fun e w' => e = .returned (.bool (decide (inR i s.T))) ∧ w = w' := by
  have F0 := h.f0
  by_cases hi : inR i s.T
  · obtain ⟨i0, i1⟩ := hi
    have HD := hid (decide_eq_true (p := inR i s.T) ⟨i0, i1⟩)
    go_enter Try.func146, Try.ntmps146
    go_wp2
    go_ret
    exact ⟨by rw [HD.out]; first | rfl | (simp; omega), rfl⟩
  · have HD := hid (decide_eq_false hi)
    rcases inR_no hi with h0 | h0
    all_goals
      clear hi
      go_enter Try.func146, Try.ntmps146
      go_wp2
      go_ret
      exact ⟨by rw [HD.out]; first | rfl | (simp; omega) | simp, rfl⟩
end
end Go.Proofs.Ytffjaaolcphonaa
/- The document's locks: in, out. -/
namespace Go.Proofs.Ytffjaaolcphonaa
open Go.RowKit
def inB (l : List Nat) (t : Int) : Bool := l.any fun x => (x : Int) == t
def outL (l : List Nat) (t : Int) : List Nat := l.filter fun x => (x : Int) != t
theorem outL_step (l : List Nat) (t : Int) (j : Nat) (hj : j < l.length) : outL (l.take (j + 1)) t = outL (l.take j) t ++ (if ((l.getD j 0 : Nat) : Int) = t then [] else [l.getD j 0]) := by
  have e : l.getD j 0 = l[j] := by simp [List.getD, hj]
  unfold outL
  rw [List.take_succ_eq_append_getElem hj, List.filter_append, e]
  congr 1
  by_cases h : (l[j] : Int) = t <;> simp [h]
theorem qin (w : World) (v : Value) (l : List Nat) (t : Int) (hv : IRow w v (zi l)) (hl : l.length ≤ 4096) : Calls Try.prog 150 #[v, .int .i64 t] w fun e w' => e = .returned (.bool (inB l t)) ∧ w = w' := by
  obtain ⟨a, c, hva⟩ := hv.len
  rw [zi_len] at hva
  subst hva
  have HV := hid hv
  clear hv
  go_enter Try.func150, Try.ntmps150
  go_wp2
  go_loop [9] (fun c => ∃ j : Nat, c = .int .i64 j ∧ j ≤ l.length ∧ ∀ k, k < j → ((l.getD k 0 : Nat) : Int) ≠ t) (fun c => l.length - (intOf c).toNat)
  case atStart => exact ⟨0, rfl, Nat.zero_le _, fun _ h => absurd h (Nat.not_lt_zero _)⟩
  case round =>
    obtain ⟨j, rfl, hj, hnj⟩ := hrel
    have HJ := hid hnj
    clear hnj
    by_cases hjl : j < l.length
    · have hjl' : (j : Int) < (l.length : Int) := by omega
      rcases HV.out with ⟨h0, _⟩ | ⟨_, b, off, c', hv, hcell⟩
      · simp [zi] at h0; subst h0; simp at hjl
      obtain rfl : a = some ⟨b, off, none⟩ := by injection hv
      clear hv
      have hx := hcell j (by rw [zi_len]; exact hjl)
      rw [show (zi l).getD j 0 = ((l.getD j 0 : Nat) : Int) by simp [zi, hjl]] at hx
      clear hcell
      obtain ⟨x, hxe⟩ : ∃ x, l.getD j 0 = x := ⟨_, rfl⟩
      rw [hxe] at hx
      have HX := hid hxe
      clear hxe
      by_cases hxt : (x : Int) = t
      · have hd : ((x : Int) == t) = true := by simpa using hxt
        have HT := hid hxt
        clear hxt
        go_wp2
        go_ret
        have e : inB l t = true := List.any_eq_true.2 ⟨x, by rw [← HX.out, List.getD_eq_getElem?_getD, List.getElem?_eq_getElem hjl, Option.getD_some]; exact List.getElem_mem _, by simpa using HT.out⟩
        exact ⟨by rw [e]; rfl, rfl⟩
      · have hd : ((x : Int) == t) = false := by simpa using hxt
        have HT := hid hxt
        clear hxt
        go_wp2
        go_round
        case rel =>
          refine ⟨j + 1, by go_num, by omega, fun k hk => ?_⟩
          by_cases e : k = j
          · subst e; rw [HX.out]; exact HT.out
          · exact HJ.out k (by omega)
        case measure => simp [intOf]; omega
    · have hjl' : ¬ (j : Int) < (l.length : Int) := by omega
      go_wp2
      go_ret
      have e : inB l t = false := by
        rw [Bool.eq_false_iff]
        intro h
        obtain ⟨x, hx, hxt⟩ := List.any_eq_true.1 h
        obtain ⟨n, hn, rfl⟩ := List.getElem_of_mem hx
        have := HJ.out n (by omega)
        rw [List.getD_eq_getElem?_getD, List.getElem?_eq_getElem hn, Option.getD_some] at this
        exact this (by simpa using hxt)
      exact ⟨by rw [e]; rfl, rfl⟩
def OutPost (w : World) (l : List Nat) (e : Ending) (w' : World) : Prop := ∃ a c, e = .returned (.slice a l.length c) ∧ w'.ownsRow w.heap.size 3 1 (.slice a l.length c) l.length (ints (zi l)) ∧ Still w w'
set_option maxRecDepth 100000 in
set_option maxHeartbeats 2000000 in
theorem qout (w : World) (v : Value) (l : List Nat) (t : Int) (hv : IRow w v (zi l)) (hl : l.length ≤ 4096) : Calls Try.prog 149 #[v, .int .i64 t] w (OutPost w (outL l t)) := by
  obtain ⟨a, c, hva⟩ := hv.len
  rw [zi_len] at hva
  subst hva
  have HV := hid hv
  clear hv
  go_enter Try.func149, Try.ntmps149
  go_wp2
  go_loopw [5, 10] (fun x c wr => ∃ j : Nat, c = .int .i64 j ∧ j ≤ l.length ∧ wr.ownsRow w.heap.size 3 1 x (outL (l.take j) t).length (ints (zi (outL (l.take j) t))) ∧ Still w wr) (fun _ c _ => l.length - (intOf c).toNat)
  case atStart => exact ⟨0, rfl, Nat.zero_le _, by simpa [ints, zi, outL] using World.ownsRow_nil _ _ _ _, Fr.refl _ _⟩
  case round =>
    obtain ⟨j, rfl, hj, hown, hst⟩ := hrel
    have hfl : (outL (l.take j) t).length ≤ j := Nat.le_trans (List.length_filter_le _ _) (List.length_take_le _ _)
    by_cases hlt : j < l.length
    · have hlt' : (j : Int) < (l.length : Int) := by omega
      have HS := hid (outL_step l t j hlt)
      rcases HV.out with ⟨h0, _⟩ | ⟨_, b, off, c', hv, hcell⟩
      · simp [zi] at h0; subst h0; simp at hlt
      obtain rfl : a = some ⟨b, off, none⟩ := by injection hv
      clear hv
      have hx := Still.cell hst (hcell j (by rw [zi_len]; exact hlt))
      rw [show (zi l).getD j 0 = ((l.getD j 0 : Nat) : Int) by simp [zi, hlt]] at hx
      clear hcell
      obtain ⟨x, hxe⟩ : ∃ x, l.getD j 0 = x := ⟨_, rfl⟩
      rw [hxe] at hx HS
      clear hxe
      obtain ⟨A, hA⟩ : ∃ A, outL (l.take j) t = A := ⟨_, rfl⟩
      rw [hA] at hown hfl HS
      clear hA
      have hz1 := hst.size
      by_cases hxt : (x : Int) = t
      · have hd : ((x : Int) != t) = false := by simp [hxt]
        have HS' : Hid (outL (l.take (j + 1)) t = A) := hid (by rw [HS.out, if_pos hxt, List.append_nil])
        clear hxt
        go_wp2
        go_roundw
        case rel => exact ⟨j + 1, by go_num, by omega, by rw [HS'.out]; exact hown, hst⟩
        case measure => simp [intOf]; omega
      · have hd : ((x : Int) != t) = true := by simp; omega
        have HS' : Hid (outL (l.take (j + 1)) t = A ++ [x]) := hid (by rw [HS.out, if_neg hxt])
        clear hxt
        go_wp2_with (at_builtin; refine wpList_append_irow rfl (.tmp 17) (.tmp 19) rfl w.heap.size A.length (zi A) [(x : Int)] _ _ rfl rfl (hown.alloc _) (one_new _ _ _) (by simp; omega) (by simp; omega) ?_; intro v2 w2 ho2 hg2 _; have s2 : Still w w2 := Fr.of_own (hst.alloc _) (hown.alloc _) hg2 (Nat.le_refl _))
        go_roundw
        case rel => exact ⟨j + 1, by go_num, by omega, by rw [HS'.out]; simpa [zi] using ho2, s2⟩
        case measure => simp [intOf]; omega
    · have hjl : j = l.length := by omega
      have hlt' : ¬ (j : Int) < (l.length : Int) := by omega
      rw [hjl, List.take_length] at hown hfl
      clear hjl
      obtain ⟨a2, c2, rfl⟩ := own_shape hown _ rfl
      go_wp2
      go_ret
      exact ⟨a2, c2, rfl, hown, hst⟩
end Go.Proofs.Ytffjaaolcphonaa
/- The document's locks: Where, waits. -/
namespace Go.Proofs.Ytffjaaolcphonaa
open Go.RowKit
theorem whI_in {T : Nat} {L : List (List Nat)} (h : Nice L) {i x : Nat} (hi : i < L.length) (hx : x ∈ gl L i) (hT : x < T) : whI T L (x : Int) = (i : Int) :=
  whI_yes hi (fun k hk y hy e => by
    have e' : y = x := by omega
    subst e'
    have := h.uq k i y (by omega) hi hy hx
    omega) hx rfl hT
theorem inB_yes {l : List Nat} {t : Int} (h : inB l t = true) : ∃ x ∈ l, (x : Int) = t := by
  obtain ⟨x, hx, e⟩ := List.any_eq_true.1 h; exact ⟨x, hx, by simpa using e⟩
theorem inB_no {l : List Nat} {t : Int} (h : inB l t = false) : ∀ x ∈ l, (x : Int) ≠ t := fun x hx e => by
  have : inB l t = true := List.any_eq_true.2 ⟨x, hx, by simpa using e⟩
  rw [h] at this; cases this
section
variable {w : World} {lo : Nat} {Q : QB} {s : LS}
theorem where_at {s : LS} (hn : Nice s.L) {i : Nat} {t : Int} (hi : i < s.L.length) (hb : ∀ x ∈ gl s.L i, x < s.T) (h : inB (gl s.L i) t = true) : whI s.T s.L t = i := by
  obtain ⟨x, hx, rfl⟩ := inB_yes h
  exact whI_in hn hi hx (hb x hx)
set_option maxRecDepth 100000 in
set_option maxHeartbeats 2000000 in
theorem qwhere (h : QAt w lo Q s) (hn : Nice s.L) (t : Int) : Calls Try.prog 129 #[.pointer (some ⟨Q.p, 0, none⟩), .int .i64 t] w fun e w' =>
    e = .returned (.tuple #[.int .i64 (whereK s t), .int .i64 (whereO s t)]) ∧ w = w' := by
  have F1 := h.f1
  have F2 := h.f2
  have F3 := h.f3
  have n1 := h.n1
  have HH := hid h
  have HN := hid hn
  go_enter Try.func129, Try.ntmps129
  go_wp2
  go_loopw [12] (fun c wr => ∃ o : Nat, c = .int .i64 o ∧ o ≤ s.n ∧ (∀ k, k < o → inB (gl s.L k) t = false ∧ inB (gl s.L (s.n + k)) t = false) ∧ w = wr) (fun c _ => s.n - (intOf c).toNat)
  case atStart => exact ⟨0, rfl, Nat.zero_le _, fun _ h => absurd h (Nat.not_lt_zero _), rfl⟩
  case round =>
    obtain ⟨o, rfl, ho, hno, rfl⟩ := hrel
    have HNO := hid hno
    clear hno
    by_cases hlt : o < s.n
    · have hlt' : (o : Int) < (s.n : Int) := by omega
      obtain ⟨a1, c1, C1, hr1⟩ := HH.out.hw.row hlt
      obtain ⟨a2, c2, C2, hr2⟩ := HH.out.hs.row hlt
      have sh1 := HH.out.sh o (by omega)
      have sh2 := HH.out.sh (s.n + o) (by omega)
      have I1 := qin w _ (gl s.L o) t hr1.1 (by omega)
      have I2 := qin w _ (gl s.L (s.n + o)) t hr2.1 (by omega)
      have bd1 := HH.out.bd o (by omega)
      have bd2 := HH.out.bd (s.n + o) (by omega)
      have hl1 : o < s.L.length := by rw [HH.out.ll]; omega
      have hl2 : s.n + o < s.L.length := by rw [HH.out.ll]; omega
      cases hb1 : inB (gl s.L o) t with
      | true =>
        rw [hb1] at I1
        have hw := where_at HN.out hl1 bd1 hb1
        have HK : Hid (whereK s t = 1) := by unfold whereK; rw [hw, if_neg (by omega), if_pos (by omega)]; exact rfl
        have HO : Hid (whereO s t = o) := by unfold whereO; rw [hw, if_neg (by omega), if_pos (by omega)]; exact rfl
        have J1 := hid I1
        clear I1 I2 hr1 hr2 hb1 hw bd1 bd2 hl1 hl2 sh1 sh2
        go_wp2_with (go_at_call 150; refine J1.out.mono ?_; rintro e w' ⟨rfl, rfl⟩)
        go_ret2
        exact ⟨by rw [HK.out, HO.out]; rfl, rfl⟩
      | false =>
        rw [hb1] at I1
        have J1 := hid I1
        have B1 := hid hb1
        cases hb2 : inB (gl s.L (s.n + o)) t with
        | true =>
          rw [hb2] at I2
          have hw := where_at HN.out hl2 bd2 hb2
          have HK : Hid (whereK s t = 2) := by unfold whereK; rw [hw, if_neg (by omega), if_neg (by omega)]; exact rfl
          have HO : Hid (whereO s t = o) := by unfold whereO; rw [hw, if_neg (by omega), if_neg (by omega)]; show ((s.n + o : Nat) : Int) - s.n = o; omega
          have J2 := hid I2
          clear I1 I2 hr1 hr2 hb1 hb2 hw bd1 bd2 hl1 hl2 sh1 sh2
          go_wp2_with fail
          refine J1.out.mono ?_
          rintro e w' ⟨rfl, rfl⟩
          go_wp2_with fail
          refine J2.out.mono ?_
          rintro e w' ⟨rfl, rfl⟩
          go_wp2_with fail
          go_ret2
          exact ⟨by rw [HK.out, HO.out]; rfl, rfl⟩
        | false =>
          rw [hb2] at I2
          have J2 := hid I2
          have B2 := hid hb2
          clear I1 I2 hr1 hr2 hb1 hb2 bd1 bd2 hl1 hl2 sh1 sh2
          go_wp2_with fail
          refine J1.out.mono ?_
          rintro e w' ⟨rfl, rfl⟩
          go_wp2_with fail
          refine J2.out.mono ?_
          rintro e w' ⟨rfl, rfl⟩
          go_wp2_with fail
          go_roundw
          case rel =>
            refine ⟨o + 1, by go_num, by omega, fun k hk => ?_, by first | rfl | trivial⟩
            by_cases e : k = o
            · subst e; exact ⟨B1.out, B2.out⟩
            · exact HNO.out k (by omega)
          case measure => simp [intOf]; omega
    · have hlt' : ¬ (o : Int) < (s.n : Int) := by omega
      have hw : whI s.T s.L t = -1 := whI_no fun i hi x hx => by
        rw [HH.out.ll] at hi
        by_cases e : i < s.n
        · exact inB_no (HNO.out i (by omega)).1 x hx
        · have := (HNO.out (i - s.n) (by omega)).2
          rw [show s.n + (i - s.n) = i by omega] at this
          exact inB_no this x hx
      have HK : Hid (whereK s t = 0) := by unfold whereK; rw [hw, if_pos (by omega)]; exact rfl
      have HO : Hid (whereO s t = -1) := by unfold whereO; rw [hw, if_pos (by omega)]; exact rfl
      clear hw
      go_wp2_with fail
      go_ret2
      exact ⟨by rw [HK.out, HO.out]; rfl, rfl⟩
theorem qwaits (h : QAt w lo Q s) (hn : Nice s.L) (t : Int) : Calls Try.prog 147 #[.pointer (some ⟨Q.p, 0, none⟩), .int .i64 t] w fun e w' =>
    e = .returned (.bool (!decide (whI s.T s.L t < 0))) ∧ w = w' := by
  have A := qwhere h hn t
  by_cases h0 : whI s.T s.L t < 0
  · rw [show whereK s t = 0 by unfold whereK; rw [if_pos h0]] at A
    have HA := hid A
    have HD := hid (decide_eq_true h0)
    clear A h0
    go_enter Try.func147, Try.ntmps147
    go_wp2_with (go_at_call 129; refine HA.out.mono ?_; rintro e w' ⟨rfl, rfl⟩)
    go_ret
    exact ⟨by rw [HD.out]; rfl, rfl⟩
  · have hk : ∃ k, whereK s t = k ∧ k ≠ 0 := by
      unfold whereK; rw [if_neg h0]; split
      · exact ⟨1, rfl, by omega⟩
      · exact ⟨2, rfl, by omega⟩
    obtain ⟨k, hk, hk0⟩ := hk
    rw [hk] at A
    have HA := hid A
    have HD := hid (decide_eq_false h0)
    have hd : (k != 0) = true := by simpa using hk0
    clear A h0 hk hk0
    go_enter Try.func147, Try.ntmps147
    go_wp2_with (go_at_call 129; refine HA.out.mono ?_; rintro e w' ⟨rfl, rfl⟩)
    go_ret
    exact ⟨by rw [HD.out]; rfl, rfl⟩
end
end Go.Proofs.Ytffjaaolcphonaa
/- The document's locks: what is written; pass. -/
namespace Go.Proofs.Ytffjaaolcphonaa
open Go.RowKit
set_option linter.unusedSimpArgs false
theorem Fr.putX {X : Nat → Prop} {w W : World} (h : Fr X w W) {b : Nat} (hb : X b) (i : Nat) (v : Value) : Fr X w (W.setCell ⟨b, i, none⟩ v) := Fr.setCell h (p := ⟨b, i, none⟩) (.inl hb) v
section
variable {w : World} {lo : Nat} {Q : QB} {s : LS}
theorem QAt.setO (h : QAt w lo Q s) (i : Nat) (v : Int) (hv : -1 ≤ v) : QAt (w.setCell ⟨Q.O, i, none⟩ (.int .i64 v)) lo Q { s with ow := s.ow.set i v } := by
  have hf : Fr (fun k => k = Q.O) w (w.setCell ⟨Q.O, i, none⟩ (.int .i64 v)) := Fr.putX (Fr.refl (fun k => k = Q.O) w) rfl i _
  exact { h with
    eX := fun k hk => Nat.lt_of_lt_of_le (h.eX k hk) hf.size
    hp := h.hp.fr hf (fun e => h.pX (.inl e)), ho := h.ho.put i v, ha := IBlk.fr h.ha hf (fun e => h.OA e.symm)
    hw := h.hw.fr hf (fun e => h.OW e.symm) (fun k _ _ hk e => hk (.inl (.inl e))), hs := h.hs.fr hf (fun e => h.OS e.symm) (fun k _ _ hk e => hk (.inl (.inl e))), lo' := by simpa using h.lo'
    nn := fun o ho => by
      by_cases e : i = o
      · subst e
        by_cases hi : i < s.ow.length
        · simpa [List.getD, hi] using hv
        · rw [List.set_eq_of_length_le (by omega)]; exact h.nn i ho
      · have := h.nn o ho; simpa [List.getD, e] using this }
theorem QAt.setA (h : QAt w lo Q s) (i : Nat) (v : Int) (hv : inR v s.n) : QAt (w.setCell ⟨Q.A, i, none⟩ (.int .i64 v)) lo Q { s with ag := s.ag.set i v } := by
  have hf : Fr (fun k => k = Q.A) w (w.setCell ⟨Q.A, i, none⟩ (.int .i64 v)) := Fr.putX (Fr.refl (fun k => k = Q.A) w) rfl i _
  exact { h with
    eX := fun k hk => Nat.lt_of_lt_of_le (h.eX k hk) hf.size
    hp := h.hp.fr hf (fun e => h.pX (.inr (.inr (.inr e)))), ha := h.ha.put i v, ho := IBlk.fr h.ho hf h.OA
    hw := h.hw.fr hf h.WA (fun k _ _ hk e => hk (.inl (.inr (.inr (.inr e))))), hs := h.hs.fr hf h.SA (fun k _ _ hk e => hk (.inl (.inr (.inr (.inr e))))), la := by simpa using h.la
    wf := fun t ht => by
      have := h.wf t ht
      by_cases e : i = t
      · subst e
        by_cases hi : i < s.ag.length
        · simpa [List.getD, hi] using hv
        · rw [List.set_eq_of_length_le (by omega)]; exact this
      · simpa [List.getD, e] using this }
theorem QAt.newX (h : QAt w lo Q s) : ∀ k, w.heap.size ≤ k → ¬ Q.Y k := fun k hk hx => by
  have : k < w.heap.size := by
    rcases hx with (rfl | rfl | rfl | rfl) | hx
    · exact h.ho.lt
    · obtain ⟨_, _, h, _⟩ := h.hw; exact h.lt
    · obtain ⟨_, _, h, _⟩ := h.hs; exact h.lt
    · exact h.ha.lt
    · exact h.eX k hx
  omega
theorem gl_set_any (L : List (List Nat)) (i j : Nat) (l : List Nat) (hj : j < L.length) : gl (L.set i l) j = if j = i then l else gl L j := by
  by_cases e : j = i
  · subst e; rw [if_pos rfl, gl_set_self' _ _ _ hj]
  · rw [if_neg e, gl_set_ne' _ _ (Ne.symm e)]
theorem QAt.putW (h : QAt w lo Q s) {i : Nat} (hi : i < s.n) {v : Value} {l : List Nat} (hv : RowX w lo Q.Y v (zi l)) (hb : ∀ x ∈ l, x < s.T) (hs : l.length ≤ 1024) : QAt (w.setCell ⟨Q.W, i, none⟩ v) lo Q { s with L := s.L.set i l } := by
  have hf : Fr (fun k => k = Q.W) w (w.setCell ⟨Q.W, i, none⟩ v) := Fr.putX (Fr.refl (fun k => k = Q.W) w) rfl i _
  exact { h with
    eX := fun k hk => Nat.lt_of_lt_of_le (h.eX k hk) hf.size
    hp := h.hp.fr hf (fun e => h.pX (.inr (.inl e))), ho := IBlk.fr h.ho hf h.OW, ha := IBlk.fr h.ha hf (fun e => h.WA e.symm)
    hw := (h.hw.put (.inl (.inr (.inl rfl))) hv).congr (fun j hj => (gl_set_any _ _ _ _ (by rw [h.ll]; omega)).symm)
    hs := (h.hs.fr hf (fun e => h.WS e.symm) (fun k _ _ hk e => hk (.inl (.inr (.inl e))))).congr (fun j hj => by
      show gl s.L (s.n + j) = gl (s.L.set i l) (s.n + j)
      rw [gl_set_any _ _ _ _ (by rw [h.ll]; omega), if_neg (by omega)])
    ll := by simpa using h.ll
    bd := fun j hj x hx => by
      rw [gl_set_any _ _ _ _ (by rw [h.ll]; omega)] at hx
      split at hx
      · exact hb x hx
      · exact h.bd j hj x hx
    sh := fun j hj => by
      rw [gl_set_any _ _ _ _ (by rw [h.ll]; omega)]
      split
      · exact hs
      · exact h.sh j hj }
theorem QAt.putS (h : QAt w lo Q s) {i : Nat} (_hi : i < s.n) {v : Value} {l : List Nat} (hv : RowX w lo Q.Y v (zi l)) (hb : ∀ x ∈ l, x < s.T) (hs : l.length ≤ 1024) : QAt (w.setCell ⟨Q.S, i, none⟩ v) lo Q { s with L := s.L.set (s.n + i) l } := by
  have hf : Fr (fun k => k = Q.S) w (w.setCell ⟨Q.S, i, none⟩ v) := Fr.putX (Fr.refl (fun k => k = Q.S) w) rfl i _
  exact { h with
    eX := fun k hk => Nat.lt_of_lt_of_le (h.eX k hk) hf.size
    hp := h.hp.fr hf (fun e => h.pX (.inr (.inr (.inl e)))), ho := IBlk.fr h.ho hf h.OS, ha := IBlk.fr h.ha hf (fun e => h.SA e.symm)
    hw := (h.hw.fr hf h.WS (fun k _ _ hk e => hk (.inl (.inr (.inr (.inl e)))))).congr (fun j hj => by
      show gl s.L j = gl (s.L.set (s.n + i) l) j
      rw [gl_set_any _ _ _ _ (by rw [h.ll]; omega), if_neg (by omega)])
    hs := (h.hs.put (.inl (.inr (.inr (.inl rfl)))) hv).congr (fun j hj => by
      show (if j = i then l else gl s.L (s.n + j)) = gl (s.L.set (s.n + i) l) (s.n + j)
      rw [gl_set_any _ _ _ _ (by rw [h.ll]; omega)]
      by_cases e : j = i
      · rw [if_pos e, if_pos (by omega)]
      · rw [if_neg e, if_neg (by omega)])
    ll := by simpa using h.ll
    bd := fun j hj x hx => by
      rw [gl_set_any _ _ _ _ (by rw [h.ll]; omega)] at hx
      split at hx
      · exact hb x hx
      · exact h.bd j hj x hx
    sh := fun j hj => by
      rw [gl_set_any _ _ _ _ (by rw [h.ll]; omega)]
      split
      · exact hs
      · exact h.sh j hj }
end
end Go.Proofs.Ytffjaaolcphonaa
/- The document's locks: pass. -/
namespace Go.Proofs.Ytffjaaolcphonaa
open Go.RowKit
set_option linter.unusedSimpArgs false
theorem outL_head {x : Nat} {ys : List Nat} (h : x ∉ ys) : outL (x :: ys) (x : Int) = ys := by
  unfold outL
  rw [List.filter_cons]
  simp only [bne_self_eq_false]
  rw [if_neg (by simp)]
  refine List.filter_eq_self.2 fun y hy => ?_
  have : y ≠ x := fun e => h (e ▸ hy)
  simp; omega
section
variable {w : World} {lo : Nat} {Q : QB} {s : LS}
set_option maxRecDepth 100000 in
set_option maxHeartbeats 4000000 in
theorem qpass (h : QAt w lo Q s) (hn : Nice s.L) (o : Nat) (ho : o < s.n) : Calls Try.prog 148 #[.pointer (some ⟨Q.p, 0, none⟩), .int .i64 o] w fun e w' =>
    e = .returned (.int .i64 (passT s o)) ∧ QAt w' lo Q (passS s o) ∧ Fr Q.X w w' := by
  have F1 := h.f1
  have F2 := h.f2
  have C := h.cO ho
  have Z : w.frozen? ⟨Q.O, o, none⟩ = false := IBlk.frozen h.ho o
  have hi : (o : Int) < (s.n : Int) := by omega
  have hoL : o < s.L.length := by rw [h.ll]; omega
  obtain ⟨a, c, CW, hr⟩ := h.hw.row ho
  have ZW := h.hw.frz o
  have hsh := h.sh o (by omega)
  have hOW := h.OW
  have hpO : Q.p ≠ Q.O := fun e => h.pX (.inl e)
  have hoL' : inR (o : Int) s.L.length := ⟨by omega, by omega⟩
  have h1 := h.setO o (-1) (by omega)
  have f1 : Fr Q.X w (w.setCell ⟨Q.O, o, none⟩ (.int .i64 (-1))) := Fr.putX (Fr.refl _ w) (.inl rfl) o _
  have H1 := hid h1
  have FF1 := hid f1
  clear h1 f1
  cases hg : gl s.L o with
  | nil =>
    have HT : Hid (passT s o = -1) := by unfold passT; rw [if_pos hg]; exact rfl
    have HL : Hid (popL s.L (o : Int) = s.L) := by
      have : popE' s.L (o : Int) = 4 := by unfold popE'; rw [if_pos hoL', Int.toNat_natCast, if_pos hg]
      unfold popL; rw [this, if_neg (by decide)]; exact rfl
    have HS : Hid (passS s o = { s with ow := s.ow.set o (-1) }) := by unfold passS; rw [HT.out, HL.out]; exact rfl
    rw [hg] at CW
    simp only [List.length_nil] at CW
    rw [HT.out, HS.out]
    clear hg hr hoL'
    go_enter Try.func148, Try.ntmps148
    go_wp2
    go_ret
    exact ⟨rfl, H1.out, FF1.out⟩
  | cons x ys =>
    have hxy : x ∉ ys := by have := hn.nd o hoL; rw [hg] at this; exact (List.nodup_cons.1 this).1
    have HT : Hid (passT s o = x) := by unfold passT; rw [if_neg (by rw [hg]; simp), hg]; exact rfl
    have HL : Hid (popL s.L (o : Int) = s.L.set o ys) := by
      have : popE' s.L (o : Int) = 0 := by unfold popE'; rw [if_pos hoL', Int.toNat_natCast, if_neg (by rw [hg]; simp)]
      unfold popL; rw [if_pos this, Int.toNat_natCast, hg]; exact rfl
    have HS : Hid (passS s o = { s with ow := s.ow.set o x, L := s.L.set o ys }) := by unfold passS; rw [HT.out, HL.out]; exact rfl
    have HOU := hid (outL_head hxy)
    have hbd : Hid (∀ y ∈ ys, y < s.T) := hid fun y hy => h.bd o (by omega) y (by rw [hg]; simp [hy])
    rw [hg] at CW hsh hr
    simp only [List.length_cons] at CW hsh
    rw [HT.out, HS.out]
    have HR := hid hr
    clear hg hoL' hxy hr
    go_enter Try.func148, Try.ntmps148
    go_wp2_with fail
    have hq := H1.out
    have hf := FF1.out
    obtain ⟨a2, c2, CW2, hr2⟩ := hq.hw.row ho
    generalize w.setCell ⟨Q.O, o, none⟩ (.int .i64 (-1)) = W at hq hf CW2 hr2 ⊢
    have hrW := HR.out.fr hf (fun k _ _ h hx => h (.inl hx))
    rcases hrW.1 with ⟨h0, _⟩ | ⟨_, b, off, c', hv, hcell⟩
    · simp [zi] at h0
    obtain rfl : a = some ⟨b, off, none⟩ := by injection hv
    clear hv
    have hx := hcell 0 (by simp [zi])
    simp only [zi, List.map_cons, List.getD_cons_zero, Nat.add_zero] at hx
    have G1 := hq.f1
    have CO := hq.cO (i := o) ho
    have ZO : W.frozen? ⟨Q.O, o, none⟩ = false := IBlk.frozen hq.ho o
    have hl0 : (0 : Int) < ((ys.length + 1 : Nat) : Int) := by omega
    clear F1 F2 C Z CW hcell H1 FF1
    refine Held.wp_region_held_tail (S := (fun w' => w'.cell? ⟨Q.p, 1, none⟩ = some (.slice (some ⟨Q.O, 0, none⟩) s.n Q.kO) ∧ w'.cell? ⟨b, off, none⟩ = some (.int .i64 x))) 9 (by kernel_rfl) (by kernel_rfl) (by decide) ?hS1 (fun hHeld => ?hR1)
    case hS1 =>
      exact ⟨G1, hx⟩
    simp only [List.take_succ_cons, List.take_zero, List.drop_succ_cons, List.drop_zero]
    refine wpAnyH_take (i := 0) (oi := _) (v := ?v2) rfl (by kernel_rfl) (by kernel_rfl) (by kernel_rfl) (fun _ _ _ h => h) (Or.inl ⟨by rfl, ?y2⟩) (by assumption) ?r2
    case y2 => ((intro w hSw); (try dsimp only at hSw); go_simp; (try with_reducible rfl))
    (try simp only [Act.put, List.setIfInBounds_toArray, List.set_cons_zero, List.set_cons_succ])
    refine wpAnyH_take (i := 1) (oi := _) (v := ?v3) rfl (by kernel_rfl) (by kernel_rfl) (by kernel_rfl) (fun _ _ _ h => h) (Or.inl ⟨by rfl, ?y3⟩) (by assumption) ?r3
    case y3 => ((intro w hSw); (try dsimp only at hSw); go_simp; (try with_reducible rfl))
    (try simp only [Act.put, List.setIfInBounds_toArray, List.set_cons_zero, List.set_cons_succ])
    refine wpAnyH_take (i := 2) (oi := _) (v := ?v4) rfl (by kernel_rfl) (by kernel_rfl) (by kernel_rfl) (fun _ _ _ h => h) (Or.inl ⟨by rfl, ?y4⟩) (by assumption) ?r4
    case y4 => ((intro w hSw); (try dsimp only at hSw); go_simp; (try with_reducible rfl))
    (try simp only [Act.put, List.setIfInBounds_toArray, List.set_cons_zero, List.set_cons_succ])
    refine wpAnyH_take (i := 3) (oi := _) (v := ?v5) rfl (by kernel_rfl) (by kernel_rfl) (by kernel_rfl) (fun _ _ _ h => h) (Or.inl ⟨by rfl, ?y5⟩) (by assumption) ?r5
    case y5 => ((intro w hSw); (try dsimp only at hSw); go_simp; (try with_reducible rfl))
    (try simp only [Act.put, List.setIfInBounds_toArray, List.set_cons_zero, List.set_cons_succ])
    refine wpAnyH_take (i := 4) (oi := _) (v := ?v6) rfl (by kernel_rfl) (by kernel_rfl) (by kernel_rfl) (fun _ _ _ h => h) (Or.inl ⟨by rfl, ?y6⟩) (by assumption) ?r6
    case y6 => ((intro w hSw); (try dsimp only at hSw); go_simp; (try with_reducible rfl))
    (try simp only [Act.put, List.setIfInBounds_toArray, List.set_cons_zero, List.set_cons_succ])
    refine wpAnyH_take (i := 5) (oi := _) (v := ?v7) rfl (by kernel_rfl) (by kernel_rfl) (by kernel_rfl) (fun _ _ _ h => h) (Or.inl ⟨by rfl, ?y7⟩) (by assumption) ?r7
    case y7 => ((intro w hSw); (try dsimp only at hSw); go_simp; (try with_reducible rfl))
    (try simp only [Act.put, List.setIfInBounds_toArray, List.set_cons_zero, List.set_cons_succ])
    refine wpAnyH_take (i := 6) (oi := _) (v := ?v8) rfl (by kernel_rfl) (by kernel_rfl) (by kernel_rfl) (fun _ _ _ h => h) (Or.inl ⟨by rfl, ?y8⟩) (by assumption) ?r8
    case y8 => ((intro w hSw); (try dsimp only at hSw); go_simp; (try with_reducible rfl))
    (try simp only [Act.put, List.setIfInBounds_toArray, List.set_cons_zero, List.set_cons_succ])
    refine wpAnyH_take (i := 7) (oi := _) (v := ?v9) rfl (by kernel_rfl) (by kernel_rfl) (by kernel_rfl) (fun _ _ _ h => h) (Or.inl ⟨by rfl, ?y9⟩) (by assumption) ?r9
    case y9 => ((intro w hSw); (try dsimp only at hSw); go_simp; (try with_reducible rfl))
    (try simp only [Act.put, List.setIfInBounds_toArray, List.set_cons_zero, List.set_cons_succ])
    refine wpAnyH_take (i := 8) (oi := _) (v := ?v10) rfl (by kernel_rfl) (by kernel_rfl) (by kernel_rfl) (fun _ _ _ h => h) (Or.inl ⟨by rfl, ?y10⟩) (by assumption) ?r10
    case y10 => ((intro w hSw); (try dsimp only at hSw); go_simp; (try with_reducible rfl))
    (try simp only [Act.put, List.setIfInBounds_toArray, List.set_cons_zero, List.set_cons_succ])
    refine wpAnyH_done (by kernel_rfl) (Held.tailQ_normal ?_) _
    go_wp2_with fail
    have hq2 := hq.setO o x (by omega)
    have hf2 : Fr Q.X w ((W.setCell ⟨Q.O, o, none⟩ (.int .i64 x)).drew) := (Fr.putX hf (.inl rfl) o _).drew
    replace hq2 := hq2.still ((Fr.refl (fun _ => False) _).drew)
    have hrV := HR.out.fr hf2 (fun k _ _ h hx => h (.inl hx))
    rcases hrV.1 with ⟨h0, _⟩ | ⟨_, b', off', c'', hv, hcell⟩
    · simp [zi] at h0
    injection hv with hv1 hv2 hv3
    injection hv1 with hv1
    injection hv1 with hb1 hb2
    subst hb1 hb2
    clear hv2 hv3
    have hy := hcell 0 (by simp [zi])
    simp only [zi, List.map_cons, List.getD_cons_zero, Nat.add_zero] at hy
    clear hcell hq hf hx G1 CO ZO
    generalize (W.setCell ⟨Q.O, o, none⟩ (.int .i64 x)).drew = V at hq2 hf2 hrV hy ⊢
    have G2 := hq2.f2
    have hrI := hid hrV.1
    have hlV := hid (show V.heap.size = V.heap.size from rfl)
    clear hrV
    refine Held.wp_region_held_tail (S := (fun w' => w'.cell? ⟨Q.p, 2, none⟩ = some (.slice (some ⟨Q.W, 0, none⟩) s.n s.n) ∧ w'.cell? ⟨b, off, none⟩ = some (.int .i64 x))) 11 (by kernel_rfl) (by kernel_rfl) (by decide) ?hS11 (fun hHeld => ?hR11)
    case hS11 =>
      exact ⟨G2, hy⟩
    simp only [List.take_succ_cons, List.take_zero, List.drop_succ_cons, List.drop_zero]
    refine wpAnyH_take (i := 0) (oi := _) (v := ?v12) rfl (by kernel_rfl) (by kernel_rfl) (by kernel_rfl) (fun _ _ _ h => h) (Or.inl ⟨by rfl, ?y12⟩) (by assumption) ?r12
    case y12 => ((intro w hSw); (try dsimp only at hSw); go_simp; (try with_reducible rfl))
    (try simp only [Act.put, List.setIfInBounds_toArray, List.set_cons_zero, List.set_cons_succ])
    refine wpAnyH_take (i := 1) (oi := _) (v := ?v13) rfl (by kernel_rfl) (by kernel_rfl) (by kernel_rfl) (fun _ _ _ h => h) (Or.inl ⟨by rfl, ?y13⟩) (by assumption) ?r13
    case y13 => ((intro w hSw); (try dsimp only at hSw); go_simp; (try with_reducible rfl))
    (try simp only [Act.put, List.setIfInBounds_toArray, List.set_cons_zero, List.set_cons_succ])
    refine wpAnyH_take (i := 2) (oi := _) (v := ?v14) rfl (by kernel_rfl) (by kernel_rfl) (by kernel_rfl) (fun _ _ _ h => h) (Or.inl ⟨by rfl, ?y14⟩) (by assumption) ?r14
    case y14 => ((intro w hSw); (try dsimp only at hSw); go_simp; (try with_reducible rfl))
    (try simp only [Act.put, List.setIfInBounds_toArray, List.set_cons_zero, List.set_cons_succ])
    refine wpAnyH_take (i := 3) (oi := _) (v := ?v15) rfl (by kernel_rfl) (by kernel_rfl) (by kernel_rfl) (fun _ _ _ h => h) (Or.inl ⟨by rfl, ?y15⟩) (by assumption) ?r15
    case y15 => ((intro w hSw); (try dsimp only at hSw); go_simp; (try with_reducible rfl))
    (try simp only [Act.put, List.setIfInBounds_toArray, List.set_cons_zero, List.set_cons_succ])
    refine wpAnyH_take (i := 4) (oi := _) (v := ?v16) rfl (by kernel_rfl) (by kernel_rfl) (by kernel_rfl) (fun _ _ _ h => h) (Or.inl ⟨by rfl, ?y16⟩) (by assumption) ?r16
    case y16 => ((intro w hSw); (try dsimp only at hSw); go_simp; (try with_reducible rfl))
    (try simp only [Act.put, List.setIfInBounds_toArray, List.set_cons_zero, List.set_cons_succ])
    refine wpAnyH_take (i := 5) (oi := _) (v := ?v17) rfl (by kernel_rfl) (by kernel_rfl) (by kernel_rfl) (fun _ _ _ h => h) (Or.inl ⟨by rfl, ?y17⟩) (by assumption) ?r17
    case y17 => ((intro w hSw); (try dsimp only at hSw); go_simp; (try with_reducible rfl))
    (try simp only [Act.put, List.setIfInBounds_toArray, List.set_cons_zero, List.set_cons_succ])
    refine wpAnyH_take (i := 6) (oi := _) (v := ?v18) rfl (by kernel_rfl) (by kernel_rfl) (by kernel_rfl) (fun _ _ _ h => h) (Or.inl ⟨by rfl, ?y18⟩) (by assumption) ?r18
    case y18 => ((intro w hSw); (try dsimp only at hSw); go_simp; (try with_reducible rfl))
    (try simp only [Act.put, List.setIfInBounds_toArray, List.set_cons_zero, List.set_cons_succ])
    refine wpAnyH_take (i := 7) (oi := _) (v := ?v19) rfl (by kernel_rfl) (by kernel_rfl) (by kernel_rfl) (fun _ _ _ h => h) (Or.inl ⟨by rfl, ?y19⟩) (by assumption) ?r19
    case y19 => ((intro w hSw); (try dsimp only at hSw); go_simp; (try with_reducible rfl))
    (try simp only [Act.put, List.setIfInBounds_toArray, List.set_cons_zero, List.set_cons_succ])
    refine wpAnyH_take (i := 8) (oi := _) (v := ?v20) rfl (by kernel_rfl) (by kernel_rfl) (by kernel_rfl) (fun _ _ _ h => h) (Or.inl ⟨by rfl, ?y20⟩) (by assumption) ?r20
    case y20 => ((intro w hSw); (try dsimp only at hSw); go_simp; (try with_reducible rfl))
    (try simp only [Act.put, List.setIfInBounds_toArray, List.set_cons_zero, List.set_cons_succ])
    refine wpAnyH_ready (rs := [9]) (by kernel_rfl) (by simp) ?_
    refine AllReadyH.cons rfl (fun K hK => ?st21) AllReadyH.nil
    go_simp
    go_at_call 149
    refine (qout _ _ (x :: ys) x (hrI.out.still ((Fr.refl _ V).drew)) (by simp; omega)).mono ?_
    rw [HOU.out]
    rintro e w5 ⟨a5, c5, rfl, ho5, hs5'⟩
    have hs5 : Still V w5 := ((Fr.refl _ V).drew).trans hs5'
    refine hK.out _ _ ?k21 (fun hHeld21 => ?_)
    case k21 =>
      exact ⟨Still.cell hs5 G2, Still.cell hs5 hy⟩
    clear hK K
    (try simp only [Act.put, List.setIfInBounds_toArray, List.set_cons_zero, List.set_cons_succ])
    refine wpAnyH_take (i := 10) (oi := _) (v := ?v22) rfl (by kernel_rfl) (by kernel_rfl) (by kernel_rfl) (fun _ _ _ h => h) (Or.inl ⟨by rfl, ?y22⟩) (by assumption) ?r22
    case y22 => ((intro w hSw); (try dsimp only at hSw); go_simp; (try with_reducible rfl))
    (try simp only [Act.put, List.setIfInBounds_toArray, List.set_cons_zero, List.set_cons_succ])
    refine wpAnyH_done (by kernel_rfl) (Held.tailQ_normal ?_) _
    have hq5 := hq2.still hs5
    have hX := hq2.newX
    have hloV : lo ≤ V.heap.size := by have := hq2.lp; have := hq2.hp.lt; omega
    have hfin := hq5.putW ho (RowX.own ho5 (by simp [zi_len]) hX hloV) hbd.out (by omega)
    have hff : Fr Q.X w (w5.setCell ⟨Q.W, o, none⟩ (.slice a5 ys.length c5)) := Fr.putX (hf2.then (hs5.fr Q.X) (fun _ _ h => h)) (.inr (.inl rfl)) o _
    simp only [List.set_set] at hfin
    have HF := hid hfin
    have HFF := hid hff
    have G5 := hq5.f1
    have CO5 : w5.cell? ⟨Q.O, o, none⟩ = some (.int .i64 x) := by
      rw [hq5.cO (i := o) ho]
      have e5 : ((s.ow.set o (-1)).set o (x : Int)).getD o 0 = (x : Int) := by simp [List.getD, h.lo', ho]
      exact congrArg (fun v => some (Value.int .i64 v)) e5
    obtain ⟨_, _, CW5, _⟩ := hq5.hw.row ho
    have ZW5 := hq5.hw.frz o
    have hpW : Q.p ≠ Q.W := fun e => h.pX (.inr (.inl e))
    clear hfin hff hX
    go_wp2
    go_ret
    exact ⟨rfl, HF.out, HFF.out⟩
end
end Go.Proofs.Ytffjaaolcphonaa
/- The locks: plain facts of the asks. -/
namespace Go.Proofs.Ytffjaaolcphonaa
open Go.RowKit
theorem ask3_no {n : Nat} {s : LS} {xs : List Int} {t : Int} {b : Bool} {e0 : Int} (h : allR xs n = false ∨ ¬ inR t s.T) : askE [(allR xs n, 8), idleR s t, (b, e0)] = 8 := by
  unfold idleR
  rcases h with h | h
  · rw [h]; rfl
  · rw [if_neg h]; cases allR xs n <;> rfl
theorem ask3_w {n : Nat} {s : LS} {xs : List Int} {t : Int} {b : Bool} {e0 : Int} (h1 : allR xs n = true) (h2 : inR t s.T) (h3 : ¬ whI s.T s.L t < 0) : askE [(allR xs n, 8), idleR s t, (b, e0)] = 5 := by
  unfold idleR; rw [h1, if_pos h2, decide_eq_false h3]; rfl
theorem ask3_b {n : Nat} {s : LS} {xs : List Int} {t : Int} {e0 : Int} (h1 : allR xs n = true) (h2 : inR t s.T) (h3 : whI s.T s.L t < 0) : askE [(allR xs n, 8), idleR s t, (false, e0)] = e0 := by
  unfold idleR; rw [h1, if_pos h2, decide_eq_true h3]; rfl
theorem ask3_0 {n : Nat} {s : LS} {xs : List Int} {t : Int} {e0 : Int} (h1 : allR xs n = true) (h2 : inR t s.T) (h3 : whI s.T s.L t < 0) : askE [(allR xs n, 8), idleR s t, (true, e0)] = 0 := by
  unfold idleR; rw [h1, if_pos h2, decide_eq_true h3]; rfl
theorem allR_one {o : Int} {n : Nat} : allR [o] n = decide (inR o n) := by simp [allR]
theorem allR_two {c o : Int} {n : Nat} : allR [c, o] n = (decide (inR c n) && decide (inR o n)) := by simp [allR]
section
variable {s : LS} {o t : Int}
theorem lockE_no (h : ¬ inR o s.n ∨ ¬ inR t s.T) : lockE s o t = 8 := ask3_no (h.imp (fun h => by rw [allR_one, decide_eq_false h]) id)
theorem lockE_w (h1 : inR o s.n) (h2 : inR t s.T) (h3 : ¬ whI s.T s.L t < 0) : lockE s o t = 5 := ask3_w (by rw [allR_one, decide_eq_true h1]) h2 h3
theorem lockE_own (h1 : inR o s.n) (h2 : inR t s.T) (h3 : whI s.T s.L t < 0) (h4 : s.ow.getD o.toNat 0 = t) : lockE s o t = 5 := by
  unfold lockE; rw [show ((s.ow.getD o.toNat 0 == t) == false) = false by simpa using h4]; exact ask3_b (by rw [allR_one, decide_eq_true h1]) h2 h3
theorem lockE_0 (h1 : inR o s.n) (h2 : inR t s.T) (h3 : whI s.T s.L t < 0) (h4 : s.ow.getD o.toNat 0 ≠ t) : lockE s o t = 0 := by
  unfold lockE; rw [show ((s.ow.getD o.toNat 0 == t) == false) = true by simpa using h4]; exact ask3_0 (by rw [allR_one, decide_eq_true h1]) h2 h3
theorem unlockE_no (h : ¬ inR o s.n ∨ ¬ inR t s.T) : unlockE s o t = 8 := ask3_no (h.imp (fun h => by rw [allR_one, decide_eq_false h]) id)
theorem unlockE_w (h1 : inR o s.n) (h2 : inR t s.T) (h3 : ¬ whI s.T s.L t < 0) : unlockE s o t = 5 := ask3_w (by rw [allR_one, decide_eq_true h1]) h2 h3
theorem unlockE_own (h1 : inR o s.n) (h2 : inR t s.T) (h3 : whI s.T s.L t < 0) (h4 : s.ow.getD o.toNat 0 ≠ t) : unlockE s o t = 6 := by
  unfold unlockE; rw [show ((s.ow.getD o.toNat 0 == t) == true) = false by simpa using h4]; exact ask3_b (by rw [allR_one, decide_eq_true h1]) h2 h3
theorem unlockE_0 (h1 : inR o s.n) (h2 : inR t s.T) (h3 : whI s.T s.L t < 0) (h4 : s.ow.getD o.toNat 0 = t) : unlockE s o t = 0 := by
  unfold unlockE; rw [show ((s.ow.getD o.toNat 0 == t) == true) = true by simpa using h4]; exact ask3_0 (by rw [allR_one, decide_eq_true h1]) h2 h3
theorem waitE_no {c : Int} (h : ¬ inR c s.n) : waitE s c o t = 8 := ask3_no (.inl (by rw [allR_two, decide_eq_false h]; rfl))
theorem waitE_un {c : Int} (h : inR c s.n) : waitE s c o t = unlockE s o t := by
  unfold waitE unlockE; rw [allR_two, allR_one, decide_eq_true h, Bool.true_and]
/-- What waits nowhere is pushed. -/
theorem whI_neg {T : Nat} {L : List (List Nat)} {t : Int} (h2 : inR t T) (h3 : whI T L t < 0) : wh L t.toNat = -1 := by
  unfold whI at h3; rw [if_pos h2] at h3
  rcases wh_ge L t.toNat with h | h
  · exact h
  · omega
theorem pushE_0 {T : Nat} {L : List (List Nat)} {i t : Int} (h1 : inR i L.length) (h2 : inR t T) (h3 : whI T L t < 0) : pushE T L i t = 0 := by
  unfold pushE; rw [if_pos ⟨h1, h2⟩, if_pos (whI_neg h2 h3)]
theorem pushL_0 {T : Nat} {L : List (List Nat)} {i t : Nat} (h1 : i < L.length) (h2 : inR (t : Int) T) (h3 : whI T L t < 0) : pushL T L i t = L.set i (gl L i ++ [t]) := by
  unfold pushL; rw [if_pos (pushE_0 ⟨by omega, by omega⟩ h2 h3), Int.toNat_natCast, Int.toNat_natCast]
end
theorem QAt.short {w : World} {lo : Nat} {Q : QB} {s : LS} (h : QAt w lo Q s) (hn : Nice s.L) {i t : Nat} (hi : i < 2 * s.n) (ht : t < s.T) (hw : wh s.L t = -1) : (gl s.L i).length < 1024 := by
  have hi' : i < s.L.length := by rw [h.ll]; exact hi
  have h1 := nodup_le s.T (t :: gl s.L i) (List.nodup_cons.2 ⟨wh_no.1 hw i hi', hn.nd i hi'⟩) (fun x hx => by
    rcases List.mem_cons.1 hx with rfl | hx
    · exact ht
    · exact h.bd i hi x hx)
  have := h.T1
  simp at h1; omega
end Go.Proofs.Ytffjaaolcphonaa
/- The locks: what holds whatever is done. -/
namespace Go.Proofs.Ytffjaaolcphonaa
open Go.RowKit
structure LInv (s : LS) : Prop where
  ll : s.L.length = 2 * s.n
  lo : s.ow.length = s.n
  la : s.ag.length = s.T
  nc : Nice s.L
  bd : ∀ i, i < 2 * s.n → ∀ x ∈ gl s.L i, x < s.T
  rng : ∀ o, o < s.n → -1 ≤ s.ow.getD o 0 ∧ s.ow.getD o 0 < s.T
  free : ∀ o, o < s.n → s.ow.getD o 0 = -1 → gl s.L o = []
  own : ∀ o, o < s.n → ∀ x ∈ gl s.L o, s.ow.getD o 0 ≠ (x : Int)
  slp : ∀ c, c < s.n → ∀ x ∈ gl s.L (s.n + c), s.ow.getD (s.ag.getD x 0).toNat 0 ≠ (x : Int)
  wf : ∀ t, t < s.T → inR (s.ag.getD t 0) s.n
theorem nice_sub {L L' : List (List Nat)} (h : Nice L) (hl : L'.length = L.length) (hs : ∀ i, (gl L' i).Sublist (gl L i)) : Nice L' :=
  ⟨fun i hi => (h.nd i (by omega)).sublist (hs i), fun i j x hi hj h1 h2 => h.uq i j x (by omega) (by omega) ((hs i).subset h1) ((hs j).subset h2)⟩
theorem gl_sub_set {L : List (List Nat)} {i : Nat} {l : List Nat} (h : l.Sublist (gl L i)) : ∀ j, (gl (L.set i l) j).Sublist (gl L j) := fun j => by
  by_cases hj : j < L.length
  · rw [gl_set_any _ _ _ _ hj]; split
    · rename_i e; subst e; exact h
    · exact List.Sublist.refl _
  · have : gl (L.set i l) j = [] := by unfold gl; rw [List.getD_eq_getElem?_getD, List.getElem?_eq_none (by simp; omega)]; rfl
    rw [this]; exact List.nil_sublist _
theorem popL_sub (L : List (List Nat)) (i : Int) (j : Nat) : (gl (popL L i) j).Sublist (gl L j) := by
  unfold popL; split
  · exact gl_sub_set (List.tail_sublist _) j
  · exact List.Sublist.refl _
theorem remL_sub (T : Nat) (L : List (List Nat)) (t : Int) (j : Nat) : (gl (remL T L t) j).Sublist (gl L j) := by
  unfold remL; split
  · exact gl_sub_set (List.erase_sublist) j
  · exact List.Sublist.refl _
/-- Fewer wait. -/
theorem LInv.sub {s : LS} {L' : List (List Nat)} (h : LInv s) (hl : L'.length = s.L.length) (hs : ∀ i, (gl L' i).Sublist (gl s.L i)) : LInv { s with L := L' } :=
  { h with ll := hl.trans h.ll, nc := nice_sub h.nc hl hs, bd := fun i hi x hx => h.bd i hi x ((hs i).subset hx),
           free := fun o ho e => List.eq_nil_of_sublist_nil ((h.free o ho e) ▸ hs o), own := fun o ho x hx => h.own o ho x ((hs o).subset hx), slp := fun c hc x hx => h.slp c hc x ((hs _).subset hx) }
theorem nice_push {L : List (List Nat)} (h : Nice L) {i t : Nat} (hw : wh L t = -1) : Nice (L.set i (gl L i ++ [t])) := by
  have hn := wh_no.1 hw
  have hg : ∀ j, j < L.length → ∀ x, x ∈ gl (L.set i (gl L i ++ [t])) j → (x ∈ gl L j) ∨ (x = t ∧ j = i) := fun j hj x hx => by
    rw [gl_set_any _ _ _ _ hj] at hx
    split at hx
    · rename_i e; subst e
      rcases List.mem_append.1 hx with hx | hx
      · exact .inl hx
      · exact .inr ⟨by simpa using hx, rfl⟩
    · exact .inl hx
  refine ⟨fun j hj => ?_, fun j k x hj hk h1 h2 => ?_⟩
  · simp at hj
    rw [gl_set_any _ _ _ _ hj]; split
    · rename_i e; subst e
      exact List.nodup_append.2 ⟨h.nd j hj, by simp, fun a ha b hb e => by simp at hb; subst e; subst hb; exact hn j hj ha⟩
    · exact h.nd j hj
  · simp at hj hk
    rcases hg j hj x h1 with a | ⟨a, b⟩ <;> rcases hg k hk x h2 with c | ⟨c, d⟩
    · exact h.uq j k x hj hk a c
    · subst c; exact absurd a (hn j hj)
    · subst a; exact absurd c (hn k hk)
    · omega
theorem getD_set {l : List Int} {i j : Nat} {v : Int} (hj : j < l.length) : (l.set i v).getD j 0 = if j = i then v else l.getD j 0 := by
  by_cases e : j = i
  · subst e; simp [List.getD, hj]
  · rw [if_neg e]; simp [List.getD, Ne.symm e]
/-- A free one has or waits. -/
theorem LInv.get {s : LS} (h : LInv s) {o t : Nat} (ho : o < s.n) (ht : t < s.T) (hw : wh s.L t = -1) (hne : s.ow.getD o 0 ≠ (t : Int)) : LInv (getS s o t) := by
  have hn := wh_no.1 hw
  unfold getS
  split
  · rename_i e
    have hnil := h.free o ho e
    have hg : ∀ j, j < s.n → (s.ow.set o (t : Int)).getD j 0 = if j = o then (t : Int) else s.ow.getD j 0 := fun j hj => getD_set (by rw [h.lo]; exact hj)
    refine { h with
      lo := by simpa using h.lo
      rng := fun j (hj : j < s.n) => (by rw [hg j hj]; split; exact ⟨by show _ ≤ (t : Int); omega, by show (t : Int) < s.T; omega⟩; exact h.rng j hj)
      free := fun j (hj : j < s.n) e => by
        rw [hg j hj] at e; split at e
        · omega
        · exact h.free j hj e
      own := fun j (hj : j < s.n) x hx => by
        rw [hg j hj]; split
        · rename_i e; subst e; rw [hnil] at hx; simp at hx
        · exact h.own j hj x hx
      slp := fun c (hc : c < s.n) x (hx : x ∈ gl s.L (s.n + c)) => by
        have hxT := h.bd (s.n + c) (by omega) x hx
        have hag := h.wf x hxT
        show (s.ow.set o (t : Int)).getD (s.ag.getD x 0).toNat 0 ≠ _
        rw [hg _ (by have := hag.1; have := hag.2; omega)]
        split
        · intro e
          have : t = x := by omega
          subst this
          exact hn (s.n + c) (by rw [h.ll]; omega) hx
        · exact h.slp c hc x hx }
  · rename_i e
    have hoL : o < s.L.length := by rw [h.ll]; omega
    rw [pushL_0 hoL ⟨by omega, by omega⟩ (by unfold whI; split <;> (try rw [Int.toNat_natCast, hw]) <;> omega)]
    have hg : ∀ j, j < 2 * s.n → gl (s.L.set o (gl s.L o ++ [t])) j = if j = o then gl s.L o ++ [t] else gl s.L j := fun j hj => gl_set_any _ _ _ _ (by rw [h.ll]; exact hj)
    exact { h with
      ll := by simpa using h.ll
      nc := nice_push h.nc hw
      bd := fun i (hi : i < 2 * s.n) x hx => by
        rw [hg i hi] at hx; split at hx
        · rcases List.mem_append.1 hx with hx | hx
          · exact h.bd o (by omega) x hx
          · simp at hx; subst hx; exact ht
        · exact h.bd i hi x hx
      free := fun j (hj : j < s.n) ej => by
        rw [hg j (by omega)]; split
        · rename_i e2; subst e2; exact absurd ej e
        · exact h.free j hj ej
      own := fun j (hj : j < s.n) x hx => by
        rw [hg j (by omega)] at hx; split at hx
        · rename_i e2; subst e2
          rcases List.mem_append.1 hx with hx | hx
          · exact h.own j hj x hx
          · simp at hx; subst hx; exact hne
        · exact h.own j hj x hx
      slp := fun c (hc : c < s.n) x (hx : x ∈ gl (s.L.set o (gl s.L o ++ [t])) (s.n + c)) => by
        rw [hg (s.n + c) (by omega), if_neg (by omega)] at hx; exact h.slp c hc x hx }
theorem passT_cases (s : LS) (o : Nat) : (gl s.L o = [] ∧ passT s o = -1) ∨ ∃ x ys, gl s.L o = x :: ys ∧ passT s o = x := by
  unfold passT
  cases h : gl s.L o with
  | nil => exact .inl ⟨rfl, rfl⟩
  | cons x ys => exact .inr ⟨x, ys, rfl, rfl⟩
theorem LInv.pass {s : LS} (h : LInv s) {o : Nat} (ho : o < s.n) : LInv (passS s o) := by
  have h1 := h.sub (popL_len s.L o) (popL_sub s.L o)
  have hoL : o < s.L.length := by rw [h.ll]; omega
  have hg : ∀ j, j < s.n → (s.ow.set o (passT s o)).getD j 0 = if j = o then passT s o else s.ow.getD j 0 := fun j hj => getD_set (by rw [h.lo]; exact hj)
  unfold passS
  refine { h1 with
    lo := by simpa using h.lo
    rng := fun j (hj : j < s.n) => ?_
    free := fun j (hj : j < s.n) e => ?_
    own := fun j (hj : j < s.n) x hx => ?_
    slp := fun c (hc : c < s.n) x hx => ?_ }
  · show _ ≤ (s.ow.set o (passT s o)).getD j 0 ∧ (s.ow.set o (passT s o)).getD j 0 < (s.T : Int)
    rw [hg j hj]; split
    · rcases passT_cases s o with ⟨_, e⟩ | ⟨y, ys, e1, e⟩
      · rw [e]; exact ⟨by omega, by omega⟩
      · rw [e]; have := h.bd o (by omega) y (by rw [e1]; simp); exact ⟨by omega, by omega⟩
    · exact h.rng j hj
  · replace e : (s.ow.set o (passT s o)).getD j 0 = -1 := e
    rw [hg j hj] at e; split at e
    · rename_i e2; subst e2
      rcases passT_cases s j with ⟨e1, _⟩ | ⟨y, ys, e1, e3⟩
      · have := popL_sub s.L (j : Int) j; rw [e1] at this; exact List.eq_nil_of_sublist_nil this
      · omega
    · exact h1.free j hj e
  · show (s.ow.set o (passT s o)).getD j 0 ≠ _
    rw [hg j hj]; split
    · rename_i e2; subst e2
      rcases passT_cases s j with ⟨e1, e⟩ | ⟨y, ys, e1, e⟩
      · omega
      · have hx' : x ∈ gl (popL s.L (j : Int)) j := hx
        rw [popL_at hoL e1] at hx'
        have := h.nc.nd j hoL
        rw [e1] at this
        rw [e]; intro e4
        have : y = x := by omega
        subst this
        exact (List.nodup_cons.1 ‹(y :: ys).Nodup›).1 hx'
    · exact h1.own j hj x hx
  · have hx' : x ∈ gl s.L (s.n + c) := (popL_sub s.L o _).subset hx
    have hxT := h.bd (s.n + c) (by omega) x hx'
    have hag := h.wf x hxT
    show (s.ow.set o (passT s o)).getD (s.ag.getD x 0).toNat 0 ≠ _
    rw [hg _ (by have := hag.1; have := hag.2; omega)]
    split
    · rcases passT_cases s o with ⟨_, e⟩ | ⟨y, ys, e1, e⟩
      · omega
      · rw [e]; intro e4
        have : y = x := by omega
        subst this
        have := h.nc.uq o (s.n + c) y hoL (by rw [h.ll]; omega) (by rw [e1]; simp) hx'
        omega
    · exact h.slp c hc x hx'
theorem LInv.lock {s : LS} (h : LInv s) (o t : Int) : LInv (lockS s o t) := by
  unfold lockS; split
  · rename_i e
    obtain ⟨h1, h2, h3, h4⟩ := lockE_ok e
    obtain ⟨o, rfl⟩ := Int.eq_ofNat_of_zero_le h1.1
    obtain ⟨t, rfl⟩ := Int.eq_ofNat_of_zero_le h2.1
    rw [Int.toNat_natCast] at h4 ⊢
    exact h.get (by have := h1.2; omega) (by have := h2.2; omega) (by simpa using whI_neg h2 h3) h4
  · exact h
theorem LInv.unlock {s : LS} (h : LInv s) (o t : Int) : LInv (unlockS s o t) := by
  unfold unlockS; split
  · rename_i e
    obtain ⟨h1, _⟩ := unlockE_ok e
    exact h.pass (by have := h1.1; have := h1.2; omega)
  · exact h
theorem wh_sub {L L' : List (List Nat)} (hl : L'.length = L.length) (hs : ∀ i, (gl L' i).Sublist (gl L i)) {t : Nat} (h : wh L t = -1) : wh L' t = -1 :=
  wh_no.2 fun i hi hx => wh_no.1 h i (by omega) ((hs i).subset hx)
theorem LInv.wait {s : LS} (h : LInv s) (c o t : Int) : LInv (waitS s c o t) := by
  unfold waitS; split
  · rename_i e
    obtain ⟨hc, h1, h2, h3, h4⟩ := waitE_ok e
    obtain ⟨c, rfl⟩ := Int.eq_ofNat_of_zero_le hc.1
    obtain ⟨o, rfl⟩ := Int.eq_ofNat_of_zero_le h1.1
    obtain ⟨t, rfl⟩ := Int.eq_ofNat_of_zero_le h2.1
    rw [Int.toNat_natCast] at h4 ⊢
    rw [Int.toNat_natCast]
    have hc' : c < s.n := by have := hc.2; omega
    have ho' : o < s.n := by have := h1.2; omega
    have ht' : t < s.T := by have := h2.2; omega
    have hp := h.pass ho'
    have hw0 : wh s.L t = -1 := by simpa using whI_neg h2 h3
    have hw : wh (passS s o).L t = -1 := wh_sub (popL_len _ _) (popL_sub _ _) hw0
    have hn := wh_no.1 hw
    have hL : (passS s o).L.length = 2 * s.n := hp.ll
    rw [show (s.n + (c : Int)) = ((s.n + c : Nat) : Int) by omega, pushL_0 (by rw [hL]; omega) h2 (by unfold whI; split <;> (try rw [Int.toNat_natCast, hw]) <;> omega)]
    have hg : ∀ j, j < 2 * s.n → gl ((passS s o).L.set (s.n + c) (gl (passS s o).L (s.n + c) ++ [t])) j = if j = s.n + c then gl (passS s o).L (s.n + c) ++ [t] else gl (passS s o).L j := fun j hj => gl_set_any _ _ _ _ (by rw [hL]; exact hj)
    have ha : ∀ x, x < s.T → (s.ag.set t (o : Int)).getD x 0 = if x = t then (o : Int) else s.ag.getD x 0 := fun x hx => getD_set (by rw [h.la]; exact hx)
    refine { hp with
      ll := by simpa using hp.ll
      la := (by show (s.ag.set t (o : Int)).length = s.T; simpa using h.la)
      nc := nice_push hp.nc hw
      bd := fun i hi x hx => ?_
      free := fun j hj ej => ?_
      own := fun j hj x hx => ?_
      slp := fun d hd x hx => ?_
      wf := fun x hx => ?_ }
    · replace hx : x ∈ gl ((passS s o).L.set (s.n + c) (gl (passS s o).L (s.n + c) ++ [t])) i := hx
      rw [hg i hi] at hx; split at hx
      · rcases List.mem_append.1 hx with hx | hx
        · exact hp.bd (s.n + c) (show _ < 2 * s.n by omega) x hx
        · simp at hx; subst hx; exact ht'
      · exact hp.bd i hi x hx
    · show gl ((passS s o).L.set (s.n + c) (gl (passS s o).L (s.n + c) ++ [t])) j = []
      have hj' : j < s.n := hj
      rw [hg j (by omega), if_neg (by omega)]; exact hp.free j hj ej
    · have hj' : j < s.n := hj
      replace hx : x ∈ gl ((passS s o).L.set (s.n + c) (gl (passS s o).L (s.n + c) ++ [t])) j := hx
      rw [hg j (by omega), if_neg (by omega)] at hx; exact hp.own j hj x hx
    · have hd' : d < s.n := hd
      replace hx : x ∈ gl ((passS s o).L.set (s.n + c) (gl (passS s o).L (s.n + c) ++ [t])) (s.n + d) := hx
      rw [hg (s.n + d) (by omega)] at hx
      have hdn : s.n + d < (passS s o).L.length := by rw [hL]; omega
      show (passS s o).ow.getD ((s.ag.set t (o : Int)).getD x 0).toNat 0 ≠ _
      have old : x ∈ gl (passS s o).L (s.n + d) → (passS s o).ow.getD ((s.ag.set t (o : Int)).getD x 0).toNat 0 ≠ (x : Int) := fun hx => by
        have hxT := hp.bd (s.n + d) (show _ < 2 * s.n by omega) x hx
        rw [ha x hxT, if_neg (fun e => by subst e; exact hn (s.n + d) hdn ‹x ∈ gl (passS s o).L (s.n + d)›)]
        exact hp.slp d hd x hx
      split at hx
      · rename_i e; rw [← e] at hx
        rcases List.mem_append.1 hx with hx | hx
        · exact old hx
        · simp at hx; subst hx
          rw [ha x ht', if_pos rfl, Int.toNat_natCast]
          show (s.ow.set o (passT s o)).getD o 0 ≠ _
          rw [getD_set (by rw [h.lo]; exact ho'), if_pos rfl]
          rcases passT_cases s o with ⟨_, e⟩ | ⟨y, ys, e1, e⟩
          · omega
          · rw [e]; intro e4
            have : y = x := by omega
            subst this
            exact wh_no.1 hw0 o (by rw [h.ll]; omega) (by rw [e1]; simp)
      · exact old hx
    · show inR ((s.ag.set t (o : Int)).getD x 0) s.n
      rw [ha x hx]; split
      · exact ⟨by omega, by omega⟩
      · exact h.wf x hx
  · exact h
/-- What a signal makes: an idle one, that does not own what it is to have again. -/
theorem LInv.sig_head {s : LS} (h : LInv s) {c : Nat} (hc : c < s.n) {x : Nat} {ys : List Nat} (hx : gl s.L (s.n + c) = x :: ys) :
    x < s.T ∧ wh (popL s.L ((s.n + c : Nat) : Int)) x = -1 ∧ s.ow.getD (s.ag.getD x 0).toNat 0 ≠ (x : Int) ∧ (s.ag.getD x 0).toNat < s.n := by
  have hL : s.n + c < s.L.length := by rw [h.ll]; omega
  have hxm : x ∈ gl s.L (s.n + c) := by rw [hx]; simp
  have hxT := h.bd (s.n + c) (by omega) x hxm
  have hag := h.wf x hxT
  refine ⟨hxT, wh_no.2 fun i hi hm => ?_, h.slp c hc x hxm, by have := hag.1; have := hag.2; omega⟩
  rw [popL_len] at hi
  have := h.nc.uq i (s.n + c) x hi hL ((popL_sub _ _ _).subset hm) hxm
  subst this
  rw [popL_at hL hx] at hm
  have := h.nc.nd _ hL
  rw [hx] at this
  exact (List.nodup_cons.1 this).1 hm
theorem LInv.sig {s : LS} (h : LInv s) {c : Nat} (hc : c < s.n) : LInv (sigS s c) := by
  unfold sigS; split
  · exact h
  · rename_i e
    obtain ⟨x, ys, hx⟩ := List.exists_cons_of_ne_nil e
    have hh : sigH s c = x := by unfold sigH; rw [hx]; rfl
    rw [hh]
    obtain ⟨a1, a2, a3, a4⟩ := h.sig_head hc hx
    exact (h.sub (popL_len _ _) (popL_sub _ _)).get a4 a1 a2 a3
theorem LInv.signal {s : LS} (h : LInv s) (c : Int) : LInv (signalS s c) := by
  unfold signalS; split
  · rename_i e; have h1 := ask1E_ok e; exact h.sig (by have := h1.1; have := h1.2; omega)
  · exact h
theorem sigS_n (s : LS) (c : Nat) : (sigS s c).n = s.n := by unfold sigS; split; rfl; rw [getS_n]
theorem LInv.castF : ∀ (f : Nat) {s : LS} {c : Nat} {acc : List Int}, LInv s → c < s.n → LInv (castF f s c acc).2
  | 0, _, _, _, h, _ => h
  | f + 1, s, c, acc, h, hc => by
    unfold Go.Proofs.Ytffjaaolcphonaa.castF
    exact LInv.castF f (h.sig hc) (by rw [sigS_n]; exact hc)
theorem LInv.cast {s : LS} (h : LInv s) (c : Int) : LInv (castS s c) := by
  unfold castS; split
  · rename_i e; have h1 := ask1E_ok e; exact LInv.castF _ h (by have := h1.1; have := h1.2; omega)
  · exact h
theorem LInv.dropF : ∀ (f o : Nat) {s : LS} {t : Int} {acc : List Int}, LInv s → o + f ≤ s.n → LInv (dropF f o s t acc).2
  | 0, _, _, _, _, h, _ => h
  | f + 1, o, s, t, acc, h, ho => by
    unfold Go.Proofs.Ytffjaaolcphonaa.dropF
    split
    · exact LInv.dropF f (o + 1) (h.pass (by omega)) (show o + 1 + f ≤ s.n by omega)
    · exact LInv.dropF f (o + 1) h (by omega)
theorem LInv.drop {s : LS} (h : LInv s) (t : Int) : LInv (dropR s t).2 := by
  unfold dropR; split
  · exact LInv.dropF _ _ (h.sub (remL_len _ _ _) (remL_sub _ _ _)) (by show 0 + s.n ≤ s.n; omega)
  · exact h
end Go.Proofs.Ytffjaaolcphonaa
