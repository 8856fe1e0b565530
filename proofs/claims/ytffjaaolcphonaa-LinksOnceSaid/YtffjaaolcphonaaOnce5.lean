/- LinksOnce: plain facts, and the walk. -/
import Derived.Test.YtffjaaolcphonaaActs5
namespace Go.Proofs.Ytffjaaolcphonaa
open Go.RowKit
theorem pushL_len (T : Nat) (L : List (List Nat)) (i t : Int) : (pushL T L i t).length = L.length := by unfold pushL; split <;> simp
theorem stepL_len (T : Nat) (L : List (List Nat)) (k i t : Int) : (stepL T L k i t).length = L.length := by
  unfold stepL
  split
  · exact pushL_len T L i t
  split
  · unfold frontL; split <;> simp
  split
  · unfold remL; split <;> simp
  split
  · unfold popL; split <;> simp
  split
  · unfold moveL; split <;> simp
  · rfl
theorem flat_nodup : ∀ (L : List (List Nat)), (∀ i, i < L.length → (gl L i).Nodup) → (∀ i j x, i < L.length → j < L.length → x ∈ gl L i → x ∈ gl L j → i = j) → L.flatten.Nodup
  | [], _, _ => by simp
  | l :: L, h1, h2 => by
    rw [List.flatten_cons, List.nodup_append]
    refine ⟨by have := h1 0 (by simp); simpa [gl] using this, flat_nodup L (fun i hi => by have := h1 (i + 1) (by simpa using hi); simpa [gl] using this) (fun i j x hi hj a b => by
      have := h2 (i + 1) (j + 1) x (by simpa using hi) (by simpa using hj) (by simpa [gl] using a) (by simpa [gl] using b); omega), ?_⟩
    intro a ha b hb e
    subst e
    obtain ⟨m, hm, ham⟩ := List.mem_flatten.1 hb
    obtain ⟨i, hi, rfl⟩ := List.getElem_of_mem hm
    have := h2 0 (i + 1) a (by simp) (by simpa using hi) (by simpa [gl] using ha) (by simpa [gl, hi] using ham)
    omega
theorem Nice.flat {L : List (List Nat)} (h : Nice L) : L.flatten.Nodup := flat_nodup L h.nd h.uq
theorem gl_mem_flat {L : List (List Nat)} {i x : Nat} (hi : i < L.length) (hx : x ∈ gl L i) : x ∈ L.flatten :=
  List.mem_flatten.2 ⟨gl L i, by simp [gl, hi], hx⟩
theorem flat_mem {L : List (List Nat)} {x : Nat} (h : x ∈ L.flatten) : ∃ i, i < L.length ∧ x ∈ gl L i := by
  obtain ⟨m, hm, hx⟩ := List.mem_flatten.1 h
  obtain ⟨i, hi, rfl⟩ := List.getElem_of_mem hm
  exact ⟨i, hi, by simpa [gl, hi] using hx⟩
theorem flat_take (L : List (List Nat)) (k : Nat) (hk : k < L.length) : (L.take (k + 1)).flatten = (L.take k).flatten ++ gl L k := by
  rw [List.take_succ_eq_append_getElem hk, List.flatten_append]; simp [gl, hk]
theorem count_one {L : List (List Nat)} (h : Nice L) (x : Nat) : (L.flatten.count x = 0 ∧ wh L x = -1) ∨ (L.flatten.count x = 1 ∧ 0 ≤ wh L x) := by
  by_cases hx : x ∈ L.flatten
  · refine .inr ⟨by have := List.nodup_iff_count.1 h.flat x; have := List.count_pos_iff.2 hx; omega, ?_⟩
    rcases wh_ge L x with e | e
    · obtain ⟨i, hi, hm⟩ := flat_mem hx
      exact absurd hm (wh_no.1 e i hi)
    · exact e
  · exact .inl ⟨List.count_eq_zero.2 hx, wh_no.2 fun i hi hm => hx (gl_mem_flat hi hm)⟩
theorem whI_at {T : Nat} {L : List (List Nat)} (h : Nice L) {i x : Nat} (hi : i < L.length) (hx : x ∈ gl L i) (hT : x < T) : whI T L (x : Int) = (i : Int) :=
  whI_yes hi (fun k hk y hy e => by
    have e' : y = x := by omega
    subst e'
    have := h.uq k i y (by omega) hi hy hx
    omega) hx rfl hT
/-- The eight counts. -/
def tl (f : Nat → Int) : List Value := [.int .i64 (f 0), .int .i64 (f 1), .int .i64 (f 2), .int .i64 (f 3), .int .i64 (f 4), .int .i64 (f 5), .int .i64 (f 6), .int .i64 (f 7)]
theorem tl_get (f : Nat → Int) {x : Nat} (hx : x < 8) : (tl f)[x]? = some (.int .i64 (f x)) := by
  match x, hx with
  | 0, _ => rfl
  | 1, _ => rfl
  | 2, _ => rfl
  | 3, _ => rfl
  | 4, _ => rfl
  | 5, _ => rfl
  | 6, _ => rfl
  | 7, _ => rfl
theorem tl_set (f : Nat → Int) {x : Nat} (hx : x < 8) (v : Int) : (tl f).set x (.int .i64 v) = tl (fun t => if t = x then v else f t) := by
  match x, hx with
  | 0, _ => rfl
  | 1, _ => rfl
  | 2, _ => rfl
  | 3, _ => rfl
  | 4, _ => rfl
  | 5, _ => rfl
  | 6, _ => rfl
  | 7, _ => rfl
theorem tl_congr {f g : Nat → Int} (h : ∀ t, t < 8 → f t = g t) : tl f = tl g := by
  unfold tl; rw [h 0 (by omega), h 1 (by omega), h 2 (by omega), h 3 (by omega), h 4 (by omega), h 5 (by omega), h 6 (by omega), h 7 (by omega)]
theorem tl_index (f0 f1 f2 f3 f4 f5 f6 f7 : Int) (w : World) (x : Nat) (v : Value) (h : [Value.int .i64 f0, .int .i64 f1, .int .i64 f2, .int .i64 f3, .int .i64 f4, .int .i64 f5, .int .i64 f6, .int .i64 f7][x]? = some v) :
    (Instr.index 45 (.agg #[.int .i64 f0, .int .i64 f1, .int .i64 f2, .int .i64 f3, .int .i64 f4, .int .i64 f5, .int .i64 f6, .int .i64 f7]) (.int .i64 (x : Int))).run Try.prog w = .ok v w := by
  match x, h with
  | 0, h => cases h; exact (show _ = _ by kernel_rfl)
  | 1, h => cases h; exact (show _ = _ by kernel_rfl)
  | 2, h => cases h; exact (show _ = _ by kernel_rfl)
  | 3, h => cases h; exact (show _ = _ by kernel_rfl)
  | 4, h => cases h; exact (show _ = _ by kernel_rfl)
  | 5, h => cases h; exact (show _ = _ by kernel_rfl)
  | 6, h => cases h; exact (show _ = _ by kernel_rfl)
  | 7, h => cases h; exact (show _ = _ by kernel_rfl)
  | x + 8, h => simp at h
theorem ls_bd {w : World} {B : LB} {T : Nat} {L : List (List Nat)} (h : LsAt w B T L) {i x : Nat} (hi : i < L.length) (hx : x ∈ gl L i) : x < T := by
  obtain ⟨r, _, hv, rfl⟩ := h; exact (hv.yes i x hi hx).1
theorem flat_short {w : World} {B : LB} {T : Nat} {L : List (List Nat)} (h : LsAt w B T L) : L.flatten.length ≤ T :=
  nodup_le T _ h.nice.flat fun x hx => by obtain ⟨i, hi, hm⟩ := flat_mem hx; exact ls_bd h hi hm
theorem flat_take_le (L : List (List Nat)) (k : Nat) : (L.take k).flatten.length ≤ L.flatten.length := by
  have h : L.flatten = (L.take k).flatten ++ (L.drop k).flatten := by rw [← List.flatten_append, List.take_append_drop]
  rw [h, List.length_append]; omega
theorem count_snoc (D l : List Nat) (m t : Nat) (hm : m < l.length) : (D ++ l.take (m + 1)).count t = (D ++ l.take m).count t + if t = l.getD m 0 then 1 else 0 := by
  have e : l.getD m 0 = l[m] := by simp [List.getD, hm]
  rw [List.take_succ_eq_append_getElem hm, ← List.append_assoc, List.count_append, e]
  congr 1
  by_cases h : t = l[m]
  · simp [h]
  · rw [if_neg h]; exact List.count_eq_zero.2 (by simpa using h)
theorem Blk.putN {w : World} {b : Nat} {A : List Value} {T : TypeId} (h : Blk w b A T) (i : Nat) (v : Value) {A' : List Value} (e : A.set i v = A') : Blk (w.setCell ⟨b, i, none⟩ v) b A' T := e ▸ h.put i v
theorem once_round {w : World} {B : LB} {L : List (List Nat)} (h : LsAt w B 8 L) :
    Calls Try.prog 27 #[.int .i64 8, .int .i64 4] w fun e w' => ∃ p R, e = .returned (.pointer (some ⟨p, 0, none⟩)) ∧ Both w' B w.heap.size p R 8 L (List.replicate 4 []) ∧ w.heap.size ≤ R ∧ Still w w' := by
  refine (rnew_ok w 8 4 (by omega) (by omega) (by omega) (by omega)).mono ?_
  rintro e w' ⟨p, R, rfl, h2, hs⟩
  exact ⟨p, R, rfl, ⟨h.still hs, h2, fun k hk => h.lt hk⟩, h2.lR, hs⟩
set_option maxRecDepth 100000 in
set_option maxHeartbeats 2000000 in
theorem linksOnce_big (w : World) (a : Option Addr) (n c : Nat) (hn : 200 < n) :
    Calls Try.prog 5 #[.slice a n c] w fun e w' => e = .returned (.bool true) ∧ Still w w' := by
  have hn' : (200 : Int) < (n : Int) := by omega
  clear hn
  go_enter Try.func5, Try.ntmps5
  go_wp2_with fail
  refine (new_ls _ 8 4 (by omega) (by omega) (by omega) (by omega)).mono ?_
  rintro e w1 ⟨B, rfl, h1, hs, hnn⟩
  go_wp2_with (go_at_call 20; refine (llives _).mono ?_; rintro e w' ⟨rfl, hs13⟩)
  go_ret
  exact ⟨rfl, hs.trans hs13⟩
set_option maxRecDepth 100000 in
set_option maxHeartbeats 4000000 in
theorem linksOnce_ok (w : World) (a : Option Addr) (n c : Nat) (F : Nat → Nat → Int) (hF : IsRow3 3 w a n c F) (hn : n ≤ 200) :
    Calls Try.prog 5 #[.slice a n c] w fun e w' => e = .returned (.bool true) ∧ Still w w' := by
  have hn' : (n : Int) ≤ 200 := by omega
  have HF := hid hF
  clear hF
  go_enter Try.func5, Try.ntmps5
  go_wp2_with fail
  refine (new_ls _ 8 4 (by omega) (by omega) (by omega) (by omega)).mono ?_
  rintro e w1 ⟨B, rfl, h1, hs1, hBW⟩
  go_wp2_with fail
  go_loopw [30] (fun c wr => ∃ (j : Nat) (L : List (List Nat)), c = .int .i64 j ∧ j ≤ n ∧ LsAt wr B 8 L ∧ L.length = 4 ∧ Still w wr) (fun c _ => n - (intOf c).toNat)
  case atStart => exact ⟨0, _, rfl, Nat.zero_le _, h1, by simp, hs1⟩
  case round =>
    clear h1 hs1
    obtain ⟨j, L, rfl, hj, hL, hL4, hst⟩ := hrel
    by_cases hlt : j < n
    · have hlt' : (j : Int) < (n : Int) := by omega
      rcases HF.out with h0 | ⟨b1, o1, rfl, _, _, _, _, hc⟩
      · omega
      have g0 := Still.cell hst (hc j hlt 0 (by omega))
      have g1 := Still.cell hst (hc j hlt 1 (by omega))
      have g2 := Still.cell hst (hc j hlt 2 (by omega))
      clear hc
      simp only [Nat.add_zero] at g0
      rw [← Nat.add_assoc] at g1 g2
      have HL4 := hid hL4
      clear hL4
      go_wp2_with fail
      have hbx := Blk.new wr [.int .i64 (F j 0), .int .i64 (F j 1), .int .i64 (F j 2)] 39
      have hL' : LsAt (wr.alloc (.cells #[.int .i64 (F j 0), .int .i64 (F j 1), .int .i64 (F j 2)] 39)) B 8 L := hL.still ((Fr.refl _ _).alloc _)
      have hst' : Still w (wr.alloc (.cells #[.int .i64 (F j 0), .int .i64 (F j 1), .int .i64 (F j 2)] 39)) := hst.alloc _
      have hbf : ¬ B.foot wr.heap.size := fun hb => by have := hL.lt hb; omega
      have hbl := hbx.lt
      have hc0 := hbx.cell 0
      have hc1 := hbx.cell 1
      have hc2 := hbx.cell 2
      simp only [List.getElem?_cons_zero, List.getElem?_cons_succ] at hc0 hc1 hc2
      change World.cell? (wr.alloc (.cells #[.int .i64 (F j 0), .int .i64 (F j 1), .int .i64 (F j 2)] 39)) _ = _ at hc0 hc1 hc2
      change wr.heap.size < (wr.alloc (.cells #[.int .i64 (F j 0), .int .i64 (F j 1), .int .i64 (F j 2)] 39)).heap.size at hbl
      clear hbx
      obtain ⟨b2, hb2⟩ : ∃ b, wr.heap.size = b := ⟨_, rfl⟩
      rw [hb2] at hc0 hc1 hc2 hbf hbl ⊢
      generalize wr.alloc (.cells #[.int .i64 (F j 0), .int .i64 (F j 1), .int .i64 (F j 2)] 39) = W at hL' hst' hc0 hc1 hc2 hbl ⊢
      clear hb2
      go_region_held3 (fun w' => w'.cell? ⟨b2, 0, none⟩ = some (.int .i64 (F j 0)) ∧ w'.cell? ⟨b2, 1, none⟩ = some (.int .i64 (F j 1)) ∧ w'.cell? ⟨b2, 2, none⟩ = some (.int .i64 (F j 2)))
        (first | exact ⟨hc0, hc1, hc2⟩ | exact ⟨Still.cell ‹Still W _› hc0, Still.cell ‹Still W _› hc1, Still.cell ‹Still W _› hc2⟩ | exact ⟨q0, q1, q2⟩)
        (first
          | (go_at_call 27; refine (once_round (hL'.still (Fr.drew (Fr.refl _ _)))).mono ?_; rintro e w3 ⟨p, R, rfl, hB3, hR3, hs3'⟩; have hs3 : Still W w3 := (Fr.refl _ W).drew.trans hs3')
          | (go_at_call 28; refine (act_any hB3 (nice_rep 4) (F j 0) (F j 1) (F j 2)).mono ?_; rintro e w4 ⟨rfl, hB4, hF4⟩; have hbR : ¬ B.both R b2 := (fun h => h.elim hbf (fun e => by have : W.heap.size ≤ R := hR3; omega)); have q0 := hF4.cellB (Still.cell hs3 hc0) hbR; have q1 := hF4.cellB (Still.cell hs3 hc1) hbR; have q2 := hF4.cellB (Still.cell hs3 hc2) hbR))
      go_wp2_with fail
      go_roundw
      case rel => exact ⟨j + 1, _, by go_num, by omega, hB4.l, by rw [stepL_len]; exact HL4.out, both_still (hst'.trans hs3) hF4 hBW (by have : W.heap.size ≤ R := hR3; have := hst'.size; omega)⟩
      case measure => simp [intOf]; omega
    · have hN := hL.nice
      have HN := hid hN
      have HL4 := hid hL4
      clear hN hL4
      go_wp2_with fail
      have hbk : Blk (wr.alloc (.cells (tl fun _ => 0).toArray 45)) wr.heap.size (tl fun _ => 0) 45 := Blk.new wr _ 45
      have hL2 : LsAt (wr.alloc (.cells (tl fun _ => 0).toArray 45)) B 8 L := hL.still ((Fr.refl _ _).alloc _)
      have hst2 : Still w (wr.alloc (.cells (tl fun _ => 0).toArray 45)) := hst.alloc _
      have hbf : ¬ B.foot wr.heap.size := fun hb => by have := hL.lt hb; omega
      have hbw : w.heap.size ≤ wr.heap.size := hst.size
      change Code.wp Try.prog _ _ _ (wr.alloc (.cells (tl fun _ => 0).toArray 45))
      obtain ⟨b7, hb7⟩ : ∃ b, wr.heap.size = b := ⟨_, rfl⟩
      rw [hb7] at hbk hbf hbw ⊢
      generalize wr.alloc (.cells (tl fun _ => 0).toArray 45) = W at hbk hL2 hst2 ⊢
      clear hL hst hb7
      go_loopw [6, 8] (fun s c wr => ∃ k : Nat, s = .int .i64 ((L.take k).flatten.length : Int) ∧ c = .int .i64 k ∧ k ≤ 4 ∧ LsAt wr B 8 L ∧ Blk wr b7 (tl fun t => ((L.take k).flatten.count t : Int)) 45 ∧ Still w wr) (fun _ c _ => 4 - (intOf c).toNat)
      case atStart => exact ⟨0, rfl, rfl, by omega, hL2, by simpa using hbk, hst2⟩
      case round =>
        clear hL2 hbk hst2
        obtain ⟨k, rfl, rfl, hk, hL, hbk, hst⟩ := hrel
        by_cases hlt : k < 4
        · have hlt' : (k : Int) < 4 := by omega
          have hkL : k < L.length := by rw [HL4.out]; exact hlt
          have hfl := flat_take L k hkL
          have hd8 : (L.take k).flatten.length + (gl L k).length ≤ 8 := by have h1 := flat_take_le L (k + 1); rw [hfl, List.length_append] at h1; have := flat_short hL; omega
          have HFL := hid hfl
          clear hfl
          obtain ⟨D, hD⟩ : ∃ D, (L.take k).flatten = D := ⟨_, rfl⟩
          obtain ⟨l, hl⟩ : ∃ l, gl L k = l := ⟨_, rfl⟩
          rw [hD] at hbk hd8 HFL ⊢
          rw [hl] at hd8 HFL
          have hal : allL L (k : Int) = l := by unfold allL; rw [if_pos ⟨by omega, by omega⟩, Int.toNat_natCast, hl]
          have HAL := hid hal
          have HL := hid hl
          clear hD hl hal
          go_wp2_with fail
          refine (all_irow hL k hkL).mono ?_
          rw [HL.out]
          rintro e w3 ⟨a3, c3, rfl, hr3, hs3, hb3⟩
          have hb7 : b7 < wr.heap.size := hbk.lt
          have hb3' : ∀ b o c n, Value.slice a3 l.length c3 = .slice (some ⟨b, o, none⟩) n c → ¬ b = b7 := fun b o c n e => by
            injection e with e _ _; have := hb3 b o e; omega
          have HB3 := hid hb3'
          clear hb3 hb3'
          go_wp2_with fail
          refine (len_lsI (hL.still hs3) k).mono ?_
          rw [HAL.out]
          rintro e w' ⟨rfl, rfl⟩
          go_wp2_with fail
          go_loopw [65] (fun c wr => ∃ m : Nat, c = .int .i64 m ∧ m ≤ l.length ∧ LsAt wr B 8 L ∧ Blk wr b7 (tl fun t => ((D ++ l.take m).count t : Int)) 45 ∧ IRow wr (.slice a3 l.length c3) (zi l) ∧ Still w wr) (fun c _ => l.length - (intOf c).toNat)
          case atStart => exact ⟨0, rfl, Nat.zero_le _, hL.still hs3, by simpa using hbk.still hs3, hr3, hst.trans hs3⟩
          case round =>
            clear hL hbk hst hr3 hs3
            obtain ⟨m, rfl, hm, hL, hbk, hr, hst⟩ := hrel
            by_cases hml : m < l.length
            · have hml' : (m : Int) < (l.length : Int) := by omega
              have HR := hid hr
              rcases hr with ⟨h0, _⟩ | ⟨_, b, off, c', hv, hcell⟩
              · simp [zi] at h0; subst h0; simp at hml
              obtain rfl : a3 = some ⟨b, off, none⟩ := by injection hv
              clear hv
              have hx := hcell m (by rw [zi_len]; exact hml)
              rw [show (zi l).getD m 0 = ((l.getD m 0 : Nat) : Int) by simp [zi, hml]] at hx
              clear hcell
              have hxm : l.getD m 0 ∈ gl L k := by rw [HL.out, List.getD_eq_getElem?_getD, List.getElem?_eq_getElem hml, Option.getD_some]; exact List.getElem_mem _
              have hx8 := ls_bd hL hkL hxm
              have hwh := whI_at HN.out hkL hxm hx8
              have hcs := fun t => count_snoc D l m t hml
              obtain ⟨x, hxe⟩ : ∃ x, l.getD m 0 = x := ⟨_, rfl⟩
              rw [hxe] at hx hx8 hwh
              simp only [hxe] at hcs
              have hfx : ((D ++ l.take m).count x : Int) ≤ 8 := by
                have h1 := List.count_le_length (a := x) (l := D ++ l.take m)
                have h2 : (l.take m).length ≤ l.length := List.length_take_le' ..
                rw [List.length_append] at h1; omega
              obtain ⟨f, hf⟩ : ∃ f : Nat → Int, (fun t => ((D ++ l.take m).count t : Int)) = f := ⟨_, rfl⟩
              have hf0 : 0 ≤ f x := by rw [← hf]; exact Int.natCast_nonneg _
              have hf8 : f x ≤ 8 := by rw [← hf]; exact hfx
              have HCS : Hid (∀ t, ((D ++ l.take (m + 1)).count t : Int) = if t = x then f x + 1 else f t) := fun t => by
                rw [hcs t, ← hf]; by_cases e : t = x
                · subst e; simp
                · simp [e]
              rw [hf] at hbk
              have cx := hbk.cell x
              rw [tl_get f hx8] at cx
              have zx := hbk.frozen x
              have hx8' : (x : Int) < 8 := by omega
              have hx7 : ¬ (7 : Int) < (x : Int) := by omega
              have HWH := hid hwh
              clear hxe hxm hwh hcs hfx hf
              go_wp2_with (go_at_call 29; refine (where_ls hL _).mono ?_; rw [HWH.out]; rintro e w' ⟨rfl, rfl⟩)
              go_roundw
              case rel =>
                have hfr : Fr (fun k => k = b7) wr (wr.setCell ⟨b7, x, none⟩ (.int .i64 (f x + 1))) := (Fr.refl (fun k => k = b7) wr).setCell (p := ⟨b7, x, none⟩) (.inl rfl) _
                refine ⟨m + 1, by go_num, by omega, hL.fr hfr (fun k hk e => by subst e; exact hbf hk), hbk.putN x _ ?_, HR.out.fr hfr HB3.out, hst.setCell (.inr hbw) _⟩
                rw [tl_set f hx8]
                exact tl_congr fun t _ => (HCS.out t).symm
              case measure => simp [intOf]; omega
            · have hml' : ¬ (m : Int) < (l.length : Int) := by omega
              obtain rfl : m = l.length := by omega
              rw [List.take_length] at hbk
              go_wp2_with fail
              go_roundw
              case rel => exact ⟨k + 1, by rw [HFL.out, List.length_append]; simp, by go_num, by omega, hL, by rw [HFL.out]; exact hbk, hst⟩
              case measure => simp [intOf]; omega
        · have hk4 : k = 4 := by omega
          have hlt' : ¬ (k : Int) < 4 := by omega
          have htk : L.take k = L := by rw [hk4, ← HL4.out, List.take_length]
          clear hk4
          rw [htk] at hbk ⊢
          have hn8 : (L.flatten.length : Int) ≤ 8 := by have := flat_short hL; omega
          have hone := fun x => count_one HN.out x
          obtain ⟨N, hNn⟩ : ∃ N, L.flatten.length = N := ⟨_, rfl⟩
          rw [hNn] at hn8 ⊢
          obtain ⟨f, hf⟩ : ∃ f : Nat → Int, (fun t => (L.flatten.count t : Int)) = f := ⟨_, rfl⟩
          have HO : Hid (∀ x, (f x = 0 ∧ wh L x = -1) ∨ (f x = 1 ∧ 0 ≤ wh L x)) := fun x => by
            rcases hone x with ⟨h1, h2⟩ | ⟨h1, h2⟩
            · exact .inl ⟨by rw [← hf]; simp [h1], h2⟩
            · exact .inr ⟨by rw [← hf]; simp [h1], h2⟩
          rw [hf] at hbk
          have cs := hbk.cell
          have e0 := cs 0
          have e1 := cs 1
          have e2 := cs 2
          have e3 := cs 3
          have e4 := cs 4
          have e5 := cs 5
          have e6 := cs 6
          have e7 := cs 7
          rw [tl_get f (by omega)] at e0 e1 e2 e3 e4 e5 e6 e7
          have HX := hid (fun (x : Nat) (hx : x < 8) (w : World) => tl_index (f 0) (f 1) (f 2) (f 3) (f 4) (f 5) (f 6) (f 7) w x (.int .i64 (f x)) (tl_get f hx))
          generalize f 0 = f0 at e0 HX
          generalize f 1 = f1 at e1 HX
          generalize f 2 = f2 at e2 HX
          generalize f 3 = f3 at e3 HX
          generalize f 4 = f4 at e4 HX
          generalize f 5 = f5 at e5 HX
          generalize f 6 = f6 at e6 HX
          generalize f 7 = f7 at e7 HX
          clear hone hNn hf cs htk
          go_wp2_with fail
          go_loopw [89] (fun c wz => ∃ x : Nat, c = .int .i64 x ∧ x ≤ 8 ∧ wr = wz) (fun c _ => 8 - (intOf c).toNat)
          case atStart => exact ⟨0, rfl, by omega, rfl⟩
          case round =>
            obtain ⟨x, rfl, hx, rfl⟩ := hrel
            by_cases hx8 : x < 8
            · have hx8' : (x : Int) < 8 := by omega
              have hi := HX.out x hx8
              have hw : whI 8 L (x : Int) = wh L x := by unfold whI; rw [if_pos ⟨by omega, by omega⟩, Int.toNat_natCast]
              rcases HO.out x with ⟨h1, h2⟩ | ⟨h1, h2⟩
              · rw [h1] at hi
                have HW := hid (hw.trans h2)
                clear h1 h2 hw
                go_wp2_with (go_at_call 29; refine (where_ls hL _).mono ?_; rw [HW.out]; rintro e w' ⟨rfl, rfl⟩)
                go_roundw
                case rel => exact ⟨x + 1, by go_num, by omega, trivial⟩
                case measure => simp [intOf]; omega
              · rw [h1] at hi
                obtain ⟨z, hz⟩ : ∃ z, wh L x = z := ⟨_, rfl⟩
                rw [hz] at h2
                have HW := hid (hw.trans hz)
                clear h1 hw hz
                go_wp2_with (go_at_call 29; refine (where_ls hL _).mono ?_; rw [HW.out]; rintro e w' ⟨rfl, rfl⟩)
                go_roundw
                case rel => exact ⟨x + 1, by go_num, by omega, trivial⟩
                case measure => simp [intOf]; omega
            · go_wp2_with (go_at_call 20; refine (llives _).mono ?_; rintro e w' ⟨rfl, hs13⟩)
              go_ret
              exact ⟨rfl, hst.trans hs13⟩
theorem linksOnce (w : World) (a : Option Addr) (n c : Nat) (F : Nat → Nat → Int) (hF : IsRow3 3 w a n c F) :
    Calls Try.prog 5 #[.slice a n c] w fun e w' => e = .returned (.bool true) ∧ Still w w' := by
  by_cases hn : n ≤ 200
  · exact linksOnce_ok w a n c F hF hn
  · exact linksOnce_big w a n c (by omega)
end Go.Proofs.Ytffjaaolcphonaa
