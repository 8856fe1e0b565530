/- least. -/
import Derived.Test.YtffjaaolcphonaaDoorBdSlot
import Derived.Deep.LoopGhost
import Derived.Deep.MidRow
namespace Go.Proofs.YtffjaaolcphonaaDoor
open Go.RowKit
theorem range_words {w : World} {B : SB} {s : SS} {W : Nat → Nat} (hb : Blk w B.P (cellsS B s W) 53) : w.rangeAt B.P 1 (words W) := fun j v hj => by
  have hlt : j < 64 := by
    have := (List.getElem?_eq_some_iff.1 hj).1
    rw [words_len] at this; exact this
  rw [words_at W j hlt] at hj
  obtain rfl := Option.some.inj hj
  rw [hb.cell]; exact cellsS_word hlt
theorem load_V {ops : Array Oper} {rest : List Oper} {op : Oper} {a : Act} {w : World} {Q : Exit → Act → World → Prop} {W : Nat → Nat} {V : Value} {b : Nat} (hgd : op.guard = none) (x : Operand) (ho : op.op = .load 51 x)
    (hx : a.eval x = .pointer (some ⟨b, 1, none⟩)) (hc : w.rangeAt b 1 (words W)) (hV : Value.agg (words W).toArray = V) (h : wpList Tryd.prog ops Q rest (a.put op.dst V) w) : wpList Tryd.prog ops Q (op :: rest) a w := by
  subst hV
  exact wpList_load_mid hgd 51 x ho b 1 hx (words W) _ hc Tryd.underlying51 rfl (by rw [words_len]; kernel_rfl) h
theorem index_words (w : World) (W : Nat → Nat) (k : Nat) (hk : k < 64) : (Instr.index 51 (.agg (words W).toArray) (.int .i64 (k : Int))).run Tryd.prog w = .ok (.int .u64 ((W k : Nat) : Int)) w := by
  have h1 : (0 : Int) ≤ (k : Int) ∧ (k : Int) < 64 := by omega
  have hz : (sizeOf 50).run Tryd.prog w = .ok 1 w := by kernel_rfl
  have hg := words_at W k hk
  simp [Instr.index, run_underlying Tryd.underlying51, asIntOf, hk, go_sem, part, hz, hg]
/-- What the walk of a word asks: the bits of x, of word k. -/
structure Wd (s : SS) (V : Nat) (k x : Nat) : Prop where
  hx : x < 18446744073709551616
  sub : ∀ j, x.testBit j = true → V.testBit j = true
  no : ∀ j, j < 64 → x.testBit j = false → 64 * k + j < s.ages.length → may s (64 * k + j) = false
set_option maxRecDepth 100000 in
set_option maxHeartbeats 4000000 in
theorem sleast (w : World) (B : SB) (s : SS) (h : SAt w B s) (hT : TabD w) : Calls Tryd.prog 86 #[.pointer (some ⟨B.P, 0, none⟩)] w fun e w' => e = .returned (.tuple #[.int .i64 (((leastS s).getD 0 : Nat) : Int), .bool (leastS s).isSome]) ∧ w = w' := by
  have F0 := h.f0
  have HA : Hid (∀ i, i < s.ages.length → w.cell? ⟨B.A, i, none⟩ = some (.int .i64 (s.ages.getD i 0))) := hid fun i hi => h.cA hi
  have t1 := h.T1
  obtain ⟨W, hW, hb⟩ := h.hp
  have HR := hid (range_words hb)
  obtain ⟨V, hV⟩ : ∃ V, Value.agg (words W).toArray = V := ⟨_, rfl⟩
  have HI : Hid (∀ k : Nat, k < 64 → (Instr.index 51 V (.int .i64 (k : Int))).run Tryd.prog w = .ok (.int .u64 ((W k : Nat) : Int)) w) := hid (by rw [← hV]; exact fun k hk => index_words w W k hk)
  have HV := hid hV
  have HW := hid hW
  have HT := hid hT
  clear h hb hV hW hT
  go_enter Tryd.func86, Tryd.ntmps86
  go_wp2
  go_step3
  go_wp2
  go_step3
  go_wp2_with (refine load_V rfl (.tmp 9) rfl rfl HR.out HV.out ?_)
  go_loopg [2, 3, 4, 5, 6, 11] 64 (fun g s2 s3 s4 s5 s6 s11 wx => ∃ k : Nat, k + g = 64 ∧ s11 = .int .i64 (k : Int) ∧ s2 = .int .i64 0 ∧ s3 = .bool false ∧ Hid (∀ m, m < 64 * k → m < s.ages.length → may s m = false) ∧ wx = w)
  case atStart => exact ⟨0, rfl, rfl, rfl, rfl, hid (fun m hm => by omega), rfl⟩
  case round =>
    obtain ⟨k, hkg, rfl, rfl, rfl, HM, rfl⟩ := hrel
    cases gk with
    | zero =>
      have hk : ¬ (k : Int) < 64 := by omega
      have HN : Hid (leastS s = none) := hid (leastS_none fun m hm => HM.out m (by omega) hm)
      go_wp2
      go_ret2
      exact ⟨by rw [HN.out] <;> rfl, rfl⟩
    | succ g =>
      have hk : (k : Int) < 64 := by omega
      have hk' : k < 64 := by omega
      have HIk := HI.out k hk'
      have hsub := hid (HW.out.lt k)
      go_wp2
      go_loopg [2, 3, 5, 6] (W k) (fun x s2 s3 s5 s6 wy => s5 = .int .u64 ((x : Nat) : Int) ∧ s2 = .int .i64 0 ∧ s3 = .bool false ∧ Hid (Wd s (W k) k x) ∧ wy = wr)
      case atStart =>
        refine ⟨rfl, rfl, rfl, hid ⟨hsub.out, fun _ h => h, fun j hj hb hl => ?_⟩, rfl⟩
        have := HW.out.bit k j hk' hj
        rw [hb] at this
        unfold may; rw [← this]; rfl
      case round =>
        obtain ⟨rfl, rfl, rfl, HD, rfl⟩ := hrel
        by_cases h0 : gk = 0
        · subst h0
          have hM : Hid (∀ m, m < 64 * (k + 1) → m < s.ages.length → may s m = false) := hid fun m hm hl => by
            by_cases e : m < 64 * k
            · exact HM.out m e hl
            · have := HD.out.no (m - 64 * k) (by omega) (Nat.zero_testBit _) (by omega)
              rwa [show 64 * k + (m - 64 * k) = m by omega] at this
          go_wp2
          go_roundg g
          case measure => omega
          case rel => exact ⟨k + 1, by omega, by first | rfl | simp, rfl, rfl, hM, rfl⟩
        · have hx := HD.out.hx
          obtain ⟨c64, cbit, clow⟩ := ctz_spec h0 hx
          have hstr := strike_spec h0 hx
          have HZ := stz gk hx h0 wr HT.out
          obtain ⟨c, hc⟩ : ∃ c, Lib.ctz 64 gk = c := ⟨_, rfl⟩
          rw [hc] at c64 cbit clow hstr HZ
          obtain ⟨i, hi⟩ : ∃ i, 64 * k + c = i := ⟨_, rfl⟩
          have ei : (k : Int) * 64 + (c : Int) = (i : Int) := by omega
          have hne : ((gk : Int) != 0) = true := by simp; omega
          have hM : Hid (∀ m, m < i → m < s.ages.length → may s m = false) := hid fun m hm hl => by
            by_cases e : m < 64 * k
            · exact HM.out m e hl
            · have := HD.out.no (m - 64 * k) (by omega) (clow _ (by omega)) (by omega)
              rwa [show 64 * k + (m - 64 * k) = m by omega] at this
          have hfr : Hid (s.fr.getD i false = true) := hid (by
            have := HW.out.bit k c hk' c64
            rw [HD.out.sub c cbit, hi] at this
            exact this.symm)
          have c1 : (c : Int) < 64 := by omega
          have HS := hid hstr
          have Hi := hid hi
          have Hx := hid hx
          have Hz := hid HZ
          clear hstr hi hx HZ clow cbit hc
          by_cases hlt : i < s.ages.length
          · have hlt' : (i : Int) < (s.ages.length : Int) := by omega
            have C1 := HA.out i hlt
            obtain ⟨a, ha⟩ : ∃ a, s.ages.getD i 0 = a := ⟨_, rfl⟩
            rw [ha] at C1
            by_cases hm : a < 2147483647
            · have HN : Hid (leastS s = some i) := hid (leastS_some hlt (by unfold may; rw [hfr.out, ha, decide_eq_true hm]; rfl) fun m hm2 => hM.out m hm2 (by omega))
              clear ha
              go_wp2_with (go_at_call 122; refine Hz.out.mono ?_; rintro e w' ⟨rfl, rfl⟩)
              try rw [Exit.noGoto_ret]
              go_ret2
              exact ⟨by rw [HN.out] <;> rfl, rfl⟩
            · have hmay : Hid (may s i = false) := hid (by unfold may; rw [ha, decide_eq_false hm]; simp)
              clear ha
              go_wp2_with (go_at_call 122; refine Hz.out.mono ?_; rintro e w' ⟨rfl, rfl⟩)
              go_roundg (gk &&& (gk - 1))
              case measure => exact Nat.lt_of_le_of_lt Nat.and_le_right (by omega)
              case rel =>
                refine ⟨?_, rfl, rfl, hid ⟨Nat.lt_of_le_of_lt Nat.and_le_left HD.out.hx, fun j hj => ?_, fun j hj hb hl => ?_⟩, rfl⟩
                · rw [show IntKind.u64.wrap ((gk : Int) - 1) = ((gk - 1 : Nat) : Int) by rw [IntKind.wrap_u64]; have := HD.out.hx; omega, u64_and_nat _ _ HD.out.hx (by have := HD.out.hx; omega)]
                · rw [HS.out j] at hj
                  exact HD.out.sub j (by revert hj; cases gk.testBit j <;> simp)
                · rw [HS.out j] at hb
                  by_cases ej : j = c
                  · subst ej; rw [Hi.out]; exact hmay.out
                  · refine HD.out.no j hj ?_ hl
                    revert hb; simp [ej]
          · have hlt' : ¬ (i : Int) < (s.ages.length : Int) := by omega
            have HN : Hid (leastS s = none) := hid (leastS_none fun m hm => hM.out m (by omega) hm)
            go_wp2_with (go_at_call 122; refine Hz.out.mono ?_; rintro e w' ⟨rfl, rfl⟩)
            try rw [Exit.noGoto_ret]
            go_ret2
            exact ⟨by rw [HN.out] <;> rfl, rfl⟩
end Go.Proofs.YtffjaaolcphonaaDoor
