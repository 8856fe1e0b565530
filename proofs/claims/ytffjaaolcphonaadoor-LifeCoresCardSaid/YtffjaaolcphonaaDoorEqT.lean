/- A thread is the same as itself; Same. -/
import Derived.Test.YtffjaaolcphonaaDoorBdRThr
namespace Go.Proofs.YtffjaaolcphonaaDoor
open Go.RowKit Go.Maps
set_option linter.unusedSimpArgs false
theorem eqi (d : Nat) (b : Int) (w : World) : (Op.equalIn (d + 1) 3 (.int .i64 b) (.int .i64 b)).run Tryd.prog w = .ok true w := by
  rw [run_equalIn_int w d 3 .i64 .i64 b b Tryd.underlying3]; simp
set_option maxRecDepth 100000 in
theorem eq56 (d : Nat) (b0 b1 b2 b3 b4 b5 b6 b7 : Int) (w : World) : (Op.equalIn (d + 2) 56 (.agg #[.int .i64 b0, .int .i64 b1, .int .i64 b2, .int .i64 b3, .int .i64 b4, .int .i64 b5, .int .i64 b6, .int .i64 b7]) (.agg #[.int .i64 b0, .int .i64 b1, .int .i64 b2, .int .i64 b3, .int .i64 b4, .int .i64 b5, .int .i64 b6, .int .i64 b7])).run Tryd.prog w = .ok true w := by
  have u3 := Tryd.underlying3
  have a3 := Tryd.isAgg3
  have z3 := Tryd.sizeOf3
  have ei := eqi d
  rw [show d + 2 = (d + 1) + 1 from rfl, Op.equalIn]
  simp only [Sem.run_bind, run_underlying Tryd.underlying56, Result.andThen_ok]
  go_simp
  simp [List.range'_succ, List.forIn_cons, Sem.run_bind, a3, ei, Result.andThen]
theorem fields80 : Tryd.prog.underlying 80 = some (.struct (Tryd.prog.fieldsOf 80)) := by kernel_rfl
theorem fields58 : Tryd.prog.underlying 58 = some (.struct (Tryd.prog.fieldsOf 58)) := by kernel_rfl
theorem held80 : Tryd.prog.stoodInHeld 80 = false := by kernel_rfl
theorem held58 : Tryd.prog.stoodInHeld 58 = false := by kernel_rfl
set_option maxRecDepth 100000 in
theorem eq58 (d : Nat) (c : Ctx) (w : World) : (Op.equalIn (d + 3) 58 (Value.agg #[.int .i64 c.p, .int .i64 c.q, .int .i64 c.r0, .int .i64 c.r1, .int .i64 c.r2, .int .i64 c.r3, .int .i64 c.r4, .int .i64 c.r5, .int .i64 c.r6, .int .i64 c.r7, .int .i64 c.d]) (Value.agg #[.int .i64 c.p, .int .i64 c.q, .int .i64 c.r0, .int .i64 c.r1, .int .i64 c.r2, .int .i64 c.r3, .int .i64 c.r4, .int .i64 c.r5, .int .i64 c.r6, .int .i64 c.r7, .int .i64 c.d])).run Tryd.prog w = .ok true w := by
  have u3 := Tryd.underlying3
  have a3 := Tryd.isAgg3
  have z3 := Tryd.sizeOf3
  have a56 := Tryd.isAgg56
  have z56 := Tryd.sizeOf56
  have ei := eqi (d + 1)
  have e5 := eq56 d
  rw [show d + 3 = (d + 2) + 1 from rfl, run_equalIn_agg w (d + 2) 58 _ _ fields58 held58]
  simp only [Program.fieldsOf, Tryd.underlying58]
  go_simp
set_option maxRecDepth 100000 in
theorem eq80 (x : Thr) (w : World) : (Op.equalIn 10000 80 (Value.agg #[.int .i64 x.i, .int .i64 x.s, .int .i64 x.t, .int .i64 x.c.p, .int .i64 x.c.q, .int .i64 x.c.r0, .int .i64 x.c.r1, .int .i64 x.c.r2, .int .i64 x.c.r3, .int .i64 x.c.r4, .int .i64 x.c.r5, .int .i64 x.c.r6, .int .i64 x.c.r7, .int .i64 x.c.d, .int .i64 x.d]) (Value.agg #[.int .i64 x.i, .int .i64 x.s, .int .i64 x.t, .int .i64 x.c.p, .int .i64 x.c.q, .int .i64 x.c.r0, .int .i64 x.c.r1, .int .i64 x.c.r2, .int .i64 x.c.r3, .int .i64 x.c.r4, .int .i64 x.c.r5, .int .i64 x.c.r6, .int .i64 x.c.r7, .int .i64 x.c.d, .int .i64 x.d])).run Tryd.prog w = .ok true w := by
  have u3 := Tryd.underlying3
  have a3 := Tryd.isAgg3
  have z3 := Tryd.sizeOf3
  have a58 := Tryd.isAgg58
  have z58 := Tryd.sizeOf58
  have ei := eqi 9998
  have e5 := eq58 9996
  rw [show (10000 : Nat) = 9999 + 1 from rfl, run_equalIn_agg w 9999 80 _ _ fields80 held80]
  simp only [Program.fieldsOf, Tryd.underlying80]
  go_simp
theorem neq80 (x : Thr) (w : World) : (binOp .neq 80 (Value.agg #[.int .i64 x.i, .int .i64 x.s, .int .i64 x.t, .int .i64 x.c.p, .int .i64 x.c.q, .int .i64 x.c.r0, .int .i64 x.c.r1, .int .i64 x.c.r2, .int .i64 x.c.r3, .int .i64 x.c.r4, .int .i64 x.c.r5, .int .i64 x.c.r6, .int .i64 x.c.r7, .int .i64 x.c.d, .int .i64 x.d]) (Value.agg #[.int .i64 x.i, .int .i64 x.s, .int .i64 x.t, .int .i64 x.c.p, .int .i64 x.c.q, .int .i64 x.c.r0, .int .i64 x.c.r1, .int .i64 x.c.r2, .int .i64 x.c.r3, .int .i64 x.c.r4, .int .i64 x.c.r5, .int .i64 x.c.r6, .int .i64 x.c.r7, .int .i64 x.c.d, .int .i64 x.d])).run Tryd.prog w = .ok (.bool false) w := by
  rw [run_neq_struct, eq80]; rfl
section
variable {w : World} {L : List Thr}
set_option maxRecDepth 100000 in
set_option maxHeartbeats 4000000 in
theorem tsame (v u : Value) (h1 : SRow S66 w v L) (h2 : SRow S66 w u L) (hb : L.length ≤ 100000) : Calls Tryd.prog 53 #[v, u] w fun e w' => e = .returned (.bool true) ∧ Still w w' := by
  have R1 := hid h1
  have R2 := hid h2
  obtain ⟨a1, c1, rfl⟩ := h1.shape
  obtain ⟨a2, c2, rfl⟩ := h2.shape
  clear h1 h2
  go_enter Tryd.func53, Tryd.ntmps53
  go_wp2_with fail
  go_loopw [5, 13] (fun s5 s13 wr => ∃ j : Nat, s13 = .int .i64 j ∧ j ≤ L.length ∧ Still w wr) (fun _ s13 _ => L.length - (intOf s13).toNat)
  case atStart => exact ⟨0, rfl, Nat.zero_le _, Fr.refl _ _⟩
  case round =>
    obtain ⟨j, rfl, hj, hst⟩ := hrel
    have SX := hid hst
    clear hst
    by_cases hlt : j < L.length
    · have hlt' : (j : Int) < (L.length : Int) := by omega
      obtain ⟨b, off, c3, ev, hc⟩ := (R1.out.still SX.out).at hlt
      obtain ⟨rfl, rfl⟩ : a1 = some ⟨b, off, none⟩ ∧ c1 = c3 := by injection ev with e1 _ e3; exact ⟨e1, e3⟩
      obtain ⟨b2, off2, c4, ev2, hc2⟩ := (R2.out.still SX.out).at hlt
      obtain ⟨rfl, rfl⟩ : a2 = some ⟨b2, off2, none⟩ ∧ c2 = c4 := by injection ev2 with e1 _ e3; exact ⟨e1, e3⟩
      obtain ⟨x, hx⟩ : ∃ x, L[j] = x := ⟨_, rfl⟩
      rw [hx] at hc hc2
      have p0 : wr.cell? ⟨b, off + j * 15, none⟩ = some (.int .i64 x.i) := hc 0 _ rfl
      have p1 : wr.cell? ⟨b, off + j * 15 + 1, none⟩ = some (.int .i64 x.s) := hc 1 _ rfl
      have p2 : wr.cell? ⟨b, off + j * 15 + 2, none⟩ = some (.int .i64 x.t) := hc 2 _ rfl
      have p3 : wr.cell? ⟨b, off + j * 15 + 3, none⟩ = some (.int .i64 x.c.p) := hc 3 _ rfl
      have p4 : wr.cell? ⟨b, off + j * 15 + 4, none⟩ = some (.int .i64 x.c.q) := hc 4 _ rfl
      have p5 : wr.cell? ⟨b, off + j * 15 + 5, none⟩ = some (.int .i64 x.c.r0) := hc 5 _ rfl
      have p6 : wr.cell? ⟨b, off + j * 15 + 6, none⟩ = some (.int .i64 x.c.r1) := hc 6 _ rfl
      have p7 : wr.cell? ⟨b, off + j * 15 + 7, none⟩ = some (.int .i64 x.c.r2) := hc 7 _ rfl
      have p8 : wr.cell? ⟨b, off + j * 15 + 8, none⟩ = some (.int .i64 x.c.r3) := hc 8 _ rfl
      have p9 : wr.cell? ⟨b, off + j * 15 + 9, none⟩ = some (.int .i64 x.c.r4) := hc 9 _ rfl
      have p10 : wr.cell? ⟨b, off + j * 15 + 10, none⟩ = some (.int .i64 x.c.r5) := hc 10 _ rfl
      have p11 : wr.cell? ⟨b, off + j * 15 + 11, none⟩ = some (.int .i64 x.c.r6) := hc 11 _ rfl
      have p12 : wr.cell? ⟨b, off + j * 15 + 12, none⟩ = some (.int .i64 x.c.r7) := hc 12 _ rfl
      have p13 : wr.cell? ⟨b, off + j * 15 + 13, none⟩ = some (.int .i64 x.c.d) := hc 13 _ rfl
      have p14 : wr.cell? ⟨b, off + j * 15 + 14, none⟩ = some (.int .i64 x.d) := hc 14 _ rfl
      have q0 : wr.cell? ⟨b2, off2 + j * 15, none⟩ = some (.int .i64 x.i) := hc2 0 _ rfl
      have q1 : wr.cell? ⟨b2, off2 + j * 15 + 1, none⟩ = some (.int .i64 x.s) := hc2 1 _ rfl
      have q2 : wr.cell? ⟨b2, off2 + j * 15 + 2, none⟩ = some (.int .i64 x.t) := hc2 2 _ rfl
      have q3 : wr.cell? ⟨b2, off2 + j * 15 + 3, none⟩ = some (.int .i64 x.c.p) := hc2 3 _ rfl
      have q4 : wr.cell? ⟨b2, off2 + j * 15 + 4, none⟩ = some (.int .i64 x.c.q) := hc2 4 _ rfl
      have q5 : wr.cell? ⟨b2, off2 + j * 15 + 5, none⟩ = some (.int .i64 x.c.r0) := hc2 5 _ rfl
      have q6 : wr.cell? ⟨b2, off2 + j * 15 + 6, none⟩ = some (.int .i64 x.c.r1) := hc2 6 _ rfl
      have q7 : wr.cell? ⟨b2, off2 + j * 15 + 7, none⟩ = some (.int .i64 x.c.r2) := hc2 7 _ rfl
      have q8 : wr.cell? ⟨b2, off2 + j * 15 + 8, none⟩ = some (.int .i64 x.c.r3) := hc2 8 _ rfl
      have q9 : wr.cell? ⟨b2, off2 + j * 15 + 9, none⟩ = some (.int .i64 x.c.r4) := hc2 9 _ rfl
      have q10 : wr.cell? ⟨b2, off2 + j * 15 + 10, none⟩ = some (.int .i64 x.c.r5) := hc2 10 _ rfl
      have q11 : wr.cell? ⟨b2, off2 + j * 15 + 11, none⟩ = some (.int .i64 x.c.r6) := hc2 11 _ rfl
      have q12 : wr.cell? ⟨b2, off2 + j * 15 + 12, none⟩ = some (.int .i64 x.c.r7) := hc2 12 _ rfl
      have q13 : wr.cell? ⟨b2, off2 + j * 15 + 13, none⟩ = some (.int .i64 x.c.d) := hc2 13 _ rfl
      have q14 : wr.cell? ⟨b2, off2 + j * 15 + 14, none⟩ = some (.int .i64 x.d) := hc2 14 _ rfl
      have NE := neq80 x
      clear hc hc2 ev ev2 hx
      go_wp2_with fail
      go_quiet (fail)
      go_wp2_with fail
      go_roundw
      case rel => exact ⟨j + 1, by go_num, by omega, SX.out.drewN _⟩
      case measure => simp [intOf]; omega
    · have hlt' : ¬ (j : Int) < (L.length : Int) := by omega
      go_wp2_with fail
      go_ret
      exact ⟨rfl, SX.out⟩
end
end Go.Proofs.YtffjaaolcphonaaDoor
