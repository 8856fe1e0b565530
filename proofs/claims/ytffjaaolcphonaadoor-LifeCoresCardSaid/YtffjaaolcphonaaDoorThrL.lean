/- law22.lives. -/
import Derived.Test.YtffjaaolcphonaaDoorBdThr
namespace Go.Proofs.YtffjaaolcphonaaDoor
open Go.RowKit Go.Maps
set_option linter.unusedSimpArgs false
def u1 : List Thr := [⟨65536, 1, 1, c0, 0⟩]
def u2 : List Thr := [⟨65536, 2, 1, c0, 0⟩]
def u3 : List Thr := [⟨65536, 4, 1, c0, 0⟩]
theorem l_sp : spV (zeroS 2 2) 1 = 65536 ∧ spE (zeroS 2 2) 1 = 0 ∧ spL (zeroS 2 2) [] c0 1 = u1 := by decide +kernel
theorem l_run : turnE u1 65536 2 = 0 ∧ turnL u1 65536 2 2 = u2 := by decide +kernel
theorem l_trap : turnE u2 65536 4 = 0 ∧ turnL u2 65536 4 4 = u3 := by decide +kernel
theorem l_wake : turnE u3 65536 24 = 0 ∧ turnL u3 65536 24 1 = u1 := by decide +kernel
theorem l_get : fndT u1 65536 = ⟨65536, 1, 1, c0, 0⟩ ∧ fndE u1 65536 = 0 := by decide +kernel
theorem u_s : (∀ x ∈ u1, 1 ≤ x.s ∧ x.s ≤ 4) ∧ (∀ x ∈ u2, 1 ≤ x.s ∧ x.s ≤ 4) ∧ (∀ x ∈ u3, 1 ≤ x.s ∧ x.s ≤ 4) := by decide +kernel
set_option maxRecDepth 100000 in
set_option maxHeartbeats 4000000 in
theorem tlives (w : World) (hT : TabD w) (hC : TabT w) : Calls Tryd.prog 40 #[] w fun e w' => e = .returned (.bool true) ∧ Still w w' := by
  have HT := hid hT
  have HC := hid hC
  have h7 := hid hT.lt
  have HN := hid (tnew w 2 (by omega) (by omega))
  have wf : Hid ((Lit.int .i64 65536).wf = true) := hid (by decide)
  have ml : Hid ((1 : Nat) < maxLen) := hid (by decide)
  clear hT hC
  go_enter Tryd.func40, Tryd.ntmps40
  go_wp2_with fail
  refine HN.out.mono ?_
  rintro e w1 ⟨P, B, M, rfl, hA, hs, hn⟩
  have A1 := hid hA
  have S1 := hid hs
  have NN := hid hn
  have n7 : Hid (¬ B.foot 7) := hid (fun hf => by have := hn.b 7 hf; have := h7.out; omega)
  clear hA hs hn HN
  go_wp2_with fail
  refine (tspawn A1.out (by decide) (SI.zero 2 (by omega)) (HT.out.still S1.out) n7.out c0 1).mono ?_
  rintro e w2 ⟨he, h2, f2⟩
  rw [l_sp.1, l_sp.2.1] at he
  rw [l_sp.2.2] at h2
  subst he
  have A2 := hid h2
  have S2 := hid (S1.out.next f2 (fun k hk => hk.elim (NN.out.b k) (fun h => h ▸ NN.out.m)))
  clear h2 f2
  go_wp2_with fail
  refine (trun A2.out ml.out (HC.out.still S2.out) 65536 wf.out u_s.1).mono ?_
  rintro e w3 ⟨he, h2, f2⟩
  rw [l_run.1] at he
  rw [l_run.2] at h2
  subst he
  have A3 := hid h2
  have S3 := hid (S2.out.next f2 (fun k hk => hk ▸ NN.out.m))
  clear h2 f2
  go_wp2_with fail
  refine (ttrap A3.out ml.out (HC.out.still S3.out) 65536 wf.out u_s.2.1).mono ?_
  rintro e w4 ⟨he, h2, f2⟩
  rw [l_trap.1] at he
  rw [l_trap.2] at h2
  subst he
  have A4 := hid h2
  have S4 := hid (S3.out.next f2 (fun k hk => hk ▸ NN.out.m))
  clear h2 f2
  go_wp2_with fail
  refine (twake A4.out ml.out (HC.out.still S4.out) 65536 wf.out u_s.2.2).mono ?_
  rintro e w5 ⟨he, h2, f2⟩
  rw [l_wake.1] at he
  rw [l_wake.2] at h2
  subst he
  have A5 := hid h2
  have S5 := hid (S4.out.next f2 (fun k hk => hk ▸ NN.out.m))
  clear h2 f2
  go_wp2_with fail
  refine (tget A5.out 65536 wf.out).mono ?_
  rintro e w6 ⟨he, s6⟩
  rw [l_get.1, l_get.2] at he
  subst he
  have S6 := hid (S5.out.trans s6)
  clear s6
  go_wp2_with (refine wpList_storeW rfl (.tmp 7) (.tmp 29) 77 rfl _ 77 [.int .i64 t0.i, .int .i64 t0.s, .int .i64 t0.t, .int .i64 t0.c.p, .int .i64 t0.c.q, .int .i64 t0.c.r0, .int .i64 t0.c.r1, .int .i64 t0.c.r2, .int .i64 t0.c.r3, .int .i64 t0.c.r4, .int .i64 t0.c.r5, .int .i64 t0.c.r6, .int .i64 t0.c.r7, .int .i64 t0.c.d, .int .i64 t0.d] [.int .i64 65536, .int .i64 1, .int .i64 1, .int .i64 0, .int .i64 0, .int .i64 0, .int .i64 0, .int .i64 0, .int .i64 0, .int .i64 0, .int .i64 0, .int .i64 0, .int .i64 0, .int .i64 0, .int .i64 0] I77 (ones ⟨65536, 1, 1, c0, 0⟩) rfl rfl (new_t _) rfl ?_; intro w7 b7 f7; have d1 : w7.cell? ⟨w6.heap.size, 1, none⟩ = some (.int .i64 1) := b7.cell 1; have S7 : Hid (Still w w7) := hid (Still.next (S6.out.alloc _) f7 (fun k hk => by rw [hk]; exact S6.out.size)); clear b7 f7)
  go_ret
  exact ⟨rfl, S7.out⟩
end Go.Proofs.YtffjaaolcphonaaDoor
