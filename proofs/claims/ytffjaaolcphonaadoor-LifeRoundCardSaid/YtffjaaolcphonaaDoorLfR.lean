/- LifeRound: the walk. -/
import Derived.Test.YtffjaaolcphonaaDoorLfR0
namespace Go.Proofs.YtffjaaolcphonaaDoor
open Go.RowKit Go.Maps
set_option linter.unusedSimpArgs false
set_option maxRecDepth 100000 in
set_option maxHeartbeats 8000000 in
theorem lifeRound (w : World) (hT : TabD w) (hC : TabF w) (x y t : Int) (hx : 0 ≤ x ∧ x ≤ 255) (hy : 0 ≤ y ∧ y ≤ 255) (ht : 0 ≤ t ∧ t ≤ 65535) : Calls Tryd.prog 13 #[.int .u8 x, .int .u8 y, .int .u16 t] w fun e w' => e = .returned (.bool true) ∧ Still w w' := by
  have HT := hid hT
  have HC := hid hC
  have h7 := hid hT.lt
  have HN := hid (anew w 4 (by omega) (by omega))
  have wf : Hid ((Lit.int .i64 65536).wf = true) := hid (by decide)
  have ml : Hid ((1 : Nat) < maxLen) := hid (by decide)
  clear hT hC
  go_enter Tryd.func13, Tryd.ntmps13
  go_wp2_with fail
  refine HN.out.mono ?_
  rintro e w1 ⟨P, B, M, rfl, hA, hs, hn⟩
  have A1 := hid hA
  have S1 := hid hs
  have NN := hid hn
  have n7 : Hid (¬ B.foot 7) := hid (fun hf => by have := hn.b 7 hf; have := h7.out; omega)
  clear hA hs hn HN
  go_wp2_with fail
  obtain ⟨sp, hsp⟩ : ∃ sp, 1 + x % 15 = sp := ⟨_, rfl⟩
  have b1 : 1 ≤ sp := by omega
  have b2 : sp ≤ 15 := by omega
  rw [hsp]
  clear hsp
  refine (amake A1.out (by decide) (SI.zero 4 (by omega)) (HT.out.still S1.out) n7.out (fun _ h => by cases h) sp).mono ?_
  rintro e w2 ⟨he, h2, f2⟩
  have QQ := qq1 b1 (by omega)
  rw [QQ.1, QQ.2.1] at he
  rw [QQ.2.2.1, QQ.2.2.2] at h2
  subst he
  have A2 := hid h2
  have S2 := hid (S1.out.next f2 (fun k hk => hk.elim (NN.out.b k) (fun h => h ▸ NN.out.m)))
  clear h2 f2 QQ
  go_wp2_with fail
  refine (arun A2.out ml.out (HC.out.still S2.out) 65536 wf.out (fun z hz => by rw [List.mem_singleton.1 hz]; show (1 : Int) ≤ 1 ∧ (1 : Int) ≤ 5; decide) 3).mono ?_
  rintro e w3 ⟨he, h2, f2⟩
  rw [(qq2 sp).1] at he
  rw [(qq2 sp).2] at h2
  subst he
  have A3 := hid h2
  have S3 := hid (S2.out.next f2 (fun k hk => hk ▸ NN.out.m))
  clear h2 f2
  go_wp2_with fail
  obtain ⟨th, hth⟩ : ∃ th, 1 + t = th := ⟨_, rfl⟩
  have b3 : 1 ≤ th := by omega
  rw [hth]
  clear hth
  refine (aload A3.out ml.out 65536 wf.out th).mono ?_
  rintro e w4 ⟨he, h2, f2⟩
  have QQ := qq3 sp (th := th) (by omega)
  rw [QQ.1] at he
  rw [QQ.2] at h2
  subst he
  have A4 := hid h2
  have S4 := hid (S3.out.next f2 (fun k hk => hk ▸ NN.out.m))
  have IN := hid (SI.zero 4 (by omega)).take
  clear h2 f2 QQ
  have KEY : Hid (∀ (u : World) (z : Ac), z.i = 65536 → turnN 28 z.s = false → z.sp = sp → (1 ≤ z.s ∧ z.s ≤ 5) → AAt u P B M z1 [z] → Still w u → Calls Tryd.prog 68 #[.pointer (some ⟨P, 0, none⟩), .int .i64 65536] u fun e u' => e = .returned (.int .i64 0) ∧ AAt u' P B M z1 (r5 sp) ∧ Still w u') := hid (fun u z h1 h2 h3 h5 hA hs => (acache hA ml.out (HC.out.still hs) 65536 wf.out (fun q hq => by rw [List.mem_singleton.1 hq]; exact h5)).mono fun e u' ⟨he, h6, f6⟩ => by
    have QQ := qq5 sp (L := [z]) rfl h1 h2 h3
    rw [QQ.1] at he
    rw [QQ.2] at h6
    exact ⟨he, h6, hs.next f6 (fun k hk => hk ▸ NN.out.m)⟩)
  obtain ⟨m, hm⟩ : ∃ m, y % 3 = m := ⟨_, rfl⟩
  have mb : m = 0 ∨ m = 1 ∨ m = 2 := by omega
  rcases mb with rfl | rfl | rfl
  · go_wp2_with fail
    refine (ablock A4.out ml.out (HC.out.still S4.out) 65536 wf.out (fun z hz => by rw [List.mem_singleton.1 hz]; show (1 : Int) ≤ 2 ∧ (2 : Int) ≤ 5; decide)).mono ?_
    rintro e w5 ⟨he, h2, f2⟩
    have QQ := qq4b sp b3
    rw [QQ.1] at he
    rw [QQ.2] at h2
    subst he
    have A5 := hid h2
    have S5 := hid (S4.out.next f2 (fun k hk => hk ▸ NN.out.m))
    clear h2 f2 QQ
    go_wp2_with fail
    refine (KEY.out w5 ⟨65536, 3, sp, -1, th, c0⟩ rfl (by show turnN 28 3 = false; decide) rfl ⟨by show (1 : Int) ≤ 3; decide, by show (3 : Int) ≤ 5; decide⟩ A5.out S5.out).mono ?_
    rintro e w6 ⟨rfl, h6, s6⟩
    have A6 := hid h6
    have S6 := hid s6
    clear h6 s6
    go_wp2_with fail
    refine (acount A6.out (by show (1 : Nat) ≤ 1000000; decide) sp 5).mono ?_
    rintro e w7 ⟨he, s7⟩
    rw [qq6] at he
    subst he
    have S7 := hid (S6.out.trans s7)
    have A7 := hid (A6.out.still s7)
    clear s7
    go_wp2_with fail
    refine (amake A7.out (by show (1 : Nat) ≤ 100000; decide) IN.out (HT.out.still S7.out) n7.out (fun q hq => by rw [List.mem_singleton.1 hq]; exact wf.out) (sp + 1)).mono ?_
    rintro e w8 ⟨he, h2, f2⟩
    have QQ := qq7 b1 b2
    rw [QQ.1, QQ.2.1] at he
    rw [QQ.2.2.1, QQ.2.2.2] at h2
    subst he
    have A8 := hid h2
    have S8 := hid (S7.out.next f2 (fun k hk => hk.elim (NN.out.b k) (fun h => h ▸ NN.out.m)))
    clear h2 f2 QQ
    go_wp2_with fail
    refine (amake A8.out (by show (2 : Nat) ≤ 100000; decide) IN.out.take (HT.out.still S8.out) n7.out (fun q hq => by
      rcases List.mem_cons.1 hq with rfl | hq
      · exact wf.out
      · rw [List.mem_singleton.1 hq]; show (Lit.int .i64 65537).wf = true; decide) sp).mono ?_
    rintro e w9 ⟨he, h2, f2⟩
    have QQ := qq8 b1 b2
    rw [QQ.1, QQ.2.1] at he
    rw [QQ.2.2.1, QQ.2.2.2] at h2
    subst he
    have A9 := hid h2
    have S9 := hid (S8.out.next f2 (fun k hk => hk.elim (NN.out.b k) (fun h => h ▸ NN.out.m)))
    clear h2 f2 QQ
    go_wp2_with fail
    refine (adisc A9.out IN.out.take 65536 wf.out).mono ?_
    rintro e w10 ⟨he, h2, f2⟩
    have QQ := qq9 sp
    rw [QQ.1] at he
    rw [QQ.2.1, QQ.2.2] at h2
    subst he
    have A10 := hid h2
    have S10 := hid (S9.out.next f2 (fun k hk => hk.elim (fun h => h ▸ NN.out.m) (fun h => NN.out.b k (.inl h))))
    clear h2 f2 QQ
    go_wp2_with fail
    refine (adisc A10.out (IN.out.take.free 65536) 65536 wf.out).mono ?_
    rintro e w11 ⟨he, h2, f2⟩
    rw [qq10] at he
    subst he
    have S11 := hid (S10.out.next f2 (fun k hk => hk.elim (fun h => h ▸ NN.out.m) (fun h => NN.out.b k (.inl h))))
    clear h2 f2
    go_wp2_with (go_at_call 71; refine (alives _ (HT.out.still S11.out) (HC.out.still S11.out)).mono ?_; rintro e w' ⟨rfl, hs2⟩)
    go_ret
    exact ⟨rfl, S11.out.trans hs2⟩
  · go_wp2_with fail
    refine (apre A4.out ml.out (HC.out.still S4.out) 65536 wf.out (fun z hz => by rw [List.mem_singleton.1 hz]; show (1 : Int) ≤ 2 ∧ (2 : Int) ≤ 5; decide) cP).mono ?_
    rintro e w5 ⟨he, h2, f2⟩
    have QQ := qq4p sp th
    rw [QQ.1] at he
    rw [QQ.2] at h2
    subst he
    have A5 := hid h2
    have S5 := hid (S4.out.next f2 (fun k hk => hk ▸ NN.out.m))
    clear h2 f2 QQ
    go_wp2_with fail
    refine (KEY.out w5 ⟨65536, 4, sp, -1, th, cP⟩ rfl (by show turnN 28 4 = false; decide) rfl ⟨by show (1 : Int) ≤ 4; decide, by show (4 : Int) ≤ 5; decide⟩ A5.out S5.out).mono ?_
    rintro e w6 ⟨rfl, h6, s6⟩
    have A6 := hid h6
    have S6 := hid s6
    clear h6 s6
    go_wp2_with fail
    refine (acount A6.out (by show (1 : Nat) ≤ 1000000; decide) sp 5).mono ?_
    rintro e w7 ⟨he, s7⟩
    rw [qq6] at he
    subst he
    have S7 := hid (S6.out.trans s7)
    have A7 := hid (A6.out.still s7)
    clear s7
    go_wp2_with fail
    refine (amake A7.out (by show (1 : Nat) ≤ 100000; decide) IN.out (HT.out.still S7.out) n7.out (fun q hq => by rw [List.mem_singleton.1 hq]; exact wf.out) (sp + 1)).mono ?_
    rintro e w8 ⟨he, h2, f2⟩
    have QQ := qq7 b1 b2
    rw [QQ.1, QQ.2.1] at he
    rw [QQ.2.2.1, QQ.2.2.2] at h2
    subst he
    have A8 := hid h2
    have S8 := hid (S7.out.next f2 (fun k hk => hk.elim (NN.out.b k) (fun h => h ▸ NN.out.m)))
    clear h2 f2 QQ
    go_wp2_with fail
    refine (amake A8.out (by show (2 : Nat) ≤ 100000; decide) IN.out.take (HT.out.still S8.out) n7.out (fun q hq => by
      rcases List.mem_cons.1 hq with rfl | hq
      · exact wf.out
      · rw [List.mem_singleton.1 hq]; show (Lit.int .i64 65537).wf = true; decide) sp).mono ?_
    rintro e w9 ⟨he, h2, f2⟩
    have QQ := qq8 b1 b2
    rw [QQ.1, QQ.2.1] at he
    rw [QQ.2.2.1, QQ.2.2.2] at h2
    subst he
    have A9 := hid h2
    have S9 := hid (S8.out.next f2 (fun k hk => hk.elim (NN.out.b k) (fun h => h ▸ NN.out.m)))
    clear h2 f2 QQ
    go_wp2_with fail
    refine (adisc A9.out IN.out.take 65536 wf.out).mono ?_
    rintro e w10 ⟨he, h2, f2⟩
    have QQ := qq9 sp
    rw [QQ.1] at he
    rw [QQ.2.1, QQ.2.2] at h2
    subst he
    have A10 := hid h2
    have S10 := hid (S9.out.next f2 (fun k hk => hk.elim (fun h => h ▸ NN.out.m) (fun h => NN.out.b k (.inl h))))
    clear h2 f2 QQ
    go_wp2_with fail
    refine (adisc A10.out (IN.out.take.free 65536) 65536 wf.out).mono ?_
    rintro e w11 ⟨he, h2, f2⟩
    rw [qq10] at he
    subst he
    have S11 := hid (S10.out.next f2 (fun k hk => hk.elim (fun h => h ▸ NN.out.m) (fun h => NN.out.b k (.inl h))))
    clear h2 f2
    go_wp2_with (go_at_call 71; refine (alives _ (HT.out.still S11.out) (HC.out.still S11.out)).mono ?_; rintro e w' ⟨rfl, hs2⟩)
    go_ret
    exact ⟨rfl, S11.out.trans hs2⟩
  · go_wp2_with fail
    refine (KEY.out w4 ⟨65536, 2, sp, 3, th, c0⟩ rfl (by show turnN 28 2 = false; decide) rfl ⟨by show (1 : Int) ≤ 2; decide, by show (2 : Int) ≤ 5; decide⟩ A4.out S4.out).mono ?_
    rintro e w6 ⟨rfl, h6, s6⟩
    have A6 := hid h6
    have S6 := hid s6
    clear h6 s6
    go_wp2_with fail
    refine (acount A6.out (by show (1 : Nat) ≤ 1000000; decide) sp 5).mono ?_
    rintro e w7 ⟨he, s7⟩
    rw [qq6] at he
    subst he
    have S7 := hid (S6.out.trans s7)
    have A7 := hid (A6.out.still s7)
    clear s7
    go_wp2_with fail
    refine (amake A7.out (by show (1 : Nat) ≤ 100000; decide) IN.out (HT.out.still S7.out) n7.out (fun q hq => by rw [List.mem_singleton.1 hq]; exact wf.out) (sp + 1)).mono ?_
    rintro e w8 ⟨he, h2, f2⟩
    have QQ := qq7 b1 b2
    rw [QQ.1, QQ.2.1] at he
    rw [QQ.2.2.1, QQ.2.2.2] at h2
    subst he
    have A8 := hid h2
    have S8 := hid (S7.out.next f2 (fun k hk => hk.elim (NN.out.b k) (fun h => h ▸ NN.out.m)))
    clear h2 f2 QQ
    go_wp2_with fail
    refine (amake A8.out (by show (2 : Nat) ≤ 100000; decide) IN.out.take (HT.out.still S8.out) n7.out (fun q hq => by
      rcases List.mem_cons.1 hq with rfl | hq
      · exact wf.out
      · rw [List.mem_singleton.1 hq]; show (Lit.int .i64 65537).wf = true; decide) sp).mono ?_
    rintro e w9 ⟨he, h2, f2⟩
    have QQ := qq8 b1 b2
    rw [QQ.1, QQ.2.1] at he
    rw [QQ.2.2.1, QQ.2.2.2] at h2
    subst he
    have A9 := hid h2
    have S9 := hid (S8.out.next f2 (fun k hk => hk.elim (NN.out.b k) (fun h => h ▸ NN.out.m)))
    clear h2 f2 QQ
    go_wp2_with fail
    refine (adisc A9.out IN.out.take 65536 wf.out).mono ?_
    rintro e w10 ⟨he, h2, f2⟩
    have QQ := qq9 sp
    rw [QQ.1] at he
    rw [QQ.2.1, QQ.2.2] at h2
    subst he
    have A10 := hid h2
    have S10 := hid (S9.out.next f2 (fun k hk => hk.elim (fun h => h ▸ NN.out.m) (fun h => NN.out.b k (.inl h))))
    clear h2 f2 QQ
    go_wp2_with fail
    refine (adisc A10.out (IN.out.take.free 65536) 65536 wf.out).mono ?_
    rintro e w11 ⟨he, h2, f2⟩
    rw [qq10] at he
    subst he
    have S11 := hid (S10.out.next f2 (fun k hk => hk.elim (fun h => h ▸ NN.out.m) (fun h => NN.out.b k (.inl h))))
    clear h2 f2
    go_wp2_with (go_at_call 71; refine (alives _ (HT.out.still S11.out) (HC.out.still S11.out)).mono ?_; rintro e w' ⟨rfl, hs2⟩)
    go_ret
    exact ⟨rfl, S11.out.trans hs2⟩
end Go.Proofs.YtffjaaolcphonaaDoor
