/- Tables of threads that no call made. -/
import Derived.Test.YtffjaaolcphonaaDoorThrL
namespace Go.Proofs.YtffjaaolcphonaaDoor
open Go.RowKit Go.Maps
set_option linter.unusedSimpArgs false
def TNone (w : World) (v : Value) : Prop := v = .pointer none ∨ ∃ z, v = .pointer (some ⟨z, 0, none⟩) ∧ w.cell? ⟨z, 0, none⟩ = some (.pointer none)
theorem TNone.still {w w' : World} {v : Value} (h : TNone w v) (hs : Still w w') : TNone w' v := by
  rcases h with h | ⟨z, h, hc⟩
  · exact .inl h
  · exact .inr ⟨z, h, Still.cell hs hc⟩
theorem nmade (w : World) (v : Value) (h : TNone w v) : Calls Tryd.prog 94 #[v] w fun e w' => e = .returned (.bool false) ∧ w = w' := by
  rcases h with rfl | ⟨z, rfl, hc⟩
  · go_enter Tryd.func94, Tryd.ntmps94
    go_wp2
    go_ret
    exact ⟨rfl, rfl⟩
  · go_enter Tryd.func94, Tryd.ntmps94
    go_wp2
    go_ret
    exact ⟨rfl, rfl⟩
set_option maxRecDepth 100000 in
set_option maxHeartbeats 4000000 in
theorem nfind (w : World) (v : Value) (h : TNone w v) (id : Int) : Calls Tryd.prog 98 #[v, .int .i64 id] w fun e w' => e = .returned (.tuple #[(Value.agg #[.int .i64 t0.i, .int .i64 t0.s, .int .i64 t0.t, .int .i64 t0.c.p, .int .i64 t0.c.q, .int .i64 t0.c.r0, .int .i64 t0.c.r1, .int .i64 t0.c.r2, .int .i64 t0.c.r3, .int .i64 t0.c.r4, .int .i64 t0.c.r5, .int .i64 t0.c.r6, .int .i64 t0.c.r7, .int .i64 t0.c.d, .int .i64 t0.d]), .int .i64 1]) ∧ Still w w' := by
  have H := hid h
  clear h
  go_enter Tryd.func98, Tryd.ntmps98
  go_wp2_with fail
  refine (nmade _ v (H.out.still ((Fr.refl _ _).alloc _))).mono ?_
  rintro e w1 ⟨rfl, hw⟩
  have B1 : Hid (Blk w1 w.heap.size [.int .i64 t0.i, .int .i64 t0.s, .int .i64 t0.t, .int .i64 t0.c.p, .int .i64 t0.c.q, .int .i64 t0.c.r0, .int .i64 t0.c.r1, .int .i64 t0.c.r2, .int .i64 t0.c.r3, .int .i64 t0.c.r4, .int .i64 t0.c.r5, .int .i64 t0.c.r6, .int .i64 t0.c.r7, .int .i64 t0.c.d, .int .i64 t0.d] 77) := hid (hw ▸ new_t w)
  have S1 : Hid (Still w w1) := hid (hw ▸ (Fr.refl _ _).alloc _)
  clear hw
  go_wp2_with (refine wpList_storeW rfl (.tmp 4) (.tmp 11) 77 rfl _ 77 [.int .i64 t0.i, .int .i64 t0.s, .int .i64 t0.t, .int .i64 t0.c.p, .int .i64 t0.c.q, .int .i64 t0.c.r0, .int .i64 t0.c.r1, .int .i64 t0.c.r2, .int .i64 t0.c.r3, .int .i64 t0.c.r4, .int .i64 t0.c.r5, .int .i64 t0.c.r6, .int .i64 t0.c.r7, .int .i64 t0.c.d, .int .i64 t0.d] [.int .i64 t0.i, .int .i64 t0.s, .int .i64 t0.t, .int .i64 t0.c.p, .int .i64 t0.c.q, .int .i64 t0.c.r0, .int .i64 t0.c.r1, .int .i64 t0.c.r2, .int .i64 t0.c.r3, .int .i64 t0.c.r4, .int .i64 t0.c.r5, .int .i64 t0.c.r6, .int .i64 t0.c.r7, .int .i64 t0.c.d, .int .i64 t0.d] I77 (ones t0) rfl rfl B1.out rfl ?_; intro w4 b4 f4; have B4 := hid b4; have S4 : Hid (Still w w4) := hid (Still.next S1.out f4 (fun k hk => by rw [hk]; exact Nat.le_refl _)); clear b4 f4)
  (try simp only [Exit.inBlock, Exit.then]); refine bodyPost_ret (results_cell2 rfl _ _ w.heap.size 77 [.int .i64 t0.i, .int .i64 t0.s, .int .i64 t0.t, .int .i64 t0.c.p, .int .i64 t0.c.q, .int .i64 t0.c.r0, .int .i64 t0.c.r1, .int .i64 t0.c.r2, .int .i64 t0.c.r3, .int .i64 t0.c.r4, .int .i64 t0.c.r5, .int .i64 t0.c.r6, .int .i64 t0.c.r7, .int .i64 t0.c.d, .int .i64 t0.d] _ _ rfl rfl B4.out Tryd.underlying77 rfl I77) rfl ?_
  exact ⟨rfl, S4.out⟩
set_option maxRecDepth 100000 in
set_option maxHeartbeats 4000000 in
theorem nget (w : World) (v : Value) (h : TNone w v) (id : Int) : Calls Tryd.prog 56 #[v, .int .i64 id] w fun e w' => e = .returned (.tuple #[(Value.agg #[.int .i64 t0.i, .int .i64 t0.s, .int .i64 t0.t, .int .i64 t0.c.p, .int .i64 t0.c.q, .int .i64 t0.c.r0, .int .i64 t0.c.r1, .int .i64 t0.c.r2, .int .i64 t0.c.r3, .int .i64 t0.c.r4, .int .i64 t0.c.r5, .int .i64 t0.c.r6, .int .i64 t0.c.r7, .int .i64 t0.c.d, .int .i64 t0.d]), .bool false]) ∧ Still w w' := by
  have H := hid h
  clear h
  go_enter Tryd.func56, Tryd.ntmps56
  go_wp2_with fail
  refine (nfind _ v (H.out.still ((Fr.refl _ _).alloc _)) id).mono ?_
  rintro e w2 ⟨rfl, s2⟩
  have S2 := hid (((Fr.refl _ _).alloc _).trans s2)
  have B2 : Hid (Blk w2 w.heap.size [.int .i64 t0.i, .int .i64 t0.s, .int .i64 t0.t, .int .i64 t0.c.p, .int .i64 t0.c.q, .int .i64 t0.c.r0, .int .i64 t0.c.r1, .int .i64 t0.c.r2, .int .i64 t0.c.r3, .int .i64 t0.c.r4, .int .i64 t0.c.r5, .int .i64 t0.c.r6, .int .i64 t0.c.r7, .int .i64 t0.c.d, .int .i64 t0.d] 77) := hid ((new_t w).still s2)
  clear s2
  go_wp2_with (first
    | (refine wpList_storeW rfl (.tmp 6) (.tmp 12) 77 rfl _ 77 [.int .i64 t0.i, .int .i64 t0.s, .int .i64 t0.t, .int .i64 t0.c.p, .int .i64 t0.c.q, .int .i64 t0.c.r0, .int .i64 t0.c.r1, .int .i64 t0.c.r2, .int .i64 t0.c.r3, .int .i64 t0.c.r4, .int .i64 t0.c.r5, .int .i64 t0.c.r6, .int .i64 t0.c.r7, .int .i64 t0.c.d, .int .i64 t0.d] [.int .i64 t0.i, .int .i64 t0.s, .int .i64 t0.t, .int .i64 t0.c.p, .int .i64 t0.c.q, .int .i64 t0.c.r0, .int .i64 t0.c.r1, .int .i64 t0.c.r2, .int .i64 t0.c.r3, .int .i64 t0.c.r4, .int .i64 t0.c.r5, .int .i64 t0.c.r6, .int .i64 t0.c.r7, .int .i64 t0.c.d, .int .i64 t0.d] I77 (ones t0) rfl rfl (new_t _) rfl ?_; intro w3 b3 f3; have B3 := hid b3; have F3 := hid f3; clear b3 f3)
    | (refine wpList_loadW rfl (.tmp 6) 77 rfl _ Tryd.underlying77 rfl _ 77 [.int .i64 t0.i, .int .i64 t0.s, .int .i64 t0.t, .int .i64 t0.c.p, .int .i64 t0.c.q, .int .i64 t0.c.r0, .int .i64 t0.c.r1, .int .i64 t0.c.r2, .int .i64 t0.c.r3, .int .i64 t0.c.r4, .int .i64 t0.c.r5, .int .i64 t0.c.r6, .int .i64 t0.c.r7, .int .i64 t0.c.d, .int .i64 t0.d] I77 rfl B3.out ?_)
    | (refine wpList_storeW rfl (.tmp 4) (.tmp 14) 77 rfl _ 77 [.int .i64 t0.i, .int .i64 t0.s, .int .i64 t0.t, .int .i64 t0.c.p, .int .i64 t0.c.q, .int .i64 t0.c.r0, .int .i64 t0.c.r1, .int .i64 t0.c.r2, .int .i64 t0.c.r3, .int .i64 t0.c.r4, .int .i64 t0.c.r5, .int .i64 t0.c.r6, .int .i64 t0.c.r7, .int .i64 t0.c.d, .int .i64 t0.d] [.int .i64 t0.i, .int .i64 t0.s, .int .i64 t0.t, .int .i64 t0.c.p, .int .i64 t0.c.q, .int .i64 t0.c.r0, .int .i64 t0.c.r1, .int .i64 t0.c.r2, .int .i64 t0.c.r3, .int .i64 t0.c.r4, .int .i64 t0.c.r5, .int .i64 t0.c.r6, .int .i64 t0.c.r7, .int .i64 t0.c.d, .int .i64 t0.d] I77 (ones t0) rfl rfl ((B2.out.alloc _).fr F3.out (by have := B2.out.lt; omega)) rfl ?_; intro w4 b4 f4; have B4 := hid b4; have F4 := hid f4; clear b4 f4))
  have S4 : Hid (Still w w4) := hid (Still.next (Still.next (S2.out.trans ((Fr.refl _ _).alloc _)) F3.out (fun k hk => by rw [hk]; exact S2.out.size)) F4.out (fun k hk => by rw [hk]; exact Nat.le_refl _))
  (try simp only [Exit.inBlock, Exit.then]); refine bodyPost_ret (results_cell2 rfl _ _ w.heap.size 77 [.int .i64 t0.i, .int .i64 t0.s, .int .i64 t0.t, .int .i64 t0.c.p, .int .i64 t0.c.q, .int .i64 t0.c.r0, .int .i64 t0.c.r1, .int .i64 t0.c.r2, .int .i64 t0.c.r3, .int .i64 t0.c.r4, .int .i64 t0.c.r5, .int .i64 t0.c.r6, .int .i64 t0.c.r7, .int .i64 t0.c.d, .int .i64 t0.d] _ _ rfl rfl B4.out Tryd.underlying77 rfl I77) rfl ?_
  exact ⟨rfl, S4.out⟩
set_option maxRecDepth 100000 in
set_option maxHeartbeats 4000000 in
theorem nset (w : World) (v : Value) (h : TNone w v) (id : Int) (c : Ctx) : Calls Tryd.prog 60 #[v, .int .i64 id, (Value.agg #[.int .i64 c.p, .int .i64 c.q, .int .i64 c.r0, .int .i64 c.r1, .int .i64 c.r2, .int .i64 c.r3, .int .i64 c.r4, .int .i64 c.r5, .int .i64 c.r6, .int .i64 c.r7, .int .i64 c.d])] w fun e w' => e = .returned (.int .i64 1) ∧ Still w w' := by
  have H := hid h
  clear h
  go_enter Tryd.func60, Tryd.ntmps60
  go_wp2_with fail
  refine (nfind _ v (H.out.still ((Fr.refl _ _).alloc _)) id).mono ?_
  rintro e w2 ⟨rfl, s2⟩
  have S2 : Hid (Still w w2) := hid (((Fr.refl _ _).alloc _).trans s2)
  clear s2
  go_wp2_with (refine wpList_storeW rfl (.tmp 7) (.tmp 13) 77 rfl _ 77 [.int .i64 t0.i, .int .i64 t0.s, .int .i64 t0.t, .int .i64 t0.c.p, .int .i64 t0.c.q, .int .i64 t0.c.r0, .int .i64 t0.c.r1, .int .i64 t0.c.r2, .int .i64 t0.c.r3, .int .i64 t0.c.r4, .int .i64 t0.c.r5, .int .i64 t0.c.r6, .int .i64 t0.c.r7, .int .i64 t0.c.d, .int .i64 t0.d] [.int .i64 t0.i, .int .i64 t0.s, .int .i64 t0.t, .int .i64 t0.c.p, .int .i64 t0.c.q, .int .i64 t0.c.r0, .int .i64 t0.c.r1, .int .i64 t0.c.r2, .int .i64 t0.c.r3, .int .i64 t0.c.r4, .int .i64 t0.c.r5, .int .i64 t0.c.r6, .int .i64 t0.c.r7, .int .i64 t0.c.d, .int .i64 t0.d] I77 (ones t0) rfl rfl (new_t _) rfl ?_; intro w3 b3 f3; have S3 : Hid (Still w w3) := hid (Still.next (S2.out.trans ((Fr.refl _ _).alloc _)) f3 (fun k hk => by rw [hk]; exact S2.out.size)); clear b3 f3)
  go_ret
  exact ⟨rfl, S3.out⟩
set_option maxRecDepth 100000 in
set_option maxHeartbeats 4000000 in
theorem ndid (w : World) (v : Value) (h : TNone w v) (id : Int) (c : Ctx) : Calls Tryd.prog 61 #[v, .int .i64 id, (Value.agg #[.int .i64 c.p, .int .i64 c.q, .int .i64 c.r0, .int .i64 c.r1, .int .i64 c.r2, .int .i64 c.r3, .int .i64 c.r4, .int .i64 c.r5, .int .i64 c.r6, .int .i64 c.r7, .int .i64 c.d])] w fun e w' => e = .returned (.int .i64 1) ∧ Still w w' := by
  have H := hid h
  clear h
  go_enter Tryd.func61, Tryd.ntmps61
  go_wp2_with fail
  refine (nfind _ v (H.out.still ((Fr.refl _ _).alloc _)) id).mono ?_
  rintro e w2 ⟨rfl, s2⟩
  have S2 : Hid (Still w w2) := hid (((Fr.refl _ _).alloc _).trans s2)
  clear s2
  go_wp2_with (refine wpList_storeW rfl (.tmp 7) (.tmp 13) 77 rfl _ 77 [.int .i64 t0.i, .int .i64 t0.s, .int .i64 t0.t, .int .i64 t0.c.p, .int .i64 t0.c.q, .int .i64 t0.c.r0, .int .i64 t0.c.r1, .int .i64 t0.c.r2, .int .i64 t0.c.r3, .int .i64 t0.c.r4, .int .i64 t0.c.r5, .int .i64 t0.c.r6, .int .i64 t0.c.r7, .int .i64 t0.c.d, .int .i64 t0.d] [.int .i64 t0.i, .int .i64 t0.s, .int .i64 t0.t, .int .i64 t0.c.p, .int .i64 t0.c.q, .int .i64 t0.c.r0, .int .i64 t0.c.r1, .int .i64 t0.c.r2, .int .i64 t0.c.r3, .int .i64 t0.c.r4, .int .i64 t0.c.r5, .int .i64 t0.c.r6, .int .i64 t0.c.r7, .int .i64 t0.c.d, .int .i64 t0.d] I77 (ones t0) rfl rfl (new_t _) rfl ?_; intro w3 b3 f3; have S3 : Hid (Still w w3) := hid (Still.next (S2.out.trans ((Fr.refl _ _).alloc _)) f3 (fun k hk => by rw [hk]; exact S2.out.size)); clear b3 f3)
  go_ret
  exact ⟨rfl, S3.out⟩
set_option maxRecDepth 100000 in
set_option maxHeartbeats 4000000 in
theorem nturn (w : World) (v : Value) (h : TNone w v) (id : Int) (fr tz : Int) : Calls Tryd.prog 97 #[v, .int .i64 id, Value.agg #[.int .i64 fr, .int .i64 tz]] w fun e w' => e = .returned (.int .i64 1) ∧ Still w w' := by
  have H := hid h
  clear h
  go_enter Tryd.func97, Tryd.ntmps97
  go_wp2_with fail
  refine (nfind _ v (H.out.still ((Fr.refl _ _).alloc _)) id).mono ?_
  rintro e w2 ⟨rfl, s2⟩
  have S2 : Hid (Still w w2) := hid (((Fr.refl _ _).alloc _).trans s2)
  clear s2
  go_wp2_with (refine wpList_storeW rfl (.tmp 7) (.tmp 13) 77 rfl _ 77 [.int .i64 t0.i, .int .i64 t0.s, .int .i64 t0.t, .int .i64 t0.c.p, .int .i64 t0.c.q, .int .i64 t0.c.r0, .int .i64 t0.c.r1, .int .i64 t0.c.r2, .int .i64 t0.c.r3, .int .i64 t0.c.r4, .int .i64 t0.c.r5, .int .i64 t0.c.r6, .int .i64 t0.c.r7, .int .i64 t0.c.d, .int .i64 t0.d] [.int .i64 t0.i, .int .i64 t0.s, .int .i64 t0.t, .int .i64 t0.c.p, .int .i64 t0.c.q, .int .i64 t0.c.r0, .int .i64 t0.c.r1, .int .i64 t0.c.r2, .int .i64 t0.c.r3, .int .i64 t0.c.r4, .int .i64 t0.c.r5, .int .i64 t0.c.r6, .int .i64 t0.c.r7, .int .i64 t0.c.d, .int .i64 t0.d] I77 (ones t0) rfl rfl (new_t _) rfl ?_; intro w3 b3 f3; have S3 : Hid (Still w w3) := hid (Still.next (S2.out.trans ((Fr.refl _ _).alloc _)) f3 (fun k hk => by rw [hk]; exact S2.out.size)); clear b3 f3)
  go_ret
  exact ⟨rfl, S3.out⟩
set_option maxRecDepth 100000 in
set_option maxHeartbeats 4000000 in
theorem nend (w : World) (v : Value) (h : TNone w v) (id : Int)  : Calls Tryd.prog 52 #[v, .int .i64 id] w fun e w' => e = .returned (.int .i64 1) ∧ Still w w' := by
  have H := hid h
  clear h
  go_enter Tryd.func52, Tryd.ntmps52
  go_wp2_with fail
  refine (nfind _ v (H.out.still (Fr.refl _ _)) id).mono ?_
  rintro e w2 ⟨rfl, s2⟩
  have S2 : Hid (Still w w2) := hid ((Fr.refl _ _).trans s2)
  clear s2
  go_wp2_with (refine wpList_storeW rfl (.tmp 5) (.tmp 11) 77 rfl _ 77 [.int .i64 t0.i, .int .i64 t0.s, .int .i64 t0.t, .int .i64 t0.c.p, .int .i64 t0.c.q, .int .i64 t0.c.r0, .int .i64 t0.c.r1, .int .i64 t0.c.r2, .int .i64 t0.c.r3, .int .i64 t0.c.r4, .int .i64 t0.c.r5, .int .i64 t0.c.r6, .int .i64 t0.c.r7, .int .i64 t0.c.d, .int .i64 t0.d] [.int .i64 t0.i, .int .i64 t0.s, .int .i64 t0.t, .int .i64 t0.c.p, .int .i64 t0.c.q, .int .i64 t0.c.r0, .int .i64 t0.c.r1, .int .i64 t0.c.r2, .int .i64 t0.c.r3, .int .i64 t0.c.r4, .int .i64 t0.c.r5, .int .i64 t0.c.r6, .int .i64 t0.c.r7, .int .i64 t0.c.d, .int .i64 t0.d] I77 (ones t0) rfl rfl (new_t _) rfl ?_; intro w3 b3 f3; have S3 : Hid (Still w w3) := hid (Still.next (S2.out.trans ((Fr.refl _ _).alloc _)) f3 (fun k hk => by rw [hk]; exact S2.out.size)); clear b3 f3)
  go_ret
  exact ⟨rfl, S3.out⟩
theorem nrun (w : World) (v : Value) (h : TNone w v) (hT : TabT w) (id : Int) : Calls Tryd.prog 46 #[v, .int .i64 id] w fun e w' => e = .returned (.int .i64 1) ∧ Still w w' := by
  have c0 : w.cell? ⟨0, 0, none⟩ = some (.int .i64 2) := (hT 0 (by decide)).1
  have c1 : w.cell? ⟨0, 1, none⟩ = some (.int .i64 2) := (hT 0 (by decide)).2
  have T := hid (nturn w v h id 2 2)
  clear h hT
  go_enter Tryd.func46, Tryd.ntmps46
  go_wp2_with fail
  refine T.out.mono ?_
  rintro e w2 ⟨rfl, f2⟩
  have F2 := hid f2
  clear f2
  go_wp2_with fail
  go_ret
  exact ⟨rfl, F2.out⟩
theorem nyield (w : World) (v : Value) (h : TNone w v) (hT : TabT w) (id : Int) : Calls Tryd.prog 47 #[v, .int .i64 id] w fun e w' => e = .returned (.int .i64 1) ∧ Still w w' := by
  have c0 : w.cell? ⟨1, 0, none⟩ = some (.int .i64 4) := (hT 1 (by decide)).1
  have c1 : w.cell? ⟨1, 1, none⟩ = some (.int .i64 1) := (hT 1 (by decide)).2
  have T := hid (nturn w v h id 4 1)
  clear h hT
  go_enter Tryd.func47, Tryd.ntmps47
  go_wp2_with fail
  refine T.out.mono ?_
  rintro e w2 ⟨rfl, f2⟩
  have F2 := hid f2
  clear f2
  go_wp2_with fail
  go_ret
  exact ⟨rfl, F2.out⟩
theorem nwait (w : World) (v : Value) (h : TNone w v) (hT : TabT w) (id : Int) : Calls Tryd.prog 48 #[v, .int .i64 id] w fun e w' => e = .returned (.int .i64 1) ∧ Still w w' := by
  have c0 : w.cell? ⟨2, 0, none⟩ = some (.int .i64 4) := (hT 2 (by decide)).1
  have c1 : w.cell? ⟨2, 1, none⟩ = some (.int .i64 3) := (hT 2 (by decide)).2
  have T := hid (nturn w v h id 4 3)
  clear h hT
  go_enter Tryd.func48, Tryd.ntmps48
  go_wp2_with fail
  refine T.out.mono ?_
  rintro e w2 ⟨rfl, f2⟩
  have F2 := hid f2
  clear f2
  go_wp2_with fail
  go_ret
  exact ⟨rfl, F2.out⟩
theorem ntrap (w : World) (v : Value) (h : TNone w v) (hT : TabT w) (id : Int) : Calls Tryd.prog 49 #[v, .int .i64 id] w fun e w' => e = .returned (.int .i64 1) ∧ Still w w' := by
  have c0 : w.cell? ⟨3, 0, none⟩ = some (.int .i64 4) := (hT 3 (by decide)).1
  have c1 : w.cell? ⟨3, 1, none⟩ = some (.int .i64 4) := (hT 3 (by decide)).2
  have T := hid (nturn w v h id 4 4)
  clear h hT
  go_enter Tryd.func49, Tryd.ntmps49
  go_wp2_with fail
  refine T.out.mono ?_
  rintro e w2 ⟨rfl, f2⟩
  have F2 := hid f2
  clear f2
  go_wp2_with fail
  go_ret
  exact ⟨rfl, F2.out⟩
theorem nwake (w : World) (v : Value) (h : TNone w v) (hT : TabT w) (id : Int) : Calls Tryd.prog 50 #[v, .int .i64 id] w fun e w' => e = .returned (.int .i64 1) ∧ Still w w' := by
  have c0 : w.cell? ⟨4, 0, none⟩ = some (.int .i64 24) := (hT 4 (by decide)).1
  have c1 : w.cell? ⟨4, 1, none⟩ = some (.int .i64 1) := (hT 4 (by decide)).2
  have T := hid (nturn w v h id 24 1)
  clear h hT
  go_enter Tryd.func50, Tryd.ntmps50
  go_wp2_with fail
  refine T.out.mono ?_
  rintro e w2 ⟨rfl, f2⟩
  have F2 := hid f2
  clear f2
  go_wp2_with fail
  go_ret
  exact ⟨rfl, F2.out⟩
theorem nback (w : World) (v : Value) (h : TNone w v) (hT : TabT w) (id : Int) : Calls Tryd.prog 51 #[v, .int .i64 id] w fun e w' => e = .returned (.int .i64 1) ∧ Still w w' := by
  have c0 : w.cell? ⟨5, 0, none⟩ = some (.int .i64 16) := (hT 5 (by decide)).1
  have c1 : w.cell? ⟨5, 1, none⟩ = some (.int .i64 2) := (hT 5 (by decide)).2
  have T := hid (nturn w v h id 16 2)
  clear h hT
  go_enter Tryd.func51, Tryd.ntmps51
  go_wp2_with fail
  refine T.out.mono ?_
  rintro e w2 ⟨rfl, f2⟩
  have F2 := hid f2
  clear f2
  go_wp2_with fail
  go_ret
  exact ⟨rfl, F2.out⟩
theorem nspawn (w : World) (v : Value) (h : TNone w v) (c : Ctx) (tk : Int) : Calls Tryd.prog 45 #[v, (Value.agg #[.int .i64 c.p, .int .i64 c.q, .int .i64 c.r0, .int .i64 c.r1, .int .i64 c.r2, .int .i64 c.r3, .int .i64 c.r4, .int .i64 c.r5, .int .i64 c.r6, .int .i64 c.r7, .int .i64 c.d]), .int .i64 tk] w fun e w' => e = .returned (.tuple #[.int .i64 0, .int .i64 1]) ∧ Still w w' := by
  have H := hid h
  clear h
  go_enter Tryd.func45, Tryd.ntmps45
  go_wp2_with fail
  refine (nmade _ v (H.out.still ((Fr.refl _ _).alloc _))).mono ?_
  rintro e w1 ⟨rfl, hw⟩
  have S1 : Hid (Still w w1) := hid (hw ▸ (Fr.refl _ _).alloc _)
  clear hw
  go_wp2_with fail
  go_ret2
  exact ⟨rfl, S1.out⟩
theorem ncount (w : World) (v : Value) (h : TNone w v) (st : Int) : Calls Tryd.prog 54 #[v, .int .i64 st] w fun e w' => e = .returned (.int .i64 0) ∧ Still w w' := by
  have H := hid (nmade w v h)
  clear h
  go_enter Tryd.func54, Tryd.ntmps54
  go_wp2_with fail
  refine H.out.mono ?_
  rintro e w1 ⟨rfl, rfl⟩
  go_wp2_with fail
  go_ret
  exact ⟨rfl, Fr.refl _ _⟩
theorem nall (w : World) (v : Value) (h : TNone w v)  : Calls Tryd.prog 43 #[v] w fun e w' => e = .returned (.slice none 0 0) ∧ Still w w' := by
  have H := hid (nmade w v h)
  clear h
  go_enter Tryd.func43, Tryd.ntmps43
  go_wp2_with fail
  refine H.out.mono ?_
  rintro e w1 ⟨rfl, rfl⟩
  go_wp2_with fail
  go_ret
  exact ⟨rfl, Fr.refl _ _⟩
theorem ncopy (w : World) (v : Value) (h : TNone w v)  : Calls Tryd.prog 58 #[v] w fun e w' => e = .returned (.pointer none) ∧ Still w w' := by
  have H := hid (nmade w v h)
  clear h
  go_enter Tryd.func58, Tryd.ntmps58
  go_wp2_with fail
  refine H.out.mono ?_
  rintro e w1 ⟨rfl, rfl⟩
  go_wp2_with fail
  go_ret
  exact ⟨rfl, Fr.refl _ _⟩
end Go.Proofs.YtffjaaolcphonaaDoor
