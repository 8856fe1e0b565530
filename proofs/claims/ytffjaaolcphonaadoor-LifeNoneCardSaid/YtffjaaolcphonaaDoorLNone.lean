/- Tables of activations that no call made. -/
import Derived.Test.YtffjaaolcphonaaDoorBdLf
import Derived.Test.YtffjaaolcphonaaDoorTNone
namespace Go.Proofs.YtffjaaolcphonaaDoor
open Go.RowKit Go.Maps
set_option linter.unusedSimpArgs false
theorem n1made (w : World) (v : Value) (h : TNone w v) : Calls Tryd.prog 102 #[v] w fun e w' => e = .returned (.bool false) ∧ w = w' := by
  rcases h with rfl | ⟨z, rfl, hc⟩
  · go_enter Tryd.func102, Tryd.ntmps102
    go_wp2
    go_ret
    exact ⟨rfl, rfl⟩
  · go_enter Tryd.func102, Tryd.ntmps102
    go_wp2
    go_ret
    exact ⟨rfl, rfl⟩
set_option maxRecDepth 100000 in
set_option maxHeartbeats 4000000 in
theorem n1get (w : World) (v : Value) (h : TNone w v) (id : Int) : Calls Tryd.prog 78 #[v, .int .i64 id] w fun e w' => e = .returned (.tuple #[(Value.agg #[.int .i64 a0.i, .int .i64 a0.s, .int .i64 a0.sp, .int .i64 a0.co, .int .i64 a0.th, .int .i64 a0.c.p, .int .i64 a0.c.q, .int .i64 a0.c.r0, .int .i64 a0.c.r1, .int .i64 a0.c.r2, .int .i64 a0.c.r3, .int .i64 a0.c.r4, .int .i64 a0.c.r5, .int .i64 a0.c.r6, .int .i64 a0.c.r7, .int .i64 a0.c.d]), .bool false]) ∧ Still w w' := by
  have H := hid h
  clear h
  go_enter Tryd.func78, Tryd.ntmps78
  go_wp2_with fail
  refine (n1made _ v (H.out.still ((Fr.refl _ _).alloc _))).mono ?_
  rintro e w1 ⟨rfl, hw⟩
  have B1 : Hid (Blk w1 w.heap.size [.int .i64 a0.i, .int .i64 a0.s, .int .i64 a0.sp, .int .i64 a0.co, .int .i64 a0.th, .int .i64 a0.c.p, .int .i64 a0.c.q, .int .i64 a0.c.r0, .int .i64 a0.c.r1, .int .i64 a0.c.r2, .int .i64 a0.c.r3, .int .i64 a0.c.r4, .int .i64 a0.c.r5, .int .i64 a0.c.r6, .int .i64 a0.c.r7, .int .i64 a0.c.d] 111) := hid (hw ▸ new_a w)
  have S1 : Hid (Still w w1) := hid (hw ▸ (Fr.refl _ _).alloc _)
  clear hw
  go_wp2_with (refine wpList_storeW rfl (.tmp 4) (.tmp 11) 111 rfl _ 111 [.int .i64 a0.i, .int .i64 a0.s, .int .i64 a0.sp, .int .i64 a0.co, .int .i64 a0.th, .int .i64 a0.c.p, .int .i64 a0.c.q, .int .i64 a0.c.r0, .int .i64 a0.c.r1, .int .i64 a0.c.r2, .int .i64 a0.c.r3, .int .i64 a0.c.r4, .int .i64 a0.c.r5, .int .i64 a0.c.r6, .int .i64 a0.c.r7, .int .i64 a0.c.d] [.int .i64 a0.i, .int .i64 a0.s, .int .i64 a0.sp, .int .i64 a0.co, .int .i64 a0.th, .int .i64 a0.c.p, .int .i64 a0.c.q, .int .i64 a0.c.r0, .int .i64 a0.c.r1, .int .i64 a0.c.r2, .int .i64 a0.c.r3, .int .i64 a0.c.r4, .int .i64 a0.c.r5, .int .i64 a0.c.r6, .int .i64 a0.c.r7, .int .i64 a0.c.d] I111 (onesA a0) rfl rfl B1.out rfl ?_; intro w4 b4 f4; have B4 := hid b4; have S4 : Hid (Still w w4) := hid (Still.next S1.out f4 (fun k hk => by rw [hk]; exact Nat.le_refl _)); clear b4 f4)
  (try simp only [Exit.inBlock, Exit.then]); refine bodyPost_ret (results_cell2 rfl _ _ w.heap.size 111 [.int .i64 a0.i, .int .i64 a0.s, .int .i64 a0.sp, .int .i64 a0.co, .int .i64 a0.th, .int .i64 a0.c.p, .int .i64 a0.c.q, .int .i64 a0.c.r0, .int .i64 a0.c.r1, .int .i64 a0.c.r2, .int .i64 a0.c.r3, .int .i64 a0.c.r4, .int .i64 a0.c.r5, .int .i64 a0.c.r6, .int .i64 a0.c.r7, .int .i64 a0.c.d] _ _ rfl rfl B4.out Tryd.underlying111 rfl I111) rfl ?_
  exact ⟨rfl, S4.out⟩
set_option maxRecDepth 100000 in
theorem n1turn (w : World) (v : Value) (h : TNone w v) (id st : Int) (c : Value) : Calls Tryd.prog 104 #[v, .int .i64 id, .int .i64 st, c] w fun e w' => e = .returned (.int .i64 1) ∧ Still w w' := by
  have H := hid (n1made w v h)
  clear h
  go_enter Tryd.func104, Tryd.ntmps104
  go_wp2_with fail
  refine H.out.mono ?_
  rintro e w1 ⟨rfl, rfl⟩
  go_wp2_with fail
  go_ret
  exact ⟨rfl, Fr.refl _ _⟩
set_option maxRecDepth 100000 in
theorem n1make (w : World) (v : Value) (h : TNone w v) (sp : Int) : Calls Tryd.prog 63 #[v, .int .i64 sp] w fun e w' => e = .returned (.tuple #[.int .i64 0, .int .i64 1]) ∧ Still w w' := by
  have H := hid (n1made w v h)
  clear h
  go_enter Tryd.func63, Tryd.ntmps63
  go_wp2_with fail
  refine H.out.mono ?_
  rintro e w1 ⟨rfl, rfl⟩
  go_wp2_with fail
  go_ret2
  exact ⟨rfl, Fr.refl _ _⟩
set_option maxRecDepth 100000 in
theorem n1load (w : World) (v : Value) (h : TNone w v) (id th : Int) : Calls Tryd.prog 65 #[v, .int .i64 id, .int .i64 th] w fun e w' => e = .returned (.int .i64 1) ∧ Still w w' := by
  have H := hid (n1made w v h)
  clear h
  go_enter Tryd.func65, Tryd.ntmps65
  go_wp2_with fail
  refine H.out.mono ?_
  rintro e w1 ⟨rfl, rfl⟩
  go_wp2_with fail
  go_ret
  exact ⟨rfl, Fr.refl _ _⟩
set_option maxRecDepth 100000 in
theorem n1disc (w : World) (v : Value) (h : TNone w v) (id : Int) : Calls Tryd.prog 70 #[v, .int .i64 id] w fun e w' => e = .returned (.int .i64 1) ∧ Still w w' := by
  have H := hid (n1made w v h)
  clear h
  go_enter Tryd.func70, Tryd.ntmps70
  go_wp2_with fail
  refine H.out.mono ?_
  rintro e w1 ⟨rfl, rfl⟩
  go_wp2_with fail
  go_ret
  exact ⟨rfl, Fr.refl _ _⟩
set_option maxRecDepth 100000 in
theorem n1drop (w : World) (v : Value) (h : TNone w v) (sp : Int) : Calls Tryd.prog 82 #[v, .int .i64 sp] w fun e w' => e = .returned (.int .i64 0) ∧ Still w w' := by
  have H := hid (n1made w v h)
  clear h
  go_enter Tryd.func82, Tryd.ntmps82
  go_wp2_with fail
  refine H.out.mono ?_
  rintro e w1 ⟨rfl, rfl⟩
  go_wp2_with fail
  go_ret
  exact ⟨rfl, Fr.refl _ _⟩
set_option maxRecDepth 100000 in
theorem n1count (w : World) (v : Value) (h : TNone w v) (sp st : Int) : Calls Tryd.prog 69 #[v, .int .i64 sp, .int .i64 st] w fun e w' => e = .returned (.int .i64 0) ∧ Still w w' := by
  have H := hid (n1made w v h)
  clear h
  go_enter Tryd.func69, Tryd.ntmps69
  go_wp2_with fail
  refine H.out.mono ?_
  rintro e w1 ⟨rfl, rfl⟩
  go_wp2_with fail
  go_ret
  exact ⟨rfl, Fr.refl _ _⟩
set_option maxRecDepth 100000 in
theorem n1all (w : World) (v : Value) (h : TNone w v) : Calls Tryd.prog 74 #[v] w fun e w' => e = .returned (.slice none 0 0) ∧ Still w w' := by
  have H := hid (n1made w v h)
  clear h
  go_enter Tryd.func74, Tryd.ntmps74
  go_wp2_with fail
  refine H.out.mono ?_
  rintro e w1 ⟨rfl, rfl⟩
  go_wp2_with fail
  go_ret
  exact ⟨rfl, Fr.refl _ _⟩
set_option maxRecDepth 100000 in
theorem n1copy (w : World) (v : Value) (h : TNone w v) : Calls Tryd.prog 80 #[v] w fun e w' => e = .returned (.pointer none) ∧ Still w w' := by
  have H := hid (n1made w v h)
  clear h
  go_enter Tryd.func80, Tryd.ntmps80
  go_wp2_with fail
  refine H.out.mono ?_
  rintro e w1 ⟨rfl, rfl⟩
  go_wp2_with fail
  go_ret
  exact ⟨rfl, Fr.refl _ _⟩
theorem n1runP (w : World) (z : Option Addr) (h : TNone w (.pointer z)) (id core : Int) : Calls Tryd.prog 64 #[.pointer z, .int .i64 id, .int .i64 core] w fun e w' => e = .returned (.int .i64 1) ∧ Still w w' := by
  have T := hid (fun (u : World) (hu : Still w u) (st : Int) (c : Value) => n1turn u (.pointer z) (h.still hu) id st c)
  clear h
  go_enter Tryd.func64, Tryd.ntmps64
  go_wp2_with fail
  refine (T.out _ (((Fr.refl _ _).alloc _).alloc _) 2 (.func (.func 105) #[] #[.pointer (some ⟨w.heap.size + 1, 0, none⟩), .pointer (some ⟨w.heap.size, 0, none⟩)])).mono ?_
  rintro e w2 ⟨rfl, s2⟩
  have S2 : Hid (Still w w2) := hid ((((Fr.refl _ _).alloc _).alloc _).trans s2)
  clear s2
  go_wp2_with fail
  go_ret
  exact ⟨rfl, S2.out⟩
theorem n1run (w : World) (v : Value) (h : TNone w v) (id core : Int) : Calls Tryd.prog 64 #[v, .int .i64 id, .int .i64 core] w fun e w' => e = .returned (.int .i64 1) ∧ Still w w' := by
  rcases h with rfl | ⟨z, rfl, hc⟩
  · exact n1runP w none (.inl rfl) id core
  · exact n1runP w _ (.inr ⟨z, rfl, hc⟩) id core
set_option maxRecDepth 100000 in
theorem n1block (w : World) (v : Value) (h : TNone w v) (id : Int) : Calls Tryd.prog 66 #[v, .int .i64 id] w fun e w' => e = .returned (.int .i64 1) ∧ Still w w' := by
  have T := hid (fun (u : World) (hu : Still w u) (st : Int) (c : Value) => n1turn u v (h.still hu) id st c)
  clear h
  go_enter Tryd.func66, Tryd.ntmps66
  go_wp2_with fail
  refine (T.out _ (Fr.refl _ _) 3 (.func (.func 107) #[] #[])).mono ?_
  rintro e w2 ⟨rfl, s2⟩
  have S2 : Hid (Still w w2) := hid ((Fr.refl _ _).trans s2)
  clear s2
  go_wp2_with fail
  go_ret
  exact ⟨rfl, S2.out⟩
set_option maxRecDepth 100000 in
theorem n1pre (w : World) (v : Value) (h : TNone w v) (id : Int) (c : Ctx) : Calls Tryd.prog 67 #[v, .int .i64 id, (Value.agg #[.int .i64 c.p, .int .i64 c.q, .int .i64 c.r0, .int .i64 c.r1, .int .i64 c.r2, .int .i64 c.r3, .int .i64 c.r4, .int .i64 c.r5, .int .i64 c.r6, .int .i64 c.r7, .int .i64 c.d])] w fun e w' => e = .returned (.int .i64 1) ∧ Still w w' := by
  have T := hid (fun (u : World) (hu : Still w u) (st : Int) (c : Value) => n1turn u v (h.still hu) id st c)
  clear h
  go_enter Tryd.func67, Tryd.ntmps67
  go_wp2_with fail
  refine (T.out _ ((Fr.refl _ _).alloc _) 4 (.func (.func 108) #[] #[.pointer (some ⟨w.heap.size, 0, none⟩)])).mono ?_
  rintro e w2 ⟨rfl, s2⟩
  have S2 : Hid (Still w w2) := hid (((Fr.refl _ _).alloc _).trans s2)
  clear s2
  go_wp2_with fail
  go_ret
  exact ⟨rfl, S2.out⟩
set_option maxRecDepth 100000 in
theorem n1cache (w : World) (v : Value) (h : TNone w v) (id : Int) : Calls Tryd.prog 68 #[v, .int .i64 id] w fun e w' => e = .returned (.int .i64 1) ∧ Still w w' := by
  have T := hid (fun (u : World) (hu : Still w u) (st : Int) (c : Value) => n1turn u v (h.still hu) id st c)
  clear h
  go_enter Tryd.func68, Tryd.ntmps68
  go_wp2_with fail
  refine (T.out _ (Fr.refl _ _) 5 (.func (.func 109) #[] #[])).mono ?_
  rintro e w2 ⟨rfl, s2⟩
  have S2 : Hid (Still w w2) := hid ((Fr.refl _ _).trans s2)
  clear s2
  go_wp2_with fail
  go_ret
  exact ⟨rfl, S2.out⟩
end Go.Proofs.YtffjaaolcphonaaDoor
