/- A slice of structs of integer fields, opened. -/
import Derived.Test.YtffjaaolcphonaaBdA
import Derived.Deep.Slices
import Derived.Deep.Fields
import Derived.ChangeSame
import Derived.OpenShut
import Derived.Test.YtffjaaolcphonaaBdE
import Derived.Test.YtffjaaolcphonaaBdB
namespace Go.Proofs.Ytffjaaolcphonaa
open Go.ChangeShapes Go.WideShapes Go.Deep Go.RowKit

theorem laidOut : laidOutB Try.prog = true := by kernel_rfl

/-- A slice that came in: empty, or a row of `len` structs of `n` integers each. -/
def IsRow3 (n : Nat) (w : World) (a : Option Addr) (len cap : Nat) (F : Nat → Nat → Int) : Prop :=
  len = 0 ∨
  ∃ b off, a = some ⟨b, off, none⟩ ∧ 0 < len ∧ len ≤ cap ∧ cap ≤ maxLen ∧ b < w.heap.size ∧ ∀ i, i < len → ∀ j, j < n → w.cell? ⟨b, off + (i * n + j), none⟩ = some (.int .i64 (F i j))

section
variable {H : Type} {enc : TypeId × Value → H} {w : World} {base : Nat}
theorem open_acts {t e : TypeId} {n : Nat} {fs : Array Field} {fuel : Nat} {a : Option Addr} {len cap : Nat} {x : DataW H × List MemPlace} (hn : 0 < n) (ht : Try.prog.underlying t = some (.slice e)) (he : Try.prog.underlying e = some (.struct fs))
    (hone : oneCellFields Try.prog fs = true) (hC : Try.prog.cellsOf e = n) (hsz : fs.size = n) (hint : ∀ (j : Nat) (f : Field), fs[j]? = some f → Try.prog.underlying f.type = some (.int .i64))
    (h : DataW.trod enc Try.prog w base (fun _ => true) true fuel t [.slice a len cap] = some x) : ∃ F, IsRow3 n w a len cap F := by
  rcases open_slice ht h with ⟨h0, _⟩ | ⟨a', len', cap', m, n', D, Pl, hcs, hb, hl, hm, hmm, hx, hi⟩
  · simp at h0; exact ⟨fun _ _ => 0, .inl h0.2.1⟩
  · simp at hcs
    obtain ⟨rfl, rfl, rfl⟩ := hcs
    have hc : ∀ i, i < len → ∀ j, j < n → ∃ z, w.cell? (a'.add (i * n + j)) = some (.int .i64 z) := by
      intro i hil j hj
      obtain ⟨cs', hc, ht'⟩ := hi i (by rw [hmm]; simp; omega)
      rw [hC] at hc
      obtain ⟨ys, n'', hn', hy, hlen, hyl, hf⟩ := DataW.trod_struct he ht'
      obtain ⟨_, hcl, hat⟩ := World.cells?_some hc
      have hjl : j < fs.size := by omega
      obtain ⟨ho, hk⟩ := hone_of hone j fs[j] (by simp [hjl])
      have hcell := hat j (by omega)
      have hv : cs'[j]? = some (cs'[j]'(by omega)) := List.getElem?_eq_getElem (by omega)
      have h1 := hf j fs[j] (by simp [hjl])
      rw [ho, hk] at h1
      have hone' : (cs'.drop j).take 1 = [cs'[j]'(by omega)] := by
        rw [List.drop_eq_getElem_cons (by omega)]
        rfl
      rw [hone'] at h1
      have hys : ys[j]? = some (ys[j]'(by omega)) := List.getElem?_eq_getElem (by omega)
      obtain ⟨z, hz, _, _⟩ := DataW.trod_int (hint j fs[j] (by simp [hjl])) (h1.trans hys)
      refine ⟨z, ?_⟩
      rw [← Go.Deep.add_add, hcell, hv]
      simp at hz
      rw [hz]
    obtain ⟨b, off, sp⟩ := a'
    by_cases hl0 : 0 < len
    · obtain ⟨z, hz⟩ := hc 0 hl0 0 hn
      have hsp : sp = none := by simpa [Addr.add] using World.cell?_spot hz
      subst hsp
      have hsz : b < w.heap.size := by have := World.block_lt_of_cell? _ _ hz; simpa [Addr.add] using this
      refine ⟨fun i j => ((w.cell? ⟨b, off + (i * n + j), none⟩).bind fun v => match v with | .int _ z => some z | _ => none).getD 0, .inr ⟨b, off, rfl, hl0, hl, hm, hsz, fun i hi' j hj => ?_⟩⟩
      obtain ⟨z, hz⟩ := hc i hi' j hj
      have hz' : w.cell? ⟨b, off + (i * n + j), none⟩ = some (.int .i64 z) := by
        rw [← hz, Addr.add]
        split
        · next h0 => rw [h0]; rfl
        · rfl
      show _ = some (Value.int .i64 (((w.cell? ⟨b, off + (i * n + j), none⟩).bind _).getD 0))
      rw [hz']
      rfl
    · exact ⟨fun _ _ => 0, .inl (by omega)⟩
end
end Go.Proofs.Ytffjaaolcphonaa
/- A slice of whole numbers of one kind that came in, opened. -/
namespace Go.Proofs.Ytffjaaolcphonaa
open Go.ChangeShapes Go.WideShapes Go.Deep Go.RowKit

/-- A slice that came in: empty, or a row of `len` numbers. -/
def IsRow1 (K : IntKind) (w : World) (a : Option Addr) (len cap : Nat) (F : Nat → Int) : Prop :=
  len = 0 ∨
  ∃ b off, a = some ⟨b, off, none⟩ ∧ 0 < len ∧ len ≤ cap ∧ cap ≤ maxLen ∧ b < w.heap.size ∧ ∀ i, i < len → w.cell? ⟨b, off + i, none⟩ = some (.int K (F i)) ∧ (Lit.int K (F i)).wf = true

section
variable {H : Type} {enc : TypeId × Value → H} {w : World} {base : Nat}
theorem open_row1 {t e : TypeId} {K : IntKind} {fuel : Nat} {a : Option Addr} {len cap : Nat} {x : DataW H × List MemPlace} (ht : Try.prog.underlying t = some (.slice e)) (he : Try.prog.underlying e = some (.int K))
    (hC : Try.prog.cellsOf e = 1)
    (h : DataW.trod enc Try.prog w base (fun _ => true) true fuel t [.slice a len cap] = some x) : ∃ F, IsRow1 K w a len cap F := by
  rcases open_slice ht h with ⟨h0, _⟩ | ⟨a', len', cap', m, n', D, Pl, hcs, hb, hl, hm, hmm, hx, hi⟩
  · simp at h0; exact ⟨fun _ => 0, .inl h0.2.1⟩
  · simp at hcs
    obtain ⟨rfl, rfl, rfl⟩ := hcs
    have hc : ∀ i, i < len → ∃ z, w.cell? (a'.add i) = some (.int K z) ∧ (Lit.int K z).wf = true := by
      intro i hil
      obtain ⟨cs', hc, ht'⟩ := hi i (by rw [hmm]; simp; omega)
      rw [hC] at hc
      obtain ⟨_, hcl, hat⟩ := World.cells?_some hc
      have hcell := hat 0 (by omega)
      have hv : cs' = [cs'[0]'(by omega)] := by
        match cs', hcl with
        | [c], _ => rfl
      rw [hv] at ht'
      obtain ⟨z, hz, _, hw⟩ := DataW.trod_int he ht'
      refine ⟨z, ?_, hw⟩
      have hadd : (a'.add (i * 1)).add 0 = a'.add i := by rw [Go.Deep.add_add, Nat.mul_one, Nat.add_zero]
      rw [hadd] at hcell
      rw [hcell, List.getElem?_eq_getElem (by omega)]
      simp at hz
      rw [hz]
    obtain ⟨b, off, sp⟩ := a'
    by_cases hl0 : 0 < len
    · obtain ⟨z, hz, _⟩ := hc 0 hl0
      have hsp : sp = none := by simpa [Addr.add] using World.cell?_spot hz
      subst hsp
      have hsz : b < w.heap.size := by have := World.block_lt_of_cell? _ _ hz; simpa [Addr.add] using this
      refine ⟨fun i => ((w.cell? ⟨b, off + i, none⟩).bind fun v => match v with | .int _ z => some z | _ => none).getD 0, .inr ⟨b, off, rfl, hl0, hl, hm, hsz, fun i hi' => ?_⟩⟩
      obtain ⟨z, hz, hw⟩ := hc i hi'
      have hz' : w.cell? ⟨b, off + i, none⟩ = some (.int K z) := by
        rw [← hz, Addr.add]
        split
        · next h0 => subst h0; rfl
        · rfl
      have e : ((w.cell? ⟨b, off + i, none⟩).bind fun v => match v with | .int _ z => some z | _ => none).getD 0 = z := by rw [hz']; rfl
      show _ = some (Value.int K (((w.cell? ⟨b, off + i, none⟩).bind _).getD 0)) ∧ (Lit.int K (((w.cell? ⟨b, off + i, none⟩).bind _).getD 0)).wf = true
      rw [e]; exact ⟨hz', hw⟩
    · exact ⟨fun _ => 0, .inl (by omega)⟩
end
end Go.Proofs.Ytffjaaolcphonaa
/- The law's lives. -/
namespace Go.Proofs.Ytffjaaolcphonaa
open Go.RowKit
theorem tv_eq (xs : List Nat) : tv xs = (xs.map fun x : Nat => (x : Int)).map (Value.int .i64) := by simp [tv]
theorem IRow.of_tv {w : World} {base n : Nat} {v : Value} {xs : List Nat} (h : w.ownsRow base 3 1 v n (tv xs)) (hn : n = xs.length) : IRow w v (xs.map fun x : Nat => (x : Int)) := by
  rw [tv_eq] at h
  exact IRow.of_owns h (by simpa using hn)
theorem IRow.alloc {w : World} {v : Value} {xs : List Int} (h : IRow w v xs) (o : Obj) : IRow (w.alloc o) v xs := by
  rcases h with h | ⟨h0, b, off, c, hv, hc⟩
  · exact .inl h
  · exact .inr ⟨h0, b, off, c, hv, fun i hi => by rw [World.cell?_alloc_lt _ _ _ (World.block_lt_of_cell? _ _ (hc i hi))]; exact hc i hi⟩
theorem IRow.still {w w' : World} {v : Value} {xs : List Int} (h : IRow w v xs) (hs : Still w w') : IRow w' v xs := by
  rcases h with h | ⟨h0, b, off, c, hv, hc⟩
  · exact .inl h
  · exact .inr ⟨h0, b, off, c, hv, fun i hi => ((hs.below (Nat.le_refl _) (fun _ h => h.elim)).cell (World.block_lt_of_cell? _ _ (hc i hi))).trans (hc i hi)⟩

set_option maxRecDepth 100000 in
set_option maxHeartbeats 2000000 in
theorem llives (w : World) : Calls Try.prog 20 #[] w fun e w' => e = .returned (.bool true) ∧ Still w w' := by
  go_enter Try.func20, Try.ntmps20
  go_wp2_with fail
  refine (new_ls _ 3 2 (by omega) (by omega) (by omega) (by omega)).mono ?_
  rintro e w1 ⟨B, rfl, h1, hs, hnn⟩
  go_wp2_with fail
  refine (push_ls h1 0 2).mono ?_
  rw [show pushE 3 (List.replicate 2 []) 0 2 = 0 from by decide, show pushL 3 (List.replicate 2 []) 0 2 = [[2], []] from by decide]
  rintro e w2 ⟨rfl, h2, f2⟩
  go_wp2_with fail
  refine (push_ls h2 0 1).mono ?_
  rw [show pushE 3 [[2], []] 0 1 = 0 from by decide, show pushL 3 [[2], []] 0 1 = [[2, 1], []] from by decide]
  rintro e w3 ⟨rfl, h3, f3⟩
  go_wp2_with fail
  refine (move_ls h3 0 1).mono ?_
  rw [show moveLE [[2, 1], []] 0 1 = 0 from by decide, show moveN [[2, 1], []] 0 1 = 2 from by decide, show moveL [[2, 1], []] 0 1 = [[], [2, 1]] from by decide]
  rintro e w4 ⟨rfl, h4, f4⟩
  go_wp2_with fail
  refine (all_ls h4 1 (by decide)).mono ?_
  rw [show gl [[], [2, 1]] 1 = [2, 1] from by decide]
  rintro e w5 ⟨v, rfl, hrow, hb5⟩
  have hst : Still w w5 := by
    have k : ∀ {a b : World}, Fr B.foot a b → w.heap.size ≤ a.heap.size → Still w a → Still w b := fun hf hl hs => hs.then hf (fun k hk e => by have := hnn k e; omega)
    have s1 := hs
    have s2 := k f2 s1.size s1
    have s3 := k f3 s2.size s2
    have s4 := k f4 s3.size s3
    exact s4.trans (Fr.of_below0 hb5 _)
  have hI := IRow.of_tv hrow rfl
  go_wp2_with fail
  refine (ints_ok _ _ _ [2, 1] [2, 1] (hI.alloc _) (IRow.of_blk (Blk.new w5 [.int .i64 2, .int .i64 1] 3) (by decide)) (by decide)).mono ?_
  rw [show decide (([2, 1] : List Int) = [2, 1]) = true from by decide]
  rintro e w6 ⟨rfl, hs6⟩
  go_wp2_with fail
  go_ret
  exact ⟨rfl, (hst.alloc _).trans hs6⟩
end Go.Proofs.Ytffjaaolcphonaa
/- LinksMoves: the walk. -/
namespace Go.Proofs.Ytffjaaolcphonaa
open Go.RowKit

theorem push0 (T : Nat) (A : List Nat) (t : Int) : ∃ A', pushL T [A, [], []] 0 t = [A', [], []] := by
  unfold pushL; split
  · exact ⟨_, rfl⟩
  · exact ⟨_, rfl⟩
theorem front1 (T : Nat) (A B : List Nat) (t : Int) : ∃ B', frontL T [A, B, []] 1 t = [A, B', []] := by
  unfold frontL; split
  · exact ⟨_, rfl⟩
  · exact ⟨_, rfl⟩
def zi (xs : List Nat) : List Int := xs.map fun x : Nat => (x : Int)
theorem zi_len (xs : List Nat) : (zi xs).length = xs.length := by simp [zi]
theorem ls_short {w : World} {B : LB} {T : Nat} {L : List (List Nat)} (h : LsAt w B T L) (i : Nat) (hi : i < L.length) : (gl L i).length ≤ 4096 := by
  obtain ⟨r, h1, h2, _⟩ := h; have := h2.le hi; have := h1.t1; omega
theorem all_irow {w : World} {B : LB} {T : Nat} {L : List (List Nat)} (h : LsAt w B T L) (i : Nat) (hi : i < L.length) :
    Calls Try.prog 23 #[.pointer (some ⟨B.p, 0, none⟩), .int .i64 i] w fun e W' => ∃ a c, e = .returned (.tuple #[.slice a (gl L i).length c, .bool true]) ∧ IRow W' (.slice a (gl L i).length c) (zi (gl L i)) ∧ Still w W' ∧ (∀ b o, a = some ⟨b, o, none⟩ → w.heap.size ≤ b) := by
  refine (all_ls h i hi).mono ?_
  rintro e W' ⟨v, rfl, h1, h2⟩
  have hr : IRow W' v (zi (gl L i)) := IRow.of_tv h1 rfl
  obtain ⟨a, c, hv⟩ := hr.len
  rw [zi_len] at hv
  subst hv
  refine ⟨a, c, rfl, hr, Fr.of_below0 h2 _, ?_⟩
  rintro b o rfl
  obtain ⟨_, ⟨_, _⟩ | ⟨g, cap, _, hv, hg, _⟩⟩ := h1
  · simp_all
  · injection hv with e1 _ _
    injection e1 with e1
    injection e1 with e1 _ _
    omega

set_option maxRecDepth 100000 in
set_option maxHeartbeats 2000000 in
theorem linksMoves (w : World) (a b : Option Addr) (n c m d : Nat) (F G : Nat → Int) (hF : IsRow1 .u8 w a n c F) (hG : IsRow1 .u8 w b m d G) :
    Calls Try.prog 3 #[.slice a n c, .slice b m d] w fun e w' => e = .returned (.bool true) ∧ Still w w' := by
  by_cases hn : n ≤ 20
  · by_cases hm : m ≤ 20
    · have hn' : (n : Int) ≤ 20 := by omega
      have hm' : (m : Int) ≤ 20 := by omega
      have HF := hid hF
      have HG := hid hG
      clear hF hG
      go_enter Try.func3, Try.ntmps3
      go_wp2_with fail
      refine (new_ls _ 20 3 (by omega) (by omega) (by omega) (by omega)).mono ?_
      rw [show List.replicate 3 ([] : List Nat) = [[], [], []] from rfl]
      rintro e w1 ⟨B, rfl, h1, hs, hnn⟩
      have hfr : ∀ {u v : World}, Still w u → Fr B.foot u v → Still w v := fun hs hf => hs.then hf (fun k hk e => by have := hnn k e; omega)
      go_wp2_with fail
      go_loopw [42] (fun i wr => ∃ (j : Nat) (A : List Nat), i = .int .i64 j ∧ j ≤ n ∧ LsAt wr B 20 [A, [], []] ∧ Still w wr) (fun i _ => n - (intOf i).toNat)
      case atStart => exact ⟨0, [], rfl, Nat.zero_le _, h1, hs⟩
      case round =>
        obtain ⟨j, A, rfl, hj, hA, hst⟩ := hrel
        by_cases hlt : j < n
        · have hlt' : (j : Int) < (n : Int) := by omega
          rcases HF.out with h0 | ⟨b1, o1, rfl, _, _, _, _, hc⟩
          · omega
          · have c1 := Still.cell hst (hc j hlt).1
            clear hc
            go_wp2_with fail
            refine (push_ls hA 0 _).mono ?_
            rintro e w2 ⟨rfl, h2, f2⟩
            obtain ⟨A', hA'⟩ := push0 20 A (wrap64 ((F j).tmod 20))
            rw [hA'] at h2
            have HA' := hid hA'
            clear hA'
            go_wp2_with fail
            go_roundw
            case rel => exact ⟨j + 1, A', by go_num, by omega, h2, hfr hst f2⟩
            case measure => simp [intOf]; omega
        · go_wp2_with fail
          go_loopw [54] (fun i wr => ∃ (j : Nat) (D : List Nat), i = .int .i64 j ∧ j ≤ m ∧ LsAt wr B 20 [A, D, []] ∧ Still w wr) (fun i _ => m - (intOf i).toNat)
          case atStart => exact ⟨0, [], rfl, Nat.zero_le _, hA, hst⟩
          case round =>
            clear hst hA
            obtain ⟨i, D, rfl, hi, hA, hst⟩ := hrel
            by_cases hlt : i < m
            · have hlt' : (i : Int) < (m : Int) := by omega
              rcases HG.out with h0 | ⟨b1, o1, rfl, _, _, _, _, hc⟩
              · omega
              · have c1 := Still.cell hst (hc i hlt).1
                clear hc
                go_wp2_with fail
                refine (front_ls hA 1 _).mono ?_
                rintro e w2 ⟨rfl, h2, f2⟩
                obtain ⟨A', hA'⟩ := front1 20 A D (wrap64 ((G i).tmod 20))
                rw [hA'] at h2
                have HA' := hid hA'
                clear hA'
                go_wp2_with fail
                go_roundw
                case rel => exact ⟨i + 1, A', by go_num, by omega, h2, hfr hst f2⟩
                case measure => simp [intOf]; omega
            · have hsA := ls_short hA 0 (by simp)
              have hsD := ls_short hA 1 (by simp)
              simp only [gl, List.getD_cons_zero, List.getD_cons_succ] at hsA hsD
              go_wp2_with fail
              refine (all_irow hA 0 (by simp)).mono ?_
              rw [show gl [A, D, []] 0 = A from rfl]
              rintro e w3 ⟨a3, c3, rfl, hr3, hs3, hb3⟩
              go_wp2_with fail
              refine (all_irow (hA.still hs3) 1 (by simp)).mono ?_
              rw [show gl [A, D, []] 1 = D from rfl]
              rintro e w4 ⟨a4, c4, rfl, hr4, hs4, hb4⟩
              have hA4 := (hA.still hs3).still hs4
              go_wp2_with fail
              refine (move_ls hA4 0 1).mono ?_
              rw [show moveLE [A, D, []] 0 1 = 0 from rfl, show moveN [A, D, []] 0 1 = A.length from rfl, show moveL [A, D, []] 0 1 = [[], D ++ A, []] from rfl]
              rintro e w5 ⟨rfl, h5, f5⟩
              go_wp2_with fail
              refine (all_irow h5 1 (by simp)).mono ?_
              rw [show gl [[], D ++ A, []] 1 = D ++ A from rfl]
              rintro e w6 ⟨a6, c6, rfl, hr6, hs6, hb6⟩
              have h6 := h5.still hs6
              have hR3 : IRow w6 (.slice a3 A.length c3) (zi A) := ((hr3.still hs4).fr f5 (fun b o c n e hk => by
                injection e with e _ _
                have := hb3 b o e
                have := hA.lt hk
                omega)).still hs6
              have hR4 : IRow w6 (.slice a4 D.length c4) (zi D) := (hr4.fr f5 (fun b o c n e hk => by
                injection e with e _ _
                have := hb4 b o e
                have := (hA.still hs3).lt hk
                omega)).still hs6
              have hst6 : Still w w6 := (hfr ((hst.trans hs3).trans hs4) f5).trans hs6
              have hft : ∀ k, B.foot k → k < w5.heap.size := fun k hk => h5.lt hk
              clear hr3 hr4 hs3 hs4 f5 hs6 h5 hA4 hb3 hb4 hA hst
              rw [List.length_append] at hr6
              go_wp2_with fail
              refine (len_ls h6 0).mono ?_
              rw [show lenI [[], D ++ A, []] 0 = 0 from rfl]
              rintro e w' ⟨rfl, rfl⟩
              have HA' := hid hsA
              have HD' := hid hsD
              clear hsA hsD
              go_wp2_with (at_builtin; refine wpList_append_irow (by rfl) _ _ rfl _ _ [] (zi D) _ _ rfl rfl (owns_new w6 3) (hR4.alloc _) (by rw [zi_len]; have := HD'.out; omega) (by simp) ?_)
              intro v7 w7 ho7 hg7 _
              have hs7 : Still w6 w7 := Fr.of_own ((Fr.refl _ _).alloc _) (owns_new w6 3) hg7 (Nat.le_refl _)
              have hl7 := hs7.size
              have ho7' : w7.ownsRow w6.heap.size 3 1 v7 D.length (ints (zi D)) := by simpa [zi_len] using ho7
              clear ho7 hg7
              go_wp2_with (at_builtin; refine wpList_append_irow (by rfl) _ _ rfl _ _ (zi D) (zi A) _ _ rfl rfl ho7' (hR3.still hs7) (by rw [zi_len]; have := HA'.out; have := HD'.out; omega) hl7 ?_)
              intro v8 w8 ho8 hg8 _
              have hs8 : Still w6 w8 := Fr.of_own hs7 ho7' hg8 (Nat.le_refl _)
              have hr8 := IRow.own ho8 (by simp [zi_len])
              clear ho8 hg8
              go_wp2_with fail
              refine (ints_ok _ _ _ _ _ (hr6.still hs8) hr8 (by rw [zi_len, List.length_append]; have := HA'.out; have := HD'.out; omega)).mono ?_
              rw [show decide (zi (D ++ A) = zi D ++ zi A) = true from by simp [zi]]
              rintro e w9 ⟨rfl, hs9⟩
              have h9 := h6.still (hs8.trans hs9)
              have hr9 : IRow w9 (.slice a6 (D.length + A.length) c6) (zi (D ++ A)) := hr6.still (hs8.trans hs9)
              have hst9 := hst6.trans (hs8.trans hs9)
              clear hr8 hr6 h6 hs8 hs9 hst6 ho7' hs7 hl7
              go_wp2_with fail
              refine (move_ls h9 1 2).mono ?_
              rw [show moveLE [[], D ++ A, []] 1 2 = 0 from rfl, show moveN [[], D ++ A, []] 1 2 = (D ++ A).length from rfl, show moveL [[], D ++ A, []] 1 2 = [[], [], D ++ A] from rfl, List.length_append]
              rintro e w10 ⟨rfl, h10, f10⟩
              have hr10 : IRow w10 (.slice a6 (D.length + A.length) c6) (zi (D ++ A)) := hr9.fr f10 (fun b o c n e hk => by
                injection e with e _ _
                have := hb6 b o e
                have := hft b hk
                omega)
              have hst10 := hfr hst9 f10
              clear h9 hr9 hst9
              go_wp2_with fail
              refine (all_irow h10 2 (by simp)).mono ?_
              rw [show gl [[], [], D ++ A] 2 = D ++ A from rfl, List.length_append]
              rintro e w11 ⟨a11, c11, rfl, hr11, hs11, hb11⟩
              have h11 := h10.still hs11
              go_wp2_with fail
              refine (ints_ok _ _ _ _ _ hr11 (hr10.still hs11) (by rw [zi_len, List.length_append]; have := HA'.out; have := HD'.out; omega)).mono ?_
              rw [show decide (zi (D ++ A) = zi (D ++ A)) = true from by simp]
              rintro e w12 ⟨rfl, hs12⟩
              go_wp2_with (first | (go_at_call 25; refine (len_ls (h11.still hs12) 1).mono ?_; rintro e w' ⟨rfl, rfl⟩) | (go_at_call 20; refine (llives _).mono ?_; rintro e w' ⟨rfl, hs13⟩))
              go_ret
              exact ⟨rfl, ((hst10.trans hs11).trans hs12).trans hs13⟩
    · have hn' : (n : Int) ≤ 20 := by omega
      have hm' : (20 : Int) < (m : Int) := by omega
      clear hF hG
      go_enter Try.func3, Try.ntmps3
      go_wp2_with fail
      refine (new_ls _ 20 3 (by omega) (by omega) (by omega) (by omega)).mono ?_
      rintro e w1 ⟨B, rfl, h1, hs, hnn⟩
      go_wp2_with (go_at_call 20; refine (llives _).mono ?_; rintro e w' ⟨rfl, hs13⟩)
      go_ret
      exact ⟨rfl, hs.trans hs13⟩
  · have hn' : (20 : Int) < (n : Int) := by omega
    clear hF hG
    go_enter Try.func3, Try.ntmps3
    go_wp2_with fail
    refine (new_ls _ 20 3 (by omega) (by omega) (by omega) (by omega)).mono ?_
    rintro e w1 ⟨B, rfl, h1, hs, hnn⟩
    go_wp2_with (go_at_call 20; refine (llives _).mono ?_; rintro e w' ⟨rfl, hs13⟩)
    go_ret
    exact ⟨rfl, hs.trans hs13⟩
end Go.Proofs.Ytffjaaolcphonaa
