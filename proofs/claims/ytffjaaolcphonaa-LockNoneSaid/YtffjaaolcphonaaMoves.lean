/- LinksMoves: the walk. -/
import Derived.Test.YtffjaaolcphonaaApp
import Derived.Test.YtffjaaolcphonaaRows1
import Derived.Test.YtffjaaolcphonaaLinksL
namespace Go.Proofs.Ytffjaaolcphonaa
open Go.RowKit

theorem push0 (T : Nat) (A : List Nat) (t : Int) : ∃ A', pushL T [A, [], []] 0 t = [A', [], []] := by
  unfold pushL; split
  · exact ⟨_, rfl⟩
  · exact ⟨_, rfl⟩
theorem front1 (T : Nat) (A B : List Nat) (t : Int) : ∃ B', frontL T [A, B, []] 1 t = [A, B', []] := by
  unfold frontL; split
  · exact ⟨_, rfl⟩
  · exact ⟨_, rfl⟩
def zi (xs : List Nat) : List Int := xs.map fun x : Nat => (x : Int)
theorem zi_len (xs : List Nat) : (zi xs).length = xs.length := by simp [zi]
theorem ls_short {w : World} {B : LB} {T : Nat} {L : List (List Nat)} (h : LsAt w B T L) (i : Nat) (hi : i < L.length) : (gl L i).length ≤ 4096 := by
  obtain ⟨r, h1, h2, _⟩ := h; have := h2.le hi; have := h1.t1; omega
theorem all_irow {w : World} {B : LB} {T : Nat} {L : List (List Nat)} (h : LsAt w B T L) (i : Nat) (hi : i < L.length) :
    Calls Try.prog 23 #[.pointer (some ⟨B.p, 0, none⟩), .int .i64 i] w fun e W' => ∃ a c, e = .returned (.tuple #[.slice a (gl L i).length c, .bool true]) ∧ IRow W' (.slice a (gl L i).length c) (zi (gl L i)) ∧ Still w W' ∧ (∀ b o, a = some ⟨b, o, none⟩ → w.heap.size ≤ b) := by
  refine (all_ls h i hi).mono ?_
  rintro e W' ⟨v, rfl, h1, h2⟩
  have hr : IRow W' v (zi (gl L i)) := IRow.of_tv h1 rfl
  obtain ⟨a, c, hv⟩ := hr.len
  rw [zi_len] at hv
  subst hv
  refine ⟨a, c, rfl, hr, Fr.of_below0 h2 _, ?_⟩
  rintro b o rfl
  obtain ⟨_, ⟨_, _⟩ | ⟨g, cap, _, hv, hg, _⟩⟩ := h1
  · simp_all
  · injection hv with e1 _ _
    injection e1 with e1
    injection e1 with e1 _ _
    omega

set_option maxRecDepth 100000 in
set_option maxHeartbeats 2000000 in
theorem linksMoves (w : World) (a b : Option Addr) (n c m d : Nat) (F G : Nat → Int) (hF : IsRow1 .u8 w a n c F) (hG : IsRow1 .u8 w b m d G) :
    Calls Try.prog 3 #[.slice a n c, .slice b m d] w fun e w' => e = .returned (.bool true) ∧ Still w w' := by
  by_cases hn : n ≤ 20
  · by_cases hm : m ≤ 20
    · have hn' : (n : Int) ≤ 20 := by omega
      have hm' : (m : Int) ≤ 20 := by omega
      have HF := hid hF
      have HG := hid hG
      clear hF hG
      go_enter Try.func3, Try.ntmps3
      go_wp2_with fail
      refine (new_ls _ 20 3 (by omega) (by omega) (by omega) (by omega)).mono ?_
      rw [show List.replicate 3 ([] : List Nat) = [[], [], []] from rfl]
      rintro e w1 ⟨B, rfl, h1, hs, hnn⟩
      have hfr : ∀ {u v : World}, Still w u → Fr B.foot u v → Still w v := fun hs hf => hs.then hf (fun k hk e => by have := hnn k e; omega)
      go_wp2_with fail
      go_loopw [42] (fun i wr => ∃ (j : Nat) (A : List Nat), i = .int .i64 j ∧ j ≤ n ∧ LsAt wr B 20 [A, [], []] ∧ Still w wr) (fun i _ => n - (intOf i).toNat)
      case atStart => exact ⟨0, [], rfl, Nat.zero_le _, h1, hs⟩
      case round =>
        obtain ⟨j, A, rfl, hj, hA, hst⟩ := hrel
        by_cases hlt : j < n
        · have hlt' : (j : Int) < (n : Int) := by omega
          rcases HF.out with h0 | ⟨b1, o1, rfl, _, _, _, _, hc⟩
          · omega
          · have c1 := Still.cell hst (hc j hlt).1
            clear hc
            go_wp2_with fail
            refine (push_ls hA 0 _).mono ?_
            rintro e w2 ⟨rfl, h2, f2⟩
            obtain ⟨A', hA'⟩ := push0 20 A (wrap64 ((F j).tmod 20))
            rw [hA'] at h2
            have HA' := hid hA'
            clear hA'
            go_wp2_with fail
            go_roundw
            case rel => exact ⟨j + 1, A', by go_num, by omega, h2, hfr hst f2⟩
            case measure => simp [intOf]; omega
        · go_wp2_with fail
          go_loopw [54] (fun i wr => ∃ (j : Nat) (D : List Nat), i = .int .i64 j ∧ j ≤ m ∧ LsAt wr B 20 [A, D, []] ∧ Still w wr) (fun i _ => m - (intOf i).toNat)
          case atStart => exact ⟨0, [], rfl, Nat.zero_le _, hA, hst⟩
          case round =>
            clear hst hA
            obtain ⟨i, D, rfl, hi, hA, hst⟩ := hrel
            by_cases hlt : i < m
            · have hlt' : (i : Int) < (m : Int) := by omega
              rcases HG.out with h0 | ⟨b1, o1, rfl, _, _, _, _, hc⟩
              · omega
              · have c1 := Still.cell hst (hc i hlt).1
                clear hc
                go_wp2_with fail
                refine (front_ls hA 1 _).mono ?_
                rintro e w2 ⟨rfl, h2, f2⟩
                obtain ⟨A', hA'⟩ := front1 20 A D (wrap64 ((G i).tmod 20))
                rw [hA'] at h2
                have HA' := hid hA'
                clear hA'
                go_wp2_with fail
                go_roundw
                case rel => exact ⟨i + 1, A', by go_num, by omega, h2, hfr hst f2⟩
                case measure => simp [intOf]; omega
            · have hsA := ls_short hA 0 (by simp)
              have hsD := ls_short hA 1 (by simp)
              simp only [gl, List.getD_cons_zero, List.getD_cons_succ] at hsA hsD
              go_wp2_with fail
              refine (all_irow hA 0 (by simp)).mono ?_
              rw [show gl [A, D, []] 0 = A from rfl]
              rintro e w3 ⟨a3, c3, rfl, hr3, hs3, hb3⟩
              go_wp2_with fail
              refine (all_irow (hA.still hs3) 1 (by simp)).mono ?_
              rw [show gl [A, D, []] 1 = D from rfl]
              rintro e w4 ⟨a4, c4, rfl, hr4, hs4, hb4⟩
              have hA4 := (hA.still hs3).still hs4
              go_wp2_with fail
              refine (move_ls hA4 0 1).mono ?_
              rw [show moveLE [A, D, []] 0 1 = 0 from rfl, show moveN [A, D, []] 0 1 = A.length from rfl, show moveL [A, D, []] 0 1 = [[], D ++ A, []] from rfl]
              rintro e w5 ⟨rfl, h5, f5⟩
              go_wp2_with fail
              refine (all_irow h5 1 (by simp)).mono ?_
              rw [show gl [[], D ++ A, []] 1 = D ++ A from rfl]
              rintro e w6 ⟨a6, c6, rfl, hr6, hs6, hb6⟩
              have h6 := h5.still hs6
              have hR3 : IRow w6 (.slice a3 A.length c3) (zi A) := ((hr3.still hs4).fr f5 (fun b o c n e hk => by
                injection e with e _ _
                have := hb3 b o e
                have := hA.lt hk
                omega)).still hs6
              have hR4 : IRow w6 (.slice a4 D.length c4) (zi D) := (hr4.fr f5 (fun b o c n e hk => by
                injection e with e _ _
                have := hb4 b o e
                have := (hA.still hs3).lt hk
                omega)).still hs6
              have hst6 : Still w w6 := (hfr ((hst.trans hs3).trans hs4) f5).trans hs6
              have hft : ∀ k, B.foot k → k < w5.heap.size := fun k hk => h5.lt hk
              clear hr3 hr4 hs3 hs4 f5 hs6 h5 hA4 hb3 hb4 hA hst
              rw [List.length_append] at hr6
              go_wp2_with fail
              refine (len_ls h6 0).mono ?_
              rw [show lenI [[], D ++ A, []] 0 = 0 from rfl]
              rintro e w' ⟨rfl, rfl⟩
              have HA' := hid hsA
              have HD' := hid hsD
              clear hsA hsD
              go_wp2_with (at_builtin; refine wpList_append_irow (by rfl) _ _ rfl _ _ [] (zi D) _ _ rfl rfl (owns_new w6 3) (hR4.alloc _) (by rw [zi_len]; have := HD'.out; omega) (by simp) ?_)
              intro v7 w7 ho7 hg7 _
              have hs7 : Still w6 w7 := Fr.of_own ((Fr.refl _ _).alloc _) (owns_new w6 3) hg7 (Nat.le_refl _)
              have hl7 := hs7.size
              have ho7' : w7.ownsRow w6.heap.size 3 1 v7 D.length (ints (zi D)) := by simpa [zi_len] using ho7
              clear ho7 hg7
              go_wp2_with (at_builtin; refine wpList_append_irow (by rfl) _ _ rfl _ _ (zi D) (zi A) _ _ rfl rfl ho7' (hR3.still hs7) (by rw [zi_len]; have := HA'.out; have := HD'.out; omega) hl7 ?_)
              intro v8 w8 ho8 hg8 _
              have hs8 : Still w6 w8 := Fr.of_own hs7 ho7' hg8 (Nat.le_refl _)
              have hr8 := IRow.own ho8 (by simp [zi_len])
              clear ho8 hg8
              go_wp2_with fail
              refine (ints_ok _ _ _ _ _ (hr6.still hs8) hr8 (by rw [zi_len, List.length_append]; have := HA'.out; have := HD'.out; omega)).mono ?_
              rw [show decide (zi (D ++ A) = zi D ++ zi A) = true from by simp [zi]]
              rintro e w9 ⟨rfl, hs9⟩
              have h9 := h6.still (hs8.trans hs9)
              have hr9 : IRow w9 (.slice a6 (D.length + A.length) c6) (zi (D ++ A)) := hr6.still (hs8.trans hs9)
              have hst9 := hst6.trans (hs8.trans hs9)
              clear hr8 hr6 h6 hs8 hs9 hst6 ho7' hs7 hl7
              go_wp2_with fail
              refine (move_ls h9 1 2).mono ?_
              rw [show moveLE [[], D ++ A, []] 1 2 = 0 from rfl, show moveN [[], D ++ A, []] 1 2 = (D ++ A).length from rfl, show moveL [[], D ++ A, []] 1 2 = [[], [], D ++ A] from rfl, List.length_append]
              rintro e w10 ⟨rfl, h10, f10⟩
              have hr10 : IRow w10 (.slice a6 (D.length + A.length) c6) (zi (D ++ A)) := hr9.fr f10 (fun b o c n e hk => by
                injection e with e _ _
                have := hb6 b o e
                have := hft b hk
                omega)
              have hst10 := hfr hst9 f10
              clear h9 hr9 hst9
              go_wp2_with fail
              refine (all_irow h10 2 (by simp)).mono ?_
              rw [show gl [[], [], D ++ A] 2 = D ++ A from rfl, List.length_append]
              rintro e w11 ⟨a11, c11, rfl, hr11, hs11, hb11⟩
              have h11 := h10.still hs11
              go_wp2_with fail
              refine (ints_ok _ _ _ _ _ hr11 (hr10.still hs11) (by rw [zi_len, List.length_append]; have := HA'.out; have := HD'.out; omega)).mono ?_
              rw [show decide (zi (D ++ A) = zi (D ++ A)) = true from by simp]
              rintro e w12 ⟨rfl, hs12⟩
              go_wp2_with (first | (go_at_call 25; refine (len_ls (h11.still hs12) 1).mono ?_; rintro e w' ⟨rfl, rfl⟩) | (go_at_call 20; refine (llives _).mono ?_; rintro e w' ⟨rfl, hs13⟩))
              go_ret
              exact ⟨rfl, ((hst10.trans hs11).trans hs12).trans hs13⟩
    · have hn' : (n : Int) ≤ 20 := by omega
      have hm' : (20 : Int) < (m : Int) := by omega
      clear hF hG
      go_enter Try.func3, Try.ntmps3
      go_wp2_with fail
      refine (new_ls _ 20 3 (by omega) (by omega) (by omega) (by omega)).mono ?_
      rintro e w1 ⟨B, rfl, h1, hs, hnn⟩
      go_wp2_with (go_at_call 20; refine (llives _).mono ?_; rintro e w' ⟨rfl, hs13⟩)
      go_ret
      exact ⟨rfl, hs.trans hs13⟩
  · have hn' : (20 : Int) < (n : Int) := by omega
    clear hF hG
    go_enter Try.func3, Try.ntmps3
    go_wp2_with fail
    refine (new_ls _ 20 3 (by omega) (by omega) (by omega) (by omega)).mono ?_
    rintro e w1 ⟨B, rfl, h1, hs, hnn⟩
    go_wp2_with (go_at_call 20; refine (llives _).mono ?_; rintro e w' ⟨rfl, hs13⟩)
    go_ret
    exact ⟨rfl, hs.trans hs13⟩
end Go.Proofs.Ytffjaaolcphonaa
