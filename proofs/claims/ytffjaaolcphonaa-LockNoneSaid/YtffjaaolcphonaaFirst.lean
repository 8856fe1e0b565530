/- The links' 'first': the first of some closures that holds tells its error. -/
import Derived.Test.YtffjaaolcphonaaSmall
namespace Go.Proofs.Ytffjaaolcphonaa
open Go.RowKit

def firstE : List (Bool × Int) → Int
  | [] => 0
  | (true, e) :: _ => e
  | (false, _) :: rest => firstE rest
theorem firstE_skip (res : List (Bool × Int)) (k : Nat) (h : ∀ i, i < k → (res.getD i (false, 0)).1 = false) : firstE res = firstE (res.drop k) := by
  induction k generalizing res with
  | zero => rfl
  | succ k ih =>
    match res with
    | [] => simp
    | (b, e) :: rest =>
      have h0 := h 0 (by omega)
      simp at h0; subst h0
      simp only [firstE, List.drop_succ_cons]
      exact ih rest fun i hi => by simpa using h (i + 1) (by omega)

set_option maxRecDepth 100000 in
set_option maxHeartbeats 400000 in
theorem first_any (w : World) (B : LB) (r : Raw) (h : RawAt w B r) (bs : Nat) (T : TypeId) (fs : List (Nat × Array Value)) (res : List (Bool × Int))
    (hb : Blk w bs (fs.map fun f => .func (.func f.1) #[] f.2) T) (hr : res.length = fs.length) (hn : fs.length ≤ 8)
    (he : ∀ j, j < fs.length → ∀ args w, (callFunc (fs.getD j (0, #[])).1 args).run Try.prog w = .ok (.enter (fs.getD j (0, #[])).1 args) w)
    (hf : ∀ j, j < fs.length → (∀ i, i < j → (res.getD i (false, 0)).1 = false) → ∀ w1, Still w w1 → Calls Try.prog (fs.getD j (0, #[])).1 (fs.getD j (0, #[])).2 w1 fun e w2 =>
      e = .returned (.tuple #[.bool (res.getD j (false, 0)).1, .int .i64 (res.getD j (false, 0)).2]) ∧ Still w1 w2) :
    Calls Try.prog 79 #[.pointer (some ⟨B.p, 0, none⟩), .slice (some ⟨bs, 0, none⟩) fs.length fs.length] w fun e w' => e = .returned (.int .i64 (firstE res)) ∧ Still w w' := by
  have HF := hid hf
  have HE := hid he
  have HR := hid hr
  clear hf hr he
  obtain ⟨n, hn'⟩ : ∃ n, n = fs.length := ⟨_, rfl⟩
  rw [← hn']
  rw [← hn'] at hn
  have HN := hid hn'
  clear hn'
  go_enter Try.func79, Try.ntmps79
  go_wp2_with (go_at_call 83; refine (made_yes _ B r h).mono ?_; rintro e w' ⟨rfl, rfl⟩)
  go_loopw [14] (fun i wr => ∃ k : Nat, i = .int .i64 k ∧ k ≤ n ∧ (∀ i, i < k → (res.getD i (false, 0)).1 = false) ∧ Still w wr) (fun i _ => n - (intOf i).toNat)
  case atStart => exact ⟨0, rfl, Nat.zero_le _, fun _ h => absurd h (Nat.not_lt_zero _), Still.refl _⟩
  case round =>
    obtain ⟨k, rfl, hk, hres, hst⟩ := hrel
    have HRES := hid hres
    clear hres
    by_cases hlt : k < n
    · have hlt' : (k : Int) < (n : Int) := by omega
      have C : wr.cell? ⟨bs, k, none⟩ = some (.func (.func (fs.getD k (0, #[])).1) #[] (fs.getD k (0, #[])).2) := by
        rw [Blk.cell (hb.still hst)]; have := HN.out; simp [show k < fs.length by omega]
      obtain ⟨fn, hfn⟩ : ∃ fn, fn = fs.getD k (0, #[]) := ⟨_, rfl⟩
      have HC := HF.out k (by have := HN.out; omega) HRES.out wr hst
      have EN := HE.out k (by have := HN.out; omega)
      rw [← hfn] at C HC EN
      clear hfn
      obtain ⟨f1, f2⟩ := fn
      obtain ⟨re, hre⟩ : ∃ re, re = res.getD k (false, 0) := ⟨_, rfl⟩
      rw [← hre] at HC
      have HRE := hid hre
      clear hre
      have HC' := hid HC
      clear HC
      obtain ⟨b, ev⟩ := re
      go_wp2_with fail
      refine (HC'.out).mono ?_
      rintro e w2 ⟨rfl, hst2⟩
      cases b with
      | true =>
        go_wp2_with fail
        go_ret
        refine ⟨?_, hst.trans hst2⟩
        have e1 : firstE res = ev := by
          rw [firstE_skip res k HRES.out, List.drop_eq_getElem_cons (by have := HN.out; have := HR.out; omega)]
          have e2 : res[k]'(by have := HN.out; have := HR.out; omega) = (true, ev) := by rw [HRE.out]; simp [List.getD, show k < res.length by have := HN.out; have := HR.out; omega]
          rw [e2]; rfl
        rw [e1]; rfl
      | false =>
        go_wp2_with fail
        go_roundw
        case rel => exact ⟨k + 1, by go_num, by omega, fun i hi => by rcases Nat.lt_succ_iff_lt_or_eq.1 hi with hi | rfl; exact HRES.out i hi; rw [← HRE.out], hst.trans hst2⟩
        case measure => simp [intOf]; omega
    · go_wp2_with fail
      go_ret
      refine ⟨?_, hst⟩
      rw [firstE_skip res k HRES.out, List.drop_eq_nil_of_le (by have := HN.out; have := HR.out; omega)]
      rfl
end Go.Proofs.Ytffjaaolcphonaa
