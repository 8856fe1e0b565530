/- LifeRound: what comes of each step. -/
import Derived.Test.YtffjaaolcphonaaDoorBdLf
namespace Go.Proofs.YtffjaaolcphonaaDoor
open Go.RowKit Go.Maps
set_option linter.unusedSimpArgs false
def cP : Ctx := ⟨0, 5, 0, 0, 0, 0, 0, 0, 0, 0, 0⟩
def z1 : SS := takeS (zeroS 4 4)
def z2 : SS := takeS z1
def z3 : SS := freeS z2 65536
theorem z_f : takeV (zeroS 4 4) = 65536 ∧ takeE (zeroS 4 4) = 0 ∧ takeV z1 = 65537 ∧ takeE z1 = 0 := by decide +kernel
def r1 (sp : Int) : List Ac := [⟨65536, 1, sp, -1, 0, c0⟩]
def r2 (sp : Int) : List Ac := [⟨65536, 2, sp, 3, 0, c0⟩]
def r3 (sp th : Int) : List Ac := [⟨65536, 2, sp, 3, th, c0⟩]
def r4b (sp th : Int) : List Ac := [⟨65536, 3, sp, -1, th, c0⟩]
def r4p (sp th : Int) : List Ac := [⟨65536, 4, sp, -1, th, cP⟩]
def r5 (sp : Int) : List Ac := [⟨65536, 5, sp, -1, 0, c0⟩]
def r6 (sp : Int) : List Ac := [⟨65536, 5, sp, -1, 0, c0⟩, ⟨65537, 1, sp + 1, -1, 0, c0⟩]
def r7 (sp : Int) : List Ac := [⟨65536, 1, sp, -1, 0, c0⟩, ⟨65537, 1, sp + 1, -1, 0, c0⟩]
def r8 (sp : Int) : List Ac := [⟨65537, 1, sp + 1, -1, 0, c0⟩]
theorem one_fnd (x : Ac) (h : x.i = 65536) : fndA [x] 65536 = x ∧ fndO [x] 65536 = true := by
  simp [fndA, fndO, El.fnd, actE, h]
theorem one_ins (x z : Ac) (h : x.i = 65536) (h2 : z.i = 65536) : actE.ins z [x] = [z] := by
  simp [El.ins, actE, h, h2]
theorem one_t {x z : Ac} {fr st ce : Int} {cz : Ac} (h : x.i = 65536) (h2 : turnN fr x.s = false) (hce : ce = 0) (hz : { cz with s := st } = z) (h3 : z.i = 65536) : tE [x] 65536 fr ce = 0 ∧ tL [x] 65536 fr st ce cz = [z] := by
  obtain ⟨e1, e2⟩ := t_yes (st := st) (cz := cz) (one_fnd x h).2 (by rw [(one_fnd x h).1]; exact h2) hce
  exact ⟨e1, by rw [e2, hz, one_ins x z h h3]⟩
theorem qq1 {sp : Int} (h1 : 1 ≤ sp) (h2 : sp ≤ 16) : mkV (zeroS 4 4) [] sp = 65536 ∧ mkE (zeroS 4 4) [] sp = 0 ∧ mkS (zeroS 4 4) [] sp = z1 ∧ mkL (zeroS 4 4) [] sp = r1 sp := by
  have hb : mkB sp = false := by simp [mkB]; omega
  obtain ⟨e1, e2, e3, e4⟩ := mk_new (s := zeroS 4 4) (L := []) hb rfl
  rw [e1, e2, e3, e4, z_f.1, z_f.2.1]
  exact ⟨rfl, rfl, rfl, rfl⟩
theorem qq2 (sp : Int) : tE (r1 sp) 65536 2 (runC (r1 sp) 3) = 0 ∧ tL (r1 sp) 65536 2 2 (runC (r1 sp) 3) { fndA (r1 sp) 65536 with co := 3 } = r2 sp := by
  have hf : fndA (r1 sp) 65536 = ⟨65536, 1, sp, -1, 0, c0⟩ := (one_fnd _ rfl).1
  rw [hf]
  exact one_t rfl (by show turnN 2 1 = false; decide) (by simp [runC, busyL, r1]) rfl rfl
theorem qq3 (sp : Int) {th : Int} (h : 0 ≤ th) : loadE (r2 sp) 65536 th = 0 ∧ loadL (r2 sp) 65536 th = r3 sp th := by
  have hf := one_fnd (⟨65536, 2, sp, 3, 0, c0⟩ : Ac) rfl
  obtain ⟨e1, e2⟩ := load_ok (L := r2 sp) (k := 65536) (th := th) (by unfold loadE; rw [show fndO (r2 sp) 65536 = true from hf.2, show fndA (r2 sp) 65536 = _ from hf.1, if_pos rfl, if_pos rfl, if_neg (by omega)])
  refine ⟨e1, ?_⟩
  rw [e2, show fndA (r2 sp) 65536 = _ from hf.1]
  exact one_ins _ _ rfl rfl
theorem qq4b (sp : Int) {th : Int} (h : 1 ≤ th) : tE (r3 sp th) 65536 4 (blkC (r3 sp th) 65536) = 0 ∧ tL (r3 sp th) 65536 4 3 (blkC (r3 sp th) 65536) { fndA (r3 sp th) 65536 with co := -1 } = r4b sp th := by
  have hf : fndA (r3 sp th) 65536 = ⟨65536, 2, sp, 3, th, c0⟩ := (one_fnd _ rfl).1
  unfold blkC
  rw [hf]
  exact one_t rfl (by show turnN 4 2 = false; decide) (by rw [if_neg (by show ¬ th = 0; omega)]) rfl rfl
theorem qq4p (sp th : Int) : tE (r3 sp th) 65536 4 0 = 0 ∧ tL (r3 sp th) 65536 4 4 0 { fndA (r3 sp th) 65536 with co := -1, c := cP } = r4p sp th := by
  have hf : fndA (r3 sp th) 65536 = ⟨65536, 2, sp, 3, th, c0⟩ := (one_fnd _ rfl).1
  rw [hf]
  exact one_t rfl (by show turnN 4 2 = false; decide) rfl rfl rfl
theorem qq5 (sp : Int) {L : List Ac} {x : Ac} (hL : L = [x]) (hi : x.i = 65536) (hs : turnN 28 x.s = false) (hsp : x.sp = sp) : tE L 65536 28 0 = 0 ∧ tL L 65536 28 5 0 ⟨(fndA L 65536).i, 0, (fndA L 65536).sp, -1, 0, c0⟩ = r5 sp := by
  subst hL
  rw [(one_fnd x hi).1]
  exact one_t hi hs rfl (by rw [hi, hsp]) rfl
theorem qq6 (sp : Int) : cntA (r5 sp) sp 5 = 1 := by simp [cntA, r5]
theorem qq7 {sp : Int} (h1 : 1 ≤ sp) (h2 : sp ≤ 15) : mkV z1 (r5 sp) (sp + 1) = 65537 ∧ mkE z1 (r5 sp) (sp + 1) = 0 ∧ mkS z1 (r5 sp) (sp + 1) = z2 ∧ mkL z1 (r5 sp) (sp + 1) = r6 sp := by
  have hb : mkB (sp + 1) = false := by simp [mkB]; omega
  obtain ⟨e1, e2, e3, e4⟩ := mk_new (s := z1) (L := r5 sp) (sp := sp + 1) hb (by simp [mkF, r5]; omega)
  rw [e1, e2, e3, e4, z_f.2.2.1, z_f.2.2.2]
  exact ⟨rfl, rfl, rfl, by simp [El.ins, actE, r5, r6]⟩
theorem qq8 {sp : Int} (h1 : 1 ≤ sp) (h2 : sp ≤ 15) : mkV z2 (r6 sp) sp = 65536 ∧ mkE z2 (r6 sp) sp = 0 ∧ mkS z2 (r6 sp) sp = z2 ∧ mkL z2 (r6 sp) sp = r7 sp := by
  have hb : mkB sp = false := by simp [mkB]; omega
  obtain ⟨e1, e2, e3, e4⟩ := mk_old (s := z2) (L := r6 sp) (sp := sp) (x := ⟨65536, 5, sp, -1, 0, c0⟩) hb (by simp [mkF, r6])
  rw [e1, e2, e3, e4]
  exact ⟨rfl, rfl, rfl, by simp [El.ins, actE, r6, r7]⟩
theorem qq9 (sp : Int) : discE (r7 sp) 65536 = 0 ∧ discS z2 (r7 sp) 65536 = z3 ∧ discL (r7 sp) 65536 = r8 sp := by
  have hf : fndA (r7 sp) 65536 = ⟨65536, 1, sp, -1, 0, c0⟩ ∧ fndO (r7 sp) 65536 = true := by simp [fndA, fndO, El.fnd, actE, r7]
  obtain ⟨e1, e2, e3⟩ := disc_yes (s := z2) hf.2 (by rw [hf.1]; exact .inl rfl)
  exact ⟨e1, by rw [e2]; rfl, by rw [e3]; simp [El.del, actE, r7, r8]⟩
theorem qq10 (sp : Int) : discE (r8 sp) 65536 = 4 := (disc_none (s := z3) (by simp [fndO, El.fnd, actE, r8])).1
end Go.Proofs.YtffjaaolcphonaaDoor
