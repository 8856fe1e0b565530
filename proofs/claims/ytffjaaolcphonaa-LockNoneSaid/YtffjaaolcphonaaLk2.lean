/- One list behind another one. -/
import Derived.Test.YtffjaaolcphonaaLk
namespace Lk
theorem Lk.of_cyc {nx bk : List Int} {E : Nat} {l : List Nat} (h : Lk nx bk (cyc E l)) : Lk nx bk l := by
  cases l with
  | nil => trivial
  | cons a l =>
    obtain ⟨r, q, h0⟩ : ∃ r q, a :: l = r ++ [q] := ⟨(a :: l).dropLast, (a :: l).getLast (by simp), (List.dropLast_concat_getLast (by simp)).symm⟩
    have e : cyc E (a :: l) = (E :: r) ++ q :: [E] := by simp [cyc, h0]
    rw [e] at h
    have h2 := Lk.left h
    rw [h0]
    exact Lk.right (xs := [E]) (a := (r ++ [q]).head (by simp)) (ys := (r ++ [q]).tail) (by simpa using h2) |> fun h => by simpa using h
theorem cyc_move {nx bk : List Int} {Ef Et a z la : Nat} {F T : List Nat} (hl : nx.length = bk.length) (hf : Lk nx bk (cyc Ef F)) (ht : Lk nx bk (cyc Et T)) (hn : (Ef :: Et :: (F ++ T)).Nodup) (hF : F ≠ [])
    (ha : F.head hF = a) (hz : F.getLast hF = z) (hla : (Et :: T).getLast (by simp) = la) (h1 : ∀ x ∈ Ef :: Et :: (F ++ T), x < nx.length) :
    Lk (((nx.set la a).set z Et).set Ef Ef) (((bk.set a la).set Et z).set Ef Ef) (cyc Et (T ++ F)) ∧ Lk (((nx.set la a).set z Et).set Ef Ef) (((bk.set a la).set Et z).set Ef Ef) (cyc Ef []) ∧
    nx.getD Ef 0 = (a : Int) ∧ bk.getD Ef 0 = (z : Int) ∧ bk.getD Et 0 = (la : Int) ∧ a ∈ F ∧ z ∈ F ∧ la ∈ Et :: T := by
  obtain ⟨P, hP⟩ : ∃ P, Et :: T = P ++ [la] := ⟨(Et :: T).dropLast, by rw [← hla]; exact (List.dropLast_concat_getLast (by simp)).symm⟩
  obtain ⟨F1, hF1⟩ : ∃ F1, F = a :: F1 := ⟨F.tail, by rw [← ha]; simp⟩
  obtain ⟨F2, hF2⟩ : ∃ F2, F = F2 ++ [z] := ⟨F.dropLast, by rw [← hz]; exact (List.dropLast_concat_getLast hF).symm⟩
  have haF : a ∈ F := by rw [hF1]; simp
  have hzF : z ∈ F := by rw [hF2]; simp
  have hlaT : la ∈ Et :: T := by rw [hP]; simp
  simp only [List.nodup_cons, List.mem_cons, List.mem_append, not_or] at hn
  obtain ⟨⟨n1, n2, n3⟩, ⟨n4, n5⟩, n6⟩ := hn
  obtain ⟨n7, n8, n9⟩ := List.nodup_append.1 n6
  have bnd : ∀ x ∈ F, x < nx.length := fun x hx => h1 x (by simp [hx])
  have bE : Ef < nx.length := h1 Ef (by simp)
  have bEt : Et < nx.length := h1 Et (by simp)
  have bla : la < nx.length := by
    rcases List.mem_cons.1 hlaT with h | h
    · rw [h]; exact bEt
    · exact h1 la (by simp [h])
  have ba := bnd a haF
  have bz := bnd z hzF
  have hkf : nx.getD Ef 0 = (a : Int) := (Lk.at (xs := []) (a := Ef) (b := a) (ys := F1 ++ [Ef]) (by have := hf; rw [hF1] at this; exact this)).1
  have hkz : bk.getD Ef 0 = (z : Int) := (Lk.at (xs := Ef :: F2) (a := z) (b := Ef) (ys := []) (by have := hf; rw [hF2] at this; simpa [cyc] using this)).2
  have hcl : cyc Et T = P ++ la :: [Et] := by
    show (Et :: T) ++ [Et] = _
    rw [hP]; simp
  have hkl : bk.getD Et 0 = (la : Int) := (Lk.at (xs := P) (a := la) (b := Et) (ys := []) (hcl ▸ ht)).2
  have ge : ∀ x, (((nx.set la a).set z Et).set Ef Ef).getD x 0 = if Ef = x then (Ef : Int) else if z = x then (Et : Int) else if la = x then (a : Int) else nx.getD x 0 := fun x => by
    rw [getD_set _ _ _ _ (by simpa using bE), getD_set _ _ _ _ (by simpa using bz), getD_set _ _ _ _ bla]
  have ge2 : ∀ x, (((bk.set a la).set Et z).set Ef Ef).getD x 0 = if Ef = x then (Ef : Int) else if Et = x then (z : Int) else if a = x then (la : Int) else bk.getD x 0 := fun x => by
    rw [getD_set _ _ _ _ (by simpa [hl] using hl ▸ bE), getD_set _ _ _ _ (by simpa using hl ▸ bEt), getD_set _ _ _ _ (hl ▸ ba)]
  have laT : ∀ x ∈ F, la ≠ x := by
    rintro x hx rfl
    rcases List.mem_cons.1 hlaT with h | h
    · exact n4 (h ▸ hx)
    · exact n9 _ hx _ h rfl
  refine ⟨?_, ?_, hkf, hkz, hkl, haF, hzF, hlaT⟩
  · have e : cyc Et (T ++ F) = P ++ la :: (a :: (F1 ++ [Et])) := by
      have : cyc Et (T ++ F) = (Et :: T) ++ (F ++ [Et]) := by simp [cyc]
      rw [this, hP, hF1]; simp
    rw [e]
    refine Lk.append.2 ⟨?_, ?_, ?_, ?_⟩
    · have hTl : Lk nx bk (P ++ [la]) := by
        exact Lk.left (hcl ▸ ht)
      refine Lk.congr (fun x hx => ?_) (fun x hx => ?_) hTl
      · rw [List.dropLast_concat] at hx
        have hx2 : x ∈ Et :: T := by rw [hP]; simp [hx]
        have x1 : Ef ≠ x := by rintro rfl; rcases List.mem_cons.1 hx2 with h | h; exact n1 h; exact n3 h
        have x2 : z ≠ x := by rintro rfl; rcases List.mem_cons.1 hx2 with h | h; exact n4 (h ▸ hzF); exact n9 _ hzF _ h rfl
        have hnd : (P ++ [la]).Nodup := by rw [← hP]; exact List.nodup_cons.2 ⟨n5, n8⟩
        have x3 : la ≠ x := by rintro rfl; exact (List.nodup_append.1 hnd).2.2 _ hx la (by simp) rfl
        rw [ge, if_neg x1, if_neg x2, if_neg x3]
      · rw [← hP, List.tail_cons] at hx
        have x1 : Ef ≠ x := by rintro rfl; exact n3 hx
        have x2 : Et ≠ x := by rintro rfl; exact n5 hx
        have x3 : a ≠ x := by rintro rfl; exact n9 _ haF _ hx rfl
        rw [ge2, if_neg x1, if_neg x2, if_neg x3]
    · have x1 : Ef ≠ la := by rintro rfl; rcases List.mem_cons.1 hlaT with h | h; exact n1 h; exact n3 h
      rw [ge, if_neg x1, if_neg (fun e => laT z hzF e.symm), if_pos rfl]
    · have x1 : Ef ≠ a := by rintro rfl; exact n2 haF
      have x2 : Et ≠ a := by rintro rfl; exact n4 haF
      rw [ge2, if_neg x1, if_neg x2, if_pos rfl]
    · have e2 : a :: (F1 ++ [Et]) = F2 ++ z :: [Et] := by
        rw [← List.cons_append, ← hF1, hF2]; simp
      rw [e2]
      refine Lk.append.2 ⟨?_, ?_, ?_, trivial⟩
      · have hFl : Lk nx bk (F2 ++ [z]) := hF2 ▸ Lk.of_cyc hf
        have hnd : (F2 ++ [z]).Nodup := hF2 ▸ n7
        refine Lk.congr (fun x hx => ?_) (fun x hx => ?_) hFl
        · rw [List.dropLast_concat] at hx
          have hxF : x ∈ F := by rw [hF2]; simp [hx]
          have x1 : Ef ≠ x := by rintro rfl; exact n2 hxF
          have x2 : z ≠ x := by rintro rfl; exact (List.nodup_append.1 hnd).2.2 _ hx z (by simp) rfl
          rw [ge, if_neg x1, if_neg x2, if_neg (laT x hxF)]
        · rw [← hF2, hF1, List.tail_cons] at hx
          have hxF : x ∈ F := by rw [hF1]; simp [hx]
          have x1 : Ef ≠ x := by rintro rfl; exact n2 hxF
          have x2 : Et ≠ x := by rintro rfl; exact n4 hxF
          have x3 : a ≠ x := by rintro rfl; rw [hF1] at n7; exact (List.nodup_cons.1 n7).1 hx
          rw [ge2, if_neg x1, if_neg x2, if_neg x3]
      · have x1 : Ef ≠ z := by rintro rfl; exact n2 hzF
        rw [ge, if_neg x1, if_pos rfl]
      · rw [ge2, if_neg n1, if_pos rfl]
  · exact ⟨by rw [ge, if_pos rfl], by rw [ge2, if_pos rfl], trivial⟩
end Lk
