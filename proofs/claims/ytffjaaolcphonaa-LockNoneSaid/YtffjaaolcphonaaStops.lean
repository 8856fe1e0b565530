/- The links' All its contract. -/
import Derived.Test.YtffjaaolcphonaaAll
import Derived.RangeFuncBox
import Derived.Maps.AppendAt
namespace Go.Proofs.Ytffjaaolcphonaa
open Go.RowKit Go.Shelf
attribute [local go_sem] Oper.semAt_some

theorem all_any (w : World) (p : Option Addr) (i : Int) : Calls Try.prog 78 #[.pointer p, .int .i64 i] w fun e w' =>
    e = .returned (.func (.func 133) #[] #[.pointer (some ⟨w.heap.size, 0, none⟩), .pointer (some ⟨w.heap.size + 1, 0, none⟩)]) ∧ w' = (w.alloc (.cells #[.pointer p] 23)).alloc (.cells #[.int .i64 i] 3) := by
  go_enter Try.func78, Try.ntmps78
  go_wp2
  go_ret
  exact ⟨rfl, rfl⟩

theorem func_nil (T : TypeId) (hT : T = 120) (f : Nat) (cs : Array Value) : ∀ w, (binOp .eql T (.func (.func f) #[] cs) Value.nilFunc).run Try.prog w = .ok (.bool false) w := by
  intro w; subst hT; kernel_rfl

theorem abides_drewN {β : Type} {B : Nat} {J : β → World → Prop} (h : AbidesFrom B J) {s : β} {A : World} (n : Nat) (hj : J s A) : J s (A.drewN n) :=
  h s A _ none hj ⟨rfl, rfl, rfl, Nat.le_refl _, fun _ _ _ => rfl⟩ (fun r e => by cases e)

/-- A thing. -/
abbrev Th (n : Nat) := { x : Nat // x < n }
def vals {n : Nat} (l : List (Th n)) : List Nat := l.map fun x => x.1
theorem vals_snoc {n : Nat} (l : List (Th n)) (x : Th n) : vals (l ++ [x]) = vals l ++ [x.1] := by simp [vals]
theorem all_stops (w : World) (b1 b2 i n : Nat) (B : LB) (r : Raw) (xs : List Nat) (h1 : Box w b1 (.pointer (some ⟨B.p, 0, none⟩)) 23) (h2 : Box w b2 (.int .i64 i) 3) (hR : RawAt w B r) (hi : i < r.count.length) (q0 : Nat) (hq0 : r.next.getD (r.things + i) 0 = (q0 : Int)) (hL : Seq r.next (r.things + i) q0 xs) (hx : ∀ x ∈ xs, x < n) :
    SeqStopsK Fence.wide 3 Try.prog 133 #[.pointer (some ⟨b1, 0, none⟩), .pointer (some ⟨b2, 0, none⟩)] (fun x : Th n => #[Value.int .i64 (x.1 : Int)]) (Kb (aK B b1 b2)) (fun ys => vals ys = xs) (fun pre => vals pre <+: xs) xs.length w := by
  intro l J Jx W hW hJ hJx hY h0
  refine (all1_in l b1 b2 i B r xs (fun pre W => ∃ pre', vals pre' = pre ∧ J pre' W) (fun pre W => ∃ pre', vals pre' = pre ∧ Jx pre' W) ?_ W (Blk.below h1 hW (Blk.lt h1)) (Blk.below h2 hW (Blk.lt h2)) (hR.still (Fr.of_below0 hW _)) hi q0 hq0 hL ?_ ⟨[], rfl, h0⟩).mono ?_
  · rintro pre x W1 hxm ⟨pre', rfl, hj⟩ hl
    obtain ⟨fn, tmps, assign, body, hy, hR⟩ := hY pre' ⟨x, hx x hxm⟩ W1 hj (by simpa [vals] using hl)
    refine ⟨fn, tmps, assign, body, hy, hR.mono ?_⟩
    rintro e W' (⟨h1, h2, h3⟩ | ⟨h1, h2⟩)
    · exact .inl ⟨h1, ⟨_, vals_snoc _ _, h2⟩, h3⟩
    · exact .inr ⟨h1, ⟨_, vals_snoc _ _, h2⟩⟩
  · rintro pre A n ⟨pre', h, hj⟩
    exact ⟨pre', h, abides_drewN hJ n hj⟩
  · rintro e W' ⟨h1, ⟨ys, rfl, pre', h2, h3⟩ | ⟨pre, h2, pre', rfl, h3⟩⟩
    · exact ⟨h1, .inl ⟨pre', h2, h3⟩⟩
    · exact ⟨h1, .inr ⟨pre', h2, h3⟩⟩
theorem ownsRow_base {w : World} {b b' : Nat} {e : TypeId} {size : Nat} {v : Value} {n : Nat} {xs : List Value} (h : w.ownsRow b e size v n xs) (hb : b' ≤ b) : w.ownsRow b' e size v n xs :=
  ⟨h.1, h.2.imp id fun ⟨g, cap, cur, h1, h2, h3⟩ => ⟨g, cap, cur, h1, Nat.le_trans hb h2, h3⟩⟩
/-- The values of a list's things. -/
def tv (xs : List Nat) : List Value := xs.map fun x : Nat => Value.int .i64 (x : Int)
theorem tv_snoc (xs : List Nat) (x : Nat) : tv (xs ++ [x]) = tv xs ++ [.int .i64 (x : Int)] := by simp [tv]
theorem tv_len (xs : List Nat) : (tv xs).length = xs.length := by simp [tv]

end Go.Proofs.Ytffjaaolcphonaa
