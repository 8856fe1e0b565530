/-
  No cell of these rows narrows 'for every input' (looked for: loops, veiled, ifaces, maps, wideKeys, modest, calm, conditions, laid).
  DERIVED. THE GIVEN ROWS OF THIS SEAT. 16 by the template 'for every input the law returns true; each argument reads behind the call as it read before'; 0 by the template 'total and deterministic' (their statements: YtffjaaolcphonaaTotals.lean).
  GIVEN WITH THE SEED: the statements are not yours to turn. If you find one false, say at which input.
  Laid BY PROGRAM, IN A SANDBOX (cutbox-rows.mjs): the forced cells as the released guide's own fill.sh prints them over the translation 6b6a562ed6ba342e… (all of the seat's roots in one cut). By AI agents, Wed Nov 11 2026. No macro, syntax, notation, axiom, sorry.
-/
import Derived.Test.YtffjaaolcphonaaChecked
import GoSem.Claim
import GoSem.ClaimJoined
import GoSem.ClaimMapViews
import Derived.JoinedTies
import Derived.KernelRfl
namespace Go.Proofs.Ytffjaaolcphonaa
/- THE CELL 'sum', in the pinned program and in every row, IS THE sha256 OF THE DUMP (.gsa) THAT YtffjaaolcphonaaProg.lean LOADS. Nothing in Lean hashes anything: it is a label: what it is worth is what the hold of that sum in a sandbox is worth. -/
noncomputable def Try.pinned : Pinned := { name := "ytffjaaolcphonaa", sum := "6b6a562ed6ba342ee77e80a949bc48e7f15ae95a2b0c553b01820800baca1715", checked := Try.checked }
namespace Rows
def none {H : Type} : Left H := { results := [], args := [] }

/-- 'wherrylaw05.LinksMoves': WHATEVER THE INPUT: true; the input reads as it did. -/
def linksMovesSpec : ChangeSpec := { name := "linksMoves", fn := fun _ => fun
  | [d1, d2] => { results := [.lit (.bool true)], args := [d1, d2] }
  | _ => none }
def linksMovesRow : OpenClaim := { program := "ytffjaaolcphonaa", sum := "6b6a562ed6ba342ee77e80a949bc48e7f15ae95a2b0c553b01820800baca1715", func := "wherry/wherrylaw05.LinksMoves", spec := "linksMoves", unfollowed := true, recurses := true, apart := false }
def LinksMovesSaid : Prop := linksMovesRow.holds Try.pinned (OpenSpec.ofChange linksMovesSpec)

/-- ITS FALSE NEIGHBOUR: 'it returns false'. Refute it at one input. -/
def linksMovesWrong : ChangeSpec := { name := "linksMoves", fn := fun _ => fun
  | [d1, d2] => { results := [.lit (.bool false)], args := [d1, d2] }
  | _ => none }
def LinksMovesWrongFalsely : Prop := linksMovesRow.holds Try.pinned (OpenSpec.ofChange linksMovesWrong)

/-- 'wherrylaw05.LinksActs': WHATEVER THE INPUT: true; the input reads as it did. -/
def linksActsSpec : ChangeSpec := { name := "linksActs", fn := fun _ => fun
  | [d1, d2, d3] => { results := [.lit (.bool true)], args := [d1, d2, d3] }
  | _ => none }
def linksActsRow : OpenClaim := { program := "ytffjaaolcphonaa", sum := "6b6a562ed6ba342ee77e80a949bc48e7f15ae95a2b0c553b01820800baca1715", func := "wherry/wherrylaw05.LinksActs", spec := "linksActs", unfollowed := true, recurses := true, apart := false }
def LinksActsSaid : Prop := linksActsRow.holds Try.pinned (OpenSpec.ofChange linksActsSpec)

/-- ITS FALSE NEIGHBOUR: 'it returns false'. Refute it at one input. -/
def linksActsWrong : ChangeSpec := { name := "linksActs", fn := fun _ => fun
  | [d1, d2, d3] => { results := [.lit (.bool false)], args := [d1, d2, d3] }
  | _ => none }
def LinksActsWrongFalsely : Prop := linksActsRow.holds Try.pinned (OpenSpec.ofChange linksActsWrong)

/-- 'wherrylaw05.LinksOnce': WHATEVER THE INPUT: true; the input reads as it did. -/
def linksOnceSpec : ChangeSpec := { name := "linksOnce", fn := fun _ => fun
  | [d] => { results := [.lit (.bool true)], args := [d] }
  | _ => none }
def linksOnceRow : OpenClaim := { program := "ytffjaaolcphonaa", sum := "6b6a562ed6ba342ee77e80a949bc48e7f15ae95a2b0c553b01820800baca1715", func := "wherry/wherrylaw05.LinksOnce", spec := "linksOnce", unfollowed := true, recurses := true, apart := false }
def LinksOnceSaid : Prop := linksOnceRow.holds Try.pinned (OpenSpec.ofChange linksOnceSpec)

/-- ITS FALSE NEIGHBOUR: 'it returns false'. Refute it at one input. -/
def linksOnceWrong : ChangeSpec := { name := "linksOnce", fn := fun _ => fun
  | [d] => { results := [.lit (.bool false)], args := [d] }
  | _ => none }
def LinksOnceWrongFalsely : Prop := linksOnceRow.holds Try.pinned (OpenSpec.ofChange linksOnceWrong)

/-- 'wherrylaw20.SemaOrder': WHATEVER THE INPUT: true; the input reads as it did. -/
def semaOrderSpec : ChangeSpec := { name := "semaOrder", fn := fun _ => fun
  | [d1, d2] => { results := [.lit (.bool true)], args := [d1, d2] }
  | _ => none }
def semaOrderRow : OpenClaim := { program := "ytffjaaolcphonaa", sum := "6b6a562ed6ba342ee77e80a949bc48e7f15ae95a2b0c553b01820800baca1715", func := "wherry/wherrylaw20.SemaOrder", spec := "semaOrder", unfollowed := true, recurses := true, apart := false }
def SemaOrderSaid : Prop := semaOrderRow.holds Try.pinned (OpenSpec.ofChange semaOrderSpec)

/-- ITS FALSE NEIGHBOUR: 'it returns false'. Refute it at one input. -/
def semaOrderWrong : ChangeSpec := { name := "semaOrder", fn := fun _ => fun
  | [d1, d2] => { results := [.lit (.bool false)], args := [d1, d2] }
  | _ => none }
def SemaOrderWrongFalsely : Prop := semaOrderRow.holds Try.pinned (OpenSpec.ofChange semaOrderWrong)

/-- 'wherrylaw05.LinksCopies': WHATEVER THE INPUT: true; the input reads as it did. -/
def linksCopiesSpec : ChangeSpec := { name := "linksCopies", fn := fun _ => fun
  | [d1, d2] => { results := [.lit (.bool true)], args := [d1, d2] }
  | _ => none }
def linksCopiesRow : OpenClaim := { program := "ytffjaaolcphonaa", sum := "6b6a562ed6ba342ee77e80a949bc48e7f15ae95a2b0c553b01820800baca1715", func := "wherry/wherrylaw05.LinksCopies", spec := "linksCopies", unfollowed := true, recurses := true, apart := false }
def LinksCopiesSaid : Prop := linksCopiesRow.holds Try.pinned (OpenSpec.ofChange linksCopiesSpec)

/-- ITS FALSE NEIGHBOUR: 'it returns false'. Refute it at one input. -/
def linksCopiesWrong : ChangeSpec := { name := "linksCopies", fn := fun _ => fun
  | [d1, d2] => { results := [.lit (.bool false)], args := [d1, d2] }
  | _ => none }
def LinksCopiesWrongFalsely : Prop := linksCopiesRow.holds Try.pinned (OpenSpec.ofChange linksCopiesWrong)

/-- 'wherrylaw20.SemaCounts': WHATEVER THE INPUT: true; the input reads as it did. -/
def semaCountsSpec : ChangeSpec := { name := "semaCounts", fn := fun _ => fun
  | [d] => { results := [.lit (.bool true)], args := [d] }
  | _ => none }
def semaCountsRow : OpenClaim := { program := "ytffjaaolcphonaa", sum := "6b6a562ed6ba342ee77e80a949bc48e7f15ae95a2b0c553b01820800baca1715", func := "wherry/wherrylaw20.SemaCounts", spec := "semaCounts", unfollowed := true, recurses := true, apart := false }
def SemaCountsSaid : Prop := semaCountsRow.holds Try.pinned (OpenSpec.ofChange semaCountsSpec)

/-- ITS FALSE NEIGHBOUR: 'it returns false'. Refute it at one input. -/
def semaCountsWrong : ChangeSpec := { name := "semaCounts", fn := fun _ => fun
  | [d] => { results := [.lit (.bool false)], args := [d] }
  | _ => none }
def SemaCountsWrongFalsely : Prop := semaCountsRow.holds Try.pinned (OpenSpec.ofChange semaCountsWrong)

/-- 'wherrylaw05.LinksNone': WHATEVER THE INPUT: true; the input reads as it did. -/
def linksNoneSpec : ChangeSpec := { name := "linksNone", fn := fun _ => fun
  | [d] => { results := [.lit (.bool true)], args := [d] }
  | _ => none }
def linksNoneRow : OpenClaim := { program := "ytffjaaolcphonaa", sum := "6b6a562ed6ba342ee77e80a949bc48e7f15ae95a2b0c553b01820800baca1715", func := "wherry/wherrylaw05.LinksNone", spec := "linksNone", unfollowed := true, recurses := true, apart := false }
def LinksNoneSaid : Prop := linksNoneRow.holds Try.pinned (OpenSpec.ofChange linksNoneSpec)

/-- ITS FALSE NEIGHBOUR: 'it returns false'. Refute it at one input. -/
def linksNoneWrong : ChangeSpec := { name := "linksNone", fn := fun _ => fun
  | [d] => { results := [.lit (.bool false)], args := [d] }
  | _ => none }
def LinksNoneWrongFalsely : Prop := linksNoneRow.holds Try.pinned (OpenSpec.ofChange linksNoneWrong)

/-- 'wherrylaw20.SemaNone': WHATEVER THE INPUT: true; the input reads as it did. -/
def semaNoneSpec : ChangeSpec := { name := "semaNone", fn := fun _ => fun
  | [d] => { results := [.lit (.bool true)], args := [d] }
  | _ => none }
def semaNoneRow : OpenClaim := { program := "ytffjaaolcphonaa", sum := "6b6a562ed6ba342ee77e80a949bc48e7f15ae95a2b0c553b01820800baca1715", func := "wherry/wherrylaw20.SemaNone", spec := "semaNone", unfollowed := true, recurses := true, apart := false }
def SemaNoneSaid : Prop := semaNoneRow.holds Try.pinned (OpenSpec.ofChange semaNoneSpec)

/-- ITS FALSE NEIGHBOUR: 'it returns false'. Refute it at one input. -/
def semaNoneWrong : ChangeSpec := { name := "semaNone", fn := fun _ => fun
  | [d] => { results := [.lit (.bool false)], args := [d] }
  | _ => none }
def SemaNoneWrongFalsely : Prop := semaNoneRow.holds Try.pinned (OpenSpec.ofChange semaNoneWrong)

/-- 'wherrylaw21.JoinTells': WHATEVER THE INPUT: true; the input reads as it did. -/
def joinTellsSpec : ChangeSpec := { name := "joinTells", fn := fun _ => fun
  | [d1, d2] => { results := [.lit (.bool true)], args := [d1, d2] }
  | _ => none }
def joinTellsRow : OpenClaim := { program := "ytffjaaolcphonaa", sum := "6b6a562ed6ba342ee77e80a949bc48e7f15ae95a2b0c553b01820800baca1715", func := "wherry/wherrylaw21.JoinTells", spec := "joinTells", unfollowed := true, recurses := true, apart := false }
def JoinTellsSaid : Prop := joinTellsRow.holds Try.pinned (OpenSpec.ofChange joinTellsSpec)

/-- ITS FALSE NEIGHBOUR: 'it returns false'. Refute it at one input. -/
def joinTellsWrong : ChangeSpec := { name := "joinTells", fn := fun _ => fun
  | [d1, d2] => { results := [.lit (.bool false)], args := [d1, d2] }
  | _ => none }
def JoinTellsWrongFalsely : Prop := joinTellsRow.holds Try.pinned (OpenSpec.ofChange joinTellsWrong)

/-- 'wherrylaw19.LockOrder': WHATEVER THE INPUT: true; the input reads as it did. -/
def lockOrderSpec : ChangeSpec := { name := "lockOrder", fn := fun _ => fun
  | [d] => { results := [.lit (.bool true)], args := [d] }
  | _ => none }
def lockOrderRow : OpenClaim := { program := "ytffjaaolcphonaa", sum := "6b6a562ed6ba342ee77e80a949bc48e7f15ae95a2b0c553b01820800baca1715", func := "wherry/wherrylaw19.LockOrder", spec := "lockOrder", unfollowed := true, recurses := true, apart := false }
def LockOrderSaid : Prop := lockOrderRow.holds Try.pinned (OpenSpec.ofChange lockOrderSpec)

/-- ITS FALSE NEIGHBOUR: 'it returns false'. Refute it at one input. -/
def lockOrderWrong : ChangeSpec := { name := "lockOrder", fn := fun _ => fun
  | [d] => { results := [.lit (.bool false)], args := [d] }
  | _ => none }
def LockOrderWrongFalsely : Prop := lockOrderRow.holds Try.pinned (OpenSpec.ofChange lockOrderWrong)

/-- 'wherrylaw21.JoinOnce': WHATEVER THE INPUT: true; the input reads as it did. -/
def joinOnceSpec : ChangeSpec := { name := "joinOnce", fn := fun _ => fun
  | [d] => { results := [.lit (.bool true)], args := [d] }
  | _ => none }
def joinOnceRow : OpenClaim := { program := "ytffjaaolcphonaa", sum := "6b6a562ed6ba342ee77e80a949bc48e7f15ae95a2b0c553b01820800baca1715", func := "wherry/wherrylaw21.JoinOnce", spec := "joinOnce", unfollowed := true, recurses := true, apart := false }
def JoinOnceSaid : Prop := joinOnceRow.holds Try.pinned (OpenSpec.ofChange joinOnceSpec)

/-- ITS FALSE NEIGHBOUR: 'it returns false'. Refute it at one input. -/
def joinOnceWrong : ChangeSpec := { name := "joinOnce", fn := fun _ => fun
  | [d] => { results := [.lit (.bool false)], args := [d] }
  | _ => none }
def JoinOnceWrongFalsely : Prop := joinOnceRow.holds Try.pinned (OpenSpec.ofChange joinOnceWrong)

/-- 'wherrylaw21.JoinNone': WHATEVER THE INPUT: true; the input reads as it did. -/
def joinNoneSpec : ChangeSpec := { name := "joinNone", fn := fun _ => fun
  | [d] => { results := [.lit (.bool true)], args := [d] }
  | _ => none }
def joinNoneRow : OpenClaim := { program := "ytffjaaolcphonaa", sum := "6b6a562ed6ba342ee77e80a949bc48e7f15ae95a2b0c553b01820800baca1715", func := "wherry/wherrylaw21.JoinNone", spec := "joinNone", unfollowed := true, recurses := true, apart := false }
def JoinNoneSaid : Prop := joinNoneRow.holds Try.pinned (OpenSpec.ofChange joinNoneSpec)

/-- ITS FALSE NEIGHBOUR: 'it returns false'. Refute it at one input. -/
def joinNoneWrong : ChangeSpec := { name := "joinNone", fn := fun _ => fun
  | [d] => { results := [.lit (.bool false)], args := [d] }
  | _ => none }
def JoinNoneWrongFalsely : Prop := joinNoneRow.holds Try.pinned (OpenSpec.ofChange joinNoneWrong)

/-- 'wherrylaw19.LockConds': WHATEVER THE INPUT: true; the input reads as it did. -/
def lockCondsSpec : ChangeSpec := { name := "lockConds", fn := fun _ => fun
  | [d] => { results := [.lit (.bool true)], args := [d] }
  | _ => none }
def lockCondsRow : OpenClaim := { program := "ytffjaaolcphonaa", sum := "6b6a562ed6ba342ee77e80a949bc48e7f15ae95a2b0c553b01820800baca1715", func := "wherry/wherrylaw19.LockConds", spec := "lockConds", unfollowed := true, recurses := true, apart := false }
def LockCondsSaid : Prop := lockCondsRow.holds Try.pinned (OpenSpec.ofChange lockCondsSpec)

/-- ITS FALSE NEIGHBOUR: 'it returns false'. Refute it at one input. -/
def lockCondsWrong : ChangeSpec := { name := "lockConds", fn := fun _ => fun
  | [d] => { results := [.lit (.bool false)], args := [d] }
  | _ => none }
def LockCondsWrongFalsely : Prop := lockCondsRow.holds Try.pinned (OpenSpec.ofChange lockCondsWrong)

/-- 'wherrylaw19.LockActs': WHATEVER THE INPUT: true; the input reads as it did. -/
def lockActsSpec : ChangeSpec := { name := "lockActs", fn := fun _ => fun
  | [d1, d2] => { results := [.lit (.bool true)], args := [d1, d2] }
  | _ => none }
def lockActsRow : OpenClaim := { program := "ytffjaaolcphonaa", sum := "6b6a562ed6ba342ee77e80a949bc48e7f15ae95a2b0c553b01820800baca1715", func := "wherry/wherrylaw19.LockActs", spec := "lockActs", unfollowed := true, recurses := true, apart := false }
def LockActsSaid : Prop := lockActsRow.holds Try.pinned (OpenSpec.ofChange lockActsSpec)

/-- ITS FALSE NEIGHBOUR: 'it returns false'. Refute it at one input. -/
def lockActsWrong : ChangeSpec := { name := "lockActs", fn := fun _ => fun
  | [d1, d2] => { results := [.lit (.bool false)], args := [d1, d2] }
  | _ => none }
def LockActsWrongFalsely : Prop := lockActsRow.holds Try.pinned (OpenSpec.ofChange lockActsWrong)

/-- 'wherrylaw19.LockWaits': WHATEVER THE INPUT: true; the input reads as it did. -/
def lockWaitsSpec : ChangeSpec := { name := "lockWaits", fn := fun _ => fun
  | [d] => { results := [.lit (.bool true)], args := [d] }
  | _ => none }
def lockWaitsRow : OpenClaim := { program := "ytffjaaolcphonaa", sum := "6b6a562ed6ba342ee77e80a949bc48e7f15ae95a2b0c553b01820800baca1715", func := "wherry/wherrylaw19.LockWaits", spec := "lockWaits", unfollowed := true, recurses := true, apart := false }
def LockWaitsSaid : Prop := lockWaitsRow.holds Try.pinned (OpenSpec.ofChange lockWaitsSpec)

/-- ITS FALSE NEIGHBOUR: 'it returns false'. Refute it at one input. -/
def lockWaitsWrong : ChangeSpec := { name := "lockWaits", fn := fun _ => fun
  | [d] => { results := [.lit (.bool false)], args := [d] }
  | _ => none }
def LockWaitsWrongFalsely : Prop := lockWaitsRow.holds Try.pinned (OpenSpec.ofChange lockWaitsWrong)

/-- 'wherrylaw19.LockNone': WHATEVER THE INPUT: true; the input reads as it did. -/
def lockNoneSpec : ChangeSpec := { name := "lockNone", fn := fun _ => fun
  | [d] => { results := [.lit (.bool true)], args := [d] }
  | _ => none }
def lockNoneRow : OpenClaim := { program := "ytffjaaolcphonaa", sum := "6b6a562ed6ba342ee77e80a949bc48e7f15ae95a2b0c553b01820800baca1715", func := "wherry/wherrylaw19.LockNone", spec := "lockNone", unfollowed := true, recurses := true, apart := false }
def LockNoneSaid : Prop := lockNoneRow.holds Try.pinned (OpenSpec.ofChange lockNoneSpec)

/-- ITS FALSE NEIGHBOUR: 'it returns false'. Refute it at one input. -/
def lockNoneWrong : ChangeSpec := { name := "lockNone", fn := fun _ => fun
  | [d] => { results := [.lit (.bool false)], args := [d] }
  | _ => none }
def LockNoneWrongFalsely : Prop := lockNoneRow.holds Try.pinned (OpenSpec.ofChange lockNoneWrong)

/- THE SECOND FORM. 'bulk': how many values and letters a reading holds, each counted each time it is reached (what is shared counts as often as it is met; a slice's spare places count too). A statement '..UptoSaid' is the law's where the arguments, and the package variables that the reading takes, are together of bulk at most 1048576: NARROWER than '..Said'. Prove '..Said' where nothing that the law and all that it calls make is longer than what came in: it says more and counts as full. Else prove '..UptoSaid'. A law counts once. -/
mutual
def uptoBulk {H : Type} : DataW H → Nat
  | .lit (.string bytes) => bytes.length + 1
  | .lit _ => 1
  | .nil => 1
  | .ptr d => uptoBulk d + 1
  | .slice elems spare => uptoBulkAll elems + uptoBulkAll spare + 1
  | .agg parts => uptoBulkAll parts + 1
  | .iface _ d => uptoBulk d + 1
  | .map entries => uptoBulkEntries entries + 1
  | .held _ => 1
def uptoBulkAll {H : Type} : List (DataW H) → Nat
  | [] => 0
  | d :: r => uptoBulk d + uptoBulkAll r
def uptoBulkEntries {H : Type} : List (Lit × DataW H) → Nat
  | [] => 0
  | x :: r => uptoBulkEntry x + uptoBulkEntries r
def uptoBulkEntry {H : Type} : Lit × DataW H → Nat
  | (.string bytes, d) => bytes.length + uptoBulk d + 1
  | (_, d) => uptoBulk d + 1
 end
def uptoSmall : (H : Type) → List (DataW H) → Bool := fun _ ds => decide (uptoBulkAll ds ≤ 1048576)
def OpenSpec.upto (s : _root_.Go.ChangeSpec) : _root_.Go.OpenSpec := { _root_.Go.OpenSpec.ofChange s with cond := some uptoSmall }

/-- 'wherrylaw05.LinksMoves', WHERE WHAT IT READS IS OF BULK AT MOST 1048576: true; the input reads as it did. -/
def linksMovesUptoRow : OpenClaim := { program := "ytffjaaolcphonaa", sum := "6b6a562ed6ba342ee77e80a949bc48e7f15ae95a2b0c553b01820800baca1715", func := "wherry/wherrylaw05.LinksMoves", spec := "linksMoves", unfollowed := true, recurses := true, apart := false, narrowed := true }
def LinksMovesUptoSaid : Prop := linksMovesUptoRow.holds Try.pinned (OpenSpec.upto linksMovesSpec)

/-- 'wherrylaw05.LinksActs', WHERE WHAT IT READS IS OF BULK AT MOST 1048576: true; the input reads as it did. -/
def linksActsUptoRow : OpenClaim := { program := "ytffjaaolcphonaa", sum := "6b6a562ed6ba342ee77e80a949bc48e7f15ae95a2b0c553b01820800baca1715", func := "wherry/wherrylaw05.LinksActs", spec := "linksActs", unfollowed := true, recurses := true, apart := false, narrowed := true }
def LinksActsUptoSaid : Prop := linksActsUptoRow.holds Try.pinned (OpenSpec.upto linksActsSpec)

/-- 'wherrylaw05.LinksOnce', WHERE WHAT IT READS IS OF BULK AT MOST 1048576: true; the input reads as it did. -/
def linksOnceUptoRow : OpenClaim := { program := "ytffjaaolcphonaa", sum := "6b6a562ed6ba342ee77e80a949bc48e7f15ae95a2b0c553b01820800baca1715", func := "wherry/wherrylaw05.LinksOnce", spec := "linksOnce", unfollowed := true, recurses := true, apart := false, narrowed := true }
def LinksOnceUptoSaid : Prop := linksOnceUptoRow.holds Try.pinned (OpenSpec.upto linksOnceSpec)

/-- 'wherrylaw20.SemaOrder', WHERE WHAT IT READS IS OF BULK AT MOST 1048576: true; the input reads as it did. -/
def semaOrderUptoRow : OpenClaim := { program := "ytffjaaolcphonaa", sum := "6b6a562ed6ba342ee77e80a949bc48e7f15ae95a2b0c553b01820800baca1715", func := "wherry/wherrylaw20.SemaOrder", spec := "semaOrder", unfollowed := true, recurses := true, apart := false, narrowed := true }
def SemaOrderUptoSaid : Prop := semaOrderUptoRow.holds Try.pinned (OpenSpec.upto semaOrderSpec)

/-- 'wherrylaw05.LinksCopies', WHERE WHAT IT READS IS OF BULK AT MOST 1048576: true; the input reads as it did. -/
def linksCopiesUptoRow : OpenClaim := { program := "ytffjaaolcphonaa", sum := "6b6a562ed6ba342ee77e80a949bc48e7f15ae95a2b0c553b01820800baca1715", func := "wherry/wherrylaw05.LinksCopies", spec := "linksCopies", unfollowed := true, recurses := true, apart := false, narrowed := true }
def LinksCopiesUptoSaid : Prop := linksCopiesUptoRow.holds Try.pinned (OpenSpec.upto linksCopiesSpec)

/-- 'wherrylaw20.SemaCounts', WHERE WHAT IT READS IS OF BULK AT MOST 1048576: true; the input reads as it did. -/
def semaCountsUptoRow : OpenClaim := { program := "ytffjaaolcphonaa", sum := "6b6a562ed6ba342ee77e80a949bc48e7f15ae95a2b0c553b01820800baca1715", func := "wherry/wherrylaw20.SemaCounts", spec := "semaCounts", unfollowed := true, recurses := true, apart := false, narrowed := true }
def SemaCountsUptoSaid : Prop := semaCountsUptoRow.holds Try.pinned (OpenSpec.upto semaCountsSpec)

/-- 'wherrylaw05.LinksNone', WHERE WHAT IT READS IS OF BULK AT MOST 1048576: true; the input reads as it did. -/
def linksNoneUptoRow : OpenClaim := { program := "ytffjaaolcphonaa", sum := "6b6a562ed6ba342ee77e80a949bc48e7f15ae95a2b0c553b01820800baca1715", func := "wherry/wherrylaw05.LinksNone", spec := "linksNone", unfollowed := true, recurses := true, apart := false, narrowed := true }
def LinksNoneUptoSaid : Prop := linksNoneUptoRow.holds Try.pinned (OpenSpec.upto linksNoneSpec)

/-- 'wherrylaw20.SemaNone', WHERE WHAT IT READS IS OF BULK AT MOST 1048576: true; the input reads as it did. -/
def semaNoneUptoRow : OpenClaim := { program := "ytffjaaolcphonaa", sum := "6b6a562ed6ba342ee77e80a949bc48e7f15ae95a2b0c553b01820800baca1715", func := "wherry/wherrylaw20.SemaNone", spec := "semaNone", unfollowed := true, recurses := true, apart := false, narrowed := true }
def SemaNoneUptoSaid : Prop := semaNoneUptoRow.holds Try.pinned (OpenSpec.upto semaNoneSpec)

/-- 'wherrylaw21.JoinTells', WHERE WHAT IT READS IS OF BULK AT MOST 1048576: true; the input reads as it did. -/
def joinTellsUptoRow : OpenClaim := { program := "ytffjaaolcphonaa", sum := "6b6a562ed6ba342ee77e80a949bc48e7f15ae95a2b0c553b01820800baca1715", func := "wherry/wherrylaw21.JoinTells", spec := "joinTells", unfollowed := true, recurses := true, apart := false, narrowed := true }
def JoinTellsUptoSaid : Prop := joinTellsUptoRow.holds Try.pinned (OpenSpec.upto joinTellsSpec)

/-- 'wherrylaw19.LockOrder', WHERE WHAT IT READS IS OF BULK AT MOST 1048576: true; the input reads as it did. -/
def lockOrderUptoRow : OpenClaim := { program := "ytffjaaolcphonaa", sum := "6b6a562ed6ba342ee77e80a949bc48e7f15ae95a2b0c553b01820800baca1715", func := "wherry/wherrylaw19.LockOrder", spec := "lockOrder", unfollowed := true, recurses := true, apart := false, narrowed := true }
def LockOrderUptoSaid : Prop := lockOrderUptoRow.holds Try.pinned (OpenSpec.upto lockOrderSpec)

/-- 'wherrylaw21.JoinOnce', WHERE WHAT IT READS IS OF BULK AT MOST 1048576: true; the input reads as it did. -/
def joinOnceUptoRow : OpenClaim := { program := "ytffjaaolcphonaa", sum := "6b6a562ed6ba342ee77e80a949bc48e7f15ae95a2b0c553b01820800baca1715", func := "wherry/wherrylaw21.JoinOnce", spec := "joinOnce", unfollowed := true, recurses := true, apart := false, narrowed := true }
def JoinOnceUptoSaid : Prop := joinOnceUptoRow.holds Try.pinned (OpenSpec.upto joinOnceSpec)

/-- 'wherrylaw21.JoinNone', WHERE WHAT IT READS IS OF BULK AT MOST 1048576: true; the input reads as it did. -/
def joinNoneUptoRow : OpenClaim := { program := "ytffjaaolcphonaa", sum := "6b6a562ed6ba342ee77e80a949bc48e7f15ae95a2b0c553b01820800baca1715", func := "wherry/wherrylaw21.JoinNone", spec := "joinNone", unfollowed := true, recurses := true, apart := false, narrowed := true }
def JoinNoneUptoSaid : Prop := joinNoneUptoRow.holds Try.pinned (OpenSpec.upto joinNoneSpec)

/-- 'wherrylaw19.LockConds', WHERE WHAT IT READS IS OF BULK AT MOST 1048576: true; the input reads as it did. -/
def lockCondsUptoRow : OpenClaim := { program := "ytffjaaolcphonaa", sum := "6b6a562ed6ba342ee77e80a949bc48e7f15ae95a2b0c553b01820800baca1715", func := "wherry/wherrylaw19.LockConds", spec := "lockConds", unfollowed := true, recurses := true, apart := false, narrowed := true }
def LockCondsUptoSaid : Prop := lockCondsUptoRow.holds Try.pinned (OpenSpec.upto lockCondsSpec)

/-- 'wherrylaw19.LockActs', WHERE WHAT IT READS IS OF BULK AT MOST 1048576: true; the input reads as it did. -/
def lockActsUptoRow : OpenClaim := { program := "ytffjaaolcphonaa", sum := "6b6a562ed6ba342ee77e80a949bc48e7f15ae95a2b0c553b01820800baca1715", func := "wherry/wherrylaw19.LockActs", spec := "lockActs", unfollowed := true, recurses := true, apart := false, narrowed := true }
def LockActsUptoSaid : Prop := lockActsUptoRow.holds Try.pinned (OpenSpec.upto lockActsSpec)

/-- 'wherrylaw19.LockWaits', WHERE WHAT IT READS IS OF BULK AT MOST 1048576: true; the input reads as it did. -/
def lockWaitsUptoRow : OpenClaim := { program := "ytffjaaolcphonaa", sum := "6b6a562ed6ba342ee77e80a949bc48e7f15ae95a2b0c553b01820800baca1715", func := "wherry/wherrylaw19.LockWaits", spec := "lockWaits", unfollowed := true, recurses := true, apart := false, narrowed := true }
def LockWaitsUptoSaid : Prop := lockWaitsUptoRow.holds Try.pinned (OpenSpec.upto lockWaitsSpec)

/-- 'wherrylaw19.LockNone', WHERE WHAT IT READS IS OF BULK AT MOST 1048576: true; the input reads as it did. -/
def lockNoneUptoRow : OpenClaim := { program := "ytffjaaolcphonaa", sum := "6b6a562ed6ba342ee77e80a949bc48e7f15ae95a2b0c553b01820800baca1715", func := "wherry/wherrylaw19.LockNone", spec := "lockNone", unfollowed := true, recurses := true, apart := false, narrowed := true }
def LockNoneUptoSaid : Prop := lockNoneUptoRow.holds Try.pinned (OpenSpec.upto lockNoneSpec)

end Rows
end Go.Proofs.Ytffjaaolcphonaa
