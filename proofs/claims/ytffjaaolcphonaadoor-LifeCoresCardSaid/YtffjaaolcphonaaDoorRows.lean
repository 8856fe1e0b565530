/-
  NARROWER THAN 'FOR EVERY INPUT', by the rows' own cells (each row's printed sentence says how): SlotsIds: laid · SlotsActs: laid · SlotsOnce: laid · SlotsCopies: laid · SlotsNone: laid · ThreadWays: laid · ThreadActs: laid · ThreadStates: laid · ThreadCopies: laid · ThreadNone: laid · LifeRound: laid · LifeCores: laid · LifeActs: laid · LifeCopies: laid · LifeNone: laid.
  DERIVED. THE GIVEN ROWS OF THIS SEAT. 15 by the template 'for every input the law returns true; each argument reads behind the call as it read before'; 0 by the template 'total and deterministic' (their statements: YtffjaaolcphonaaDoorTotals.lean).
  GIVEN WITH THE SEED: the statements are not yours to turn. If you find one false, say at which input.
  Laid BY PROGRAM, IN A SANDBOX (cutbox-rows.mjs): the forced cells as the released guide's own fill.sh prints them over the translation 5c717991b1bf4929… (all of the seat's roots in one cut). By AI agents, Wed Nov 11 2026. No macro, syntax, notation, axiom, sorry.
-/
import Derived.Test.YtffjaaolcphonaaDoorChecked
import GoSem.Claim
import GoSem.ClaimJoined
import GoSem.ClaimMapViews
import Derived.JoinedTies
import Derived.KernelRfl
namespace Go.Proofs.YtffjaaolcphonaaDoor
/- THE CELL 'sum', in the pinned program and in every row, IS THE sha256 OF THE DUMP (.gsa) THAT YtffjaaolcphonaaDoorProg.lean LOADS. Nothing in Lean hashes anything: it is a label: what it is worth is what the hold of that sum in a sandbox is worth. -/
noncomputable def Tryd.pinned : Pinned := { name := "ytffjaaolcphonaadoor", sum := "5c717991b1bf4929a9548bae7acae7c7602b2d684ee60eb89d6d8e94c21434d8", checked := Tryd.checked }
namespace Rows
def none {H : Type} : Left H := { results := [], args := [] }

/- WHAT THE LISTED PACKAGE-LEVEL VARIABLES READ AS WHEN THE CALL BEGINS. Each datum BY PROGRAM (the guide's laid-datum.mjs) off the statement by which the dump's own 'gosem.cut.vars' lays the variable. In a bare row this is a premise. The card (YtffjaaolcphonaaDoorCards.lean) ties it to the program's text. -/
def laid_math_bits_deBruijn64tab {H : Type} : DataW H := .agg [.lit (.int .u8 0), .lit (.int .u8 1), .lit (.int .u8 56), .lit (.int .u8 2), .lit (.int .u8 57), .lit (.int .u8 49), .lit (.int .u8 28), .lit (.int .u8 3), .lit (.int .u8 61), .lit (.int .u8 58), .lit (.int .u8 42), .lit (.int .u8 50), .lit (.int .u8 38), .lit (.int .u8 29), .lit (.int .u8 17), .lit (.int .u8 4), .lit (.int .u8 62), .lit (.int .u8 47), .lit (.int .u8 59), .lit (.int .u8 36), .lit (.int .u8 45), .lit (.int .u8 43), .lit (.int .u8 51), .lit (.int .u8 22), .lit (.int .u8 53), .lit (.int .u8 39), .lit (.int .u8 33), .lit (.int .u8 30), .lit (.int .u8 24), .lit (.int .u8 18), .lit (.int .u8 12), .lit (.int .u8 5), .lit (.int .u8 63), .lit (.int .u8 55), .lit (.int .u8 48), .lit (.int .u8 27), .lit (.int .u8 60), .lit (.int .u8 41), .lit (.int .u8 37), .lit (.int .u8 16), .lit (.int .u8 46), .lit (.int .u8 35), .lit (.int .u8 44), .lit (.int .u8 21), .lit (.int .u8 52), .lit (.int .u8 32), .lit (.int .u8 23), .lit (.int .u8 11), .lit (.int .u8 54), .lit (.int .u8 26), .lit (.int .u8 40), .lit (.int .u8 15), .lit (.int .u8 34), .lit (.int .u8 20), .lit (.int .u8 31), .lit (.int .u8 10), .lit (.int .u8 25), .lit (.int .u8 14), .lit (.int .u8 19), .lit (.int .u8 9), .lit (.int .u8 13), .lit (.int .u8 8), .lit (.int .u8 7), .lit (.int .u8 6)]
def laid_wherry_thread_toRun {H : Type} : DataW H := .agg [.lit (.int .i64 2), .lit (.int .i64 2)]
def laid_wherry_thread_toYield {H : Type} : DataW H := .agg [.lit (.int .i64 4), .lit (.int .i64 1)]
def laid_wherry_thread_toWait {H : Type} : DataW H := .agg [.lit (.int .i64 4), .lit (.int .i64 3)]
def laid_wherry_thread_toTrap {H : Type} : DataW H := .agg [.lit (.int .i64 4), .lit (.int .i64 4)]
def laid_wherry_thread_toWake {H : Type} : DataW H := .agg [.lit (.int .i64 24), .lit (.int .i64 1)]
def laid_wherry_thread_toBack {H : Type} : DataW H := .agg [.lit (.int .i64 16), .lit (.int .i64 2)]
def laid_wherry_life_from {H : Type} : DataW H := .agg [.lit (.int .i64 0), .lit (.int .i64 32), .lit (.int .i64 2), .lit (.int .i64 4), .lit (.int .i64 4), .lit (.int .i64 28)]

/-- 'wherrylaw04.SlotsIds': WHATEVER THE INPUT: true; the input reads as it did. -/
def slotsIdsSpec : ChangeSpec := { name := "slotsIds", fn := fun _ => fun
  | [d1, d2, d3] => { results := [.lit (.bool true)], args := [d1, d2, d3] }
  | _ => none }
def slotsIdsRow : OpenClaim := { program := "ytffjaaolcphonaadoor", sum := "5c717991b1bf4929a9548bae7acae7c7602b2d684ee60eb89d6d8e94c21434d8", func := "wherry/wherrylaw04.SlotsIds", spec := "slotsIds", named := ["math/bits.deBruijn64tab"], apart := false, laid := [("math/bits.deBruijn64tab", laid_math_bits_deBruijn64tab)] }
def SlotsIdsSaid : Prop := slotsIdsRow.holds Tryd.pinned (OpenSpec.ofChange slotsIdsSpec)

/-- ITS FALSE NEIGHBOUR: 'it returns false'. Refute it at one input. -/
def slotsIdsWrong : ChangeSpec := { name := "slotsIds", fn := fun _ => fun
  | [d1, d2, d3] => { results := [.lit (.bool false)], args := [d1, d2, d3] }
  | _ => none }
def SlotsIdsWrongFalsely : Prop := slotsIdsRow.holds Tryd.pinned (OpenSpec.ofChange slotsIdsWrong)

/-- 'wherrylaw04.SlotsActs': WHATEVER THE INPUT: true; the input reads as it did. -/
def slotsActsSpec : ChangeSpec := { name := "slotsActs", fn := fun _ => fun
  | [d1, d2, d3] => { results := [.lit (.bool true)], args := [d1, d2, d3] }
  | _ => none }
def slotsActsRow : OpenClaim := { program := "ytffjaaolcphonaadoor", sum := "5c717991b1bf4929a9548bae7acae7c7602b2d684ee60eb89d6d8e94c21434d8", func := "wherry/wherrylaw04.SlotsActs", spec := "slotsActs", recurses := true, named := ["math/bits.deBruijn64tab"], apart := false, laid := [("math/bits.deBruijn64tab", laid_math_bits_deBruijn64tab)] }
def SlotsActsSaid : Prop := slotsActsRow.holds Tryd.pinned (OpenSpec.ofChange slotsActsSpec)

/-- ITS FALSE NEIGHBOUR: 'it returns false'. Refute it at one input. -/
def slotsActsWrong : ChangeSpec := { name := "slotsActs", fn := fun _ => fun
  | [d1, d2, d3] => { results := [.lit (.bool false)], args := [d1, d2, d3] }
  | _ => none }
def SlotsActsWrongFalsely : Prop := slotsActsRow.holds Tryd.pinned (OpenSpec.ofChange slotsActsWrong)

/-- 'wherrylaw04.SlotsOnce': WHATEVER THE INPUT: true; the input reads as it did. -/
def slotsOnceSpec : ChangeSpec := { name := "slotsOnce", fn := fun _ => fun
  | [d1, d2] => { results := [.lit (.bool true)], args := [d1, d2] }
  | _ => none }
def slotsOnceRow : OpenClaim := { program := "ytffjaaolcphonaadoor", sum := "5c717991b1bf4929a9548bae7acae7c7602b2d684ee60eb89d6d8e94c21434d8", func := "wherry/wherrylaw04.SlotsOnce", spec := "slotsOnce", recurses := true, named := ["math/bits.deBruijn64tab"], apart := false, laid := [("math/bits.deBruijn64tab", laid_math_bits_deBruijn64tab)] }
def SlotsOnceSaid : Prop := slotsOnceRow.holds Tryd.pinned (OpenSpec.ofChange slotsOnceSpec)

/-- ITS FALSE NEIGHBOUR: 'it returns false'. Refute it at one input. -/
def slotsOnceWrong : ChangeSpec := { name := "slotsOnce", fn := fun _ => fun
  | [d1, d2] => { results := [.lit (.bool false)], args := [d1, d2] }
  | _ => none }
def SlotsOnceWrongFalsely : Prop := slotsOnceRow.holds Tryd.pinned (OpenSpec.ofChange slotsOnceWrong)

/-- 'wherrylaw04.SlotsCopies': WHATEVER THE INPUT: true; the input reads as it did. -/
def slotsCopiesSpec : ChangeSpec := { name := "slotsCopies", fn := fun _ => fun
  | [d] => { results := [.lit (.bool true)], args := [d] }
  | _ => none }
def slotsCopiesRow : OpenClaim := { program := "ytffjaaolcphonaadoor", sum := "5c717991b1bf4929a9548bae7acae7c7602b2d684ee60eb89d6d8e94c21434d8", func := "wherry/wherrylaw04.SlotsCopies", spec := "slotsCopies", recurses := true, named := ["math/bits.deBruijn64tab"], apart := false, laid := [("math/bits.deBruijn64tab", laid_math_bits_deBruijn64tab)] }
def SlotsCopiesSaid : Prop := slotsCopiesRow.holds Tryd.pinned (OpenSpec.ofChange slotsCopiesSpec)

/-- ITS FALSE NEIGHBOUR: 'it returns false'. Refute it at one input. -/
def slotsCopiesWrong : ChangeSpec := { name := "slotsCopies", fn := fun _ => fun
  | [d] => { results := [.lit (.bool false)], args := [d] }
  | _ => none }
def SlotsCopiesWrongFalsely : Prop := slotsCopiesRow.holds Tryd.pinned (OpenSpec.ofChange slotsCopiesWrong)

/-- 'wherrylaw04.SlotsNone': WHATEVER THE INPUT: true; the input reads as it did. -/
def slotsNoneSpec : ChangeSpec := { name := "slotsNone", fn := fun _ => fun
  | [d] => { results := [.lit (.bool true)], args := [d] }
  | _ => none }
def slotsNoneRow : OpenClaim := { program := "ytffjaaolcphonaadoor", sum := "5c717991b1bf4929a9548bae7acae7c7602b2d684ee60eb89d6d8e94c21434d8", func := "wherry/wherrylaw04.SlotsNone", spec := "slotsNone", recurses := true, named := ["math/bits.deBruijn64tab"], apart := false, laid := [("math/bits.deBruijn64tab", laid_math_bits_deBruijn64tab)] }
def SlotsNoneSaid : Prop := slotsNoneRow.holds Tryd.pinned (OpenSpec.ofChange slotsNoneSpec)

/-- ITS FALSE NEIGHBOUR: 'it returns false'. Refute it at one input. -/
def slotsNoneWrong : ChangeSpec := { name := "slotsNone", fn := fun _ => fun
  | [d] => { results := [.lit (.bool false)], args := [d] }
  | _ => none }
def SlotsNoneWrongFalsely : Prop := slotsNoneRow.holds Tryd.pinned (OpenSpec.ofChange slotsNoneWrong)

/-- 'wherrylaw22.ThreadWays': WHATEVER THE INPUT: true; the input reads as it did. -/
def threadWaysSpec : ChangeSpec := { name := "threadWays", fn := fun _ => fun
  | [d1, d2] => { results := [.lit (.bool true)], args := [d1, d2] }
  | _ => none }
def threadWaysRow : OpenClaim := { program := "ytffjaaolcphonaadoor", sum := "5c717991b1bf4929a9548bae7acae7c7602b2d684ee60eb89d6d8e94c21434d8", func := "wherry/wherrylaw22.ThreadWays", spec := "threadWays", unfollowed := true, recurses := true, named := ["math/bits.deBruijn64tab", "wherry/thread.toRun", "wherry/thread.toTrap", "wherry/thread.toWake", "wherry/thread.toYield", "wherry/thread.toWait", "wherry/thread.toBack"], apart := false, laid := [("math/bits.deBruijn64tab", laid_math_bits_deBruijn64tab), ("wherry/thread.toRun", laid_wherry_thread_toRun), ("wherry/thread.toYield", laid_wherry_thread_toYield), ("wherry/thread.toWait", laid_wherry_thread_toWait), ("wherry/thread.toTrap", laid_wherry_thread_toTrap), ("wherry/thread.toWake", laid_wherry_thread_toWake), ("wherry/thread.toBack", laid_wherry_thread_toBack)] }
def ThreadWaysSaid : Prop := threadWaysRow.holds Tryd.pinned (OpenSpec.ofChange threadWaysSpec)

/-- ITS FALSE NEIGHBOUR: 'it returns false'. Refute it at one input. -/
def threadWaysWrong : ChangeSpec := { name := "threadWays", fn := fun _ => fun
  | [d1, d2] => { results := [.lit (.bool false)], args := [d1, d2] }
  | _ => none }
def ThreadWaysWrongFalsely : Prop := threadWaysRow.holds Tryd.pinned (OpenSpec.ofChange threadWaysWrong)

/-- 'wherrylaw22.ThreadActs': WHATEVER THE INPUT: true; the input reads as it did. -/
def threadActsSpec : ChangeSpec := { name := "threadActs", fn := fun _ => fun
  | [d1, d2] => { results := [.lit (.bool true)], args := [d1, d2] }
  | _ => none }
def threadActsRow : OpenClaim := { program := "ytffjaaolcphonaadoor", sum := "5c717991b1bf4929a9548bae7acae7c7602b2d684ee60eb89d6d8e94c21434d8", func := "wherry/wherrylaw22.ThreadActs", spec := "threadActs", unfollowed := true, recurses := true, named := ["math/bits.deBruijn64tab", "wherry/thread.toRun", "wherry/thread.toTrap", "wherry/thread.toWake", "wherry/thread.toYield", "wherry/thread.toWait", "wherry/thread.toBack"], apart := false, laid := [("math/bits.deBruijn64tab", laid_math_bits_deBruijn64tab), ("wherry/thread.toRun", laid_wherry_thread_toRun), ("wherry/thread.toYield", laid_wherry_thread_toYield), ("wherry/thread.toWait", laid_wherry_thread_toWait), ("wherry/thread.toTrap", laid_wherry_thread_toTrap), ("wherry/thread.toWake", laid_wherry_thread_toWake), ("wherry/thread.toBack", laid_wherry_thread_toBack)] }
def ThreadActsSaid : Prop := threadActsRow.holds Tryd.pinned (OpenSpec.ofChange threadActsSpec)

/-- ITS FALSE NEIGHBOUR: 'it returns false'. Refute it at one input. -/
def threadActsWrong : ChangeSpec := { name := "threadActs", fn := fun _ => fun
  | [d1, d2] => { results := [.lit (.bool false)], args := [d1, d2] }
  | _ => none }
def ThreadActsWrongFalsely : Prop := threadActsRow.holds Tryd.pinned (OpenSpec.ofChange threadActsWrong)

/-- 'wherrylaw22.ThreadStates': WHATEVER THE INPUT: true; the input reads as it did. -/
def threadStatesSpec : ChangeSpec := { name := "threadStates", fn := fun _ => fun
  | [d] => { results := [.lit (.bool true)], args := [d] }
  | _ => none }
def threadStatesRow : OpenClaim := { program := "ytffjaaolcphonaadoor", sum := "5c717991b1bf4929a9548bae7acae7c7602b2d684ee60eb89d6d8e94c21434d8", func := "wherry/wherrylaw22.ThreadStates", spec := "threadStates", unfollowed := true, recurses := true, named := ["math/bits.deBruijn64tab", "wherry/thread.toRun", "wherry/thread.toTrap", "wherry/thread.toWake", "wherry/thread.toYield", "wherry/thread.toWait", "wherry/thread.toBack"], apart := false, laid := [("math/bits.deBruijn64tab", laid_math_bits_deBruijn64tab), ("wherry/thread.toRun", laid_wherry_thread_toRun), ("wherry/thread.toYield", laid_wherry_thread_toYield), ("wherry/thread.toWait", laid_wherry_thread_toWait), ("wherry/thread.toTrap", laid_wherry_thread_toTrap), ("wherry/thread.toWake", laid_wherry_thread_toWake), ("wherry/thread.toBack", laid_wherry_thread_toBack)] }
def ThreadStatesSaid : Prop := threadStatesRow.holds Tryd.pinned (OpenSpec.ofChange threadStatesSpec)

/-- ITS FALSE NEIGHBOUR: 'it returns false'. Refute it at one input. -/
def threadStatesWrong : ChangeSpec := { name := "threadStates", fn := fun _ => fun
  | [d] => { results := [.lit (.bool false)], args := [d] }
  | _ => none }
def ThreadStatesWrongFalsely : Prop := threadStatesRow.holds Tryd.pinned (OpenSpec.ofChange threadStatesWrong)

/-- 'wherrylaw22.ThreadCopies': WHATEVER THE INPUT: true; the input reads as it did. -/
def threadCopiesSpec : ChangeSpec := { name := "threadCopies", fn := fun _ => fun
  | [d1, d2] => { results := [.lit (.bool true)], args := [d1, d2] }
  | _ => none }
def threadCopiesRow : OpenClaim := { program := "ytffjaaolcphonaadoor", sum := "5c717991b1bf4929a9548bae7acae7c7602b2d684ee60eb89d6d8e94c21434d8", func := "wherry/wherrylaw22.ThreadCopies", spec := "threadCopies", inPlace := ["maps.clone"], unfollowed := true, recurses := true, named := ["math/bits.deBruijn64tab", "wherry/thread.toRun", "wherry/thread.toTrap", "wherry/thread.toWake", "wherry/thread.toYield", "wherry/thread.toWait", "wherry/thread.toBack"], apart := false, laid := [("math/bits.deBruijn64tab", laid_math_bits_deBruijn64tab), ("wherry/thread.toRun", laid_wherry_thread_toRun), ("wherry/thread.toYield", laid_wherry_thread_toYield), ("wherry/thread.toWait", laid_wherry_thread_toWait), ("wherry/thread.toTrap", laid_wherry_thread_toTrap), ("wherry/thread.toWake", laid_wherry_thread_toWake), ("wherry/thread.toBack", laid_wherry_thread_toBack)] }
def ThreadCopiesSaid : Prop := threadCopiesRow.holds Tryd.pinned (OpenSpec.ofChange threadCopiesSpec)

/-- ITS FALSE NEIGHBOUR: 'it returns false'. Refute it at one input. -/
def threadCopiesWrong : ChangeSpec := { name := "threadCopies", fn := fun _ => fun
  | [d1, d2] => { results := [.lit (.bool false)], args := [d1, d2] }
  | _ => none }
def ThreadCopiesWrongFalsely : Prop := threadCopiesRow.holds Tryd.pinned (OpenSpec.ofChange threadCopiesWrong)

/-- 'wherrylaw22.ThreadNone': WHATEVER THE INPUT: true; the input reads as it did. -/
def threadNoneSpec : ChangeSpec := { name := "threadNone", fn := fun _ => fun
  | [d] => { results := [.lit (.bool true)], args := [d] }
  | _ => none }
def threadNoneRow : OpenClaim := { program := "ytffjaaolcphonaadoor", sum := "5c717991b1bf4929a9548bae7acae7c7602b2d684ee60eb89d6d8e94c21434d8", func := "wherry/wherrylaw22.ThreadNone", spec := "threadNone", inPlace := ["maps.clone"], unfollowed := true, recurses := true, named := ["math/bits.deBruijn64tab", "wherry/thread.toRun", "wherry/thread.toYield", "wherry/thread.toWait", "wherry/thread.toTrap", "wherry/thread.toWake", "wherry/thread.toBack"], apart := false, laid := [("math/bits.deBruijn64tab", laid_math_bits_deBruijn64tab), ("wherry/thread.toRun", laid_wherry_thread_toRun), ("wherry/thread.toYield", laid_wherry_thread_toYield), ("wherry/thread.toWait", laid_wherry_thread_toWait), ("wherry/thread.toTrap", laid_wherry_thread_toTrap), ("wherry/thread.toWake", laid_wherry_thread_toWake), ("wherry/thread.toBack", laid_wherry_thread_toBack)] }
def ThreadNoneSaid : Prop := threadNoneRow.holds Tryd.pinned (OpenSpec.ofChange threadNoneSpec)

/-- ITS FALSE NEIGHBOUR: 'it returns false'. Refute it at one input. -/
def threadNoneWrong : ChangeSpec := { name := "threadNone", fn := fun _ => fun
  | [d] => { results := [.lit (.bool false)], args := [d] }
  | _ => none }
def ThreadNoneWrongFalsely : Prop := threadNoneRow.holds Tryd.pinned (OpenSpec.ofChange threadNoneWrong)

/-- 'wherrylaw16.LifeRound': WHATEVER THE INPUT: true; the input reads as it did. -/
def lifeRoundSpec : ChangeSpec := { name := "lifeRound", fn := fun _ => fun
  | [d1, d2, d3] => { results := [.lit (.bool true)], args := [d1, d2, d3] }
  | _ => none }
def lifeRoundRow : OpenClaim := { program := "ytffjaaolcphonaadoor", sum := "5c717991b1bf4929a9548bae7acae7c7602b2d684ee60eb89d6d8e94c21434d8", func := "wherry/wherrylaw16.LifeRound", spec := "lifeRound", unfollowed := true, recurses := true, named := ["math/bits.deBruijn64tab", "wherry/life.from"], apart := false, laid := [("math/bits.deBruijn64tab", laid_math_bits_deBruijn64tab), ("wherry/life.from", laid_wherry_life_from)] }
def LifeRoundSaid : Prop := lifeRoundRow.holds Tryd.pinned (OpenSpec.ofChange lifeRoundSpec)

/-- ITS FALSE NEIGHBOUR: 'it returns false'. Refute it at one input. -/
def lifeRoundWrong : ChangeSpec := { name := "lifeRound", fn := fun _ => fun
  | [d1, d2, d3] => { results := [.lit (.bool false)], args := [d1, d2, d3] }
  | _ => none }
def LifeRoundWrongFalsely : Prop := lifeRoundRow.holds Tryd.pinned (OpenSpec.ofChange lifeRoundWrong)

/-- 'wherrylaw16.LifeCores': WHATEVER THE INPUT: true; the input reads as it did. -/
def lifeCoresSpec : ChangeSpec := { name := "lifeCores", fn := fun _ => fun
  | [d] => { results := [.lit (.bool true)], args := [d] }
  | _ => none }
def lifeCoresRow : OpenClaim := { program := "ytffjaaolcphonaadoor", sum := "5c717991b1bf4929a9548bae7acae7c7602b2d684ee60eb89d6d8e94c21434d8", func := "wherry/wherrylaw16.LifeCores", spec := "lifeCores", unfollowed := true, recurses := true, named := ["math/bits.deBruijn64tab", "wherry/life.from"], apart := false, laid := [("math/bits.deBruijn64tab", laid_math_bits_deBruijn64tab), ("wherry/life.from", laid_wherry_life_from)] }
def LifeCoresSaid : Prop := lifeCoresRow.holds Tryd.pinned (OpenSpec.ofChange lifeCoresSpec)

/-- ITS FALSE NEIGHBOUR: 'it returns false'. Refute it at one input. -/
def lifeCoresWrong : ChangeSpec := { name := "lifeCores", fn := fun _ => fun
  | [d] => { results := [.lit (.bool false)], args := [d] }
  | _ => none }
def LifeCoresWrongFalsely : Prop := lifeCoresRow.holds Tryd.pinned (OpenSpec.ofChange lifeCoresWrong)

/-- 'wherrylaw16.LifeActs': WHATEVER THE INPUT: true; the input reads as it did. -/
def lifeActsSpec : ChangeSpec := { name := "lifeActs", fn := fun _ => fun
  | [d1, d2] => { results := [.lit (.bool true)], args := [d1, d2] }
  | _ => none }
def lifeActsRow : OpenClaim := { program := "ytffjaaolcphonaadoor", sum := "5c717991b1bf4929a9548bae7acae7c7602b2d684ee60eb89d6d8e94c21434d8", func := "wherry/wherrylaw16.LifeActs", spec := "lifeActs", unfollowed := true, recurses := true, named := ["math/bits.deBruijn64tab", "wherry/life.from"], apart := false, laid := [("math/bits.deBruijn64tab", laid_math_bits_deBruijn64tab), ("wherry/life.from", laid_wherry_life_from)] }
def LifeActsSaid : Prop := lifeActsRow.holds Tryd.pinned (OpenSpec.ofChange lifeActsSpec)

/-- ITS FALSE NEIGHBOUR: 'it returns false'. Refute it at one input. -/
def lifeActsWrong : ChangeSpec := { name := "lifeActs", fn := fun _ => fun
  | [d1, d2] => { results := [.lit (.bool false)], args := [d1, d2] }
  | _ => none }
def LifeActsWrongFalsely : Prop := lifeActsRow.holds Tryd.pinned (OpenSpec.ofChange lifeActsWrong)

/-- 'wherrylaw16.LifeCopies': WHATEVER THE INPUT: true; the input reads as it did. -/
def lifeCopiesSpec : ChangeSpec := { name := "lifeCopies", fn := fun _ => fun
  | [d1, d2] => { results := [.lit (.bool true)], args := [d1, d2] }
  | _ => none }
def lifeCopiesRow : OpenClaim := { program := "ytffjaaolcphonaadoor", sum := "5c717991b1bf4929a9548bae7acae7c7602b2d684ee60eb89d6d8e94c21434d8", func := "wherry/wherrylaw16.LifeCopies", spec := "lifeCopies", inPlace := ["maps.clone"], unfollowed := true, recurses := true, named := ["math/bits.deBruijn64tab", "wherry/life.from"], apart := false, laid := [("math/bits.deBruijn64tab", laid_math_bits_deBruijn64tab), ("wherry/life.from", laid_wherry_life_from)] }
def LifeCopiesSaid : Prop := lifeCopiesRow.holds Tryd.pinned (OpenSpec.ofChange lifeCopiesSpec)

/-- ITS FALSE NEIGHBOUR: 'it returns false'. Refute it at one input. -/
def lifeCopiesWrong : ChangeSpec := { name := "lifeCopies", fn := fun _ => fun
  | [d1, d2] => { results := [.lit (.bool false)], args := [d1, d2] }
  | _ => none }
def LifeCopiesWrongFalsely : Prop := lifeCopiesRow.holds Tryd.pinned (OpenSpec.ofChange lifeCopiesWrong)

/-- 'wherrylaw16.LifeNone': WHATEVER THE INPUT: true; the input reads as it did. -/
def lifeNoneSpec : ChangeSpec := { name := "lifeNone", fn := fun _ => fun
  | [d] => { results := [.lit (.bool true)], args := [d] }
  | _ => none }
def lifeNoneRow : OpenClaim := { program := "ytffjaaolcphonaadoor", sum := "5c717991b1bf4929a9548bae7acae7c7602b2d684ee60eb89d6d8e94c21434d8", func := "wherry/wherrylaw16.LifeNone", spec := "lifeNone", inPlace := ["maps.clone"], unfollowed := true, recurses := true, named := ["math/bits.deBruijn64tab", "wherry/life.from"], apart := false, laid := [("math/bits.deBruijn64tab", laid_math_bits_deBruijn64tab), ("wherry/life.from", laid_wherry_life_from)] }
def LifeNoneSaid : Prop := lifeNoneRow.holds Tryd.pinned (OpenSpec.ofChange lifeNoneSpec)

/-- ITS FALSE NEIGHBOUR: 'it returns false'. Refute it at one input. -/
def lifeNoneWrong : ChangeSpec := { name := "lifeNone", fn := fun _ => fun
  | [d] => { results := [.lit (.bool false)], args := [d] }
  | _ => none }
def LifeNoneWrongFalsely : Prop := lifeNoneRow.holds Tryd.pinned (OpenSpec.ofChange lifeNoneWrong)

/- THE SECOND FORM. 'bulk': how many values and letters a reading holds, each counted each time it is reached (what is shared counts as often as it is met; a slice's spare places count too). A statement '..UptoSaid' is the law's where the arguments, and the package variables that the reading takes, are together of bulk at most 1048576: NARROWER than '..Said'. Prove '..Said' where nothing that the law and all that it calls make is longer than what came in: it says more and counts as full. Else prove '..UptoSaid'. A law counts once. -/
mutual
def uptoBulk {H : Type} : DataW H → Nat
  | .lit (.string bytes) => bytes.length + 1
  | .lit _ => 1
  | .nil => 1
  | .ptr d => uptoBulk d + 1
  | .slice elems spare => uptoBulkAll elems + uptoBulkAll spare + 1
  | .agg parts => uptoBulkAll parts + 1
  | .iface _ d => uptoBulk d + 1
  | .map entries => uptoBulkEntries entries + 1
  | .held _ => 1
def uptoBulkAll {H : Type} : List (DataW H) → Nat
  | [] => 0
  | d :: r => uptoBulk d + uptoBulkAll r
def uptoBulkEntries {H : Type} : List (Lit × DataW H) → Nat
  | [] => 0
  | x :: r => uptoBulkEntry x + uptoBulkEntries r
def uptoBulkEntry {H : Type} : Lit × DataW H → Nat
  | (.string bytes, d) => bytes.length + uptoBulk d + 1
  | (_, d) => uptoBulk d + 1
 end
def uptoSmall : (H : Type) → List (DataW H) → Bool := fun _ ds => decide (uptoBulkAll ds ≤ 1048576)
def OpenSpec.upto (s : _root_.Go.ChangeSpec) : _root_.Go.OpenSpec := { _root_.Go.OpenSpec.ofChange s with cond := some uptoSmall }

/-- 'wherrylaw04.SlotsIds', WHERE WHAT IT READS IS OF BULK AT MOST 1048576: true; the input reads as it did. -/
def slotsIdsUptoRow : OpenClaim := { program := "ytffjaaolcphonaadoor", sum := "5c717991b1bf4929a9548bae7acae7c7602b2d684ee60eb89d6d8e94c21434d8", func := "wherry/wherrylaw04.SlotsIds", spec := "slotsIds", named := ["math/bits.deBruijn64tab"], apart := false, laid := [("math/bits.deBruijn64tab", laid_math_bits_deBruijn64tab)], narrowed := true }
def SlotsIdsUptoSaid : Prop := slotsIdsUptoRow.holds Tryd.pinned (OpenSpec.upto slotsIdsSpec)

/-- 'wherrylaw04.SlotsActs', WHERE WHAT IT READS IS OF BULK AT MOST 1048576: true; the input reads as it did. -/
def slotsActsUptoRow : OpenClaim := { program := "ytffjaaolcphonaadoor", sum := "5c717991b1bf4929a9548bae7acae7c7602b2d684ee60eb89d6d8e94c21434d8", func := "wherry/wherrylaw04.SlotsActs", spec := "slotsActs", recurses := true, named := ["math/bits.deBruijn64tab"], apart := false, laid := [("math/bits.deBruijn64tab", laid_math_bits_deBruijn64tab)], narrowed := true }
def SlotsActsUptoSaid : Prop := slotsActsUptoRow.holds Tryd.pinned (OpenSpec.upto slotsActsSpec)

/-- 'wherrylaw04.SlotsOnce', WHERE WHAT IT READS IS OF BULK AT MOST 1048576: true; the input reads as it did. -/
def slotsOnceUptoRow : OpenClaim := { program := "ytffjaaolcphonaadoor", sum := "5c717991b1bf4929a9548bae7acae7c7602b2d684ee60eb89d6d8e94c21434d8", func := "wherry/wherrylaw04.SlotsOnce", spec := "slotsOnce", recurses := true, named := ["math/bits.deBruijn64tab"], apart := false, laid := [("math/bits.deBruijn64tab", laid_math_bits_deBruijn64tab)], narrowed := true }
def SlotsOnceUptoSaid : Prop := slotsOnceUptoRow.holds Tryd.pinned (OpenSpec.upto slotsOnceSpec)

/-- 'wherrylaw04.SlotsCopies', WHERE WHAT IT READS IS OF BULK AT MOST 1048576: true; the input reads as it did. -/
def slotsCopiesUptoRow : OpenClaim := { program := "ytffjaaolcphonaadoor", sum := "5c717991b1bf4929a9548bae7acae7c7602b2d684ee60eb89d6d8e94c21434d8", func := "wherry/wherrylaw04.SlotsCopies", spec := "slotsCopies", recurses := true, named := ["math/bits.deBruijn64tab"], apart := false, laid := [("math/bits.deBruijn64tab", laid_math_bits_deBruijn64tab)], narrowed := true }
def SlotsCopiesUptoSaid : Prop := slotsCopiesUptoRow.holds Tryd.pinned (OpenSpec.upto slotsCopiesSpec)

/-- 'wherrylaw04.SlotsNone', WHERE WHAT IT READS IS OF BULK AT MOST 1048576: true; the input reads as it did. -/
def slotsNoneUptoRow : OpenClaim := { program := "ytffjaaolcphonaadoor", sum := "5c717991b1bf4929a9548bae7acae7c7602b2d684ee60eb89d6d8e94c21434d8", func := "wherry/wherrylaw04.SlotsNone", spec := "slotsNone", recurses := true, named := ["math/bits.deBruijn64tab"], apart := false, laid := [("math/bits.deBruijn64tab", laid_math_bits_deBruijn64tab)], narrowed := true }
def SlotsNoneUptoSaid : Prop := slotsNoneUptoRow.holds Tryd.pinned (OpenSpec.upto slotsNoneSpec)

/-- 'wherrylaw22.ThreadWays', WHERE WHAT IT READS IS OF BULK AT MOST 1048576: true; the input reads as it did. -/
def threadWaysUptoRow : OpenClaim := { program := "ytffjaaolcphonaadoor", sum := "5c717991b1bf4929a9548bae7acae7c7602b2d684ee60eb89d6d8e94c21434d8", func := "wherry/wherrylaw22.ThreadWays", spec := "threadWays", unfollowed := true, recurses := true, named := ["math/bits.deBruijn64tab", "wherry/thread.toRun", "wherry/thread.toTrap", "wherry/thread.toWake", "wherry/thread.toYield", "wherry/thread.toWait", "wherry/thread.toBack"], apart := false, laid := [("math/bits.deBruijn64tab", laid_math_bits_deBruijn64tab), ("wherry/thread.toRun", laid_wherry_thread_toRun), ("wherry/thread.toYield", laid_wherry_thread_toYield), ("wherry/thread.toWait", laid_wherry_thread_toWait), ("wherry/thread.toTrap", laid_wherry_thread_toTrap), ("wherry/thread.toWake", laid_wherry_thread_toWake), ("wherry/thread.toBack", laid_wherry_thread_toBack)], narrowed := true }
def ThreadWaysUptoSaid : Prop := threadWaysUptoRow.holds Tryd.pinned (OpenSpec.upto threadWaysSpec)

/-- 'wherrylaw22.ThreadActs', WHERE WHAT IT READS IS OF BULK AT MOST 1048576: true; the input reads as it did. -/
def threadActsUptoRow : OpenClaim := { program := "ytffjaaolcphonaadoor", sum := "5c717991b1bf4929a9548bae7acae7c7602b2d684ee60eb89d6d8e94c21434d8", func := "wherry/wherrylaw22.ThreadActs", spec := "threadActs", unfollowed := true, recurses := true, named := ["math/bits.deBruijn64tab", "wherry/thread.toRun", "wherry/thread.toTrap", "wherry/thread.toWake", "wherry/thread.toYield", "wherry/thread.toWait", "wherry/thread.toBack"], apart := false, laid := [("math/bits.deBruijn64tab", laid_math_bits_deBruijn64tab), ("wherry/thread.toRun", laid_wherry_thread_toRun), ("wherry/thread.toYield", laid_wherry_thread_toYield), ("wherry/thread.toWait", laid_wherry_thread_toWait), ("wherry/thread.toTrap", laid_wherry_thread_toTrap), ("wherry/thread.toWake", laid_wherry_thread_toWake), ("wherry/thread.toBack", laid_wherry_thread_toBack)], narrowed := true }
def ThreadActsUptoSaid : Prop := threadActsUptoRow.holds Tryd.pinned (OpenSpec.upto threadActsSpec)

/-- 'wherrylaw22.ThreadStates', WHERE WHAT IT READS IS OF BULK AT MOST 1048576: true; the input reads as it did. -/
def threadStatesUptoRow : OpenClaim := { program := "ytffjaaolcphonaadoor", sum := "5c717991b1bf4929a9548bae7acae7c7602b2d684ee60eb89d6d8e94c21434d8", func := "wherry/wherrylaw22.ThreadStates", spec := "threadStates", unfollowed := true, recurses := true, named := ["math/bits.deBruijn64tab", "wherry/thread.toRun", "wherry/thread.toTrap", "wherry/thread.toWake", "wherry/thread.toYield", "wherry/thread.toWait", "wherry/thread.toBack"], apart := false, laid := [("math/bits.deBruijn64tab", laid_math_bits_deBruijn64tab), ("wherry/thread.toRun", laid_wherry_thread_toRun), ("wherry/thread.toYield", laid_wherry_thread_toYield), ("wherry/thread.toWait", laid_wherry_thread_toWait), ("wherry/thread.toTrap", laid_wherry_thread_toTrap), ("wherry/thread.toWake", laid_wherry_thread_toWake), ("wherry/thread.toBack", laid_wherry_thread_toBack)], narrowed := true }
def ThreadStatesUptoSaid : Prop := threadStatesUptoRow.holds Tryd.pinned (OpenSpec.upto threadStatesSpec)

/-- 'wherrylaw22.ThreadCopies', WHERE WHAT IT READS IS OF BULK AT MOST 1048576: true; the input reads as it did. -/
def threadCopiesUptoRow : OpenClaim := { program := "ytffjaaolcphonaadoor", sum := "5c717991b1bf4929a9548bae7acae7c7602b2d684ee60eb89d6d8e94c21434d8", func := "wherry/wherrylaw22.ThreadCopies", spec := "threadCopies", inPlace := ["maps.clone"], unfollowed := true, recurses := true, named := ["math/bits.deBruijn64tab", "wherry/thread.toRun", "wherry/thread.toTrap", "wherry/thread.toWake", "wherry/thread.toYield", "wherry/thread.toWait", "wherry/thread.toBack"], apart := false, laid := [("math/bits.deBruijn64tab", laid_math_bits_deBruijn64tab), ("wherry/thread.toRun", laid_wherry_thread_toRun), ("wherry/thread.toYield", laid_wherry_thread_toYield), ("wherry/thread.toWait", laid_wherry_thread_toWait), ("wherry/thread.toTrap", laid_wherry_thread_toTrap), ("wherry/thread.toWake", laid_wherry_thread_toWake), ("wherry/thread.toBack", laid_wherry_thread_toBack)], narrowed := true }
def ThreadCopiesUptoSaid : Prop := threadCopiesUptoRow.holds Tryd.pinned (OpenSpec.upto threadCopiesSpec)

/-- 'wherrylaw22.ThreadNone', WHERE WHAT IT READS IS OF BULK AT MOST 1048576: true; the input reads as it did. -/
def threadNoneUptoRow : OpenClaim := { program := "ytffjaaolcphonaadoor", sum := "5c717991b1bf4929a9548bae7acae7c7602b2d684ee60eb89d6d8e94c21434d8", func := "wherry/wherrylaw22.ThreadNone", spec := "threadNone", inPlace := ["maps.clone"], unfollowed := true, recurses := true, named := ["math/bits.deBruijn64tab", "wherry/thread.toRun", "wherry/thread.toYield", "wherry/thread.toWait", "wherry/thread.toTrap", "wherry/thread.toWake", "wherry/thread.toBack"], apart := false, laid := [("math/bits.deBruijn64tab", laid_math_bits_deBruijn64tab), ("wherry/thread.toRun", laid_wherry_thread_toRun), ("wherry/thread.toYield", laid_wherry_thread_toYield), ("wherry/thread.toWait", laid_wherry_thread_toWait), ("wherry/thread.toTrap", laid_wherry_thread_toTrap), ("wherry/thread.toWake", laid_wherry_thread_toWake), ("wherry/thread.toBack", laid_wherry_thread_toBack)], narrowed := true }
def ThreadNoneUptoSaid : Prop := threadNoneUptoRow.holds Tryd.pinned (OpenSpec.upto threadNoneSpec)

/-- 'wherrylaw16.LifeRound', WHERE WHAT IT READS IS OF BULK AT MOST 1048576: true; the input reads as it did. -/
def lifeRoundUptoRow : OpenClaim := { program := "ytffjaaolcphonaadoor", sum := "5c717991b1bf4929a9548bae7acae7c7602b2d684ee60eb89d6d8e94c21434d8", func := "wherry/wherrylaw16.LifeRound", spec := "lifeRound", unfollowed := true, recurses := true, named := ["math/bits.deBruijn64tab", "wherry/life.from"], apart := false, laid := [("math/bits.deBruijn64tab", laid_math_bits_deBruijn64tab), ("wherry/life.from", laid_wherry_life_from)], narrowed := true }
def LifeRoundUptoSaid : Prop := lifeRoundUptoRow.holds Tryd.pinned (OpenSpec.upto lifeRoundSpec)

/-- 'wherrylaw16.LifeCores', WHERE WHAT IT READS IS OF BULK AT MOST 1048576: true; the input reads as it did. -/
def lifeCoresUptoRow : OpenClaim := { program := "ytffjaaolcphonaadoor", sum := "5c717991b1bf4929a9548bae7acae7c7602b2d684ee60eb89d6d8e94c21434d8", func := "wherry/wherrylaw16.LifeCores", spec := "lifeCores", unfollowed := true, recurses := true, named := ["math/bits.deBruijn64tab", "wherry/life.from"], apart := false, laid := [("math/bits.deBruijn64tab", laid_math_bits_deBruijn64tab), ("wherry/life.from", laid_wherry_life_from)], narrowed := true }
def LifeCoresUptoSaid : Prop := lifeCoresUptoRow.holds Tryd.pinned (OpenSpec.upto lifeCoresSpec)

/-- 'wherrylaw16.LifeActs', WHERE WHAT IT READS IS OF BULK AT MOST 1048576: true; the input reads as it did. -/
def lifeActsUptoRow : OpenClaim := { program := "ytffjaaolcphonaadoor", sum := "5c717991b1bf4929a9548bae7acae7c7602b2d684ee60eb89d6d8e94c21434d8", func := "wherry/wherrylaw16.LifeActs", spec := "lifeActs", unfollowed := true, recurses := true, named := ["math/bits.deBruijn64tab", "wherry/life.from"], apart := false, laid := [("math/bits.deBruijn64tab", laid_math_bits_deBruijn64tab), ("wherry/life.from", laid_wherry_life_from)], narrowed := true }
def LifeActsUptoSaid : Prop := lifeActsUptoRow.holds Tryd.pinned (OpenSpec.upto lifeActsSpec)

/-- 'wherrylaw16.LifeCopies', WHERE WHAT IT READS IS OF BULK AT MOST 1048576: true; the input reads as it did. -/
def lifeCopiesUptoRow : OpenClaim := { program := "ytffjaaolcphonaadoor", sum := "5c717991b1bf4929a9548bae7acae7c7602b2d684ee60eb89d6d8e94c21434d8", func := "wherry/wherrylaw16.LifeCopies", spec := "lifeCopies", inPlace := ["maps.clone"], unfollowed := true, recurses := true, named := ["math/bits.deBruijn64tab", "wherry/life.from"], apart := false, laid := [("math/bits.deBruijn64tab", laid_math_bits_deBruijn64tab), ("wherry/life.from", laid_wherry_life_from)], narrowed := true }
def LifeCopiesUptoSaid : Prop := lifeCopiesUptoRow.holds Tryd.pinned (OpenSpec.upto lifeCopiesSpec)

/-- 'wherrylaw16.LifeNone', WHERE WHAT IT READS IS OF BULK AT MOST 1048576: true; the input reads as it did. -/
def lifeNoneUptoRow : OpenClaim := { program := "ytffjaaolcphonaadoor", sum := "5c717991b1bf4929a9548bae7acae7c7602b2d684ee60eb89d6d8e94c21434d8", func := "wherry/wherrylaw16.LifeNone", spec := "lifeNone", inPlace := ["maps.clone"], unfollowed := true, recurses := true, named := ["math/bits.deBruijn64tab", "wherry/life.from"], apart := false, laid := [("math/bits.deBruijn64tab", laid_math_bits_deBruijn64tab), ("wherry/life.from", laid_wherry_life_from)], narrowed := true }
def LifeNoneUptoSaid : Prop := lifeNoneUptoRow.holds Tryd.pinned (OpenSpec.upto lifeNoneSpec)

end Rows
end Go.Proofs.YtffjaaolcphonaaDoor
