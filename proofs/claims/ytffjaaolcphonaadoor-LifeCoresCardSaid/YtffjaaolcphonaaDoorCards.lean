/-
  DERIVED. GIVEN WITH THE SEED: THE CARDS: each row of YtffjaaolcphonaaDoorRows.lean that lists a variable, with what it lists TIED to the program's text (the seventh form; the later family's looks); each row that meets fmt, with fmt's text TOLD by the authors' own Lean function (tested against real Go, not proved from fmt's source: count such statements apart). THE CARD IS WHAT COUNTS. Prove the row's statement (the work); the ties are given (YtffjaaolcphonaaDoorTie.lean); close each card by the builder's one call (the guide's Derived/Test/ToyasCard.lean, 'card_holds'). Laid BY PROGRAM, IN A SANDBOX (cutbox-door.mjs). By AI agents, Wed Nov 11 2026. No macro, syntax, notation, axiom, sorry.
-/
import Derived.Test.YtffjaaolcphonaaDoorRows
import GoSem.ClaimSeven
namespace Go.Proofs.YtffjaaolcphonaaDoor
namespace Rows

/-- THE TIED CARD OF 'wherrylaw04.SlotsIds'. -/
def slotsIdsCard : Claim7 := { stood := { row := slotsIdsRow, standIns := [], harness := (true, "823855be55183672377d0c2ca6e6f64872208102f4bf3aa47e707e72c8f3815d"), looks := true }, kinds := [], alts := [], laidByText := true, laidKinds := [.data], laidTests := true, laidLooks := .later }
def SlotsIdsCardSaid : Prop := Claim7.holds Tryd.pinned (.plain (OpenSpec.ofChange slotsIdsSpec)) slotsIdsCard

/-- THE TIED CARD OF 'wherrylaw04.SlotsActs'. -/
def slotsActsCard : Claim7 := { stood := { row := slotsActsRow, standIns := [], harness := (true, "823855be55183672377d0c2ca6e6f64872208102f4bf3aa47e707e72c8f3815d"), looks := true }, kinds := [], alts := [], laidByText := true, laidKinds := [.data], laidTests := true, laidLooks := .later }
def SlotsActsCardSaid : Prop := Claim7.holds Tryd.pinned (.plain (OpenSpec.ofChange slotsActsSpec)) slotsActsCard

/-- THE TIED CARD OF 'wherrylaw04.SlotsOnce'. -/
def slotsOnceCard : Claim7 := { stood := { row := slotsOnceRow, standIns := [], harness := (true, "823855be55183672377d0c2ca6e6f64872208102f4bf3aa47e707e72c8f3815d"), looks := true }, kinds := [], alts := [], laidByText := true, laidKinds := [.data], laidTests := true, laidLooks := .later }
def SlotsOnceCardSaid : Prop := Claim7.holds Tryd.pinned (.plain (OpenSpec.ofChange slotsOnceSpec)) slotsOnceCard

/-- THE TIED CARD OF 'wherrylaw04.SlotsCopies'. -/
def slotsCopiesCard : Claim7 := { stood := { row := slotsCopiesRow, standIns := [], harness := (true, "823855be55183672377d0c2ca6e6f64872208102f4bf3aa47e707e72c8f3815d"), looks := true }, kinds := [], alts := [], laidByText := true, laidKinds := [.data], laidTests := true, laidLooks := .later }
def SlotsCopiesCardSaid : Prop := Claim7.holds Tryd.pinned (.plain (OpenSpec.ofChange slotsCopiesSpec)) slotsCopiesCard

/-- THE TIED CARD OF 'wherrylaw04.SlotsNone'. -/
def slotsNoneCard : Claim7 := { stood := { row := slotsNoneRow, standIns := [], harness := (true, "823855be55183672377d0c2ca6e6f64872208102f4bf3aa47e707e72c8f3815d"), looks := true }, kinds := [], alts := [], laidByText := true, laidKinds := [.data], laidTests := true, laidLooks := .later }
def SlotsNoneCardSaid : Prop := Claim7.holds Tryd.pinned (.plain (OpenSpec.ofChange slotsNoneSpec)) slotsNoneCard

/-- THE TIED CARD OF 'wherrylaw22.ThreadWays'. -/
def threadWaysCard : Claim7 := { stood := { row := threadWaysRow, standIns := [], harness := (true, "823855be55183672377d0c2ca6e6f64872208102f4bf3aa47e707e72c8f3815d"), looks := true }, kinds := [], alts := [], laidByText := true, laidKinds := [.data, .data, .data, .data, .data, .data, .data], laidTests := true, laidLooks := .later }
def ThreadWaysCardSaid : Prop := Claim7.holds Tryd.pinned (.plain (OpenSpec.ofChange threadWaysSpec)) threadWaysCard

/-- THE TIED CARD OF 'wherrylaw22.ThreadActs'. -/
def threadActsCard : Claim7 := { stood := { row := threadActsRow, standIns := [], harness := (true, "823855be55183672377d0c2ca6e6f64872208102f4bf3aa47e707e72c8f3815d"), looks := true }, kinds := [], alts := [], laidByText := true, laidKinds := [.data, .data, .data, .data, .data, .data, .data], laidTests := true, laidLooks := .later }
def ThreadActsCardSaid : Prop := Claim7.holds Tryd.pinned (.plain (OpenSpec.ofChange threadActsSpec)) threadActsCard

/-- THE TIED CARD OF 'wherrylaw22.ThreadStates'. -/
def threadStatesCard : Claim7 := { stood := { row := threadStatesRow, standIns := [], harness := (true, "823855be55183672377d0c2ca6e6f64872208102f4bf3aa47e707e72c8f3815d"), looks := true }, kinds := [], alts := [], laidByText := true, laidKinds := [.data, .data, .data, .data, .data, .data, .data], laidTests := true, laidLooks := .later }
def ThreadStatesCardSaid : Prop := Claim7.holds Tryd.pinned (.plain (OpenSpec.ofChange threadStatesSpec)) threadStatesCard

/-- THE TIED CARD OF 'wherrylaw22.ThreadCopies'. -/
def threadCopiesCard : Claim7 := { stood := { row := threadCopiesRow, standIns := [], harness := (true, "823855be55183672377d0c2ca6e6f64872208102f4bf3aa47e707e72c8f3815d"), looks := true }, kinds := [], alts := [], laidByText := true, laidKinds := [.data, .data, .data, .data, .data, .data, .data], laidTests := true, laidLooks := .later }
def ThreadCopiesCardSaid : Prop := Claim7.holds Tryd.pinned (.plain (OpenSpec.ofChange threadCopiesSpec)) threadCopiesCard

/-- THE TIED CARD OF 'wherrylaw22.ThreadNone'. -/
def threadNoneCard : Claim7 := { stood := { row := threadNoneRow, standIns := [], harness := (true, "823855be55183672377d0c2ca6e6f64872208102f4bf3aa47e707e72c8f3815d"), looks := true }, kinds := [], alts := [], laidByText := true, laidKinds := [.data, .data, .data, .data, .data, .data, .data], laidTests := true, laidLooks := .later }
def ThreadNoneCardSaid : Prop := Claim7.holds Tryd.pinned (.plain (OpenSpec.ofChange threadNoneSpec)) threadNoneCard

/-- THE TIED CARD OF 'wherrylaw16.LifeRound'. -/
def lifeRoundCard : Claim7 := { stood := { row := lifeRoundRow, standIns := [], harness := (true, "823855be55183672377d0c2ca6e6f64872208102f4bf3aa47e707e72c8f3815d"), looks := true }, kinds := [], alts := [], laidByText := true, laidKinds := [.data, .data], laidTests := true, laidLooks := .later }
def LifeRoundCardSaid : Prop := Claim7.holds Tryd.pinned (.plain (OpenSpec.ofChange lifeRoundSpec)) lifeRoundCard

/-- THE TIED CARD OF 'wherrylaw16.LifeCores'. -/
def lifeCoresCard : Claim7 := { stood := { row := lifeCoresRow, standIns := [], harness := (true, "823855be55183672377d0c2ca6e6f64872208102f4bf3aa47e707e72c8f3815d"), looks := true }, kinds := [], alts := [], laidByText := true, laidKinds := [.data, .data], laidTests := true, laidLooks := .later }
def LifeCoresCardSaid : Prop := Claim7.holds Tryd.pinned (.plain (OpenSpec.ofChange lifeCoresSpec)) lifeCoresCard

/-- THE TIED CARD OF 'wherrylaw16.LifeActs'. -/
def lifeActsCard : Claim7 := { stood := { row := lifeActsRow, standIns := [], harness := (true, "823855be55183672377d0c2ca6e6f64872208102f4bf3aa47e707e72c8f3815d"), looks := true }, kinds := [], alts := [], laidByText := true, laidKinds := [.data, .data], laidTests := true, laidLooks := .later }
def LifeActsCardSaid : Prop := Claim7.holds Tryd.pinned (.plain (OpenSpec.ofChange lifeActsSpec)) lifeActsCard

/-- THE TIED CARD OF 'wherrylaw16.LifeCopies'. -/
def lifeCopiesCard : Claim7 := { stood := { row := lifeCopiesRow, standIns := [], harness := (true, "823855be55183672377d0c2ca6e6f64872208102f4bf3aa47e707e72c8f3815d"), looks := true }, kinds := [], alts := [], laidByText := true, laidKinds := [.data, .data], laidTests := true, laidLooks := .later }
def LifeCopiesCardSaid : Prop := Claim7.holds Tryd.pinned (.plain (OpenSpec.ofChange lifeCopiesSpec)) lifeCopiesCard

/-- THE TIED CARD OF 'wherrylaw16.LifeNone'. -/
def lifeNoneCard : Claim7 := { stood := { row := lifeNoneRow, standIns := [], harness := (true, "823855be55183672377d0c2ca6e6f64872208102f4bf3aa47e707e72c8f3815d"), looks := true }, kinds := [], alts := [], laidByText := true, laidKinds := [.data, .data], laidTests := true, laidLooks := .later }
def LifeNoneCardSaid : Prop := Claim7.holds Tryd.pinned (.plain (OpenSpec.ofChange lifeNoneSpec)) lifeNoneCard

/-- THE SECOND FORM's CARD OF 'wherrylaw04.SlotsIds'. -/
def slotsIdsUptoCard : Claim7 := { stood := { row := slotsIdsUptoRow, standIns := [], harness := (true, "823855be55183672377d0c2ca6e6f64872208102f4bf3aa47e707e72c8f3815d"), looks := true }, kinds := [], alts := [], laidByText := true, laidKinds := [.data], laidTests := true, laidLooks := .later }
def SlotsIdsUptoCardSaid : Prop := Claim7.holds Tryd.pinned (.plain (OpenSpec.upto slotsIdsSpec)) slotsIdsUptoCard

/-- THE SECOND FORM's CARD OF 'wherrylaw04.SlotsActs'. -/
def slotsActsUptoCard : Claim7 := { stood := { row := slotsActsUptoRow, standIns := [], harness := (true, "823855be55183672377d0c2ca6e6f64872208102f4bf3aa47e707e72c8f3815d"), looks := true }, kinds := [], alts := [], laidByText := true, laidKinds := [.data], laidTests := true, laidLooks := .later }
def SlotsActsUptoCardSaid : Prop := Claim7.holds Tryd.pinned (.plain (OpenSpec.upto slotsActsSpec)) slotsActsUptoCard

/-- THE SECOND FORM's CARD OF 'wherrylaw04.SlotsOnce'. -/
def slotsOnceUptoCard : Claim7 := { stood := { row := slotsOnceUptoRow, standIns := [], harness := (true, "823855be55183672377d0c2ca6e6f64872208102f4bf3aa47e707e72c8f3815d"), looks := true }, kinds := [], alts := [], laidByText := true, laidKinds := [.data], laidTests := true, laidLooks := .later }
def SlotsOnceUptoCardSaid : Prop := Claim7.holds Tryd.pinned (.plain (OpenSpec.upto slotsOnceSpec)) slotsOnceUptoCard

/-- THE SECOND FORM's CARD OF 'wherrylaw04.SlotsCopies'. -/
def slotsCopiesUptoCard : Claim7 := { stood := { row := slotsCopiesUptoRow, standIns := [], harness := (true, "823855be55183672377d0c2ca6e6f64872208102f4bf3aa47e707e72c8f3815d"), looks := true }, kinds := [], alts := [], laidByText := true, laidKinds := [.data], laidTests := true, laidLooks := .later }
def SlotsCopiesUptoCardSaid : Prop := Claim7.holds Tryd.pinned (.plain (OpenSpec.upto slotsCopiesSpec)) slotsCopiesUptoCard

/-- THE SECOND FORM's CARD OF 'wherrylaw04.SlotsNone'. -/
def slotsNoneUptoCard : Claim7 := { stood := { row := slotsNoneUptoRow, standIns := [], harness := (true, "823855be55183672377d0c2ca6e6f64872208102f4bf3aa47e707e72c8f3815d"), looks := true }, kinds := [], alts := [], laidByText := true, laidKinds := [.data], laidTests := true, laidLooks := .later }
def SlotsNoneUptoCardSaid : Prop := Claim7.holds Tryd.pinned (.plain (OpenSpec.upto slotsNoneSpec)) slotsNoneUptoCard

/-- THE SECOND FORM's CARD OF 'wherrylaw22.ThreadWays'. -/
def threadWaysUptoCard : Claim7 := { stood := { row := threadWaysUptoRow, standIns := [], harness := (true, "823855be55183672377d0c2ca6e6f64872208102f4bf3aa47e707e72c8f3815d"), looks := true }, kinds := [], alts := [], laidByText := true, laidKinds := [.data, .data, .data, .data, .data, .data, .data], laidTests := true, laidLooks := .later }
def ThreadWaysUptoCardSaid : Prop := Claim7.holds Tryd.pinned (.plain (OpenSpec.upto threadWaysSpec)) threadWaysUptoCard

/-- THE SECOND FORM's CARD OF 'wherrylaw22.ThreadActs'. -/
def threadActsUptoCard : Claim7 := { stood := { row := threadActsUptoRow, standIns := [], harness := (true, "823855be55183672377d0c2ca6e6f64872208102f4bf3aa47e707e72c8f3815d"), looks := true }, kinds := [], alts := [], laidByText := true, laidKinds := [.data, .data, .data, .data, .data, .data, .data], laidTests := true, laidLooks := .later }
def ThreadActsUptoCardSaid : Prop := Claim7.holds Tryd.pinned (.plain (OpenSpec.upto threadActsSpec)) threadActsUptoCard

/-- THE SECOND FORM's CARD OF 'wherrylaw22.ThreadStates'. -/
def threadStatesUptoCard : Claim7 := { stood := { row := threadStatesUptoRow, standIns := [], harness := (true, "823855be55183672377d0c2ca6e6f64872208102f4bf3aa47e707e72c8f3815d"), looks := true }, kinds := [], alts := [], laidByText := true, laidKinds := [.data, .data, .data, .data, .data, .data, .data], laidTests := true, laidLooks := .later }
def ThreadStatesUptoCardSaid : Prop := Claim7.holds Tryd.pinned (.plain (OpenSpec.upto threadStatesSpec)) threadStatesUptoCard

/-- THE SECOND FORM's CARD OF 'wherrylaw22.ThreadCopies'. -/
def threadCopiesUptoCard : Claim7 := { stood := { row := threadCopiesUptoRow, standIns := [], harness := (true, "823855be55183672377d0c2ca6e6f64872208102f4bf3aa47e707e72c8f3815d"), looks := true }, kinds := [], alts := [], laidByText := true, laidKinds := [.data, .data, .data, .data, .data, .data, .data], laidTests := true, laidLooks := .later }
def ThreadCopiesUptoCardSaid : Prop := Claim7.holds Tryd.pinned (.plain (OpenSpec.upto threadCopiesSpec)) threadCopiesUptoCard

/-- THE SECOND FORM's CARD OF 'wherrylaw22.ThreadNone'. -/
def threadNoneUptoCard : Claim7 := { stood := { row := threadNoneUptoRow, standIns := [], harness := (true, "823855be55183672377d0c2ca6e6f64872208102f4bf3aa47e707e72c8f3815d"), looks := true }, kinds := [], alts := [], laidByText := true, laidKinds := [.data, .data, .data, .data, .data, .data, .data], laidTests := true, laidLooks := .later }
def ThreadNoneUptoCardSaid : Prop := Claim7.holds Tryd.pinned (.plain (OpenSpec.upto threadNoneSpec)) threadNoneUptoCard

/-- THE SECOND FORM's CARD OF 'wherrylaw16.LifeRound'. -/
def lifeRoundUptoCard : Claim7 := { stood := { row := lifeRoundUptoRow, standIns := [], harness := (true, "823855be55183672377d0c2ca6e6f64872208102f4bf3aa47e707e72c8f3815d"), looks := true }, kinds := [], alts := [], laidByText := true, laidKinds := [.data, .data], laidTests := true, laidLooks := .later }
def LifeRoundUptoCardSaid : Prop := Claim7.holds Tryd.pinned (.plain (OpenSpec.upto lifeRoundSpec)) lifeRoundUptoCard

/-- THE SECOND FORM's CARD OF 'wherrylaw16.LifeCores'. -/
def lifeCoresUptoCard : Claim7 := { stood := { row := lifeCoresUptoRow, standIns := [], harness := (true, "823855be55183672377d0c2ca6e6f64872208102f4bf3aa47e707e72c8f3815d"), looks := true }, kinds := [], alts := [], laidByText := true, laidKinds := [.data, .data], laidTests := true, laidLooks := .later }
def LifeCoresUptoCardSaid : Prop := Claim7.holds Tryd.pinned (.plain (OpenSpec.upto lifeCoresSpec)) lifeCoresUptoCard

/-- THE SECOND FORM's CARD OF 'wherrylaw16.LifeActs'. -/
def lifeActsUptoCard : Claim7 := { stood := { row := lifeActsUptoRow, standIns := [], harness := (true, "823855be55183672377d0c2ca6e6f64872208102f4bf3aa47e707e72c8f3815d"), looks := true }, kinds := [], alts := [], laidByText := true, laidKinds := [.data, .data], laidTests := true, laidLooks := .later }
def LifeActsUptoCardSaid : Prop := Claim7.holds Tryd.pinned (.plain (OpenSpec.upto lifeActsSpec)) lifeActsUptoCard

/-- THE SECOND FORM's CARD OF 'wherrylaw16.LifeCopies'. -/
def lifeCopiesUptoCard : Claim7 := { stood := { row := lifeCopiesUptoRow, standIns := [], harness := (true, "823855be55183672377d0c2ca6e6f64872208102f4bf3aa47e707e72c8f3815d"), looks := true }, kinds := [], alts := [], laidByText := true, laidKinds := [.data, .data], laidTests := true, laidLooks := .later }
def LifeCopiesUptoCardSaid : Prop := Claim7.holds Tryd.pinned (.plain (OpenSpec.upto lifeCopiesSpec)) lifeCopiesUptoCard

/-- THE SECOND FORM's CARD OF 'wherrylaw16.LifeNone'. -/
def lifeNoneUptoCard : Claim7 := { stood := { row := lifeNoneUptoRow, standIns := [], harness := (true, "823855be55183672377d0c2ca6e6f64872208102f4bf3aa47e707e72c8f3815d"), looks := true }, kinds := [], alts := [], laidByText := true, laidKinds := [.data, .data], laidTests := true, laidLooks := .later }
def LifeNoneUptoCardSaid : Prop := Claim7.holds Tryd.pinned (.plain (OpenSpec.upto lifeNoneSpec)) lifeNoneUptoCard
end Rows
end Go.Proofs.YtffjaaolcphonaaDoor
