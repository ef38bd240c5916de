/-
  DERIVED. GIVEN WITH THE SEED: THE CARDS: each row of YtlkdmpfifpkpaaaGreatDoorRows.lean that lists a variable, with what it lists TIED to the program's text (the seventh form; the later family's looks); each row that meets fmt, with fmt's text TOLD by the authors' own Lean function (tested against real Go, not proved from fmt's source: count such statements apart). THE CARD IS WHAT COUNTS. Prove the row's statement (the work); the ties are given (YtlkdmpfifpkpaaaGreatDoorTie.lean); close each card by the builder's one call (the guide's Derived/Test/ToyasCard.lean, 'card_holds'). Laid BY PROGRAM, IN A SANDBOX (cutbox-door.mjs). By AI agents, Wed Nov 11 2026. No macro, syntax, notation, axiom, sorry.
-/
import Derived.Test.YtlkdmpfifpkpaaaGreatDoorRows
import GoSem.ClaimSeven
namespace Go.Proofs.YtlkdmpfifpkpaaaGreatDoor
namespace Rows

/-- THE TIED CARD OF 'laws.FnExecuteNone'. -/
def fnExecuteNoneCard : Claim7 := { stood := { row := fnExecuteNoneRow, standIns := [], harness := (true, "d158c4b0d36a3f3572ae2f15a081a2bd079217f713e2c6219487da737a42ce05"), looks := true }, kinds := [], alts := [], laidByText := true, laidKinds := [.data, .data, .data, .data, .pinned], laidTests := true, laidLooks := .later }
def FnExecuteNoneCardSaid : Prop := Claim7.holds Tryz.pinned (.plain (OpenSpec.ofChange fnExecuteNoneSpec)) fnExecuteNoneCard

/-- THE TIED CARD OF 'laws.FnExecuteTwice'. -/
def fnExecuteTwiceCard : Claim7 := { stood := { row := fnExecuteTwiceRow, standIns := [], harness := (true, "d158c4b0d36a3f3572ae2f15a081a2bd079217f713e2c6219487da737a42ce05"), looks := true }, kinds := [], alts := [], laidByText := true, laidKinds := [.data, .data, .data, .data, .pinned], laidTests := true, laidLooks := .later }
def FnExecuteTwiceCardSaid : Prop := Claim7.holds Tryz.pinned (.plain (OpenSpec.ofChange fnExecuteTwiceSpec)) fnExecuteTwiceCard

/-- THE TIED CARD OF 'laws.FnExecuteWhat'. -/
def fnExecuteWhatCard : Claim7 := { stood := { row := fnExecuteWhatRow, standIns := [], harness := (true, "d158c4b0d36a3f3572ae2f15a081a2bd079217f713e2c6219487da737a42ce05"), looks := true }, kinds := [], alts := [], laidByText := true, laidKinds := [.data, .data, .data, .data, .pinned], laidTests := true, laidLooks := .later }
def FnExecuteWhatCardSaid : Prop := Claim7.holds Tryz.pinned (.plain (OpenSpec.ofChange fnExecuteWhatSpec)) fnExecuteWhatCard

/-- THE TIED CARD OF 'laws.FnExecuteFinish'. -/
def fnExecuteFinishCard : Claim7 := { stood := { row := fnExecuteFinishRow, standIns := [], harness := (true, "d158c4b0d36a3f3572ae2f15a081a2bd079217f713e2c6219487da737a42ce05"), looks := true }, kinds := [], alts := [], laidByText := true, laidKinds := [.data, .data, .data, .data, .pinned], laidTests := true, laidLooks := .later }
def FnExecuteFinishCardSaid : Prop := Claim7.holds Tryz.pinned (.plain (OpenSpec.ofChange fnExecuteFinishSpec)) fnExecuteFinishCard

/-- THE TIED CARD OF 'laws.FnExecuteFit'. -/
def fnExecuteFitCard : Claim7 := { stood := { row := fnExecuteFitRow, standIns := [], harness := (true, "d158c4b0d36a3f3572ae2f15a081a2bd079217f713e2c6219487da737a42ce05"), looks := true }, kinds := [], alts := [], laidByText := true, laidKinds := [.data, .data, .data, .data, .pinned], laidTests := true, laidLooks := .later }
def FnExecuteFitCardSaid : Prop := Claim7.holds Tryz.pinned (.plain (OpenSpec.ofChange fnExecuteFitSpec)) fnExecuteFitCard

/-- THE TIED CARD OF 'laws.FnExecuteBook'. -/
def fnExecuteBookCard : Claim7 := { stood := { row := fnExecuteBookRow, standIns := [], harness := (true, "d158c4b0d36a3f3572ae2f15a081a2bd079217f713e2c6219487da737a42ce05"), looks := true }, kinds := [], alts := [], laidByText := true, laidKinds := [.data, .data, .data, .data, .pinned], laidTests := true, laidLooks := .later }
def FnExecuteBookCardSaid : Prop := Claim7.holds Tryz.pinned (.plain (OpenSpec.ofChange fnExecuteBookSpec)) fnExecuteBookCard

/-- THE TIED CARD OF 'laws.FnExactExecute'. -/
def fnExactExecuteCard : Claim7 := { stood := { row := fnExactExecuteRow, standIns := [], harness := (true, "d158c4b0d36a3f3572ae2f15a081a2bd079217f713e2c6219487da737a42ce05"), looks := true }, kinds := [], alts := [], laidByText := true, laidKinds := [.data, .data, .data, .data, .pinned], laidTests := true, laidLooks := .later }
def FnExactExecuteCardSaid : Prop := Claim7.holds Tryz.pinned (.plain (OpenSpec.ofChange fnExactExecuteSpec)) fnExactExecuteCard

/-- THE SECOND FORM's CARD OF 'laws.FnExecuteNone'. -/
def fnExecuteNoneUptoCard : Claim7 := { stood := { row := fnExecuteNoneUptoRow, standIns := [], harness := (true, "d158c4b0d36a3f3572ae2f15a081a2bd079217f713e2c6219487da737a42ce05"), looks := true }, kinds := [], alts := [], laidByText := true, laidKinds := [.data, .data, .data, .data, .pinned], laidTests := true, laidLooks := .later }
def FnExecuteNoneUptoCardSaid : Prop := Claim7.holds Tryz.pinned (.plain (OpenSpec.upto fnExecuteNoneSpec)) fnExecuteNoneUptoCard

/-- THE SECOND FORM's CARD OF 'laws.FnExecuteTwice'. -/
def fnExecuteTwiceUptoCard : Claim7 := { stood := { row := fnExecuteTwiceUptoRow, standIns := [], harness := (true, "d158c4b0d36a3f3572ae2f15a081a2bd079217f713e2c6219487da737a42ce05"), looks := true }, kinds := [], alts := [], laidByText := true, laidKinds := [.data, .data, .data, .data, .pinned], laidTests := true, laidLooks := .later }
def FnExecuteTwiceUptoCardSaid : Prop := Claim7.holds Tryz.pinned (.plain (OpenSpec.upto fnExecuteTwiceSpec)) fnExecuteTwiceUptoCard

/-- THE SECOND FORM's CARD OF 'laws.FnExecuteWhat'. -/
def fnExecuteWhatUptoCard : Claim7 := { stood := { row := fnExecuteWhatUptoRow, standIns := [], harness := (true, "d158c4b0d36a3f3572ae2f15a081a2bd079217f713e2c6219487da737a42ce05"), looks := true }, kinds := [], alts := [], laidByText := true, laidKinds := [.data, .data, .data, .data, .pinned], laidTests := true, laidLooks := .later }
def FnExecuteWhatUptoCardSaid : Prop := Claim7.holds Tryz.pinned (.plain (OpenSpec.upto fnExecuteWhatSpec)) fnExecuteWhatUptoCard

/-- THE SECOND FORM's CARD OF 'laws.FnExecuteFinish'. -/
def fnExecuteFinishUptoCard : Claim7 := { stood := { row := fnExecuteFinishUptoRow, standIns := [], harness := (true, "d158c4b0d36a3f3572ae2f15a081a2bd079217f713e2c6219487da737a42ce05"), looks := true }, kinds := [], alts := [], laidByText := true, laidKinds := [.data, .data, .data, .data, .pinned], laidTests := true, laidLooks := .later }
def FnExecuteFinishUptoCardSaid : Prop := Claim7.holds Tryz.pinned (.plain (OpenSpec.upto fnExecuteFinishSpec)) fnExecuteFinishUptoCard

/-- THE SECOND FORM's CARD OF 'laws.FnExecuteFit'. -/
def fnExecuteFitUptoCard : Claim7 := { stood := { row := fnExecuteFitUptoRow, standIns := [], harness := (true, "d158c4b0d36a3f3572ae2f15a081a2bd079217f713e2c6219487da737a42ce05"), looks := true }, kinds := [], alts := [], laidByText := true, laidKinds := [.data, .data, .data, .data, .pinned], laidTests := true, laidLooks := .later }
def FnExecuteFitUptoCardSaid : Prop := Claim7.holds Tryz.pinned (.plain (OpenSpec.upto fnExecuteFitSpec)) fnExecuteFitUptoCard

/-- THE SECOND FORM's CARD OF 'laws.FnExecuteBook'. -/
def fnExecuteBookUptoCard : Claim7 := { stood := { row := fnExecuteBookUptoRow, standIns := [], harness := (true, "d158c4b0d36a3f3572ae2f15a081a2bd079217f713e2c6219487da737a42ce05"), looks := true }, kinds := [], alts := [], laidByText := true, laidKinds := [.data, .data, .data, .data, .pinned], laidTests := true, laidLooks := .later }
def FnExecuteBookUptoCardSaid : Prop := Claim7.holds Tryz.pinned (.plain (OpenSpec.upto fnExecuteBookSpec)) fnExecuteBookUptoCard

/-- THE SECOND FORM's CARD OF 'laws.FnExactExecute'. -/
def fnExactExecuteUptoCard : Claim7 := { stood := { row := fnExactExecuteUptoRow, standIns := [], harness := (true, "d158c4b0d36a3f3572ae2f15a081a2bd079217f713e2c6219487da737a42ce05"), looks := true }, kinds := [], alts := [], laidByText := true, laidKinds := [.data, .data, .data, .data, .pinned], laidTests := true, laidLooks := .later }
def FnExactExecuteUptoCardSaid : Prop := Claim7.holds Tryz.pinned (.plain (OpenSpec.upto fnExactExecuteSpec)) fnExactExecuteUptoCard
end Rows
end Go.Proofs.YtlkdmpfifpkpaaaGreatDoor
