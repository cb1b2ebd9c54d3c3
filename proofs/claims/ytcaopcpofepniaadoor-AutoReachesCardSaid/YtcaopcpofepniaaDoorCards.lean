/-
  DERIVED. GIVEN WITH THE SEED: THE CARDS: each row of YtcaopcpofepniaaDoorRows.lean that lists a variable, with what it lists TIED to the program's text (the seventh form; the later family's looks); each row that meets fmt, with fmt's text TOLD by the authors' own Lean function (tested against real Go, not proved from fmt's source: count such statements apart). THE CARD IS WHAT COUNTS. Prove the row's statement (the work); the ties are given (YtcaopcpofepniaaDoorTie.lean); close each card by the builder's one call (the guide's Derived/Test/ToyasCard.lean, 'card_holds'). Laid BY PROGRAM, IN A SANDBOX (cutbox-door.mjs). By AI agents, Wed Nov 11 2026. No macro, syntax, notation, axiom, sorry.
-/
import Derived.Test.YtcaopcpofepniaaDoorRows
import GoSem.ClaimSeven
namespace Go.Proofs.YtcaopcpofepniaaDoor
namespace Rows

/-- THE TIED CARD OF 'filbertlaw3.FormEvals'. -/
def formEvalsCard : Claim7 := { stood := { row := formEvalsRow, standIns := [], harness := (true, "9282d4e77b8afb2472594f91494c8bbc081967a80ec019cef758c96a4e6464ef"), looks := true }, kinds := [], alts := [], laidByText := true, laidKinds := [.handle], laidTests := true, laidLooks := .later }
def FormEvalsCardSaid : Prop := Claim7.holds Tryd.pinned (.plain (OpenSpec.ofChange formEvalsSpec)) formEvalsCard

/-- THE TIED CARD OF 'filbertlaw1.AutoReaches'. -/
def autoReachesCard : Claim7 := { stood := { row := autoReachesRow, standIns := [], harness := (true, "9282d4e77b8afb2472594f91494c8bbc081967a80ec019cef758c96a4e6464ef"), looks := true }, kinds := [], alts := [], laidByText := true, laidKinds := [.handle], laidTests := true, laidLooks := .later }
def AutoReachesCardSaid : Prop := Claim7.holds Tryd.pinned (.plain (OpenSpec.ofChange autoReachesSpec)) autoReachesCard

/-- THE TIED CARD OF 'filbertlaw4.CountBelow'. -/
def countBelowCard : Claim7 := { stood := { row := countBelowRow, standIns := [], harness := (true, "9282d4e77b8afb2472594f91494c8bbc081967a80ec019cef758c96a4e6464ef"), looks := true }, kinds := [], alts := [], laidByText := true, laidKinds := [.handle], laidTests := true, laidLooks := .later }
def CountBelowCardSaid : Prop := Claim7.holds Tryd.pinned (.plain (OpenSpec.ofChange countBelowSpec)) countBelowCard

/-- THE TIED CARD OF 'filbertlaw4.AskLists'. -/
def askListsCard : Claim7 := { stood := { row := askListsRow, standIns := [], harness := (true, "9282d4e77b8afb2472594f91494c8bbc081967a80ec019cef758c96a4e6464ef"), looks := true }, kinds := [], alts := [], laidByText := true, laidKinds := [.handle], laidTests := true, laidLooks := .later }
def AskListsCardSaid : Prop := Claim7.holds Tryd.pinned (.plain (OpenSpec.ofChange askListsSpec)) askListsCard

/-- THE SECOND FORM's CARD OF 'filbertlaw3.FormEvals'. -/
def formEvalsUptoCard : Claim7 := { stood := { row := formEvalsUptoRow, standIns := [], harness := (true, "9282d4e77b8afb2472594f91494c8bbc081967a80ec019cef758c96a4e6464ef"), looks := true }, kinds := [], alts := [], laidByText := true, laidKinds := [.handle], laidTests := true, laidLooks := .later }
def FormEvalsUptoCardSaid : Prop := Claim7.holds Tryd.pinned (.plain (OpenSpec.upto formEvalsSpec)) formEvalsUptoCard

/-- THE SECOND FORM's CARD OF 'filbertlaw1.AutoReaches'. -/
def autoReachesUptoCard : Claim7 := { stood := { row := autoReachesUptoRow, standIns := [], harness := (true, "9282d4e77b8afb2472594f91494c8bbc081967a80ec019cef758c96a4e6464ef"), looks := true }, kinds := [], alts := [], laidByText := true, laidKinds := [.handle], laidTests := true, laidLooks := .later }
def AutoReachesUptoCardSaid : Prop := Claim7.holds Tryd.pinned (.plain (OpenSpec.upto autoReachesSpec)) autoReachesUptoCard

/-- THE SECOND FORM's CARD OF 'filbertlaw4.CountBelow'. -/
def countBelowUptoCard : Claim7 := { stood := { row := countBelowUptoRow, standIns := [], harness := (true, "9282d4e77b8afb2472594f91494c8bbc081967a80ec019cef758c96a4e6464ef"), looks := true }, kinds := [], alts := [], laidByText := true, laidKinds := [.handle], laidTests := true, laidLooks := .later }
def CountBelowUptoCardSaid : Prop := Claim7.holds Tryd.pinned (.plain (OpenSpec.upto countBelowSpec)) countBelowUptoCard

/-- THE SECOND FORM's CARD OF 'filbertlaw4.AskLists'. -/
def askListsUptoCard : Claim7 := { stood := { row := askListsUptoRow, standIns := [], harness := (true, "9282d4e77b8afb2472594f91494c8bbc081967a80ec019cef758c96a4e6464ef"), looks := true }, kinds := [], alts := [], laidByText := true, laidKinds := [.handle], laidTests := true, laidLooks := .later }
def AskListsUptoCardSaid : Prop := Claim7.holds Tryd.pinned (.plain (OpenSpec.upto askListsSpec)) askListsUptoCard
end Rows
end Go.Proofs.YtcaopcpofepniaaDoor
