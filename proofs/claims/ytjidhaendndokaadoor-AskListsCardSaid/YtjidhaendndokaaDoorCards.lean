/-
  DERIVED. GIVEN WITH THE SEED: THE CARDS: each row of YtjidhaendndokaaDoorRows.lean that lists a variable, with what it lists TIED to the program's text (the seventh form; the later family's looks); each row that meets fmt, with fmt's text TOLD by the authors' own Lean function (tested against real Go, not proved from fmt's source: count such statements apart). THE CARD IS WHAT COUNTS. Prove the row's statement (the work); the ties are given (YtjidhaendndokaaDoorTie.lean); close each card by the builder's one call (the guide's Derived/Test/ToyasCard.lean, 'card_holds'). Laid BY PROGRAM, IN A SANDBOX (cutbox-door.mjs). By AI agents, Wed Nov 11 2026. No macro, syntax, notation, axiom, sorry.
-/
import Derived.Test.YtjidhaendndokaaDoorRows
import GoSem.ClaimSeven
namespace Go.Proofs.YtjidhaendndokaaDoor
namespace Rows

/-- THE TIED CARD OF 'filbertlaw4.AskLists'. -/
def askListsCard : Claim7 := { stood := { row := askListsRow, standIns := [], harness := (true, "899d1897439cc409cdc01958e21d4fdc4ff2508522b506718687410369f9816c"), looks := true }, kinds := [], alts := [], laidByText := true, laidKinds := [.handle], laidTests := true, laidLooks := .later }
def AskListsCardSaid : Prop := Claim7.holds Tryd.pinned (.plain (OpenSpec.ofChange askListsSpec)) askListsCard

/-- THE TIED CARD OF 'filbertlaw4.CountBelow'. -/
def countBelowCard : Claim7 := { stood := { row := countBelowRow, standIns := [], harness := (true, "899d1897439cc409cdc01958e21d4fdc4ff2508522b506718687410369f9816c"), looks := true }, kinds := [], alts := [], laidByText := true, laidKinds := [.handle], laidTests := true, laidLooks := .later }
def CountBelowCardSaid : Prop := Claim7.holds Tryd.pinned (.plain (OpenSpec.ofChange countBelowSpec)) countBelowCard

/-- THE SECOND FORM's CARD OF 'filbertlaw4.AskLists'. -/
def askListsUptoCard : Claim7 := { stood := { row := askListsUptoRow, standIns := [], harness := (true, "899d1897439cc409cdc01958e21d4fdc4ff2508522b506718687410369f9816c"), looks := true }, kinds := [], alts := [], laidByText := true, laidKinds := [.handle], laidTests := true, laidLooks := .later }
def AskListsUptoCardSaid : Prop := Claim7.holds Tryd.pinned (.plain (OpenSpec.upto askListsSpec)) askListsUptoCard

/-- THE SECOND FORM's CARD OF 'filbertlaw4.CountBelow'. -/
def countBelowUptoCard : Claim7 := { stood := { row := countBelowUptoRow, standIns := [], harness := (true, "899d1897439cc409cdc01958e21d4fdc4ff2508522b506718687410369f9816c"), looks := true }, kinds := [], alts := [], laidByText := true, laidKinds := [.handle], laidTests := true, laidLooks := .later }
def CountBelowUptoCardSaid : Prop := Claim7.holds Tryd.pinned (.plain (OpenSpec.upto countBelowSpec)) countBelowUptoCard
end Rows
end Go.Proofs.YtjidhaendndokaaDoor
