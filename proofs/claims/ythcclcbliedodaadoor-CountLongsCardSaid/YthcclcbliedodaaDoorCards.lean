/-
  DERIVED. GIVEN WITH THE SEED: THE CARDS: each row of YthcclcbliedodaaDoorRows.lean that lists a variable, with what it lists TIED to the program's text (the seventh form; the later family's looks); each row that meets fmt, with fmt's text TOLD by the authors' own Lean function (tested against real Go, not proved from fmt's source: count such statements apart). THE CARD IS WHAT COUNTS. Prove the row's statement (the work); the ties are given (YthcclcbliedodaaDoorTie.lean); close each card by the builder's one call (the guide's Derived/Test/ToyasCard.lean, 'card_holds'). Laid BY PROGRAM, IN A SANDBOX (cutbox-door.mjs). By AI agents, Wed Nov 11 2026. No macro, syntax, notation, axiom, sorry.
-/
import Derived.Test.YthcclcbliedodaaDoorRows
import GoSem.ClaimSeven
namespace Go.Proofs.YthcclcbliedodaaDoor
namespace Rows

/-- THE TIED CARD OF 'filbertlaw4.CountLongs'. -/
def countLongsCard : Claim7 := { stood := { row := countLongsRow, standIns := [], harness := (true, "e3b93cc53d4fbf5d644c49e51a29cf9907814d446e40728f1ecbf41135deafad"), looks := true }, kinds := [], alts := [], laidByText := true, laidKinds := [.handle], laidTests := true, laidLooks := .later }
def CountLongsCardSaid : Prop := Claim7.holds Tryd.pinned (.plain (OpenSpec.ofChange countLongsSpec)) countLongsCard

/-- THE TIED CARD OF 'filbertlaw2.TurnIs'. -/
def turnIsCard : Claim7 := { stood := { row := turnIsRow, standIns := [], harness := (true, "e3b93cc53d4fbf5d644c49e51a29cf9907814d446e40728f1ecbf41135deafad"), looks := true }, kinds := [], alts := [], laidByText := true, laidKinds := [.handle], laidTests := true, laidLooks := .later }
def TurnIsCardSaid : Prop := Claim7.holds Tryd.pinned (.plain (OpenSpec.ofChange turnIsSpec)) turnIsCard

/-- THE TIED CARD OF 'filbertlaw2.SomeCloses'. -/
def someClosesCard : Claim7 := { stood := { row := someClosesRow, standIns := [], harness := (true, "e3b93cc53d4fbf5d644c49e51a29cf9907814d446e40728f1ecbf41135deafad"), looks := true }, kinds := [], alts := [], laidByText := true, laidKinds := [.handle], laidTests := true, laidLooks := .later }
def SomeClosesCardSaid : Prop := Claim7.holds Tryd.pinned (.plain (OpenSpec.ofChange someClosesSpec)) someClosesCard

/-- THE TIED CARD OF 'filbertlaw2.SomeIs'. -/
def someIsCard : Claim7 := { stood := { row := someIsRow, standIns := [], harness := (true, "e3b93cc53d4fbf5d644c49e51a29cf9907814d446e40728f1ecbf41135deafad"), looks := true }, kinds := [], alts := [], laidByText := true, laidKinds := [.handle], laidTests := true, laidLooks := .later }
def SomeIsCardSaid : Prop := Claim7.holds Tryd.pinned (.plain (OpenSpec.ofChange someIsSpec)) someIsCard

/-- THE SECOND FORM's CARD OF 'filbertlaw4.CountLongs'. -/
def countLongsUptoCard : Claim7 := { stood := { row := countLongsUptoRow, standIns := [], harness := (true, "e3b93cc53d4fbf5d644c49e51a29cf9907814d446e40728f1ecbf41135deafad"), looks := true }, kinds := [], alts := [], laidByText := true, laidKinds := [.handle], laidTests := true, laidLooks := .later }
def CountLongsUptoCardSaid : Prop := Claim7.holds Tryd.pinned (.plain (OpenSpec.upto countLongsSpec)) countLongsUptoCard

/-- THE SECOND FORM's CARD OF 'filbertlaw2.TurnIs'. -/
def turnIsUptoCard : Claim7 := { stood := { row := turnIsUptoRow, standIns := [], harness := (true, "e3b93cc53d4fbf5d644c49e51a29cf9907814d446e40728f1ecbf41135deafad"), looks := true }, kinds := [], alts := [], laidByText := true, laidKinds := [.handle], laidTests := true, laidLooks := .later }
def TurnIsUptoCardSaid : Prop := Claim7.holds Tryd.pinned (.plain (OpenSpec.upto turnIsSpec)) turnIsUptoCard

/-- THE SECOND FORM's CARD OF 'filbertlaw2.SomeCloses'. -/
def someClosesUptoCard : Claim7 := { stood := { row := someClosesUptoRow, standIns := [], harness := (true, "e3b93cc53d4fbf5d644c49e51a29cf9907814d446e40728f1ecbf41135deafad"), looks := true }, kinds := [], alts := [], laidByText := true, laidKinds := [.handle], laidTests := true, laidLooks := .later }
def SomeClosesUptoCardSaid : Prop := Claim7.holds Tryd.pinned (.plain (OpenSpec.upto someClosesSpec)) someClosesUptoCard

/-- THE SECOND FORM's CARD OF 'filbertlaw2.SomeIs'. -/
def someIsUptoCard : Claim7 := { stood := { row := someIsUptoRow, standIns := [], harness := (true, "e3b93cc53d4fbf5d644c49e51a29cf9907814d446e40728f1ecbf41135deafad"), looks := true }, kinds := [], alts := [], laidByText := true, laidKinds := [.handle], laidTests := true, laidLooks := .later }
def SomeIsUptoCardSaid : Prop := Claim7.holds Tryd.pinned (.plain (OpenSpec.upto someIsSpec)) someIsUptoCard
end Rows
end Go.Proofs.YthcclcbliedodaaDoor
