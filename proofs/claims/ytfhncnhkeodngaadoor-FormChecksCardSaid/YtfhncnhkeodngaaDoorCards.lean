/-
  DERIVED. GIVEN WITH THE SEED: THE CARDS: each row of YtfhncnhkeodngaaDoorRows.lean that lists a variable, with what it lists TIED to the program's text (the seventh form; the later family's looks); each row that meets fmt, with fmt's text TOLD by the authors' own Lean function (tested against real Go, not proved from fmt's source: count such statements apart). THE CARD IS WHAT COUNTS. Prove the row's statement (the work); the ties are given (YtfhncnhkeodngaaDoorTie.lean); close each card by the builder's one call (the guide's Derived/Test/ToyasCard.lean, 'card_holds'). Laid BY PROGRAM, IN A SANDBOX (cutbox-door.mjs). By AI agents, Wed Nov 11 2026. No macro, syntax, notation, axiom, sorry.
-/
import Derived.Test.YtfhncnhkeodngaaDoorRows
import GoSem.ClaimSeven
namespace Go.Proofs.YtfhncnhkeodngaaDoor
namespace Rows

/-- THE TIED CARD OF 'filbertlaw4.CountEvals'. -/
def countEvalsCard : Claim7 := { stood := { row := countEvalsRow, standIns := [], harness := (true, "70227a17e5eb6381e2e74bbcc62c1db9f76e5827de8db73adea06bda6532c278"), looks := true }, kinds := [], alts := [], laidByText := true, laidKinds := [.handle], laidTests := true, laidLooks := .later }
def CountEvalsCardSaid : Prop := Claim7.holds Tryd.pinned (.plain (OpenSpec.ofChange countEvalsSpec)) countEvalsCard

/-- THE TIED CARD OF 'filbertlaw2.WordMorphs'. -/
def wordMorphsCard : Claim7 := { stood := { row := wordMorphsRow, standIns := [], harness := (true, "70227a17e5eb6381e2e74bbcc62c1db9f76e5827de8db73adea06bda6532c278"), looks := true }, kinds := [], alts := [], laidByText := true, laidKinds := [.handle], laidTests := true, laidLooks := .later }
def WordMorphsCardSaid : Prop := Claim7.holds Tryd.pinned (.plain (OpenSpec.ofChange wordMorphsSpec)) wordMorphsCard

/-- THE TIED CARD OF 'filbertlaw2.WordNamed'. -/
def wordNamedCard : Claim7 := { stood := { row := wordNamedRow, standIns := [], harness := (true, "70227a17e5eb6381e2e74bbcc62c1db9f76e5827de8db73adea06bda6532c278"), looks := true }, kinds := [], alts := [], laidByText := true, laidKinds := [.handle], laidTests := true, laidLooks := .later }
def WordNamedCardSaid : Prop := Claim7.holds Tryd.pinned (.plain (OpenSpec.ofChange wordNamedSpec)) wordNamedCard

/-- THE TIED CARD OF 'filbertlaw4.CountLongs'. -/
def countLongsCard : Claim7 := { stood := { row := countLongsRow, standIns := [], harness := (true, "70227a17e5eb6381e2e74bbcc62c1db9f76e5827de8db73adea06bda6532c278"), looks := true }, kinds := [], alts := [], laidByText := true, laidKinds := [.handle], laidTests := true, laidLooks := .later }
def CountLongsCardSaid : Prop := Claim7.holds Tryd.pinned (.plain (OpenSpec.ofChange countLongsSpec)) countLongsCard

/-- THE TIED CARD OF 'filbertlaw3.FormChecks'. -/
def formChecksCard : Claim7 := { stood := { row := formChecksRow, standIns := [], harness := (true, "70227a17e5eb6381e2e74bbcc62c1db9f76e5827de8db73adea06bda6532c278"), looks := true }, kinds := [], alts := [], laidByText := true, laidKinds := [.handle], laidTests := true, laidLooks := .later }
def FormChecksCardSaid : Prop := Claim7.holds Tryd.pinned (.plain (OpenSpec.ofChange formChecksSpec)) formChecksCard

/-- THE TIED CARD OF 'filbertlaw2.WordLikes'. -/
def wordLikesCard : Claim7 := { stood := { row := wordLikesRow, standIns := [], harness := (true, "70227a17e5eb6381e2e74bbcc62c1db9f76e5827de8db73adea06bda6532c278"), looks := true }, kinds := [], alts := [], laidByText := true, laidKinds := [.handle], laidTests := true, laidLooks := .later }
def WordLikesCardSaid : Prop := Claim7.holds Tryd.pinned (.plain (OpenSpec.ofChange wordLikesSpec)) wordLikesCard

/-- THE TIED CARD OF 'filbertlaw2.LineIs'. -/
def lineIsCard : Claim7 := { stood := { row := lineIsRow, standIns := [], harness := (true, "70227a17e5eb6381e2e74bbcc62c1db9f76e5827de8db73adea06bda6532c278"), looks := true }, kinds := [], alts := [], laidByText := true, laidKinds := [.handle], laidTests := true, laidLooks := .later }
def LineIsCardSaid : Prop := Claim7.holds Tryd.pinned (.plain (OpenSpec.ofChange lineIsSpec)) lineIsCard

/-- THE TIED CARD OF 'filbertlaw2.WordIs'. -/
def wordIsCard : Claim7 := { stood := { row := wordIsRow, standIns := [], harness := (true, "70227a17e5eb6381e2e74bbcc62c1db9f76e5827de8db73adea06bda6532c278"), looks := true }, kinds := [], alts := [], laidByText := true, laidKinds := [.handle], laidTests := true, laidLooks := .later }
def WordIsCardSaid : Prop := Claim7.holds Tryd.pinned (.plain (OpenSpec.ofChange wordIsSpec)) wordIsCard

/-- THE SECOND FORM's CARD OF 'filbertlaw4.CountEvals'. -/
def countEvalsUptoCard : Claim7 := { stood := { row := countEvalsUptoRow, standIns := [], harness := (true, "70227a17e5eb6381e2e74bbcc62c1db9f76e5827de8db73adea06bda6532c278"), looks := true }, kinds := [], alts := [], laidByText := true, laidKinds := [.handle], laidTests := true, laidLooks := .later }
def CountEvalsUptoCardSaid : Prop := Claim7.holds Tryd.pinned (.plain (OpenSpec.upto countEvalsSpec)) countEvalsUptoCard

/-- THE SECOND FORM's CARD OF 'filbertlaw2.WordMorphs'. -/
def wordMorphsUptoCard : Claim7 := { stood := { row := wordMorphsUptoRow, standIns := [], harness := (true, "70227a17e5eb6381e2e74bbcc62c1db9f76e5827de8db73adea06bda6532c278"), looks := true }, kinds := [], alts := [], laidByText := true, laidKinds := [.handle], laidTests := true, laidLooks := .later }
def WordMorphsUptoCardSaid : Prop := Claim7.holds Tryd.pinned (.plain (OpenSpec.upto wordMorphsSpec)) wordMorphsUptoCard

/-- THE SECOND FORM's CARD OF 'filbertlaw2.WordNamed'. -/
def wordNamedUptoCard : Claim7 := { stood := { row := wordNamedUptoRow, standIns := [], harness := (true, "70227a17e5eb6381e2e74bbcc62c1db9f76e5827de8db73adea06bda6532c278"), looks := true }, kinds := [], alts := [], laidByText := true, laidKinds := [.handle], laidTests := true, laidLooks := .later }
def WordNamedUptoCardSaid : Prop := Claim7.holds Tryd.pinned (.plain (OpenSpec.upto wordNamedSpec)) wordNamedUptoCard

/-- THE SECOND FORM's CARD OF 'filbertlaw4.CountLongs'. -/
def countLongsUptoCard : Claim7 := { stood := { row := countLongsUptoRow, standIns := [], harness := (true, "70227a17e5eb6381e2e74bbcc62c1db9f76e5827de8db73adea06bda6532c278"), looks := true }, kinds := [], alts := [], laidByText := true, laidKinds := [.handle], laidTests := true, laidLooks := .later }
def CountLongsUptoCardSaid : Prop := Claim7.holds Tryd.pinned (.plain (OpenSpec.upto countLongsSpec)) countLongsUptoCard

/-- THE SECOND FORM's CARD OF 'filbertlaw3.FormChecks'. -/
def formChecksUptoCard : Claim7 := { stood := { row := formChecksUptoRow, standIns := [], harness := (true, "70227a17e5eb6381e2e74bbcc62c1db9f76e5827de8db73adea06bda6532c278"), looks := true }, kinds := [], alts := [], laidByText := true, laidKinds := [.handle], laidTests := true, laidLooks := .later }
def FormChecksUptoCardSaid : Prop := Claim7.holds Tryd.pinned (.plain (OpenSpec.upto formChecksSpec)) formChecksUptoCard

/-- THE SECOND FORM's CARD OF 'filbertlaw2.WordLikes'. -/
def wordLikesUptoCard : Claim7 := { stood := { row := wordLikesUptoRow, standIns := [], harness := (true, "70227a17e5eb6381e2e74bbcc62c1db9f76e5827de8db73adea06bda6532c278"), looks := true }, kinds := [], alts := [], laidByText := true, laidKinds := [.handle], laidTests := true, laidLooks := .later }
def WordLikesUptoCardSaid : Prop := Claim7.holds Tryd.pinned (.plain (OpenSpec.upto wordLikesSpec)) wordLikesUptoCard

/-- THE SECOND FORM's CARD OF 'filbertlaw2.LineIs'. -/
def lineIsUptoCard : Claim7 := { stood := { row := lineIsUptoRow, standIns := [], harness := (true, "70227a17e5eb6381e2e74bbcc62c1db9f76e5827de8db73adea06bda6532c278"), looks := true }, kinds := [], alts := [], laidByText := true, laidKinds := [.handle], laidTests := true, laidLooks := .later }
def LineIsUptoCardSaid : Prop := Claim7.holds Tryd.pinned (.plain (OpenSpec.upto lineIsSpec)) lineIsUptoCard

/-- THE SECOND FORM's CARD OF 'filbertlaw2.WordIs'. -/
def wordIsUptoCard : Claim7 := { stood := { row := wordIsUptoRow, standIns := [], harness := (true, "70227a17e5eb6381e2e74bbcc62c1db9f76e5827de8db73adea06bda6532c278"), looks := true }, kinds := [], alts := [], laidByText := true, laidKinds := [.handle], laidTests := true, laidLooks := .later }
def WordIsUptoCardSaid : Prop := Claim7.holds Tryd.pinned (.plain (OpenSpec.upto wordIsSpec)) wordIsUptoCard
end Rows
end Go.Proofs.YtfhncnhkeodngaaDoor
