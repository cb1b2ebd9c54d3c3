/-
  DERIVED. GIVEN WITH THE SEED: THE CARDS: each row of YtgglhdbhemcijaaDoorRows.lean that lists a variable, with what it lists TIED to the program's text (the seventh form; the later family's looks); each row that meets fmt, with fmt's text TOLD by the authors' own Lean function (tested against real Go, not proved from fmt's source: count such statements apart). THE CARD IS WHAT COUNTS. Prove the row's statement (the work); the ties are given (YtgglhdbhemcijaaDoorTie.lean); close each card by the builder's one call (the guide's Derived/Test/ToyasCard.lean, 'card_holds'). Laid BY PROGRAM, IN A SANDBOX (cutbox-door.mjs). By AI agents, Wed Nov 11 2026. No macro, syntax, notation, axiom, sorry.
-/
import Derived.Test.YtgglhdbhemcijaaDoorRows
import GoSem.ClaimSeven
namespace Go.Proofs.YtgglhdbhemcijaaDoor
namespace Rows

/-- THE TIED CARD OF 'filbertlaw1.DigitReads'. -/
def digitReadsCard : Claim7 := { stood := { row := digitReadsRow, standIns := [], harness := (true, "1c4e964287dc8f6435df7b9e6c67133d3cc7de20a25b132d2c2752b924e0bf5b"), looks := true }, kinds := [], alts := [], laidByText := true, laidKinds := [.handle], laidTests := true, laidLooks := .later }
def DigitReadsCardSaid : Prop := Claim7.holds Tryd.pinned (.plain (OpenSpec.ofChange digitReadsSpec)) digitReadsCard

/-- THE TIED CARD OF 'filbertlaw1.LetterPacks'. -/
def letterPacksCard : Claim7 := { stood := { row := letterPacksRow, standIns := [], harness := (true, "1c4e964287dc8f6435df7b9e6c67133d3cc7de20a25b132d2c2752b924e0bf5b"), looks := true }, kinds := [], alts := [], laidByText := true, laidKinds := [.handle], laidTests := true, laidLooks := .later }
def LetterPacksCardSaid : Prop := Claim7.holds Tryd.pinned (.plain (OpenSpec.ofChange letterPacksSpec)) letterPacksCard

/-- THE TIED CARD OF 'filbertlaw1.LetterWords'. -/
def letterWordsCard : Claim7 := { stood := { row := letterWordsRow, standIns := [], harness := (true, "1c4e964287dc8f6435df7b9e6c67133d3cc7de20a25b132d2c2752b924e0bf5b"), looks := true }, kinds := [], alts := [], laidByText := true, laidKinds := [.handle], laidTests := true, laidLooks := .later }
def LetterWordsCardSaid : Prop := Claim7.holds Tryd.pinned (.plain (OpenSpec.ofChange letterWordsSpec)) letterWordsCard

/-- THE TIED CARD OF 'filbertlaw1.AutoRuns'. -/
def autoRunsCard : Claim7 := { stood := { row := autoRunsRow, standIns := [], harness := (true, "1c4e964287dc8f6435df7b9e6c67133d3cc7de20a25b132d2c2752b924e0bf5b"), looks := true }, kinds := [], alts := [], laidByText := true, laidKinds := [.handle], laidTests := true, laidLooks := .later }
def AutoRunsCardSaid : Prop := Claim7.holds Tryd.pinned (.plain (OpenSpec.ofChange autoRunsSpec)) autoRunsCard

/-- THE TIED CARD OF 'filbertlaw1.AutoReaches'. -/
def autoReachesCard : Claim7 := { stood := { row := autoReachesRow, standIns := [], harness := (true, "1c4e964287dc8f6435df7b9e6c67133d3cc7de20a25b132d2c2752b924e0bf5b"), looks := true }, kinds := [], alts := [], laidByText := true, laidKinds := [.handle], laidTests := true, laidLooks := .later }
def AutoReachesCardSaid : Prop := Claim7.holds Tryd.pinned (.plain (OpenSpec.ofChange autoReachesSpec)) autoReachesCard

/-- THE TIED CARD OF 'filbertlaw1.LeastIs'. -/
def leastIsCard : Claim7 := { stood := { row := leastIsRow, standIns := [], harness := (true, "1c4e964287dc8f6435df7b9e6c67133d3cc7de20a25b132d2c2752b924e0bf5b"), looks := true }, kinds := [], alts := [], laidByText := true, laidKinds := [.handle], laidTests := true, laidLooks := .later }
def LeastIsCardSaid : Prop := Claim7.holds Tryd.pinned (.plain (OpenSpec.ofChange leastIsSpec)) leastIsCard

/-- THE TIED CARD OF 'filbertlaw1.LeastAsks'. -/
def leastAsksCard : Claim7 := { stood := { row := leastAsksRow, standIns := [], harness := (true, "1c4e964287dc8f6435df7b9e6c67133d3cc7de20a25b132d2c2752b924e0bf5b"), looks := true }, kinds := [], alts := [], laidByText := true, laidKinds := [.handle], laidTests := true, laidLooks := .later }
def LeastAsksCardSaid : Prop := Claim7.holds Tryd.pinned (.plain (OpenSpec.ofChange leastAsksSpec)) leastAsksCard

/-- THE TIED CARD OF 'filbertlaw1.PairBoth'. -/
def pairBothCard : Claim7 := { stood := { row := pairBothRow, standIns := [], harness := (true, "1c4e964287dc8f6435df7b9e6c67133d3cc7de20a25b132d2c2752b924e0bf5b"), looks := true }, kinds := [], alts := [], laidByText := true, laidKinds := [.handle], laidTests := true, laidLooks := .later }
def PairBothCardSaid : Prop := Claim7.holds Tryd.pinned (.plain (OpenSpec.ofChange pairBothSpec)) pairBothCard

/-- THE TIED CARD OF 'filbertlaw1.TrackMoves'. -/
def trackMovesCard : Claim7 := { stood := { row := trackMovesRow, standIns := [], harness := (true, "1c4e964287dc8f6435df7b9e6c67133d3cc7de20a25b132d2c2752b924e0bf5b"), looks := true }, kinds := [], alts := [], laidByText := true, laidKinds := [.handle], laidTests := true, laidLooks := .later }
def TrackMovesCardSaid : Prop := Claim7.holds Tryd.pinned (.plain (OpenSpec.ofChange trackMovesSpec)) trackMovesCard

/-- THE TIED CARD OF 'filbertlaw2.RightIs'. -/
def rightIsCard : Claim7 := { stood := { row := rightIsRow, standIns := [], harness := (true, "1c4e964287dc8f6435df7b9e6c67133d3cc7de20a25b132d2c2752b924e0bf5b"), looks := true }, kinds := [], alts := [], laidByText := true, laidKinds := [.handle], laidTests := true, laidLooks := .later }
def RightIsCardSaid : Prop := Claim7.holds Tryd.pinned (.plain (OpenSpec.ofChange rightIsSpec)) rightIsCard

/-- THE SECOND FORM's CARD OF 'filbertlaw1.DigitReads'. -/
def digitReadsUptoCard : Claim7 := { stood := { row := digitReadsUptoRow, standIns := [], harness := (true, "1c4e964287dc8f6435df7b9e6c67133d3cc7de20a25b132d2c2752b924e0bf5b"), looks := true }, kinds := [], alts := [], laidByText := true, laidKinds := [.handle], laidTests := true, laidLooks := .later }
def DigitReadsUptoCardSaid : Prop := Claim7.holds Tryd.pinned (.plain (OpenSpec.upto digitReadsSpec)) digitReadsUptoCard

/-- THE SECOND FORM's CARD OF 'filbertlaw1.LetterPacks'. -/
def letterPacksUptoCard : Claim7 := { stood := { row := letterPacksUptoRow, standIns := [], harness := (true, "1c4e964287dc8f6435df7b9e6c67133d3cc7de20a25b132d2c2752b924e0bf5b"), looks := true }, kinds := [], alts := [], laidByText := true, laidKinds := [.handle], laidTests := true, laidLooks := .later }
def LetterPacksUptoCardSaid : Prop := Claim7.holds Tryd.pinned (.plain (OpenSpec.upto letterPacksSpec)) letterPacksUptoCard

/-- THE SECOND FORM's CARD OF 'filbertlaw1.LetterWords'. -/
def letterWordsUptoCard : Claim7 := { stood := { row := letterWordsUptoRow, standIns := [], harness := (true, "1c4e964287dc8f6435df7b9e6c67133d3cc7de20a25b132d2c2752b924e0bf5b"), looks := true }, kinds := [], alts := [], laidByText := true, laidKinds := [.handle], laidTests := true, laidLooks := .later }
def LetterWordsUptoCardSaid : Prop := Claim7.holds Tryd.pinned (.plain (OpenSpec.upto letterWordsSpec)) letterWordsUptoCard

/-- THE SECOND FORM's CARD OF 'filbertlaw1.AutoRuns'. -/
def autoRunsUptoCard : Claim7 := { stood := { row := autoRunsUptoRow, standIns := [], harness := (true, "1c4e964287dc8f6435df7b9e6c67133d3cc7de20a25b132d2c2752b924e0bf5b"), looks := true }, kinds := [], alts := [], laidByText := true, laidKinds := [.handle], laidTests := true, laidLooks := .later }
def AutoRunsUptoCardSaid : Prop := Claim7.holds Tryd.pinned (.plain (OpenSpec.upto autoRunsSpec)) autoRunsUptoCard

/-- THE SECOND FORM's CARD OF 'filbertlaw1.AutoReaches'. -/
def autoReachesUptoCard : Claim7 := { stood := { row := autoReachesUptoRow, standIns := [], harness := (true, "1c4e964287dc8f6435df7b9e6c67133d3cc7de20a25b132d2c2752b924e0bf5b"), looks := true }, kinds := [], alts := [], laidByText := true, laidKinds := [.handle], laidTests := true, laidLooks := .later }
def AutoReachesUptoCardSaid : Prop := Claim7.holds Tryd.pinned (.plain (OpenSpec.upto autoReachesSpec)) autoReachesUptoCard

/-- THE SECOND FORM's CARD OF 'filbertlaw1.LeastIs'. -/
def leastIsUptoCard : Claim7 := { stood := { row := leastIsUptoRow, standIns := [], harness := (true, "1c4e964287dc8f6435df7b9e6c67133d3cc7de20a25b132d2c2752b924e0bf5b"), looks := true }, kinds := [], alts := [], laidByText := true, laidKinds := [.handle], laidTests := true, laidLooks := .later }
def LeastIsUptoCardSaid : Prop := Claim7.holds Tryd.pinned (.plain (OpenSpec.upto leastIsSpec)) leastIsUptoCard

/-- THE SECOND FORM's CARD OF 'filbertlaw1.LeastAsks'. -/
def leastAsksUptoCard : Claim7 := { stood := { row := leastAsksUptoRow, standIns := [], harness := (true, "1c4e964287dc8f6435df7b9e6c67133d3cc7de20a25b132d2c2752b924e0bf5b"), looks := true }, kinds := [], alts := [], laidByText := true, laidKinds := [.handle], laidTests := true, laidLooks := .later }
def LeastAsksUptoCardSaid : Prop := Claim7.holds Tryd.pinned (.plain (OpenSpec.upto leastAsksSpec)) leastAsksUptoCard

/-- THE SECOND FORM's CARD OF 'filbertlaw1.PairBoth'. -/
def pairBothUptoCard : Claim7 := { stood := { row := pairBothUptoRow, standIns := [], harness := (true, "1c4e964287dc8f6435df7b9e6c67133d3cc7de20a25b132d2c2752b924e0bf5b"), looks := true }, kinds := [], alts := [], laidByText := true, laidKinds := [.handle], laidTests := true, laidLooks := .later }
def PairBothUptoCardSaid : Prop := Claim7.holds Tryd.pinned (.plain (OpenSpec.upto pairBothSpec)) pairBothUptoCard

/-- THE SECOND FORM's CARD OF 'filbertlaw1.TrackMoves'. -/
def trackMovesUptoCard : Claim7 := { stood := { row := trackMovesUptoRow, standIns := [], harness := (true, "1c4e964287dc8f6435df7b9e6c67133d3cc7de20a25b132d2c2752b924e0bf5b"), looks := true }, kinds := [], alts := [], laidByText := true, laidKinds := [.handle], laidTests := true, laidLooks := .later }
def TrackMovesUptoCardSaid : Prop := Claim7.holds Tryd.pinned (.plain (OpenSpec.upto trackMovesSpec)) trackMovesUptoCard

/-- THE SECOND FORM's CARD OF 'filbertlaw2.RightIs'. -/
def rightIsUptoCard : Claim7 := { stood := { row := rightIsUptoRow, standIns := [], harness := (true, "1c4e964287dc8f6435df7b9e6c67133d3cc7de20a25b132d2c2752b924e0bf5b"), looks := true }, kinds := [], alts := [], laidByText := true, laidKinds := [.handle], laidTests := true, laidLooks := .later }
def RightIsUptoCardSaid : Prop := Claim7.holds Tryd.pinned (.plain (OpenSpec.upto rightIsSpec)) rightIsUptoCard
end Rows
end Go.Proofs.YtgglhdbhemcijaaDoor
