/-
  NARROWER THAN 'FOR EVERY INPUT', by the rows' own cells (each row's printed sentence says how): DigitReads: laid · LetterPacks: laid · LetterWords: laid · AutoRuns: laid · AutoReaches: laid · LeastIs: laid · LeastAsks: laid · PairBoth: laid · TrackMoves: laid · RightIs: laid.
  DERIVED. THE GIVEN ROWS OF THIS SEAT. 10 by the template 'for every input the law returns true; each argument reads behind the call as it read before'; 0 by the template 'total and deterministic' (their statements: YtgglhdbhemcijaaDoorTotals.lean).
  GIVEN WITH THE SEED: the statements are not yours to turn. If you find one false, say at which input.
  Laid BY PROGRAM, IN A SANDBOX (cutbox-rows.mjs): the forced cells as the released guide's own fill.sh prints them over the translation e0a321f9aeab2583… (all of the seat's roots in one cut). By AI agents, Wed Nov 11 2026. No macro, syntax, notation, axiom, sorry.
-/
import Derived.Test.YtgglhdbhemcijaaDoorChecked
import GoSem.Claim
import GoSem.ClaimJoined
import GoSem.ClaimMapViews
import Derived.JoinedTies
import Derived.KernelRfl
namespace Go.Proofs.YtgglhdbhemcijaaDoor
/- THE CELL 'sum', in the pinned program and in every row, IS THE sha256 OF THE DUMP (.gsa) THAT YtgglhdbhemcijaaDoorProg.lean LOADS. Nothing in Lean hashes anything: it is a label: what it is worth is what the hold of that sum in a sandbox is worth. -/
noncomputable def Tryd.pinned : Pinned := { name := "ytgglhdbhemcijaadoor", sum := "e0a321f9aeab2583a1e6c28a77eb1cda2857e15089d2770eb82838cb815fb78f", checked := Tryd.checked }
namespace Rows
def none {H : Type} : Left H := { results := [], args := [] }

/- WHAT THE LISTED PACKAGE-LEVEL VARIABLES READ AS WHEN THE CALL BEGINS. Each datum BY PROGRAM (the guide's laid-datum.mjs) off the statement by which the dump's own 'gosem.cut.vars' lays the variable. In a bare row this is a premise. The card (YtgglhdbhemcijaaDoorCards.lean) ties it to the program's text. -/
def laid_errors_errorType {H : Type} : DataW H := .iface "internal/reflectlite.rtype" (.agg [.ptr (.lit (.string [101, 114, 114, 111, 114]))])

/-- 'filbertlaw1.DigitReads': WHATEVER THE INPUT: true; the input reads as it did. -/
def digitReadsSpec : ChangeSpec := { name := "digitReads", fn := fun _ => fun
  | [d1, d2, d3, d4] => { results := [.lit (.bool true)], args := [d1, d2, d3, d4] }
  | _ => none }
def digitReadsRow : OpenClaim := { program := "ytgglhdbhemcijaadoor", sum := "e0a321f9aeab2583a1e6c28a77eb1cda2857e15089d2770eb82838cb815fb78f", func := "filbert/filbertlaw1.DigitReads", spec := "digitReads", inPlace := ["internal/reflectlite.ValueOf", "(internal/reflectlite.Value).Type", "(internal/reflectlite.Value).IsNil", "internal/reflectlite.TypeOf", "(internal/reflectlite.Value).Elem", "(internal/reflectlite.Value).Set"], unfollowed := true, recurses := true, named := ["errors.errorType"], plainKeys := false, apart := false, laid := [("errors.errorType", laid_errors_errorType)] }
def DigitReadsSaid : Prop := digitReadsRow.holds Tryd.pinned (OpenSpec.ofChange digitReadsSpec)

/-- ITS FALSE NEIGHBOUR: 'it returns false'. Refute it at one input. -/
def digitReadsWrong : ChangeSpec := { name := "digitReads", fn := fun _ => fun
  | [d1, d2, d3, d4] => { results := [.lit (.bool false)], args := [d1, d2, d3, d4] }
  | _ => none }
def DigitReadsWrongFalsely : Prop := digitReadsRow.holds Tryd.pinned (OpenSpec.ofChange digitReadsWrong)

/-- 'filbertlaw1.LetterPacks': WHATEVER THE INPUT: true; the input reads as it did. -/
def letterPacksSpec : ChangeSpec := { name := "letterPacks", fn := fun _ => fun
  | [d1, d2, d3, d4] => { results := [.lit (.bool true)], args := [d1, d2, d3, d4] }
  | _ => none }
def letterPacksRow : OpenClaim := { program := "ytgglhdbhemcijaadoor", sum := "e0a321f9aeab2583a1e6c28a77eb1cda2857e15089d2770eb82838cb815fb78f", func := "filbert/filbertlaw1.LetterPacks", spec := "letterPacks", inPlace := ["internal/reflectlite.ValueOf", "(internal/reflectlite.Value).Type", "(internal/reflectlite.Value).IsNil", "internal/reflectlite.TypeOf", "(internal/reflectlite.Value).Elem", "(internal/reflectlite.Value).Set"], unfollowed := true, recurses := true, named := ["errors.errorType"], plainKeys := false, apart := false, laid := [("errors.errorType", laid_errors_errorType)] }
def LetterPacksSaid : Prop := letterPacksRow.holds Tryd.pinned (OpenSpec.ofChange letterPacksSpec)

/-- ITS FALSE NEIGHBOUR: 'it returns false'. Refute it at one input. -/
def letterPacksWrong : ChangeSpec := { name := "letterPacks", fn := fun _ => fun
  | [d1, d2, d3, d4] => { results := [.lit (.bool false)], args := [d1, d2, d3, d4] }
  | _ => none }
def LetterPacksWrongFalsely : Prop := letterPacksRow.holds Tryd.pinned (OpenSpec.ofChange letterPacksWrong)

/-- 'filbertlaw1.LetterWords': WHATEVER THE INPUT: true; the input reads as it did. -/
def letterWordsSpec : ChangeSpec := { name := "letterWords", fn := fun _ => fun
  | [d1, d2, d3, d4] => { results := [.lit (.bool true)], args := [d1, d2, d3, d4] }
  | _ => none }
def letterWordsRow : OpenClaim := { program := "ytgglhdbhemcijaadoor", sum := "e0a321f9aeab2583a1e6c28a77eb1cda2857e15089d2770eb82838cb815fb78f", func := "filbert/filbertlaw1.LetterWords", spec := "letterWords", inPlace := ["internal/reflectlite.ValueOf", "(internal/reflectlite.Value).Type", "(internal/reflectlite.Value).IsNil", "internal/reflectlite.TypeOf", "(internal/reflectlite.Value).Elem", "(internal/reflectlite.Value).Set"], unfollowed := true, recurses := true, named := ["errors.errorType"], plainKeys := false, apart := false, laid := [("errors.errorType", laid_errors_errorType)] }
def LetterWordsSaid : Prop := letterWordsRow.holds Tryd.pinned (OpenSpec.ofChange letterWordsSpec)

/-- ITS FALSE NEIGHBOUR: 'it returns false'. Refute it at one input. -/
def letterWordsWrong : ChangeSpec := { name := "letterWords", fn := fun _ => fun
  | [d1, d2, d3, d4] => { results := [.lit (.bool false)], args := [d1, d2, d3, d4] }
  | _ => none }
def LetterWordsWrongFalsely : Prop := letterWordsRow.holds Tryd.pinned (OpenSpec.ofChange letterWordsWrong)

/-- 'filbertlaw1.AutoRuns': WHATEVER THE INPUT: true; the input reads as it did. -/
def autoRunsSpec : ChangeSpec := { name := "autoRuns", fn := fun _ => fun
  | [d1, d2] => { results := [.lit (.bool true)], args := [d1, d2] }
  | _ => none }
def autoRunsRow : OpenClaim := { program := "ytgglhdbhemcijaadoor", sum := "e0a321f9aeab2583a1e6c28a77eb1cda2857e15089d2770eb82838cb815fb78f", func := "filbert/filbertlaw1.AutoRuns", spec := "autoRuns", inPlace := ["internal/reflectlite.ValueOf", "(internal/reflectlite.Value).Type", "(internal/reflectlite.Value).IsNil", "internal/reflectlite.TypeOf", "(internal/reflectlite.Value).Elem", "(internal/reflectlite.Value).Set"], unfollowed := true, recurses := true, named := ["errors.errorType"], plainKeys := false, apart := false, laid := [("errors.errorType", laid_errors_errorType)] }
def AutoRunsSaid : Prop := autoRunsRow.holds Tryd.pinned (OpenSpec.ofChange autoRunsSpec)

/-- ITS FALSE NEIGHBOUR: 'it returns false'. Refute it at one input. -/
def autoRunsWrong : ChangeSpec := { name := "autoRuns", fn := fun _ => fun
  | [d1, d2] => { results := [.lit (.bool false)], args := [d1, d2] }
  | _ => none }
def AutoRunsWrongFalsely : Prop := autoRunsRow.holds Tryd.pinned (OpenSpec.ofChange autoRunsWrong)

/-- 'filbertlaw1.AutoReaches': WHATEVER THE INPUT: true; the input reads as it did. -/
def autoReachesSpec : ChangeSpec := { name := "autoReaches", fn := fun _ => fun
  | [d] => { results := [.lit (.bool true)], args := [d] }
  | _ => none }
def autoReachesRow : OpenClaim := { program := "ytgglhdbhemcijaadoor", sum := "e0a321f9aeab2583a1e6c28a77eb1cda2857e15089d2770eb82838cb815fb78f", func := "filbert/filbertlaw1.AutoReaches", spec := "autoReaches", inPlace := ["internal/reflectlite.ValueOf", "(internal/reflectlite.Value).Type", "(internal/reflectlite.Value).IsNil", "internal/reflectlite.TypeOf", "(internal/reflectlite.Value).Elem", "(internal/reflectlite.Value).Set"], unfollowed := true, recurses := true, named := ["errors.errorType"], plainKeys := false, apart := false, laid := [("errors.errorType", laid_errors_errorType)] }
def AutoReachesSaid : Prop := autoReachesRow.holds Tryd.pinned (OpenSpec.ofChange autoReachesSpec)

/-- ITS FALSE NEIGHBOUR: 'it returns false'. Refute it at one input. -/
def autoReachesWrong : ChangeSpec := { name := "autoReaches", fn := fun _ => fun
  | [d] => { results := [.lit (.bool false)], args := [d] }
  | _ => none }
def AutoReachesWrongFalsely : Prop := autoReachesRow.holds Tryd.pinned (OpenSpec.ofChange autoReachesWrong)

/-- 'filbertlaw1.LeastIs': WHATEVER THE INPUT: true; the input reads as it did. -/
def leastIsSpec : ChangeSpec := { name := "leastIs", fn := fun _ => fun
  | [d] => { results := [.lit (.bool true)], args := [d] }
  | _ => none }
def leastIsRow : OpenClaim := { program := "ytgglhdbhemcijaadoor", sum := "e0a321f9aeab2583a1e6c28a77eb1cda2857e15089d2770eb82838cb815fb78f", func := "filbert/filbertlaw1.LeastIs", spec := "leastIs", inPlace := ["internal/reflectlite.ValueOf", "(internal/reflectlite.Value).Type", "(internal/reflectlite.Value).IsNil", "internal/reflectlite.TypeOf", "(internal/reflectlite.Value).Elem", "(internal/reflectlite.Value).Set"], unfollowed := true, recurses := true, named := ["errors.errorType"], plainKeys := false, apart := false, laid := [("errors.errorType", laid_errors_errorType)] }
def LeastIsSaid : Prop := leastIsRow.holds Tryd.pinned (OpenSpec.ofChange leastIsSpec)

/-- ITS FALSE NEIGHBOUR: 'it returns false'. Refute it at one input. -/
def leastIsWrong : ChangeSpec := { name := "leastIs", fn := fun _ => fun
  | [d] => { results := [.lit (.bool false)], args := [d] }
  | _ => none }
def LeastIsWrongFalsely : Prop := leastIsRow.holds Tryd.pinned (OpenSpec.ofChange leastIsWrong)

/-- 'filbertlaw1.LeastAsks': WHATEVER THE INPUT: true; the input reads as it did. -/
def leastAsksSpec : ChangeSpec := { name := "leastAsks", fn := fun _ => fun
  | [d1, d2] => { results := [.lit (.bool true)], args := [d1, d2] }
  | _ => none }
def leastAsksRow : OpenClaim := { program := "ytgglhdbhemcijaadoor", sum := "e0a321f9aeab2583a1e6c28a77eb1cda2857e15089d2770eb82838cb815fb78f", func := "filbert/filbertlaw1.LeastAsks", spec := "leastAsks", inPlace := ["internal/reflectlite.ValueOf", "(internal/reflectlite.Value).Type", "(internal/reflectlite.Value).IsNil", "internal/reflectlite.TypeOf", "(internal/reflectlite.Value).Elem", "(internal/reflectlite.Value).Set"], unfollowed := true, recurses := true, named := ["errors.errorType"], plainKeys := false, apart := false, laid := [("errors.errorType", laid_errors_errorType)] }
def LeastAsksSaid : Prop := leastAsksRow.holds Tryd.pinned (OpenSpec.ofChange leastAsksSpec)

/-- ITS FALSE NEIGHBOUR: 'it returns false'. Refute it at one input. -/
def leastAsksWrong : ChangeSpec := { name := "leastAsks", fn := fun _ => fun
  | [d1, d2] => { results := [.lit (.bool false)], args := [d1, d2] }
  | _ => none }
def LeastAsksWrongFalsely : Prop := leastAsksRow.holds Tryd.pinned (OpenSpec.ofChange leastAsksWrong)

/-- 'filbertlaw1.PairBoth': WHATEVER THE INPUT: true; the input reads as it did. -/
def pairBothSpec : ChangeSpec := { name := "pairBoth", fn := fun _ => fun
  | [d1, d2, d3] => { results := [.lit (.bool true)], args := [d1, d2, d3] }
  | _ => none }
def pairBothRow : OpenClaim := { program := "ytgglhdbhemcijaadoor", sum := "e0a321f9aeab2583a1e6c28a77eb1cda2857e15089d2770eb82838cb815fb78f", func := "filbert/filbertlaw1.PairBoth", spec := "pairBoth", inPlace := ["internal/reflectlite.ValueOf", "(internal/reflectlite.Value).Type", "(internal/reflectlite.Value).IsNil", "internal/reflectlite.TypeOf", "(internal/reflectlite.Value).Elem", "(internal/reflectlite.Value).Set"], unfollowed := true, recurses := true, named := ["errors.errorType"], plainKeys := false, apart := false, laid := [("errors.errorType", laid_errors_errorType)] }
def PairBothSaid : Prop := pairBothRow.holds Tryd.pinned (OpenSpec.ofChange pairBothSpec)

/-- ITS FALSE NEIGHBOUR: 'it returns false'. Refute it at one input. -/
def pairBothWrong : ChangeSpec := { name := "pairBoth", fn := fun _ => fun
  | [d1, d2, d3] => { results := [.lit (.bool false)], args := [d1, d2, d3] }
  | _ => none }
def PairBothWrongFalsely : Prop := pairBothRow.holds Tryd.pinned (OpenSpec.ofChange pairBothWrong)

/-- 'filbertlaw1.TrackMoves': WHATEVER THE INPUT: true; the input reads as it did. -/
def trackMovesSpec : ChangeSpec := { name := "trackMoves", fn := fun _ => fun
  | [d1, d2, d3, d4, d5] => { results := [.lit (.bool true)], args := [d1, d2, d3, d4, d5] }
  | _ => none }
def trackMovesRow : OpenClaim := { program := "ytgglhdbhemcijaadoor", sum := "e0a321f9aeab2583a1e6c28a77eb1cda2857e15089d2770eb82838cb815fb78f", func := "filbert/filbertlaw1.TrackMoves", spec := "trackMoves", inPlace := ["internal/reflectlite.ValueOf", "(internal/reflectlite.Value).Type", "(internal/reflectlite.Value).IsNil", "internal/reflectlite.TypeOf", "(internal/reflectlite.Value).Elem", "(internal/reflectlite.Value).Set"], unfollowed := true, recurses := true, named := ["errors.errorType"], plainKeys := false, apart := false, laid := [("errors.errorType", laid_errors_errorType)] }
def TrackMovesSaid : Prop := trackMovesRow.holds Tryd.pinned (OpenSpec.ofChange trackMovesSpec)

/-- ITS FALSE NEIGHBOUR: 'it returns false'. Refute it at one input. -/
def trackMovesWrong : ChangeSpec := { name := "trackMoves", fn := fun _ => fun
  | [d1, d2, d3, d4, d5] => { results := [.lit (.bool false)], args := [d1, d2, d3, d4, d5] }
  | _ => none }
def TrackMovesWrongFalsely : Prop := trackMovesRow.holds Tryd.pinned (OpenSpec.ofChange trackMovesWrong)

/-- 'filbertlaw2.RightIs': WHATEVER THE INPUT: true; the input reads as it did. -/
def rightIsSpec : ChangeSpec := { name := "rightIs", fn := fun _ => fun
  | [d1, d2, d3] => { results := [.lit (.bool true)], args := [d1, d2, d3] }
  | _ => none }
def rightIsRow : OpenClaim := { program := "ytgglhdbhemcijaadoor", sum := "e0a321f9aeab2583a1e6c28a77eb1cda2857e15089d2770eb82838cb815fb78f", func := "filbert/filbertlaw2.RightIs", spec := "rightIs", inPlace := ["internal/reflectlite.ValueOf", "(internal/reflectlite.Value).Type", "(internal/reflectlite.Value).IsNil", "internal/reflectlite.TypeOf", "(internal/reflectlite.Value).Elem", "(internal/reflectlite.Value).Set"], unfollowed := true, recurses := true, named := ["errors.errorType"], plainKeys := false, apart := false, laid := [("errors.errorType", laid_errors_errorType)] }
def RightIsSaid : Prop := rightIsRow.holds Tryd.pinned (OpenSpec.ofChange rightIsSpec)

/-- ITS FALSE NEIGHBOUR: 'it returns false'. Refute it at one input. -/
def rightIsWrong : ChangeSpec := { name := "rightIs", fn := fun _ => fun
  | [d1, d2, d3] => { results := [.lit (.bool false)], args := [d1, d2, d3] }
  | _ => none }
def RightIsWrongFalsely : Prop := rightIsRow.holds Tryd.pinned (OpenSpec.ofChange rightIsWrong)

/- THE SECOND FORM. 'bulk': how many values and letters a reading holds, each counted each time it is reached (what is shared counts as often as it is met; a slice's spare places count too). A statement '..UptoSaid' is the law's where the arguments, and the package variables that the reading takes, are together of bulk at most 1048576: NARROWER than '..Said'. Prove '..Said' where nothing that the law and all that it calls make is longer than what came in: it says more and counts as full. Else prove '..UptoSaid'. A law counts once. -/
mutual
def uptoBulk {H : Type} : DataW H → Nat
  | .lit (.string bytes) => bytes.length + 1
  | .lit _ => 1
  | .nil => 1
  | .ptr d => uptoBulk d + 1
  | .slice elems spare => uptoBulkAll elems + uptoBulkAll spare + 1
  | .agg parts => uptoBulkAll parts + 1
  | .iface _ d => uptoBulk d + 1
  | .map entries => uptoBulkEntries entries + 1
  | .held _ => 1
def uptoBulkAll {H : Type} : List (DataW H) → Nat
  | [] => 0
  | d :: r => uptoBulk d + uptoBulkAll r
def uptoBulkEntries {H : Type} : List (Lit × DataW H) → Nat
  | [] => 0
  | x :: r => uptoBulkEntry x + uptoBulkEntries r
def uptoBulkEntry {H : Type} : Lit × DataW H → Nat
  | (.string bytes, d) => bytes.length + uptoBulk d + 1
  | (_, d) => uptoBulk d + 1
 end
def uptoSmall : (H : Type) → List (DataW H) → Bool := fun _ ds => decide (uptoBulkAll ds ≤ 1048576)
def OpenSpec.upto (s : _root_.Go.ChangeSpec) : _root_.Go.OpenSpec := { _root_.Go.OpenSpec.ofChange s with cond := some uptoSmall }

/-- 'filbertlaw1.DigitReads', WHERE WHAT IT READS IS OF BULK AT MOST 1048576: true; the input reads as it did. -/
def digitReadsUptoRow : OpenClaim := { program := "ytgglhdbhemcijaadoor", sum := "e0a321f9aeab2583a1e6c28a77eb1cda2857e15089d2770eb82838cb815fb78f", func := "filbert/filbertlaw1.DigitReads", spec := "digitReads", inPlace := ["internal/reflectlite.ValueOf", "(internal/reflectlite.Value).Type", "(internal/reflectlite.Value).IsNil", "internal/reflectlite.TypeOf", "(internal/reflectlite.Value).Elem", "(internal/reflectlite.Value).Set"], unfollowed := true, recurses := true, named := ["errors.errorType"], plainKeys := false, apart := false, laid := [("errors.errorType", laid_errors_errorType)], narrowed := true }
def DigitReadsUptoSaid : Prop := digitReadsUptoRow.holds Tryd.pinned (OpenSpec.upto digitReadsSpec)

/-- 'filbertlaw1.LetterPacks', WHERE WHAT IT READS IS OF BULK AT MOST 1048576: true; the input reads as it did. -/
def letterPacksUptoRow : OpenClaim := { program := "ytgglhdbhemcijaadoor", sum := "e0a321f9aeab2583a1e6c28a77eb1cda2857e15089d2770eb82838cb815fb78f", func := "filbert/filbertlaw1.LetterPacks", spec := "letterPacks", inPlace := ["internal/reflectlite.ValueOf", "(internal/reflectlite.Value).Type", "(internal/reflectlite.Value).IsNil", "internal/reflectlite.TypeOf", "(internal/reflectlite.Value).Elem", "(internal/reflectlite.Value).Set"], unfollowed := true, recurses := true, named := ["errors.errorType"], plainKeys := false, apart := false, laid := [("errors.errorType", laid_errors_errorType)], narrowed := true }
def LetterPacksUptoSaid : Prop := letterPacksUptoRow.holds Tryd.pinned (OpenSpec.upto letterPacksSpec)

/-- 'filbertlaw1.LetterWords', WHERE WHAT IT READS IS OF BULK AT MOST 1048576: true; the input reads as it did. -/
def letterWordsUptoRow : OpenClaim := { program := "ytgglhdbhemcijaadoor", sum := "e0a321f9aeab2583a1e6c28a77eb1cda2857e15089d2770eb82838cb815fb78f", func := "filbert/filbertlaw1.LetterWords", spec := "letterWords", inPlace := ["internal/reflectlite.ValueOf", "(internal/reflectlite.Value).Type", "(internal/reflectlite.Value).IsNil", "internal/reflectlite.TypeOf", "(internal/reflectlite.Value).Elem", "(internal/reflectlite.Value).Set"], unfollowed := true, recurses := true, named := ["errors.errorType"], plainKeys := false, apart := false, laid := [("errors.errorType", laid_errors_errorType)], narrowed := true }
def LetterWordsUptoSaid : Prop := letterWordsUptoRow.holds Tryd.pinned (OpenSpec.upto letterWordsSpec)

/-- 'filbertlaw1.AutoRuns', WHERE WHAT IT READS IS OF BULK AT MOST 1048576: true; the input reads as it did. -/
def autoRunsUptoRow : OpenClaim := { program := "ytgglhdbhemcijaadoor", sum := "e0a321f9aeab2583a1e6c28a77eb1cda2857e15089d2770eb82838cb815fb78f", func := "filbert/filbertlaw1.AutoRuns", spec := "autoRuns", inPlace := ["internal/reflectlite.ValueOf", "(internal/reflectlite.Value).Type", "(internal/reflectlite.Value).IsNil", "internal/reflectlite.TypeOf", "(internal/reflectlite.Value).Elem", "(internal/reflectlite.Value).Set"], unfollowed := true, recurses := true, named := ["errors.errorType"], plainKeys := false, apart := false, laid := [("errors.errorType", laid_errors_errorType)], narrowed := true }
def AutoRunsUptoSaid : Prop := autoRunsUptoRow.holds Tryd.pinned (OpenSpec.upto autoRunsSpec)

/-- 'filbertlaw1.AutoReaches', WHERE WHAT IT READS IS OF BULK AT MOST 1048576: true; the input reads as it did. -/
def autoReachesUptoRow : OpenClaim := { program := "ytgglhdbhemcijaadoor", sum := "e0a321f9aeab2583a1e6c28a77eb1cda2857e15089d2770eb82838cb815fb78f", func := "filbert/filbertlaw1.AutoReaches", spec := "autoReaches", inPlace := ["internal/reflectlite.ValueOf", "(internal/reflectlite.Value).Type", "(internal/reflectlite.Value).IsNil", "internal/reflectlite.TypeOf", "(internal/reflectlite.Value).Elem", "(internal/reflectlite.Value).Set"], unfollowed := true, recurses := true, named := ["errors.errorType"], plainKeys := false, apart := false, laid := [("errors.errorType", laid_errors_errorType)], narrowed := true }
def AutoReachesUptoSaid : Prop := autoReachesUptoRow.holds Tryd.pinned (OpenSpec.upto autoReachesSpec)

/-- 'filbertlaw1.LeastIs', WHERE WHAT IT READS IS OF BULK AT MOST 1048576: true; the input reads as it did. -/
def leastIsUptoRow : OpenClaim := { program := "ytgglhdbhemcijaadoor", sum := "e0a321f9aeab2583a1e6c28a77eb1cda2857e15089d2770eb82838cb815fb78f", func := "filbert/filbertlaw1.LeastIs", spec := "leastIs", inPlace := ["internal/reflectlite.ValueOf", "(internal/reflectlite.Value).Type", "(internal/reflectlite.Value).IsNil", "internal/reflectlite.TypeOf", "(internal/reflectlite.Value).Elem", "(internal/reflectlite.Value).Set"], unfollowed := true, recurses := true, named := ["errors.errorType"], plainKeys := false, apart := false, laid := [("errors.errorType", laid_errors_errorType)], narrowed := true }
def LeastIsUptoSaid : Prop := leastIsUptoRow.holds Tryd.pinned (OpenSpec.upto leastIsSpec)

/-- 'filbertlaw1.LeastAsks', WHERE WHAT IT READS IS OF BULK AT MOST 1048576: true; the input reads as it did. -/
def leastAsksUptoRow : OpenClaim := { program := "ytgglhdbhemcijaadoor", sum := "e0a321f9aeab2583a1e6c28a77eb1cda2857e15089d2770eb82838cb815fb78f", func := "filbert/filbertlaw1.LeastAsks", spec := "leastAsks", inPlace := ["internal/reflectlite.ValueOf", "(internal/reflectlite.Value).Type", "(internal/reflectlite.Value).IsNil", "internal/reflectlite.TypeOf", "(internal/reflectlite.Value).Elem", "(internal/reflectlite.Value).Set"], unfollowed := true, recurses := true, named := ["errors.errorType"], plainKeys := false, apart := false, laid := [("errors.errorType", laid_errors_errorType)], narrowed := true }
def LeastAsksUptoSaid : Prop := leastAsksUptoRow.holds Tryd.pinned (OpenSpec.upto leastAsksSpec)

/-- 'filbertlaw1.PairBoth', WHERE WHAT IT READS IS OF BULK AT MOST 1048576: true; the input reads as it did. -/
def pairBothUptoRow : OpenClaim := { program := "ytgglhdbhemcijaadoor", sum := "e0a321f9aeab2583a1e6c28a77eb1cda2857e15089d2770eb82838cb815fb78f", func := "filbert/filbertlaw1.PairBoth", spec := "pairBoth", inPlace := ["internal/reflectlite.ValueOf", "(internal/reflectlite.Value).Type", "(internal/reflectlite.Value).IsNil", "internal/reflectlite.TypeOf", "(internal/reflectlite.Value).Elem", "(internal/reflectlite.Value).Set"], unfollowed := true, recurses := true, named := ["errors.errorType"], plainKeys := false, apart := false, laid := [("errors.errorType", laid_errors_errorType)], narrowed := true }
def PairBothUptoSaid : Prop := pairBothUptoRow.holds Tryd.pinned (OpenSpec.upto pairBothSpec)

/-- 'filbertlaw1.TrackMoves', WHERE WHAT IT READS IS OF BULK AT MOST 1048576: true; the input reads as it did. -/
def trackMovesUptoRow : OpenClaim := { program := "ytgglhdbhemcijaadoor", sum := "e0a321f9aeab2583a1e6c28a77eb1cda2857e15089d2770eb82838cb815fb78f", func := "filbert/filbertlaw1.TrackMoves", spec := "trackMoves", inPlace := ["internal/reflectlite.ValueOf", "(internal/reflectlite.Value).Type", "(internal/reflectlite.Value).IsNil", "internal/reflectlite.TypeOf", "(internal/reflectlite.Value).Elem", "(internal/reflectlite.Value).Set"], unfollowed := true, recurses := true, named := ["errors.errorType"], plainKeys := false, apart := false, laid := [("errors.errorType", laid_errors_errorType)], narrowed := true }
def TrackMovesUptoSaid : Prop := trackMovesUptoRow.holds Tryd.pinned (OpenSpec.upto trackMovesSpec)

/-- 'filbertlaw2.RightIs', WHERE WHAT IT READS IS OF BULK AT MOST 1048576: true; the input reads as it did. -/
def rightIsUptoRow : OpenClaim := { program := "ytgglhdbhemcijaadoor", sum := "e0a321f9aeab2583a1e6c28a77eb1cda2857e15089d2770eb82838cb815fb78f", func := "filbert/filbertlaw2.RightIs", spec := "rightIs", inPlace := ["internal/reflectlite.ValueOf", "(internal/reflectlite.Value).Type", "(internal/reflectlite.Value).IsNil", "internal/reflectlite.TypeOf", "(internal/reflectlite.Value).Elem", "(internal/reflectlite.Value).Set"], unfollowed := true, recurses := true, named := ["errors.errorType"], plainKeys := false, apart := false, laid := [("errors.errorType", laid_errors_errorType)], narrowed := true }
def RightIsUptoSaid : Prop := rightIsUptoRow.holds Tryd.pinned (OpenSpec.upto rightIsSpec)

end Rows
end Go.Proofs.YtgglhdbhemcijaaDoor
