/-
  NARROWER THAN 'FOR EVERY INPUT', by the rows' own cells (each row's printed sentence says how): CountEvals: laid · WordMorphs: laid · WordNamed: laid · CountLongs: laid · FormChecks: laid · WordLikes: laid · LineIs: laid · WordIs: laid.
  DERIVED. THE GIVEN ROWS OF THIS SEAT. 8 by the template 'for every input the law returns true; each argument reads behind the call as it read before'; 0 by the template 'total and deterministic' (their statements: YtfhncnhkeodngaaDoorTotals.lean).
  GIVEN WITH THE SEED: the statements are not yours to turn. If you find one false, say at which input.
  Laid BY PROGRAM, IN A SANDBOX (cutbox-rows.mjs): the forced cells as the released guide's own fill.sh prints them over the translation 523881e8e5b76c89… (all of the seat's roots in one cut). By AI agents, Wed Nov 11 2026. No macro, syntax, notation, axiom, sorry.
-/
import Derived.Test.YtfhncnhkeodngaaDoorChecked
import GoSem.Claim
import GoSem.ClaimJoined
import GoSem.ClaimMapViews
import Derived.JoinedTies
import Derived.KernelRfl
namespace Go.Proofs.YtfhncnhkeodngaaDoor
/- THE CELL 'sum', in the pinned program and in every row, IS THE sha256 OF THE DUMP (.gsa) THAT YtfhncnhkeodngaaDoorProg.lean LOADS. Nothing in Lean hashes anything: it is a label: what it is worth is what the hold of that sum in a sandbox is worth. -/
noncomputable def Tryd.pinned : Pinned := { name := "ytfhncnhkeodngaadoor", sum := "523881e8e5b76c89784c147682362162e67c00e6177c8d4d87843263a9e7b727", checked := Tryd.checked }
namespace Rows
def none {H : Type} : Left H := { results := [], args := [] }

/- WHAT THE LISTED PACKAGE-LEVEL VARIABLES READ AS WHEN THE CALL BEGINS. Each datum BY PROGRAM (the guide's laid-datum.mjs) off the statement by which the dump's own 'gosem.cut.vars' lays the variable. In a bare row this is a premise. The card (YtfhncnhkeodngaaDoorCards.lean) ties it to the program's text. -/
def laid_errors_errorType {H : Type} : DataW H := .iface "internal/reflectlite.rtype" (.agg [.ptr (.lit (.string [101, 114, 114, 111, 114]))])

/-- 'filbertlaw4.CountEvals': WHATEVER THE INPUT: true; the input reads as it did. -/
def countEvalsSpec : ChangeSpec := { name := "countEvals", fn := fun _ => fun
  | [d1, d2] => { results := [.lit (.bool true)], args := [d1, d2] }
  | _ => none }
def countEvalsRow : OpenClaim := { program := "ytfhncnhkeodngaadoor", sum := "523881e8e5b76c89784c147682362162e67c00e6177c8d4d87843263a9e7b727", func := "filbert/filbertlaw4.CountEvals", spec := "countEvals", inPlace := ["internal/reflectlite.ValueOf", "(internal/reflectlite.Value).Type", "(internal/reflectlite.Value).IsNil", "internal/reflectlite.TypeOf", "(internal/reflectlite.Value).Elem", "(internal/reflectlite.Value).Set"], unfollowed := true, recurses := true, named := ["errors.errorType"], plainKeys := false, apart := false, laid := [("errors.errorType", laid_errors_errorType)] }
def CountEvalsSaid : Prop := countEvalsRow.holds Tryd.pinned (OpenSpec.ofChange countEvalsSpec)

/-- ITS FALSE NEIGHBOUR: 'it returns false'. Refute it at one input. -/
def countEvalsWrong : ChangeSpec := { name := "countEvals", fn := fun _ => fun
  | [d1, d2] => { results := [.lit (.bool false)], args := [d1, d2] }
  | _ => none }
def CountEvalsWrongFalsely : Prop := countEvalsRow.holds Tryd.pinned (OpenSpec.ofChange countEvalsWrong)

/-- 'filbertlaw2.WordMorphs': WHATEVER THE INPUT: true; the input reads as it did. -/
def wordMorphsSpec : ChangeSpec := { name := "wordMorphs", fn := fun _ => fun
  | [d1, d2, d3] => { results := [.lit (.bool true)], args := [d1, d2, d3] }
  | _ => none }
def wordMorphsRow : OpenClaim := { program := "ytfhncnhkeodngaadoor", sum := "523881e8e5b76c89784c147682362162e67c00e6177c8d4d87843263a9e7b727", func := "filbert/filbertlaw2.WordMorphs", spec := "wordMorphs", inPlace := ["internal/reflectlite.ValueOf", "(internal/reflectlite.Value).Type", "(internal/reflectlite.Value).IsNil", "internal/reflectlite.TypeOf", "(internal/reflectlite.Value).Elem", "(internal/reflectlite.Value).Set"], unfollowed := true, recurses := true, named := ["errors.errorType"], plainKeys := false, apart := false, laid := [("errors.errorType", laid_errors_errorType)] }
def WordMorphsSaid : Prop := wordMorphsRow.holds Tryd.pinned (OpenSpec.ofChange wordMorphsSpec)

/-- ITS FALSE NEIGHBOUR: 'it returns false'. Refute it at one input. -/
def wordMorphsWrong : ChangeSpec := { name := "wordMorphs", fn := fun _ => fun
  | [d1, d2, d3] => { results := [.lit (.bool false)], args := [d1, d2, d3] }
  | _ => none }
def WordMorphsWrongFalsely : Prop := wordMorphsRow.holds Tryd.pinned (OpenSpec.ofChange wordMorphsWrong)

/-- 'filbertlaw2.WordNamed': WHATEVER THE INPUT: true; the input reads as it did. -/
def wordNamedSpec : ChangeSpec := { name := "wordNamed", fn := fun _ => fun
  | [d1, d2] => { results := [.lit (.bool true)], args := [d1, d2] }
  | _ => none }
def wordNamedRow : OpenClaim := { program := "ytfhncnhkeodngaadoor", sum := "523881e8e5b76c89784c147682362162e67c00e6177c8d4d87843263a9e7b727", func := "filbert/filbertlaw2.WordNamed", spec := "wordNamed", inPlace := ["internal/reflectlite.ValueOf", "(internal/reflectlite.Value).Type", "(internal/reflectlite.Value).IsNil", "internal/reflectlite.TypeOf", "(internal/reflectlite.Value).Elem", "(internal/reflectlite.Value).Set"], unfollowed := true, recurses := true, named := ["errors.errorType"], plainKeys := false, apart := false, laid := [("errors.errorType", laid_errors_errorType)] }
def WordNamedSaid : Prop := wordNamedRow.holds Tryd.pinned (OpenSpec.ofChange wordNamedSpec)

/-- ITS FALSE NEIGHBOUR: 'it returns false'. Refute it at one input. -/
def wordNamedWrong : ChangeSpec := { name := "wordNamed", fn := fun _ => fun
  | [d1, d2] => { results := [.lit (.bool false)], args := [d1, d2] }
  | _ => none }
def WordNamedWrongFalsely : Prop := wordNamedRow.holds Tryd.pinned (OpenSpec.ofChange wordNamedWrong)

/-- 'filbertlaw4.CountLongs': WHATEVER THE INPUT: true; the input reads as it did. -/
def countLongsSpec : ChangeSpec := { name := "countLongs", fn := fun _ => fun
  | [d1, d2, d3] => { results := [.lit (.bool true)], args := [d1, d2, d3] }
  | _ => none }
def countLongsRow : OpenClaim := { program := "ytfhncnhkeodngaadoor", sum := "523881e8e5b76c89784c147682362162e67c00e6177c8d4d87843263a9e7b727", func := "filbert/filbertlaw4.CountLongs", spec := "countLongs", inPlace := ["internal/reflectlite.ValueOf", "(internal/reflectlite.Value).Type", "(internal/reflectlite.Value).IsNil", "internal/reflectlite.TypeOf", "(internal/reflectlite.Value).Elem", "(internal/reflectlite.Value).Set"], unfollowed := true, recurses := true, named := ["errors.errorType"], plainKeys := false, apart := false, laid := [("errors.errorType", laid_errors_errorType)] }
def CountLongsSaid : Prop := countLongsRow.holds Tryd.pinned (OpenSpec.ofChange countLongsSpec)

/-- ITS FALSE NEIGHBOUR: 'it returns false'. Refute it at one input. -/
def countLongsWrong : ChangeSpec := { name := "countLongs", fn := fun _ => fun
  | [d1, d2, d3] => { results := [.lit (.bool false)], args := [d1, d2, d3] }
  | _ => none }
def CountLongsWrongFalsely : Prop := countLongsRow.holds Tryd.pinned (OpenSpec.ofChange countLongsWrong)

/-- 'filbertlaw3.FormChecks': WHATEVER THE INPUT: true; the input reads as it did. -/
def formChecksSpec : ChangeSpec := { name := "formChecks", fn := fun _ => fun
  | [d1, d2, d3, d4] => { results := [.lit (.bool true)], args := [d1, d2, d3, d4] }
  | _ => none }
def formChecksRow : OpenClaim := { program := "ytfhncnhkeodngaadoor", sum := "523881e8e5b76c89784c147682362162e67c00e6177c8d4d87843263a9e7b727", func := "filbert/filbertlaw3.FormChecks", spec := "formChecks", inPlace := ["internal/reflectlite.ValueOf", "(internal/reflectlite.Value).Type", "(internal/reflectlite.Value).IsNil", "internal/reflectlite.TypeOf", "(internal/reflectlite.Value).Elem", "(internal/reflectlite.Value).Set"], unfollowed := true, recurses := true, named := ["errors.errorType"], plainKeys := false, apart := false, laid := [("errors.errorType", laid_errors_errorType)] }
def FormChecksSaid : Prop := formChecksRow.holds Tryd.pinned (OpenSpec.ofChange formChecksSpec)

/-- ITS FALSE NEIGHBOUR: 'it returns false'. Refute it at one input. -/
def formChecksWrong : ChangeSpec := { name := "formChecks", fn := fun _ => fun
  | [d1, d2, d3, d4] => { results := [.lit (.bool false)], args := [d1, d2, d3, d4] }
  | _ => none }
def FormChecksWrongFalsely : Prop := formChecksRow.holds Tryd.pinned (OpenSpec.ofChange formChecksWrong)

/-- 'filbertlaw2.WordLikes': WHATEVER THE INPUT: true; the input reads as it did. -/
def wordLikesSpec : ChangeSpec := { name := "wordLikes", fn := fun _ => fun
  | [d1, d2] => { results := [.lit (.bool true)], args := [d1, d2] }
  | _ => none }
def wordLikesRow : OpenClaim := { program := "ytfhncnhkeodngaadoor", sum := "523881e8e5b76c89784c147682362162e67c00e6177c8d4d87843263a9e7b727", func := "filbert/filbertlaw2.WordLikes", spec := "wordLikes", inPlace := ["internal/reflectlite.ValueOf", "(internal/reflectlite.Value).Type", "(internal/reflectlite.Value).IsNil", "internal/reflectlite.TypeOf", "(internal/reflectlite.Value).Elem", "(internal/reflectlite.Value).Set"], unfollowed := true, recurses := true, named := ["errors.errorType"], plainKeys := false, apart := false, laid := [("errors.errorType", laid_errors_errorType)] }
def WordLikesSaid : Prop := wordLikesRow.holds Tryd.pinned (OpenSpec.ofChange wordLikesSpec)

/-- ITS FALSE NEIGHBOUR: 'it returns false'. Refute it at one input. -/
def wordLikesWrong : ChangeSpec := { name := "wordLikes", fn := fun _ => fun
  | [d1, d2] => { results := [.lit (.bool false)], args := [d1, d2] }
  | _ => none }
def WordLikesWrongFalsely : Prop := wordLikesRow.holds Tryd.pinned (OpenSpec.ofChange wordLikesWrong)

/-- 'filbertlaw2.LineIs': WHATEVER THE INPUT: true; the input reads as it did. -/
def lineIsSpec : ChangeSpec := { name := "lineIs", fn := fun _ => fun
  | [d1, d2, d3, d4, d5] => { results := [.lit (.bool true)], args := [d1, d2, d3, d4, d5] }
  | _ => none }
def lineIsRow : OpenClaim := { program := "ytfhncnhkeodngaadoor", sum := "523881e8e5b76c89784c147682362162e67c00e6177c8d4d87843263a9e7b727", func := "filbert/filbertlaw2.LineIs", spec := "lineIs", inPlace := ["internal/reflectlite.ValueOf", "(internal/reflectlite.Value).Type", "(internal/reflectlite.Value).IsNil", "internal/reflectlite.TypeOf", "(internal/reflectlite.Value).Elem", "(internal/reflectlite.Value).Set"], unfollowed := true, recurses := true, named := ["errors.errorType"], plainKeys := false, apart := false, laid := [("errors.errorType", laid_errors_errorType)] }
def LineIsSaid : Prop := lineIsRow.holds Tryd.pinned (OpenSpec.ofChange lineIsSpec)

/-- ITS FALSE NEIGHBOUR: 'it returns false'. Refute it at one input. -/
def lineIsWrong : ChangeSpec := { name := "lineIs", fn := fun _ => fun
  | [d1, d2, d3, d4, d5] => { results := [.lit (.bool false)], args := [d1, d2, d3, d4, d5] }
  | _ => none }
def LineIsWrongFalsely : Prop := lineIsRow.holds Tryd.pinned (OpenSpec.ofChange lineIsWrong)

/-- 'filbertlaw2.WordIs': WHATEVER THE INPUT: true; the input reads as it did. -/
def wordIsSpec : ChangeSpec := { name := "wordIs", fn := fun _ => fun
  | [d1, d2, d3] => { results := [.lit (.bool true)], args := [d1, d2, d3] }
  | _ => none }
def wordIsRow : OpenClaim := { program := "ytfhncnhkeodngaadoor", sum := "523881e8e5b76c89784c147682362162e67c00e6177c8d4d87843263a9e7b727", func := "filbert/filbertlaw2.WordIs", spec := "wordIs", inPlace := ["internal/reflectlite.ValueOf", "(internal/reflectlite.Value).Type", "(internal/reflectlite.Value).IsNil", "internal/reflectlite.TypeOf", "(internal/reflectlite.Value).Elem", "(internal/reflectlite.Value).Set"], unfollowed := true, recurses := true, named := ["errors.errorType"], plainKeys := false, apart := false, laid := [("errors.errorType", laid_errors_errorType)] }
def WordIsSaid : Prop := wordIsRow.holds Tryd.pinned (OpenSpec.ofChange wordIsSpec)

/-- ITS FALSE NEIGHBOUR: 'it returns false'. Refute it at one input. -/
def wordIsWrong : ChangeSpec := { name := "wordIs", fn := fun _ => fun
  | [d1, d2, d3] => { results := [.lit (.bool false)], args := [d1, d2, d3] }
  | _ => none }
def WordIsWrongFalsely : Prop := wordIsRow.holds Tryd.pinned (OpenSpec.ofChange wordIsWrong)

/- THE SECOND FORM. 'bulk': how many values and letters a reading holds, each counted each time it is reached (what is shared counts as often as it is met; a slice's spare places count too). A statement '..UptoSaid' is the law's where the arguments, and the package variables that the reading takes, are together of bulk at most 1048576: NARROWER than '..Said'. Prove '..Said' where nothing that the law and all that it calls make is longer than what came in: it says more and counts as full. Else prove '..UptoSaid'. A law counts once. -/
mutual
def uptoBulk {H : Type} : DataW H → Nat
  | .lit (.string bytes) => bytes.length + 1
  | .lit _ => 1
  | .nil => 1
  | .ptr d => uptoBulk d + 1
  | .slice elems spare => uptoBulkAll elems + uptoBulkAll spare + 1
  | .agg parts => uptoBulkAll parts + 1
  | .iface _ d => uptoBulk d + 1
  | .map entries => uptoBulkEntries entries + 1
  | .held _ => 1
def uptoBulkAll {H : Type} : List (DataW H) → Nat
  | [] => 0
  | d :: r => uptoBulk d + uptoBulkAll r
def uptoBulkEntries {H : Type} : List (Lit × DataW H) → Nat
  | [] => 0
  | x :: r => uptoBulkEntry x + uptoBulkEntries r
def uptoBulkEntry {H : Type} : Lit × DataW H → Nat
  | (.string bytes, d) => bytes.length + uptoBulk d + 1
  | (_, d) => uptoBulk d + 1
 end
def uptoSmall : (H : Type) → List (DataW H) → Bool := fun _ ds => decide (uptoBulkAll ds ≤ 1048576)
def OpenSpec.upto (s : _root_.Go.ChangeSpec) : _root_.Go.OpenSpec := { _root_.Go.OpenSpec.ofChange s with cond := some uptoSmall }

/-- 'filbertlaw4.CountEvals', WHERE WHAT IT READS IS OF BULK AT MOST 1048576: true; the input reads as it did. -/
def countEvalsUptoRow : OpenClaim := { program := "ytfhncnhkeodngaadoor", sum := "523881e8e5b76c89784c147682362162e67c00e6177c8d4d87843263a9e7b727", func := "filbert/filbertlaw4.CountEvals", spec := "countEvals", inPlace := ["internal/reflectlite.ValueOf", "(internal/reflectlite.Value).Type", "(internal/reflectlite.Value).IsNil", "internal/reflectlite.TypeOf", "(internal/reflectlite.Value).Elem", "(internal/reflectlite.Value).Set"], unfollowed := true, recurses := true, named := ["errors.errorType"], plainKeys := false, apart := false, laid := [("errors.errorType", laid_errors_errorType)], narrowed := true }
def CountEvalsUptoSaid : Prop := countEvalsUptoRow.holds Tryd.pinned (OpenSpec.upto countEvalsSpec)

/-- 'filbertlaw2.WordMorphs', WHERE WHAT IT READS IS OF BULK AT MOST 1048576: true; the input reads as it did. -/
def wordMorphsUptoRow : OpenClaim := { program := "ytfhncnhkeodngaadoor", sum := "523881e8e5b76c89784c147682362162e67c00e6177c8d4d87843263a9e7b727", func := "filbert/filbertlaw2.WordMorphs", spec := "wordMorphs", inPlace := ["internal/reflectlite.ValueOf", "(internal/reflectlite.Value).Type", "(internal/reflectlite.Value).IsNil", "internal/reflectlite.TypeOf", "(internal/reflectlite.Value).Elem", "(internal/reflectlite.Value).Set"], unfollowed := true, recurses := true, named := ["errors.errorType"], plainKeys := false, apart := false, laid := [("errors.errorType", laid_errors_errorType)], narrowed := true }
def WordMorphsUptoSaid : Prop := wordMorphsUptoRow.holds Tryd.pinned (OpenSpec.upto wordMorphsSpec)

/-- 'filbertlaw2.WordNamed', WHERE WHAT IT READS IS OF BULK AT MOST 1048576: true; the input reads as it did. -/
def wordNamedUptoRow : OpenClaim := { program := "ytfhncnhkeodngaadoor", sum := "523881e8e5b76c89784c147682362162e67c00e6177c8d4d87843263a9e7b727", func := "filbert/filbertlaw2.WordNamed", spec := "wordNamed", inPlace := ["internal/reflectlite.ValueOf", "(internal/reflectlite.Value).Type", "(internal/reflectlite.Value).IsNil", "internal/reflectlite.TypeOf", "(internal/reflectlite.Value).Elem", "(internal/reflectlite.Value).Set"], unfollowed := true, recurses := true, named := ["errors.errorType"], plainKeys := false, apart := false, laid := [("errors.errorType", laid_errors_errorType)], narrowed := true }
def WordNamedUptoSaid : Prop := wordNamedUptoRow.holds Tryd.pinned (OpenSpec.upto wordNamedSpec)

/-- 'filbertlaw4.CountLongs', WHERE WHAT IT READS IS OF BULK AT MOST 1048576: true; the input reads as it did. -/
def countLongsUptoRow : OpenClaim := { program := "ytfhncnhkeodngaadoor", sum := "523881e8e5b76c89784c147682362162e67c00e6177c8d4d87843263a9e7b727", func := "filbert/filbertlaw4.CountLongs", spec := "countLongs", inPlace := ["internal/reflectlite.ValueOf", "(internal/reflectlite.Value).Type", "(internal/reflectlite.Value).IsNil", "internal/reflectlite.TypeOf", "(internal/reflectlite.Value).Elem", "(internal/reflectlite.Value).Set"], unfollowed := true, recurses := true, named := ["errors.errorType"], plainKeys := false, apart := false, laid := [("errors.errorType", laid_errors_errorType)], narrowed := true }
def CountLongsUptoSaid : Prop := countLongsUptoRow.holds Tryd.pinned (OpenSpec.upto countLongsSpec)

/-- 'filbertlaw3.FormChecks', WHERE WHAT IT READS IS OF BULK AT MOST 1048576: true; the input reads as it did. -/
def formChecksUptoRow : OpenClaim := { program := "ytfhncnhkeodngaadoor", sum := "523881e8e5b76c89784c147682362162e67c00e6177c8d4d87843263a9e7b727", func := "filbert/filbertlaw3.FormChecks", spec := "formChecks", inPlace := ["internal/reflectlite.ValueOf", "(internal/reflectlite.Value).Type", "(internal/reflectlite.Value).IsNil", "internal/reflectlite.TypeOf", "(internal/reflectlite.Value).Elem", "(internal/reflectlite.Value).Set"], unfollowed := true, recurses := true, named := ["errors.errorType"], plainKeys := false, apart := false, laid := [("errors.errorType", laid_errors_errorType)], narrowed := true }
def FormChecksUptoSaid : Prop := formChecksUptoRow.holds Tryd.pinned (OpenSpec.upto formChecksSpec)

/-- 'filbertlaw2.WordLikes', WHERE WHAT IT READS IS OF BULK AT MOST 1048576: true; the input reads as it did. -/
def wordLikesUptoRow : OpenClaim := { program := "ytfhncnhkeodngaadoor", sum := "523881e8e5b76c89784c147682362162e67c00e6177c8d4d87843263a9e7b727", func := "filbert/filbertlaw2.WordLikes", spec := "wordLikes", inPlace := ["internal/reflectlite.ValueOf", "(internal/reflectlite.Value).Type", "(internal/reflectlite.Value).IsNil", "internal/reflectlite.TypeOf", "(internal/reflectlite.Value).Elem", "(internal/reflectlite.Value).Set"], unfollowed := true, recurses := true, named := ["errors.errorType"], plainKeys := false, apart := false, laid := [("errors.errorType", laid_errors_errorType)], narrowed := true }
def WordLikesUptoSaid : Prop := wordLikesUptoRow.holds Tryd.pinned (OpenSpec.upto wordLikesSpec)

/-- 'filbertlaw2.LineIs', WHERE WHAT IT READS IS OF BULK AT MOST 1048576: true; the input reads as it did. -/
def lineIsUptoRow : OpenClaim := { program := "ytfhncnhkeodngaadoor", sum := "523881e8e5b76c89784c147682362162e67c00e6177c8d4d87843263a9e7b727", func := "filbert/filbertlaw2.LineIs", spec := "lineIs", inPlace := ["internal/reflectlite.ValueOf", "(internal/reflectlite.Value).Type", "(internal/reflectlite.Value).IsNil", "internal/reflectlite.TypeOf", "(internal/reflectlite.Value).Elem", "(internal/reflectlite.Value).Set"], unfollowed := true, recurses := true, named := ["errors.errorType"], plainKeys := false, apart := false, laid := [("errors.errorType", laid_errors_errorType)], narrowed := true }
def LineIsUptoSaid : Prop := lineIsUptoRow.holds Tryd.pinned (OpenSpec.upto lineIsSpec)

/-- 'filbertlaw2.WordIs', WHERE WHAT IT READS IS OF BULK AT MOST 1048576: true; the input reads as it did. -/
def wordIsUptoRow : OpenClaim := { program := "ytfhncnhkeodngaadoor", sum := "523881e8e5b76c89784c147682362162e67c00e6177c8d4d87843263a9e7b727", func := "filbert/filbertlaw2.WordIs", spec := "wordIs", inPlace := ["internal/reflectlite.ValueOf", "(internal/reflectlite.Value).Type", "(internal/reflectlite.Value).IsNil", "internal/reflectlite.TypeOf", "(internal/reflectlite.Value).Elem", "(internal/reflectlite.Value).Set"], unfollowed := true, recurses := true, named := ["errors.errorType"], plainKeys := false, apart := false, laid := [("errors.errorType", laid_errors_errorType)], narrowed := true }
def WordIsUptoSaid : Prop := wordIsUptoRow.holds Tryd.pinned (OpenSpec.upto wordIsSpec)

end Rows
end Go.Proofs.YtfhncnhkeodngaaDoor
