/-
  NARROWER THAN 'FOR EVERY INPUT', by the rows' own cells (each row's printed sentence says how): CountLongs: laid · TurnIs: laid · SomeCloses: laid · SomeIs: laid.
  DERIVED. THE GIVEN ROWS OF THIS SEAT. 4 by the template 'for every input the law returns true; each argument reads behind the call as it read before'; 0 by the template 'total and deterministic' (their statements: YthcclcbliedodaaDoorTotals.lean).
  GIVEN WITH THE SEED: the statements are not yours to turn. If you find one false, say at which input.
  Laid BY PROGRAM, IN A SANDBOX (cutbox-rows.mjs): the forced cells as the released guide's own fill.sh prints them over the translation d5861126557c7bb7… (all of the seat's roots in one cut). By AI agents, Wed Nov 11 2026. No macro, syntax, notation, axiom, sorry.
-/
import Derived.Test.YthcclcbliedodaaDoorChecked
import GoSem.Claim
import GoSem.ClaimJoined
import GoSem.ClaimMapViews
import Derived.JoinedTies
import Derived.KernelRfl
namespace Go.Proofs.YthcclcbliedodaaDoor
/- THE CELL 'sum', in the pinned program and in every row, IS THE sha256 OF THE DUMP (.gsa) THAT YthcclcbliedodaaDoorProg.lean LOADS. Nothing in Lean hashes anything: it is a label: what it is worth is what the hold of that sum in a sandbox is worth. -/
noncomputable def Tryd.pinned : Pinned := { name := "ythcclcbliedodaadoor", sum := "d5861126557c7bb7a56b45b6df538bfdbc9f318bf51ed45622c0870c475767c2", checked := Tryd.checked }
namespace Rows
def none {H : Type} : Left H := { results := [], args := [] }

/- WHAT THE LISTED PACKAGE-LEVEL VARIABLES READ AS WHEN THE CALL BEGINS. Each datum BY PROGRAM (the guide's laid-datum.mjs) off the statement by which the dump's own 'gosem.cut.vars' lays the variable. In a bare row this is a premise. The card (YthcclcbliedodaaDoorCards.lean) ties it to the program's text. -/
def laid_errors_errorType {H : Type} : DataW H := .iface "internal/reflectlite.rtype" (.agg [.ptr (.lit (.string [101, 114, 114, 111, 114]))])

/-- 'filbertlaw4.CountLongs': WHATEVER THE INPUT: true; the input reads as it did. -/
def countLongsSpec : ChangeSpec := { name := "countLongs", fn := fun _ => fun
  | [d1, d2, d3] => { results := [.lit (.bool true)], args := [d1, d2, d3] }
  | _ => none }
def countLongsRow : OpenClaim := { program := "ythcclcbliedodaadoor", sum := "d5861126557c7bb7a56b45b6df538bfdbc9f318bf51ed45622c0870c475767c2", func := "filbert/filbertlaw4.CountLongs", spec := "countLongs", inPlace := ["internal/reflectlite.ValueOf", "(internal/reflectlite.Value).Type", "(internal/reflectlite.Value).IsNil", "internal/reflectlite.TypeOf", "(internal/reflectlite.Value).Elem", "(internal/reflectlite.Value).Set"], unfollowed := true, recurses := true, named := ["errors.errorType"], plainKeys := false, apart := false, laid := [("errors.errorType", laid_errors_errorType)] }
def CountLongsSaid : Prop := countLongsRow.holds Tryd.pinned (OpenSpec.ofChange countLongsSpec)

/-- ITS FALSE NEIGHBOUR: 'it returns false'. Refute it at one input. -/
def countLongsWrong : ChangeSpec := { name := "countLongs", fn := fun _ => fun
  | [d1, d2, d3] => { results := [.lit (.bool false)], args := [d1, d2, d3] }
  | _ => none }
def CountLongsWrongFalsely : Prop := countLongsRow.holds Tryd.pinned (OpenSpec.ofChange countLongsWrong)

/-- 'filbertlaw2.TurnIs': WHATEVER THE INPUT: true; the input reads as it did. -/
def turnIsSpec : ChangeSpec := { name := "turnIs", fn := fun _ => fun
  | [d] => { results := [.lit (.bool true)], args := [d] }
  | _ => none }
def turnIsRow : OpenClaim := { program := "ythcclcbliedodaadoor", sum := "d5861126557c7bb7a56b45b6df538bfdbc9f318bf51ed45622c0870c475767c2", func := "filbert/filbertlaw2.TurnIs", spec := "turnIs", inPlace := ["internal/reflectlite.ValueOf", "(internal/reflectlite.Value).Type", "(internal/reflectlite.Value).IsNil", "internal/reflectlite.TypeOf", "(internal/reflectlite.Value).Elem", "(internal/reflectlite.Value).Set"], unfollowed := true, recurses := true, named := ["errors.errorType"], plainKeys := false, apart := false, laid := [("errors.errorType", laid_errors_errorType)] }
def TurnIsSaid : Prop := turnIsRow.holds Tryd.pinned (OpenSpec.ofChange turnIsSpec)

/-- ITS FALSE NEIGHBOUR: 'it returns false'. Refute it at one input. -/
def turnIsWrong : ChangeSpec := { name := "turnIs", fn := fun _ => fun
  | [d] => { results := [.lit (.bool false)], args := [d] }
  | _ => none }
def TurnIsWrongFalsely : Prop := turnIsRow.holds Tryd.pinned (OpenSpec.ofChange turnIsWrong)

/-- 'filbertlaw2.SomeCloses': WHATEVER THE INPUT: true; the input reads as it did. -/
def someClosesSpec : ChangeSpec := { name := "someCloses", fn := fun _ => fun
  | [d] => { results := [.lit (.bool true)], args := [d] }
  | _ => none }
def someClosesRow : OpenClaim := { program := "ythcclcbliedodaadoor", sum := "d5861126557c7bb7a56b45b6df538bfdbc9f318bf51ed45622c0870c475767c2", func := "filbert/filbertlaw2.SomeCloses", spec := "someCloses", inPlace := ["internal/reflectlite.ValueOf", "(internal/reflectlite.Value).Type", "(internal/reflectlite.Value).IsNil", "internal/reflectlite.TypeOf", "(internal/reflectlite.Value).Elem", "(internal/reflectlite.Value).Set"], unfollowed := true, recurses := true, named := ["errors.errorType"], plainKeys := false, apart := false, laid := [("errors.errorType", laid_errors_errorType)] }
def SomeClosesSaid : Prop := someClosesRow.holds Tryd.pinned (OpenSpec.ofChange someClosesSpec)

/-- ITS FALSE NEIGHBOUR: 'it returns false'. Refute it at one input. -/
def someClosesWrong : ChangeSpec := { name := "someCloses", fn := fun _ => fun
  | [d] => { results := [.lit (.bool false)], args := [d] }
  | _ => none }
def SomeClosesWrongFalsely : Prop := someClosesRow.holds Tryd.pinned (OpenSpec.ofChange someClosesWrong)

/-- 'filbertlaw2.SomeIs': WHATEVER THE INPUT: true; the input reads as it did. -/
def someIsSpec : ChangeSpec := { name := "someIs", fn := fun _ => fun
  | [d1, d2] => { results := [.lit (.bool true)], args := [d1, d2] }
  | _ => none }
def someIsRow : OpenClaim := { program := "ythcclcbliedodaadoor", sum := "d5861126557c7bb7a56b45b6df538bfdbc9f318bf51ed45622c0870c475767c2", func := "filbert/filbertlaw2.SomeIs", spec := "someIs", inPlace := ["slices.overlaps[int]", "internal/reflectlite.ValueOf", "(internal/reflectlite.Value).Type", "(internal/reflectlite.Value).IsNil", "internal/reflectlite.TypeOf", "(internal/reflectlite.Value).Elem", "(internal/reflectlite.Value).Set"], unfollowed := true, recurses := true, named := ["errors.errorType"], plainKeys := false, apart := false, laid := [("errors.errorType", laid_errors_errorType)] }
def SomeIsSaid : Prop := someIsRow.holds Tryd.pinned (OpenSpec.ofChange someIsSpec)

/-- ITS FALSE NEIGHBOUR: 'it returns false'. Refute it at one input. -/
def someIsWrong : ChangeSpec := { name := "someIs", fn := fun _ => fun
  | [d1, d2] => { results := [.lit (.bool false)], args := [d1, d2] }
  | _ => none }
def SomeIsWrongFalsely : Prop := someIsRow.holds Tryd.pinned (OpenSpec.ofChange someIsWrong)

/- THE SECOND FORM. 'bulk': how many values and letters a reading holds, each counted each time it is reached (what is shared counts as often as it is met; a slice's spare places count too). A statement '..UptoSaid' is the law's where the arguments, and the package variables that the reading takes, are together of bulk at most 1048576: NARROWER than '..Said'. Prove '..Said' where nothing that the law and all that it calls make is longer than what came in: it says more and counts as full. Else prove '..UptoSaid'. A law counts once. -/
mutual
def uptoBulk {H : Type} : DataW H → Nat
  | .lit (.string bytes) => bytes.length + 1
  | .lit _ => 1
  | .nil => 1
  | .ptr d => uptoBulk d + 1
  | .slice elems spare => uptoBulkAll elems + uptoBulkAll spare + 1
  | .agg parts => uptoBulkAll parts + 1
  | .iface _ d => uptoBulk d + 1
  | .map entries => uptoBulkEntries entries + 1
  | .held _ => 1
def uptoBulkAll {H : Type} : List (DataW H) → Nat
  | [] => 0
  | d :: r => uptoBulk d + uptoBulkAll r
def uptoBulkEntries {H : Type} : List (Lit × DataW H) → Nat
  | [] => 0
  | x :: r => uptoBulkEntry x + uptoBulkEntries r
def uptoBulkEntry {H : Type} : Lit × DataW H → Nat
  | (.string bytes, d) => bytes.length + uptoBulk d + 1
  | (_, d) => uptoBulk d + 1
 end
def uptoSmall : (H : Type) → List (DataW H) → Bool := fun _ ds => decide (uptoBulkAll ds ≤ 1048576)
def OpenSpec.upto (s : _root_.Go.ChangeSpec) : _root_.Go.OpenSpec := { _root_.Go.OpenSpec.ofChange s with cond := some uptoSmall }

/-- 'filbertlaw4.CountLongs', WHERE WHAT IT READS IS OF BULK AT MOST 1048576: true; the input reads as it did. -/
def countLongsUptoRow : OpenClaim := { program := "ythcclcbliedodaadoor", sum := "d5861126557c7bb7a56b45b6df538bfdbc9f318bf51ed45622c0870c475767c2", func := "filbert/filbertlaw4.CountLongs", spec := "countLongs", inPlace := ["internal/reflectlite.ValueOf", "(internal/reflectlite.Value).Type", "(internal/reflectlite.Value).IsNil", "internal/reflectlite.TypeOf", "(internal/reflectlite.Value).Elem", "(internal/reflectlite.Value).Set"], unfollowed := true, recurses := true, named := ["errors.errorType"], plainKeys := false, apart := false, laid := [("errors.errorType", laid_errors_errorType)], narrowed := true }
def CountLongsUptoSaid : Prop := countLongsUptoRow.holds Tryd.pinned (OpenSpec.upto countLongsSpec)

/-- 'filbertlaw2.TurnIs', WHERE WHAT IT READS IS OF BULK AT MOST 1048576: true; the input reads as it did. -/
def turnIsUptoRow : OpenClaim := { program := "ythcclcbliedodaadoor", sum := "d5861126557c7bb7a56b45b6df538bfdbc9f318bf51ed45622c0870c475767c2", func := "filbert/filbertlaw2.TurnIs", spec := "turnIs", inPlace := ["internal/reflectlite.ValueOf", "(internal/reflectlite.Value).Type", "(internal/reflectlite.Value).IsNil", "internal/reflectlite.TypeOf", "(internal/reflectlite.Value).Elem", "(internal/reflectlite.Value).Set"], unfollowed := true, recurses := true, named := ["errors.errorType"], plainKeys := false, apart := false, laid := [("errors.errorType", laid_errors_errorType)], narrowed := true }
def TurnIsUptoSaid : Prop := turnIsUptoRow.holds Tryd.pinned (OpenSpec.upto turnIsSpec)

/-- 'filbertlaw2.SomeCloses', WHERE WHAT IT READS IS OF BULK AT MOST 1048576: true; the input reads as it did. -/
def someClosesUptoRow : OpenClaim := { program := "ythcclcbliedodaadoor", sum := "d5861126557c7bb7a56b45b6df538bfdbc9f318bf51ed45622c0870c475767c2", func := "filbert/filbertlaw2.SomeCloses", spec := "someCloses", inPlace := ["internal/reflectlite.ValueOf", "(internal/reflectlite.Value).Type", "(internal/reflectlite.Value).IsNil", "internal/reflectlite.TypeOf", "(internal/reflectlite.Value).Elem", "(internal/reflectlite.Value).Set"], unfollowed := true, recurses := true, named := ["errors.errorType"], plainKeys := false, apart := false, laid := [("errors.errorType", laid_errors_errorType)], narrowed := true }
def SomeClosesUptoSaid : Prop := someClosesUptoRow.holds Tryd.pinned (OpenSpec.upto someClosesSpec)

/-- 'filbertlaw2.SomeIs', WHERE WHAT IT READS IS OF BULK AT MOST 1048576: true; the input reads as it did. -/
def someIsUptoRow : OpenClaim := { program := "ythcclcbliedodaadoor", sum := "d5861126557c7bb7a56b45b6df538bfdbc9f318bf51ed45622c0870c475767c2", func := "filbert/filbertlaw2.SomeIs", spec := "someIs", inPlace := ["slices.overlaps[int]", "internal/reflectlite.ValueOf", "(internal/reflectlite.Value).Type", "(internal/reflectlite.Value).IsNil", "internal/reflectlite.TypeOf", "(internal/reflectlite.Value).Elem", "(internal/reflectlite.Value).Set"], unfollowed := true, recurses := true, named := ["errors.errorType"], plainKeys := false, apart := false, laid := [("errors.errorType", laid_errors_errorType)], narrowed := true }
def SomeIsUptoSaid : Prop := someIsUptoRow.holds Tryd.pinned (OpenSpec.upto someIsSpec)

end Rows
end Go.Proofs.YthcclcbliedodaaDoor
