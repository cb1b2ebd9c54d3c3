/-
  No cell of these rows narrows 'for every input' (looked for: loops, veiled, ifaces, maps, wideKeys, modest, calm, conditions, laid).
  DERIVED. THE GIVEN ROWS OF THIS SEAT. 6 by the template 'for every input the law returns true; each argument reads behind the call as it read before'; 0 by the template 'total and deterministic' (their statements: YthcclcbliedodaaTotals.lean).
  GIVEN WITH THE SEED: the statements are not yours to turn. If you find one false, say at which input.
  Laid BY PROGRAM, IN A SANDBOX (cutbox-rows.mjs): the forced cells as the released guide's own fill.sh prints them over the translation 3f5a396ae89a3109… (all of the seat's roots in one cut). By AI agents, Wed Nov 11 2026. No macro, syntax, notation, axiom, sorry.
-/
import Derived.Test.YthcclcbliedodaaChecked
import GoSem.Claim
import GoSem.ClaimJoined
import GoSem.ClaimMapViews
import Derived.JoinedTies
import Derived.KernelRfl
namespace Go.Proofs.Ythcclcbliedodaa
/- THE CELL 'sum', in the pinned program and in every row, IS THE sha256 OF THE DUMP (.gsa) THAT YthcclcbliedodaaProg.lean LOADS. Nothing in Lean hashes anything: it is a label: what it is worth is what the hold of that sum in a sandbox is worth. -/
noncomputable def Try.pinned : Pinned := { name := "ythcclcbliedodaa", sum := "3f5a396ae89a31092505bc31513b269153ca7ab8258b1f3c2b78a181d67eece4", checked := Try.checked }
namespace Rows
def none {H : Type} : Left H := { results := [], args := [] }

/-- 'filbertlaw4.CountReps': WHATEVER THE INPUT: true; the input reads as it did. -/
def countRepsSpec : ChangeSpec := { name := "countReps", fn := fun _ => fun
  | [d1, d2, d3] => { results := [.lit (.bool true)], args := [d1, d2, d3] }
  | _ => none }
def countRepsRow : OpenClaim := { program := "ythcclcbliedodaa", sum := "3f5a396ae89a31092505bc31513b269153ca7ab8258b1f3c2b78a181d67eece4", func := "filbert/filbertlaw4.CountReps", spec := "countReps", plainKeys := false, apart := false }
def CountRepsSaid : Prop := countRepsRow.holds Try.pinned (OpenSpec.ofChange countRepsSpec)

/-- ITS FALSE NEIGHBOUR: 'it returns false'. Refute it at one input. -/
def countRepsWrong : ChangeSpec := { name := "countReps", fn := fun _ => fun
  | [d1, d2, d3] => { results := [.lit (.bool false)], args := [d1, d2, d3] }
  | _ => none }
def CountRepsWrongFalsely : Prop := countRepsRow.holds Try.pinned (OpenSpec.ofChange countRepsWrong)

/-- 'filbertlaw2.TurnTakes': WHATEVER THE INPUT: true; the input reads as it did. -/
def turnTakesSpec : ChangeSpec := { name := "turnTakes", fn := fun _ => fun
  | [d1, d2] => { results := [.lit (.bool true)], args := [d1, d2] }
  | _ => none }
def turnTakesRow : OpenClaim := { program := "ythcclcbliedodaa", sum := "3f5a396ae89a31092505bc31513b269153ca7ab8258b1f3c2b78a181d67eece4", func := "filbert/filbertlaw2.TurnTakes", spec := "turnTakes", unfollowed := true, recurses := true, plainKeys := false, apart := false }
def TurnTakesSaid : Prop := turnTakesRow.holds Try.pinned (OpenSpec.ofChange turnTakesSpec)

/-- ITS FALSE NEIGHBOUR: 'it returns false'. Refute it at one input. -/
def turnTakesWrong : ChangeSpec := { name := "turnTakes", fn := fun _ => fun
  | [d1, d2] => { results := [.lit (.bool false)], args := [d1, d2] }
  | _ => none }
def TurnTakesWrongFalsely : Prop := turnTakesRow.holds Try.pinned (OpenSpec.ofChange turnTakesWrong)

/-- 'filbertlaw2.SomeTakes': WHATEVER THE INPUT: true; the input reads as it did. -/
def someTakesSpec : ChangeSpec := { name := "someTakes", fn := fun _ => fun
  | [d1, d2, d3] => { results := [.lit (.bool true)], args := [d1, d2, d3] }
  | _ => none }
def someTakesRow : OpenClaim := { program := "ythcclcbliedodaa", sum := "3f5a396ae89a31092505bc31513b269153ca7ab8258b1f3c2b78a181d67eece4", func := "filbert/filbertlaw2.SomeTakes", spec := "someTakes", inPlace := ["slices.overlaps[int]"], unfollowed := true, recurses := true, plainKeys := false, apart := false }
def SomeTakesSaid : Prop := someTakesRow.holds Try.pinned (OpenSpec.ofChange someTakesSpec)

/-- ITS FALSE NEIGHBOUR: 'it returns false'. Refute it at one input. -/
def someTakesWrong : ChangeSpec := { name := "someTakes", fn := fun _ => fun
  | [d1, d2, d3] => { results := [.lit (.bool false)], args := [d1, d2, d3] }
  | _ => none }
def SomeTakesWrongFalsely : Prop := someTakesRow.holds Try.pinned (OpenSpec.ofChange someTakesWrong)

/-- 'filbertlaw2.SomeOrder': WHATEVER THE INPUT: true; the input reads as it did. -/
def someOrderSpec : ChangeSpec := { name := "someOrder", fn := fun _ => fun
  | [d1, d2] => { results := [.lit (.bool true)], args := [d1, d2] }
  | _ => none }
def someOrderRow : OpenClaim := { program := "ythcclcbliedodaa", sum := "3f5a396ae89a31092505bc31513b269153ca7ab8258b1f3c2b78a181d67eece4", func := "filbert/filbertlaw2.SomeOrder", spec := "someOrder", inPlace := ["slices.overlaps[int]"], unfollowed := true, recurses := true, plainKeys := false, apart := false }
def SomeOrderSaid : Prop := someOrderRow.holds Try.pinned (OpenSpec.ofChange someOrderSpec)

/-- ITS FALSE NEIGHBOUR: 'it returns false'. Refute it at one input. -/
def someOrderWrong : ChangeSpec := { name := "someOrder", fn := fun _ => fun
  | [d1, d2] => { results := [.lit (.bool false)], args := [d1, d2] }
  | _ => none }
def SomeOrderWrongFalsely : Prop := someOrderRow.holds Try.pinned (OpenSpec.ofChange someOrderWrong)

/-- 'filbertlaw2.SomeClosed': WHATEVER THE INPUT: true; the input reads as it did. -/
def someClosedSpec : ChangeSpec := { name := "someClosed", fn := fun _ => fun
  | [d1, d2, d3, d4] => { results := [.lit (.bool true)], args := [d1, d2, d3, d4] }
  | _ => none }
def someClosedRow : OpenClaim := { program := "ythcclcbliedodaa", sum := "3f5a396ae89a31092505bc31513b269153ca7ab8258b1f3c2b78a181d67eece4", func := "filbert/filbertlaw2.SomeClosed", spec := "someClosed", inPlace := ["slices.overlaps[int]"], unfollowed := true, recurses := true, plainKeys := false, apart := false }
def SomeClosedSaid : Prop := someClosedRow.holds Try.pinned (OpenSpec.ofChange someClosedSpec)

/-- ITS FALSE NEIGHBOUR: 'it returns false'. Refute it at one input. -/
def someClosedWrong : ChangeSpec := { name := "someClosed", fn := fun _ => fun
  | [d1, d2, d3, d4] => { results := [.lit (.bool false)], args := [d1, d2, d3, d4] }
  | _ => none }
def SomeClosedWrongFalsely : Prop := someClosedRow.holds Try.pinned (OpenSpec.ofChange someClosedWrong)

/-- 'filbertlaw2.RightSpreads': WHATEVER THE INPUT: true; the input reads as it did. -/
def rightSpreadsSpec : ChangeSpec := { name := "rightSpreads", fn := fun _ => fun
  | [d] => { results := [.lit (.bool true)], args := [d] }
  | _ => none }
def rightSpreadsRow : OpenClaim := { program := "ythcclcbliedodaa", sum := "3f5a396ae89a31092505bc31513b269153ca7ab8258b1f3c2b78a181d67eece4", func := "filbert/filbertlaw2.RightSpreads", spec := "rightSpreads", inPlace := ["slices.overlaps[int]"], unfollowed := true, recurses := true, plainKeys := false, apart := false }
def RightSpreadsSaid : Prop := rightSpreadsRow.holds Try.pinned (OpenSpec.ofChange rightSpreadsSpec)

/-- ITS FALSE NEIGHBOUR: 'it returns false'. Refute it at one input. -/
def rightSpreadsWrong : ChangeSpec := { name := "rightSpreads", fn := fun _ => fun
  | [d] => { results := [.lit (.bool false)], args := [d] }
  | _ => none }
def RightSpreadsWrongFalsely : Prop := rightSpreadsRow.holds Try.pinned (OpenSpec.ofChange rightSpreadsWrong)

/- THE SECOND FORM. 'bulk': how many values and letters a reading holds, each counted each time it is reached (what is shared counts as often as it is met; a slice's spare places count too). A statement '..UptoSaid' is the law's where the arguments, and the package variables that the reading takes, are together of bulk at most 1048576: NARROWER than '..Said'. Prove '..Said' where nothing that the law and all that it calls make is longer than what came in: it says more and counts as full. Else prove '..UptoSaid'. A law counts once. -/
mutual
def uptoBulk {H : Type} : DataW H → Nat
  | .lit (.string bytes) => bytes.length + 1
  | .lit _ => 1
  | .nil => 1
  | .ptr d => uptoBulk d + 1
  | .slice elems spare => uptoBulkAll elems + uptoBulkAll spare + 1
  | .agg parts => uptoBulkAll parts + 1
  | .iface _ d => uptoBulk d + 1
  | .map entries => uptoBulkEntries entries + 1
  | .held _ => 1
def uptoBulkAll {H : Type} : List (DataW H) → Nat
  | [] => 0
  | d :: r => uptoBulk d + uptoBulkAll r
def uptoBulkEntries {H : Type} : List (Lit × DataW H) → Nat
  | [] => 0
  | x :: r => uptoBulkEntry x + uptoBulkEntries r
def uptoBulkEntry {H : Type} : Lit × DataW H → Nat
  | (.string bytes, d) => bytes.length + uptoBulk d + 1
  | (_, d) => uptoBulk d + 1
 end
def uptoSmall : (H : Type) → List (DataW H) → Bool := fun _ ds => decide (uptoBulkAll ds ≤ 1048576)
def OpenSpec.upto (s : _root_.Go.ChangeSpec) : _root_.Go.OpenSpec := { _root_.Go.OpenSpec.ofChange s with cond := some uptoSmall }

/-- 'filbertlaw4.CountReps', WHERE WHAT IT READS IS OF BULK AT MOST 1048576: true; the input reads as it did. -/
def countRepsUptoRow : OpenClaim := { program := "ythcclcbliedodaa", sum := "3f5a396ae89a31092505bc31513b269153ca7ab8258b1f3c2b78a181d67eece4", func := "filbert/filbertlaw4.CountReps", spec := "countReps", plainKeys := false, apart := false, narrowed := true }
def CountRepsUptoSaid : Prop := countRepsUptoRow.holds Try.pinned (OpenSpec.upto countRepsSpec)

/-- 'filbertlaw2.TurnTakes', WHERE WHAT IT READS IS OF BULK AT MOST 1048576: true; the input reads as it did. -/
def turnTakesUptoRow : OpenClaim := { program := "ythcclcbliedodaa", sum := "3f5a396ae89a31092505bc31513b269153ca7ab8258b1f3c2b78a181d67eece4", func := "filbert/filbertlaw2.TurnTakes", spec := "turnTakes", unfollowed := true, recurses := true, plainKeys := false, apart := false, narrowed := true }
def TurnTakesUptoSaid : Prop := turnTakesUptoRow.holds Try.pinned (OpenSpec.upto turnTakesSpec)

/-- 'filbertlaw2.SomeTakes', WHERE WHAT IT READS IS OF BULK AT MOST 1048576: true; the input reads as it did. -/
def someTakesUptoRow : OpenClaim := { program := "ythcclcbliedodaa", sum := "3f5a396ae89a31092505bc31513b269153ca7ab8258b1f3c2b78a181d67eece4", func := "filbert/filbertlaw2.SomeTakes", spec := "someTakes", inPlace := ["slices.overlaps[int]"], unfollowed := true, recurses := true, plainKeys := false, apart := false, narrowed := true }
def SomeTakesUptoSaid : Prop := someTakesUptoRow.holds Try.pinned (OpenSpec.upto someTakesSpec)

/-- 'filbertlaw2.SomeOrder', WHERE WHAT IT READS IS OF BULK AT MOST 1048576: true; the input reads as it did. -/
def someOrderUptoRow : OpenClaim := { program := "ythcclcbliedodaa", sum := "3f5a396ae89a31092505bc31513b269153ca7ab8258b1f3c2b78a181d67eece4", func := "filbert/filbertlaw2.SomeOrder", spec := "someOrder", inPlace := ["slices.overlaps[int]"], unfollowed := true, recurses := true, plainKeys := false, apart := false, narrowed := true }
def SomeOrderUptoSaid : Prop := someOrderUptoRow.holds Try.pinned (OpenSpec.upto someOrderSpec)

/-- 'filbertlaw2.SomeClosed', WHERE WHAT IT READS IS OF BULK AT MOST 1048576: true; the input reads as it did. -/
def someClosedUptoRow : OpenClaim := { program := "ythcclcbliedodaa", sum := "3f5a396ae89a31092505bc31513b269153ca7ab8258b1f3c2b78a181d67eece4", func := "filbert/filbertlaw2.SomeClosed", spec := "someClosed", inPlace := ["slices.overlaps[int]"], unfollowed := true, recurses := true, plainKeys := false, apart := false, narrowed := true }
def SomeClosedUptoSaid : Prop := someClosedUptoRow.holds Try.pinned (OpenSpec.upto someClosedSpec)

/-- 'filbertlaw2.RightSpreads', WHERE WHAT IT READS IS OF BULK AT MOST 1048576: true; the input reads as it did. -/
def rightSpreadsUptoRow : OpenClaim := { program := "ythcclcbliedodaa", sum := "3f5a396ae89a31092505bc31513b269153ca7ab8258b1f3c2b78a181d67eece4", func := "filbert/filbertlaw2.RightSpreads", spec := "rightSpreads", inPlace := ["slices.overlaps[int]"], unfollowed := true, recurses := true, plainKeys := false, apart := false, narrowed := true }
def RightSpreadsUptoSaid : Prop := rightSpreadsUptoRow.holds Try.pinned (OpenSpec.upto rightSpreadsSpec)

end Rows
end Go.Proofs.Ythcclcbliedodaa
