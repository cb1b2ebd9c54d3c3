/-
  No cell of these rows narrows 'for every input' (looked for: loops, veiled, ifaces, maps, wideKeys, modest, calm, conditions, laid).
  DERIVED. THE GIVEN ROWS OF THIS SEAT. 4 by the template 'for every input the law returns true; each argument reads behind the call as it read before'; 0 by the template 'total and deterministic' (their statements: YtfhncnhkeodngaaTotals.lean).
  GIVEN WITH THE SEED: the statements are not yours to turn. If you find one false, say at which input.
  Laid BY PROGRAM, IN A SANDBOX (cutbox-rows.mjs): the forced cells as the released guide's own fill.sh prints them over the translation 8ec4c010d07a79ba… (all of the seat's roots in one cut). By AI agents, Wed Nov 11 2026. No macro, syntax, notation, axiom, sorry.
-/
import Derived.Test.YtfhncnhkeodngaaChecked
import GoSem.Claim
import GoSem.ClaimJoined
import GoSem.ClaimMapViews
import Derived.JoinedTies
import Derived.KernelRfl
namespace Go.Proofs.Ytfhncnhkeodngaa
/- THE CELL 'sum', in the pinned program and in every row, IS THE sha256 OF THE DUMP (.gsa) THAT YtfhncnhkeodngaaProg.lean LOADS. Nothing in Lean hashes anything: it is a label: what it is worth is what the hold of that sum in a sandbox is worth. -/
noncomputable def Try.pinned : Pinned := { name := "ytfhncnhkeodngaa", sum := "8ec4c010d07a79ba15b27ac422596f5145b5b5dfcd890d41aac0a7936cddf5f5", checked := Try.checked }
namespace Rows
def none {H : Type} : Left H := { results := [], args := [] }

/-- 'filbertlaw3.FormTurns': WHATEVER THE INPUT: true; the input reads as it did. -/
def formTurnsSpec : ChangeSpec := { name := "formTurns", fn := fun _ => fun
  | [d1, d2, d3, d4] => { results := [.lit (.bool true)], args := [d1, d2, d3, d4] }
  | _ => none }
def formTurnsRow : OpenClaim := { program := "ytfhncnhkeodngaa", sum := "8ec4c010d07a79ba15b27ac422596f5145b5b5dfcd890d41aac0a7936cddf5f5", func := "filbert/filbertlaw3.FormTurns", spec := "formTurns", unfollowed := true, recurses := true, plainKeys := false, apart := false }
def FormTurnsSaid : Prop := formTurnsRow.holds Try.pinned (OpenSpec.ofChange formTurnsSpec)

/-- ITS FALSE NEIGHBOUR: 'it returns false'. Refute it at one input. -/
def formTurnsWrong : ChangeSpec := { name := "formTurns", fn := fun _ => fun
  | [d1, d2, d3, d4] => { results := [.lit (.bool false)], args := [d1, d2, d3, d4] }
  | _ => none }
def FormTurnsWrongFalsely : Prop := formTurnsRow.holds Try.pinned (OpenSpec.ofChange formTurnsWrong)

/-- 'filbertlaw2.WordTakes': WHATEVER THE INPUT: true; the input reads as it did. -/
def wordTakesSpec : ChangeSpec := { name := "wordTakes", fn := fun _ => fun
  | [d1, d2, d3, d4, d5, d6] => { results := [.lit (.bool true)], args := [d1, d2, d3, d4, d5, d6] }
  | _ => none }
def wordTakesRow : OpenClaim := { program := "ytfhncnhkeodngaa", sum := "8ec4c010d07a79ba15b27ac422596f5145b5b5dfcd890d41aac0a7936cddf5f5", func := "filbert/filbertlaw2.WordTakes", spec := "wordTakes", unfollowed := true, recurses := true, plainKeys := false, apart := false }
def WordTakesSaid : Prop := wordTakesRow.holds Try.pinned (OpenSpec.ofChange wordTakesSpec)

/-- ITS FALSE NEIGHBOUR: 'it returns false'. Refute it at one input. -/
def wordTakesWrong : ChangeSpec := { name := "wordTakes", fn := fun _ => fun
  | [d1, d2, d3, d4, d5, d6] => { results := [.lit (.bool false)], args := [d1, d2, d3, d4, d5, d6] }
  | _ => none }
def WordTakesWrongFalsely : Prop := wordTakesRow.holds Try.pinned (OpenSpec.ofChange wordTakesWrong)

/-- 'filbertlaw2.LineParts': WHATEVER THE INPUT: true; the input reads as it did. -/
def linePartsSpec : ChangeSpec := { name := "lineParts", fn := fun _ => fun
  | [d1, d2, d3] => { results := [.lit (.bool true)], args := [d1, d2, d3] }
  | _ => none }
def linePartsRow : OpenClaim := { program := "ytfhncnhkeodngaa", sum := "8ec4c010d07a79ba15b27ac422596f5145b5b5dfcd890d41aac0a7936cddf5f5", func := "filbert/filbertlaw2.LineParts", spec := "lineParts", unfollowed := true, recurses := true, plainKeys := false, apart := false }
def LinePartsSaid : Prop := linePartsRow.holds Try.pinned (OpenSpec.ofChange linePartsSpec)

/-- ITS FALSE NEIGHBOUR: 'it returns false'. Refute it at one input. -/
def linePartsWrong : ChangeSpec := { name := "lineParts", fn := fun _ => fun
  | [d1, d2, d3] => { results := [.lit (.bool false)], args := [d1, d2, d3] }
  | _ => none }
def LinePartsWrongFalsely : Prop := linePartsRow.holds Try.pinned (OpenSpec.ofChange linePartsWrong)

/-- 'filbertlaw2.LineMeans': WHATEVER THE INPUT: true; the input reads as it did. -/
def lineMeansSpec : ChangeSpec := { name := "lineMeans", fn := fun _ => fun
  | [d1, d2, d3, d4, d5, d6] => { results := [.lit (.bool true)], args := [d1, d2, d3, d4, d5, d6] }
  | _ => none }
def lineMeansRow : OpenClaim := { program := "ytfhncnhkeodngaa", sum := "8ec4c010d07a79ba15b27ac422596f5145b5b5dfcd890d41aac0a7936cddf5f5", func := "filbert/filbertlaw2.LineMeans", spec := "lineMeans", unfollowed := true, recurses := true, plainKeys := false, apart := false }
def LineMeansSaid : Prop := lineMeansRow.holds Try.pinned (OpenSpec.ofChange lineMeansSpec)

/-- ITS FALSE NEIGHBOUR: 'it returns false'. Refute it at one input. -/
def lineMeansWrong : ChangeSpec := { name := "lineMeans", fn := fun _ => fun
  | [d1, d2, d3, d4, d5, d6] => { results := [.lit (.bool false)], args := [d1, d2, d3, d4, d5, d6] }
  | _ => none }
def LineMeansWrongFalsely : Prop := lineMeansRow.holds Try.pinned (OpenSpec.ofChange lineMeansWrong)

/- THE SECOND FORM. 'bulk': how many values and letters a reading holds, each counted each time it is reached (what is shared counts as often as it is met; a slice's spare places count too). A statement '..UptoSaid' is the law's where the arguments, and the package variables that the reading takes, are together of bulk at most 1048576: NARROWER than '..Said'. Prove '..Said' where nothing that the law and all that it calls make is longer than what came in: it says more and counts as full. Else prove '..UptoSaid'. A law counts once. -/
mutual
def uptoBulk {H : Type} : DataW H → Nat
  | .lit (.string bytes) => bytes.length + 1
  | .lit _ => 1
  | .nil => 1
  | .ptr d => uptoBulk d + 1
  | .slice elems spare => uptoBulkAll elems + uptoBulkAll spare + 1
  | .agg parts => uptoBulkAll parts + 1
  | .iface _ d => uptoBulk d + 1
  | .map entries => uptoBulkEntries entries + 1
  | .held _ => 1
def uptoBulkAll {H : Type} : List (DataW H) → Nat
  | [] => 0
  | d :: r => uptoBulk d + uptoBulkAll r
def uptoBulkEntries {H : Type} : List (Lit × DataW H) → Nat
  | [] => 0
  | x :: r => uptoBulkEntry x + uptoBulkEntries r
def uptoBulkEntry {H : Type} : Lit × DataW H → Nat
  | (.string bytes, d) => bytes.length + uptoBulk d + 1
  | (_, d) => uptoBulk d + 1
 end
def uptoSmall : (H : Type) → List (DataW H) → Bool := fun _ ds => decide (uptoBulkAll ds ≤ 1048576)
def OpenSpec.upto (s : _root_.Go.ChangeSpec) : _root_.Go.OpenSpec := { _root_.Go.OpenSpec.ofChange s with cond := some uptoSmall }

/-- 'filbertlaw3.FormTurns', WHERE WHAT IT READS IS OF BULK AT MOST 1048576: true; the input reads as it did. -/
def formTurnsUptoRow : OpenClaim := { program := "ytfhncnhkeodngaa", sum := "8ec4c010d07a79ba15b27ac422596f5145b5b5dfcd890d41aac0a7936cddf5f5", func := "filbert/filbertlaw3.FormTurns", spec := "formTurns", unfollowed := true, recurses := true, plainKeys := false, apart := false, narrowed := true }
def FormTurnsUptoSaid : Prop := formTurnsUptoRow.holds Try.pinned (OpenSpec.upto formTurnsSpec)

/-- 'filbertlaw2.WordTakes', WHERE WHAT IT READS IS OF BULK AT MOST 1048576: true; the input reads as it did. -/
def wordTakesUptoRow : OpenClaim := { program := "ytfhncnhkeodngaa", sum := "8ec4c010d07a79ba15b27ac422596f5145b5b5dfcd890d41aac0a7936cddf5f5", func := "filbert/filbertlaw2.WordTakes", spec := "wordTakes", unfollowed := true, recurses := true, plainKeys := false, apart := false, narrowed := true }
def WordTakesUptoSaid : Prop := wordTakesUptoRow.holds Try.pinned (OpenSpec.upto wordTakesSpec)

/-- 'filbertlaw2.LineParts', WHERE WHAT IT READS IS OF BULK AT MOST 1048576: true; the input reads as it did. -/
def linePartsUptoRow : OpenClaim := { program := "ytfhncnhkeodngaa", sum := "8ec4c010d07a79ba15b27ac422596f5145b5b5dfcd890d41aac0a7936cddf5f5", func := "filbert/filbertlaw2.LineParts", spec := "lineParts", unfollowed := true, recurses := true, plainKeys := false, apart := false, narrowed := true }
def LinePartsUptoSaid : Prop := linePartsUptoRow.holds Try.pinned (OpenSpec.upto linePartsSpec)

/-- 'filbertlaw2.LineMeans', WHERE WHAT IT READS IS OF BULK AT MOST 1048576: true; the input reads as it did. -/
def lineMeansUptoRow : OpenClaim := { program := "ytfhncnhkeodngaa", sum := "8ec4c010d07a79ba15b27ac422596f5145b5b5dfcd890d41aac0a7936cddf5f5", func := "filbert/filbertlaw2.LineMeans", spec := "lineMeans", unfollowed := true, recurses := true, plainKeys := false, apart := false, narrowed := true }
def LineMeansUptoSaid : Prop := lineMeansUptoRow.holds Try.pinned (OpenSpec.upto lineMeansSpec)

end Rows
end Go.Proofs.Ytfhncnhkeodngaa
