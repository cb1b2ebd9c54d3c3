/-
  No cell of these rows narrows 'for every input' (looked for: loops, veiled, ifaces, maps, wideKeys, modest, calm, conditions, laid).
  DERIVED. THE GIVEN ROWS OF THIS SEAT. 2 by the template 'for every input the law returns true; each argument reads behind the call as it read before'; 0 by the template 'total and deterministic' (their statements: YtgglhdbhemcijaaTotals.lean).
  GIVEN WITH THE SEED: the statements are not yours to turn. If you find one false, say at which input.
  Laid BY PROGRAM, IN A SANDBOX (cutbox-rows.mjs): the forced cells as the released guide's own fill.sh prints them over the translation 1fea85a8ba22ddd0… (all of the seat's roots in one cut). By AI agents, Wed Nov 11 2026. No macro, syntax, notation, axiom, sorry.
-/
import Derived.Test.YtgglhdbhemcijaaChecked
import GoSem.Claim
import GoSem.ClaimJoined
import GoSem.ClaimMapViews
import Derived.JoinedTies
import Derived.KernelRfl
namespace Go.Proofs.Ytgglhdbhemcijaa
/- THE CELL 'sum', in the pinned program and in every row, IS THE sha256 OF THE DUMP (.gsa) THAT YtgglhdbhemcijaaProg.lean LOADS. Nothing in Lean hashes anything: it is a label: what it is worth is what the hold of that sum in a sandbox is worth. -/
noncomputable def Try.pinned : Pinned := { name := "ytgglhdbhemcijaa", sum := "1fea85a8ba22ddd0426e0277a4ec138ceea1714330e363c111a8fed9ed6fa2f8", checked := Try.checked }
namespace Rows
def none {H : Type} : Left H := { results := [], args := [] }

/-- 'filbertlaw1.LeastTakes': WHATEVER THE INPUT: true; the input reads as it did. -/
def leastTakesSpec : ChangeSpec := { name := "leastTakes", fn := fun _ => fun
  | [d1, d2, d3, d4] => { results := [.lit (.bool true)], args := [d1, d2, d3, d4] }
  | _ => none }
def leastTakesRow : OpenClaim := { program := "ytgglhdbhemcijaa", sum := "1fea85a8ba22ddd0426e0277a4ec138ceea1714330e363c111a8fed9ed6fa2f8", func := "filbert/filbertlaw1.LeastTakes", spec := "leastTakes", unfollowed := true, recurses := true, plainKeys := false, apart := false }
def LeastTakesSaid : Prop := leastTakesRow.holds Try.pinned (OpenSpec.ofChange leastTakesSpec)

/-- ITS FALSE NEIGHBOUR: 'it returns false'. Refute it at one input. -/
def leastTakesWrong : ChangeSpec := { name := "leastTakes", fn := fun _ => fun
  | [d1, d2, d3, d4] => { results := [.lit (.bool false)], args := [d1, d2, d3, d4] }
  | _ => none }
def LeastTakesWrongFalsely : Prop := leastTakesRow.holds Try.pinned (OpenSpec.ofChange leastTakesWrong)

/-- 'filbertlaw2.RightTakes': WHATEVER THE INPUT: true; the input reads as it did. -/
def rightTakesSpec : ChangeSpec := { name := "rightTakes", fn := fun _ => fun
  | [d1, d2] => { results := [.lit (.bool true)], args := [d1, d2] }
  | _ => none }
def rightTakesRow : OpenClaim := { program := "ytgglhdbhemcijaa", sum := "1fea85a8ba22ddd0426e0277a4ec138ceea1714330e363c111a8fed9ed6fa2f8", func := "filbert/filbertlaw2.RightTakes", spec := "rightTakes", plainKeys := false, apart := false }
def RightTakesSaid : Prop := rightTakesRow.holds Try.pinned (OpenSpec.ofChange rightTakesSpec)

/-- ITS FALSE NEIGHBOUR: 'it returns false'. Refute it at one input. -/
def rightTakesWrong : ChangeSpec := { name := "rightTakes", fn := fun _ => fun
  | [d1, d2] => { results := [.lit (.bool false)], args := [d1, d2] }
  | _ => none }
def RightTakesWrongFalsely : Prop := rightTakesRow.holds Try.pinned (OpenSpec.ofChange rightTakesWrong)

/- THE SECOND FORM. 'bulk': how many values and letters a reading holds, each counted each time it is reached (what is shared counts as often as it is met; a slice's spare places count too). A statement '..UptoSaid' is the law's where the arguments, and the package variables that the reading takes, are together of bulk at most 1048576: NARROWER than '..Said'. Prove '..Said' where nothing that the law and all that it calls make is longer than what came in: it says more and counts as full. Else prove '..UptoSaid'. A law counts once. -/
mutual
def uptoBulk {H : Type} : DataW H → Nat
  | .lit (.string bytes) => bytes.length + 1
  | .lit _ => 1
  | .nil => 1
  | .ptr d => uptoBulk d + 1
  | .slice elems spare => uptoBulkAll elems + uptoBulkAll spare + 1
  | .agg parts => uptoBulkAll parts + 1
  | .iface _ d => uptoBulk d + 1
  | .map entries => uptoBulkEntries entries + 1
  | .held _ => 1
def uptoBulkAll {H : Type} : List (DataW H) → Nat
  | [] => 0
  | d :: r => uptoBulk d + uptoBulkAll r
def uptoBulkEntries {H : Type} : List (Lit × DataW H) → Nat
  | [] => 0
  | x :: r => uptoBulkEntry x + uptoBulkEntries r
def uptoBulkEntry {H : Type} : Lit × DataW H → Nat
  | (.string bytes, d) => bytes.length + uptoBulk d + 1
  | (_, d) => uptoBulk d + 1
 end
def uptoSmall : (H : Type) → List (DataW H) → Bool := fun _ ds => decide (uptoBulkAll ds ≤ 1048576)
def OpenSpec.upto (s : _root_.Go.ChangeSpec) : _root_.Go.OpenSpec := { _root_.Go.OpenSpec.ofChange s with cond := some uptoSmall }

/-- 'filbertlaw1.LeastTakes', WHERE WHAT IT READS IS OF BULK AT MOST 1048576: true; the input reads as it did. -/
def leastTakesUptoRow : OpenClaim := { program := "ytgglhdbhemcijaa", sum := "1fea85a8ba22ddd0426e0277a4ec138ceea1714330e363c111a8fed9ed6fa2f8", func := "filbert/filbertlaw1.LeastTakes", spec := "leastTakes", unfollowed := true, recurses := true, plainKeys := false, apart := false, narrowed := true }
def LeastTakesUptoSaid : Prop := leastTakesUptoRow.holds Try.pinned (OpenSpec.upto leastTakesSpec)

/-- 'filbertlaw2.RightTakes', WHERE WHAT IT READS IS OF BULK AT MOST 1048576: true; the input reads as it did. -/
def rightTakesUptoRow : OpenClaim := { program := "ytgglhdbhemcijaa", sum := "1fea85a8ba22ddd0426e0277a4ec138ceea1714330e363c111a8fed9ed6fa2f8", func := "filbert/filbertlaw2.RightTakes", spec := "rightTakes", plainKeys := false, apart := false, narrowed := true }
def RightTakesUptoSaid : Prop := rightTakesUptoRow.holds Try.pinned (OpenSpec.upto rightTakesSpec)

end Rows
end Go.Proofs.Ytgglhdbhemcijaa
