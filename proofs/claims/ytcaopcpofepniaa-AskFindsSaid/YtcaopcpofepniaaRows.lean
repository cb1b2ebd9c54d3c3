/-
  No cell of these rows narrows 'for every input' (looked for: loops, veiled, ifaces, maps, wideKeys, modest, calm, conditions, laid).
  DERIVED. THE GIVEN ROWS OF THIS SEAT. 4 by the template 'for every input the law returns true; each argument reads behind the call as it read before'; 0 by the template 'total and deterministic' (their statements: YtcaopcpofepniaaTotals.lean).
  GIVEN WITH THE SEED: the statements are not yours to turn. If you find one false, say at which input.
  Laid BY PROGRAM, IN A SANDBOX (cutbox-rows.mjs): the forced cells as the released guide's own fill.sh prints them over the translation cc6975a836858640… (all of the seat's roots in one cut). By AI agents, Wed Nov 11 2026. No macro, syntax, notation, axiom, sorry.
-/
import Derived.Test.YtcaopcpofepniaaChecked
import GoSem.Claim
import GoSem.ClaimJoined
import GoSem.ClaimMapViews
import Derived.JoinedTies
import Derived.KernelRfl
namespace Go.Proofs.Ytcaopcpofepniaa
/- THE CELL 'sum', in the pinned program and in every row, IS THE sha256 OF THE DUMP (.gsa) THAT YtcaopcpofepniaaProg.lean LOADS. Nothing in Lean hashes anything: it is a label: what it is worth is what the hold of that sum in a sandbox is worth. -/
noncomputable def Try.pinned : Pinned := { name := "ytcaopcpofepniaa", sum := "cc6975a836858640a152a5e7b4804f48c1fcf9843e2a7f7273b893bb12181d6d", checked := Try.checked }
namespace Rows
def none {H : Type} : Left H := { results := [], args := [] }

/-- 'filbertlaw1.AutoParts': WHATEVER THE INPUT: true; the input reads as it did. -/
def autoPartsSpec : ChangeSpec := { name := "autoParts", fn := fun _ => fun
  | [d1, d2, d3] => { results := [.lit (.bool true)], args := [d1, d2, d3] }
  | _ => none }
def autoPartsRow : OpenClaim := { program := "ytcaopcpofepniaa", sum := "cc6975a836858640a152a5e7b4804f48c1fcf9843e2a7f7273b893bb12181d6d", func := "filbert/filbertlaw1.AutoParts", spec := "autoParts", unfollowed := true, recurses := true, plainKeys := false, apart := false }
def AutoPartsSaid : Prop := autoPartsRow.holds Try.pinned (OpenSpec.ofChange autoPartsSpec)

/-- ITS FALSE NEIGHBOUR: 'it returns false'. Refute it at one input. -/
def autoPartsWrong : ChangeSpec := { name := "autoParts", fn := fun _ => fun
  | [d1, d2, d3] => { results := [.lit (.bool false)], args := [d1, d2, d3] }
  | _ => none }
def AutoPartsWrongFalsely : Prop := autoPartsRow.holds Try.pinned (OpenSpec.ofChange autoPartsWrong)

/-- 'filbertlaw1.LeastTakes': WHATEVER THE INPUT: true; the input reads as it did. -/
def leastTakesSpec : ChangeSpec := { name := "leastTakes", fn := fun _ => fun
  | [d1, d2, d3, d4] => { results := [.lit (.bool true)], args := [d1, d2, d3, d4] }
  | _ => none }
def leastTakesRow : OpenClaim := { program := "ytcaopcpofepniaa", sum := "cc6975a836858640a152a5e7b4804f48c1fcf9843e2a7f7273b893bb12181d6d", func := "filbert/filbertlaw1.LeastTakes", spec := "leastTakes", unfollowed := true, recurses := true, plainKeys := false, apart := false }
def LeastTakesSaid : Prop := leastTakesRow.holds Try.pinned (OpenSpec.ofChange leastTakesSpec)

/-- ITS FALSE NEIGHBOUR: 'it returns false'. Refute it at one input. -/
def leastTakesWrong : ChangeSpec := { name := "leastTakes", fn := fun _ => fun
  | [d1, d2, d3, d4] => { results := [.lit (.bool false)], args := [d1, d2, d3, d4] }
  | _ => none }
def LeastTakesWrongFalsely : Prop := leastTakesRow.holds Try.pinned (OpenSpec.ofChange leastTakesWrong)

/-- 'filbertlaw4.AskEnds': WHATEVER THE INPUT: true; the input reads as it did. -/
def askEndsSpec : ChangeSpec := { name := "askEnds", fn := fun _ => fun
  | [d1, d2] => { results := [.lit (.bool true)], args := [d1, d2] }
  | _ => none }
def askEndsRow : OpenClaim := { program := "ytcaopcpofepniaa", sum := "cc6975a836858640a152a5e7b4804f48c1fcf9843e2a7f7273b893bb12181d6d", func := "filbert/filbertlaw4.AskEnds", spec := "askEnds", unfollowed := true, recurses := true, plainKeys := false, apart := false }
def AskEndsSaid : Prop := askEndsRow.holds Try.pinned (OpenSpec.ofChange askEndsSpec)

/-- ITS FALSE NEIGHBOUR: 'it returns false'. Refute it at one input. -/
def askEndsWrong : ChangeSpec := { name := "askEnds", fn := fun _ => fun
  | [d1, d2] => { results := [.lit (.bool false)], args := [d1, d2] }
  | _ => none }
def AskEndsWrongFalsely : Prop := askEndsRow.holds Try.pinned (OpenSpec.ofChange askEndsWrong)

/-- 'filbertlaw4.AskFinds': WHATEVER THE INPUT: true; the input reads as it did. -/
def askFindsSpec : ChangeSpec := { name := "askFinds", fn := fun _ => fun
  | [d1, d2, d3] => { results := [.lit (.bool true)], args := [d1, d2, d3] }
  | _ => none }
def askFindsRow : OpenClaim := { program := "ytcaopcpofepniaa", sum := "cc6975a836858640a152a5e7b4804f48c1fcf9843e2a7f7273b893bb12181d6d", func := "filbert/filbertlaw4.AskFinds", spec := "askFinds", unfollowed := true, recurses := true, plainKeys := false, apart := false }
def AskFindsSaid : Prop := askFindsRow.holds Try.pinned (OpenSpec.ofChange askFindsSpec)

/-- ITS FALSE NEIGHBOUR: 'it returns false'. Refute it at one input. -/
def askFindsWrong : ChangeSpec := { name := "askFinds", fn := fun _ => fun
  | [d1, d2, d3] => { results := [.lit (.bool false)], args := [d1, d2, d3] }
  | _ => none }
def AskFindsWrongFalsely : Prop := askFindsRow.holds Try.pinned (OpenSpec.ofChange askFindsWrong)

/- THE SECOND FORM. 'bulk': how many values and letters a reading holds, each counted each time it is reached (what is shared counts as often as it is met; a slice's spare places count too). A statement '..UptoSaid' is the law's where the arguments, and the package variables that the reading takes, are together of bulk at most 1048576: NARROWER than '..Said'. Prove '..Said' where nothing that the law and all that it calls make is longer than what came in: it says more and counts as full. Else prove '..UptoSaid'. A law counts once. -/
mutual
def uptoBulk {H : Type} : DataW H → Nat
  | .lit (.string bytes) => bytes.length + 1
  | .lit _ => 1
  | .nil => 1
  | .ptr d => uptoBulk d + 1
  | .slice elems spare => uptoBulkAll elems + uptoBulkAll spare + 1
  | .agg parts => uptoBulkAll parts + 1
  | .iface _ d => uptoBulk d + 1
  | .map entries => uptoBulkEntries entries + 1
  | .held _ => 1
def uptoBulkAll {H : Type} : List (DataW H) → Nat
  | [] => 0
  | d :: r => uptoBulk d + uptoBulkAll r
def uptoBulkEntries {H : Type} : List (Lit × DataW H) → Nat
  | [] => 0
  | x :: r => uptoBulkEntry x + uptoBulkEntries r
def uptoBulkEntry {H : Type} : Lit × DataW H → Nat
  | (.string bytes, d) => bytes.length + uptoBulk d + 1
  | (_, d) => uptoBulk d + 1
 end
def uptoSmall : (H : Type) → List (DataW H) → Bool := fun _ ds => decide (uptoBulkAll ds ≤ 1048576)
def OpenSpec.upto (s : _root_.Go.ChangeSpec) : _root_.Go.OpenSpec := { _root_.Go.OpenSpec.ofChange s with cond := some uptoSmall }

/-- 'filbertlaw1.AutoParts', WHERE WHAT IT READS IS OF BULK AT MOST 1048576: true; the input reads as it did. -/
def autoPartsUptoRow : OpenClaim := { program := "ytcaopcpofepniaa", sum := "cc6975a836858640a152a5e7b4804f48c1fcf9843e2a7f7273b893bb12181d6d", func := "filbert/filbertlaw1.AutoParts", spec := "autoParts", unfollowed := true, recurses := true, plainKeys := false, apart := false, narrowed := true }
def AutoPartsUptoSaid : Prop := autoPartsUptoRow.holds Try.pinned (OpenSpec.upto autoPartsSpec)

/-- 'filbertlaw1.LeastTakes', WHERE WHAT IT READS IS OF BULK AT MOST 1048576: true; the input reads as it did. -/
def leastTakesUptoRow : OpenClaim := { program := "ytcaopcpofepniaa", sum := "cc6975a836858640a152a5e7b4804f48c1fcf9843e2a7f7273b893bb12181d6d", func := "filbert/filbertlaw1.LeastTakes", spec := "leastTakes", unfollowed := true, recurses := true, plainKeys := false, apart := false, narrowed := true }
def LeastTakesUptoSaid : Prop := leastTakesUptoRow.holds Try.pinned (OpenSpec.upto leastTakesSpec)

/-- 'filbertlaw4.AskEnds', WHERE WHAT IT READS IS OF BULK AT MOST 1048576: true; the input reads as it did. -/
def askEndsUptoRow : OpenClaim := { program := "ytcaopcpofepniaa", sum := "cc6975a836858640a152a5e7b4804f48c1fcf9843e2a7f7273b893bb12181d6d", func := "filbert/filbertlaw4.AskEnds", spec := "askEnds", unfollowed := true, recurses := true, plainKeys := false, apart := false, narrowed := true }
def AskEndsUptoSaid : Prop := askEndsUptoRow.holds Try.pinned (OpenSpec.upto askEndsSpec)

/-- 'filbertlaw4.AskFinds', WHERE WHAT IT READS IS OF BULK AT MOST 1048576: true; the input reads as it did. -/
def askFindsUptoRow : OpenClaim := { program := "ytcaopcpofepniaa", sum := "cc6975a836858640a152a5e7b4804f48c1fcf9843e2a7f7273b893bb12181d6d", func := "filbert/filbertlaw4.AskFinds", spec := "askFinds", unfollowed := true, recurses := true, plainKeys := false, apart := false, narrowed := true }
def AskFindsUptoSaid : Prop := askFindsUptoRow.holds Try.pinned (OpenSpec.upto askFindsSpec)

end Rows
end Go.Proofs.Ytcaopcpofepniaa
