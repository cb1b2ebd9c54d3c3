/-
  No cell of these rows narrows 'for every input' (looked for: loops, veiled, ifaces, maps, wideKeys, modest, calm, conditions, laid).
  DERIVED. THE GIVEN ROWS OF THIS SEAT. 11 by the template 'for every input the law returns true; each argument reads behind the call as it read before'; 0 by the template 'total and deterministic' (their statements: YtgggnglkocmbgaaTotals.lean).
  GIVEN WITH THE SEED: the statements are not yours to turn. If you find one false, say at which input.
  Laid BY PROGRAM, IN A SANDBOX (cutbox-rows.mjs): the forced cells as the released guide's own fill.sh prints them over the translation c6566db64a242b59… (all of the seat's roots in one cut). By AI agents, Wed Nov 11 2026. No macro, syntax, notation, axiom, sorry.
-/
import Derived.Test.YtgggnglkocmbgaaChecked
import GoSem.Claim
import GoSem.ClaimJoined
import GoSem.ClaimMapViews
import Derived.JoinedTies
import Derived.KernelRfl
namespace Go.Proofs.Ytgggnglkocmbgaa
/- THE CELL 'sum', in the pinned program and in every row, IS THE sha256 OF THE DUMP (.gsa) THAT YtgggnglkocmbgaaProg.lean LOADS. Nothing in Lean hashes anything: it is a label: what it is worth is what the hold of that sum in a sandbox is worth. -/
noncomputable def Try.pinned : Pinned := { name := "ytgggnglkocmbgaa", sum := "c6566db64a242b592e3c90fbe23602ed5eeef949080c96c9fd25ab489383faf9", checked := Try.checked }
namespace Rows
def none {H : Type} : Left H := { results := [], args := [] }

/-- 'filbertlaw1.Names': WHATEVER THE INPUT: true; the input reads as it did. -/
def namesSpec : ChangeSpec := { name := "names", fn := fun _ => fun
  | [] => { results := [.lit (.bool true)], args := [] }
  | _ => none }
def namesRow : OpenClaim := { program := "ytgggnglkocmbgaa", sum := "c6566db64a242b592e3c90fbe23602ed5eeef949080c96c9fd25ab489383faf9", func := "filbert/filbertlaw1.Names", spec := "names", plainKeys := false, apart := false }
def NamesSaid : Prop := namesRow.holds Try.pinned (OpenSpec.ofChange namesSpec)

/-- ITS FALSE NEIGHBOUR: 'it returns false'. Refute it at one input. -/
def namesWrong : ChangeSpec := { name := "names", fn := fun _ => fun
  | [] => { results := [.lit (.bool false)], args := [] }
  | _ => none }
def NamesWrongFalsely : Prop := namesRow.holds Try.pinned (OpenSpec.ofChange namesWrong)

/-- 'filbertlaw1.DigitOne': WHATEVER THE INPUT: true; the input reads as it did. -/
def digitOneSpec : ChangeSpec := { name := "digitOne", fn := fun _ => fun
  | [d1, d2] => { results := [.lit (.bool true)], args := [d1, d2] }
  | _ => none }
def digitOneRow : OpenClaim := { program := "ytgggnglkocmbgaa", sum := "c6566db64a242b592e3c90fbe23602ed5eeef949080c96c9fd25ab489383faf9", func := "filbert/filbertlaw1.DigitOne", spec := "digitOne", plainKeys := false, apart := false }
def DigitOneSaid : Prop := digitOneRow.holds Try.pinned (OpenSpec.ofChange digitOneSpec)

/-- ITS FALSE NEIGHBOUR: 'it returns false'. Refute it at one input. -/
def digitOneWrong : ChangeSpec := { name := "digitOne", fn := fun _ => fun
  | [d1, d2] => { results := [.lit (.bool false)], args := [d1, d2] }
  | _ => none }
def DigitOneWrongFalsely : Prop := digitOneRow.holds Try.pinned (OpenSpec.ofChange digitOneWrong)

/-- 'filbertlaw1.DigitBack': WHATEVER THE INPUT: true; the input reads as it did. -/
def digitBackSpec : ChangeSpec := { name := "digitBack", fn := fun _ => fun
  | [d1, d2, d3] => { results := [.lit (.bool true)], args := [d1, d2, d3] }
  | _ => none }
def digitBackRow : OpenClaim := { program := "ytgggnglkocmbgaa", sum := "c6566db64a242b592e3c90fbe23602ed5eeef949080c96c9fd25ab489383faf9", func := "filbert/filbertlaw1.DigitBack", spec := "digitBack", plainKeys := false, apart := false }
def DigitBackSaid : Prop := digitBackRow.holds Try.pinned (OpenSpec.ofChange digitBackSpec)

/-- ITS FALSE NEIGHBOUR: 'it returns false'. Refute it at one input. -/
def digitBackWrong : ChangeSpec := { name := "digitBack", fn := fun _ => fun
  | [d1, d2, d3] => { results := [.lit (.bool false)], args := [d1, d2, d3] }
  | _ => none }
def DigitBackWrongFalsely : Prop := digitBackRow.holds Try.pinned (OpenSpec.ofChange digitBackWrong)

/-- 'filbertlaw1.AutoParts': WHATEVER THE INPUT: true; the input reads as it did. -/
def autoPartsSpec : ChangeSpec := { name := "autoParts", fn := fun _ => fun
  | [d1, d2, d3] => { results := [.lit (.bool true)], args := [d1, d2, d3] }
  | _ => none }
def autoPartsRow : OpenClaim := { program := "ytgggnglkocmbgaa", sum := "c6566db64a242b592e3c90fbe23602ed5eeef949080c96c9fd25ab489383faf9", func := "filbert/filbertlaw1.AutoParts", spec := "autoParts", unfollowed := true, recurses := true, plainKeys := false, apart := false }
def AutoPartsSaid : Prop := autoPartsRow.holds Try.pinned (OpenSpec.ofChange autoPartsSpec)

/-- ITS FALSE NEIGHBOUR: 'it returns false'. Refute it at one input. -/
def autoPartsWrong : ChangeSpec := { name := "autoParts", fn := fun _ => fun
  | [d1, d2, d3] => { results := [.lit (.bool false)], args := [d1, d2, d3] }
  | _ => none }
def AutoPartsWrongFalsely : Prop := autoPartsRow.holds Try.pinned (OpenSpec.ofChange autoPartsWrong)

/-- 'filbertlaw4.AskEnds': WHATEVER THE INPUT: true; the input reads as it did. -/
def askEndsSpec : ChangeSpec := { name := "askEnds", fn := fun _ => fun
  | [d1, d2] => { results := [.lit (.bool true)], args := [d1, d2] }
  | _ => none }
def askEndsRow : OpenClaim := { program := "ytgggnglkocmbgaa", sum := "c6566db64a242b592e3c90fbe23602ed5eeef949080c96c9fd25ab489383faf9", func := "filbert/filbertlaw4.AskEnds", spec := "askEnds", unfollowed := true, recurses := true, plainKeys := false, apart := false }
def AskEndsSaid : Prop := askEndsRow.holds Try.pinned (OpenSpec.ofChange askEndsSpec)

/-- ITS FALSE NEIGHBOUR: 'it returns false'. Refute it at one input. -/
def askEndsWrong : ChangeSpec := { name := "askEnds", fn := fun _ => fun
  | [d1, d2] => { results := [.lit (.bool false)], args := [d1, d2] }
  | _ => none }
def AskEndsWrongFalsely : Prop := askEndsRow.holds Try.pinned (OpenSpec.ofChange askEndsWrong)

/-- 'filbertlaw4.AskFinds': WHATEVER THE INPUT: true; the input reads as it did. -/
def askFindsSpec : ChangeSpec := { name := "askFinds", fn := fun _ => fun
  | [d1, d2, d3] => { results := [.lit (.bool true)], args := [d1, d2, d3] }
  | _ => none }
def askFindsRow : OpenClaim := { program := "ytgggnglkocmbgaa", sum := "c6566db64a242b592e3c90fbe23602ed5eeef949080c96c9fd25ab489383faf9", func := "filbert/filbertlaw4.AskFinds", spec := "askFinds", unfollowed := true, recurses := true, plainKeys := false, apart := false }
def AskFindsSaid : Prop := askFindsRow.holds Try.pinned (OpenSpec.ofChange askFindsSpec)

/-- ITS FALSE NEIGHBOUR: 'it returns false'. Refute it at one input. -/
def askFindsWrong : ChangeSpec := { name := "askFinds", fn := fun _ => fun
  | [d1, d2, d3] => { results := [.lit (.bool false)], args := [d1, d2, d3] }
  | _ => none }
def AskFindsWrongFalsely : Prop := askFindsRow.holds Try.pinned (OpenSpec.ofChange askFindsWrong)

/-- 'filbertlaw1.PairLaws': WHATEVER THE INPUT: true; the input reads as it did. -/
def pairLawsSpec : ChangeSpec := { name := "pairLaws", fn := fun _ => fun
  | [d1, d2] => { results := [.lit (.bool true)], args := [d1, d2] }
  | _ => none }
def pairLawsRow : OpenClaim := { program := "ytgggnglkocmbgaa", sum := "c6566db64a242b592e3c90fbe23602ed5eeef949080c96c9fd25ab489383faf9", func := "filbert/filbertlaw1.PairLaws", spec := "pairLaws", plainKeys := false, apart := false }
def PairLawsSaid : Prop := pairLawsRow.holds Try.pinned (OpenSpec.ofChange pairLawsSpec)

/-- ITS FALSE NEIGHBOUR: 'it returns false'. Refute it at one input. -/
def pairLawsWrong : ChangeSpec := { name := "pairLaws", fn := fun _ => fun
  | [d1, d2] => { results := [.lit (.bool false)], args := [d1, d2] }
  | _ => none }
def PairLawsWrongFalsely : Prop := pairLawsRow.holds Try.pinned (OpenSpec.ofChange pairLawsWrong)

/-- 'filbertlaw1.PairTakes': WHATEVER THE INPUT: true; the input reads as it did. -/
def pairTakesSpec : ChangeSpec := { name := "pairTakes", fn := fun _ => fun
  | [d1, d2, d3, d4] => { results := [.lit (.bool true)], args := [d1, d2, d3, d4] }
  | _ => none }
def pairTakesRow : OpenClaim := { program := "ytgggnglkocmbgaa", sum := "c6566db64a242b592e3c90fbe23602ed5eeef949080c96c9fd25ab489383faf9", func := "filbert/filbertlaw1.PairTakes", spec := "pairTakes", plainKeys := false, apart := false }
def PairTakesSaid : Prop := pairTakesRow.holds Try.pinned (OpenSpec.ofChange pairTakesSpec)

/-- ITS FALSE NEIGHBOUR: 'it returns false'. Refute it at one input. -/
def pairTakesWrong : ChangeSpec := { name := "pairTakes", fn := fun _ => fun
  | [d1, d2, d3, d4] => { results := [.lit (.bool false)], args := [d1, d2, d3, d4] }
  | _ => none }
def PairTakesWrongFalsely : Prop := pairTakesRow.holds Try.pinned (OpenSpec.ofChange pairTakesWrong)

/-- 'filbertlaw1.LetterBack': WHATEVER THE INPUT: true; the input reads as it did. -/
def letterBackSpec : ChangeSpec := { name := "letterBack", fn := fun _ => fun
  | [d1, d2] => { results := [.lit (.bool true)], args := [d1, d2] }
  | _ => none }
def letterBackRow : OpenClaim := { program := "ytgggnglkocmbgaa", sum := "c6566db64a242b592e3c90fbe23602ed5eeef949080c96c9fd25ab489383faf9", func := "filbert/filbertlaw1.LetterBack", spec := "letterBack", plainKeys := false, apart := false }
def LetterBackSaid : Prop := letterBackRow.holds Try.pinned (OpenSpec.ofChange letterBackSpec)

/-- ITS FALSE NEIGHBOUR: 'it returns false'. Refute it at one input. -/
def letterBackWrong : ChangeSpec := { name := "letterBack", fn := fun _ => fun
  | [d1, d2] => { results := [.lit (.bool false)], args := [d1, d2] }
  | _ => none }
def LetterBackWrongFalsely : Prop := letterBackRow.holds Try.pinned (OpenSpec.ofChange letterBackWrong)

/-- 'filbertlaw1.TrackBack': WHATEVER THE INPUT: true; the input reads as it did. -/
def trackBackSpec : ChangeSpec := { name := "trackBack", fn := fun _ => fun
  | [d1, d2] => { results := [.lit (.bool true)], args := [d1, d2] }
  | _ => none }
def trackBackRow : OpenClaim := { program := "ytgggnglkocmbgaa", sum := "c6566db64a242b592e3c90fbe23602ed5eeef949080c96c9fd25ab489383faf9", func := "filbert/filbertlaw1.TrackBack", spec := "trackBack", unfollowed := true, recurses := true, plainKeys := false, apart := false }
def TrackBackSaid : Prop := trackBackRow.holds Try.pinned (OpenSpec.ofChange trackBackSpec)

/-- ITS FALSE NEIGHBOUR: 'it returns false'. Refute it at one input. -/
def trackBackWrong : ChangeSpec := { name := "trackBack", fn := fun _ => fun
  | [d1, d2] => { results := [.lit (.bool false)], args := [d1, d2] }
  | _ => none }
def TrackBackWrongFalsely : Prop := trackBackRow.holds Try.pinned (OpenSpec.ofChange trackBackWrong)

/-- 'filbertlaw1.TrackTakes': WHATEVER THE INPUT: true; the input reads as it did. -/
def trackTakesSpec : ChangeSpec := { name := "trackTakes", fn := fun _ => fun
  | [d1, d2, d3, d4, d5] => { results := [.lit (.bool true)], args := [d1, d2, d3, d4, d5] }
  | _ => none }
def trackTakesRow : OpenClaim := { program := "ytgggnglkocmbgaa", sum := "c6566db64a242b592e3c90fbe23602ed5eeef949080c96c9fd25ab489383faf9", func := "filbert/filbertlaw1.TrackTakes", spec := "trackTakes", unfollowed := true, recurses := true, plainKeys := false, apart := false }
def TrackTakesSaid : Prop := trackTakesRow.holds Try.pinned (OpenSpec.ofChange trackTakesSpec)

/-- ITS FALSE NEIGHBOUR: 'it returns false'. Refute it at one input. -/
def trackTakesWrong : ChangeSpec := { name := "trackTakes", fn := fun _ => fun
  | [d1, d2, d3, d4, d5] => { results := [.lit (.bool false)], args := [d1, d2, d3, d4, d5] }
  | _ => none }
def TrackTakesWrongFalsely : Prop := trackTakesRow.holds Try.pinned (OpenSpec.ofChange trackTakesWrong)

/- THE SECOND FORM. 'bulk': how many values and letters a reading holds, each counted each time it is reached (what is shared counts as often as it is met; a slice's spare places count too). A statement '..UptoSaid' is the law's where the arguments, and the package variables that the reading takes, are together of bulk at most 1048576: NARROWER than '..Said'. Prove '..Said' where nothing that the law and all that it calls make is longer than what came in: it says more and counts as full. Else prove '..UptoSaid'. A law counts once. -/
mutual
def uptoBulk {H : Type} : DataW H → Nat
  | .lit (.string bytes) => bytes.length + 1
  | .lit _ => 1
  | .nil => 1
  | .ptr d => uptoBulk d + 1
  | .slice elems spare => uptoBulkAll elems + uptoBulkAll spare + 1
  | .agg parts => uptoBulkAll parts + 1
  | .iface _ d => uptoBulk d + 1
  | .map entries => uptoBulkEntries entries + 1
  | .held _ => 1
def uptoBulkAll {H : Type} : List (DataW H) → Nat
  | [] => 0
  | d :: r => uptoBulk d + uptoBulkAll r
def uptoBulkEntries {H : Type} : List (Lit × DataW H) → Nat
  | [] => 0
  | x :: r => uptoBulkEntry x + uptoBulkEntries r
def uptoBulkEntry {H : Type} : Lit × DataW H → Nat
  | (.string bytes, d) => bytes.length + uptoBulk d + 1
  | (_, d) => uptoBulk d + 1
 end
def uptoSmall : (H : Type) → List (DataW H) → Bool := fun _ ds => decide (uptoBulkAll ds ≤ 1048576)
def OpenSpec.upto (s : _root_.Go.ChangeSpec) : _root_.Go.OpenSpec := { _root_.Go.OpenSpec.ofChange s with cond := some uptoSmall }

/-- 'filbertlaw1.Names', WHERE WHAT IT READS IS OF BULK AT MOST 1048576: true; the input reads as it did. -/
def namesUptoRow : OpenClaim := { program := "ytgggnglkocmbgaa", sum := "c6566db64a242b592e3c90fbe23602ed5eeef949080c96c9fd25ab489383faf9", func := "filbert/filbertlaw1.Names", spec := "names", plainKeys := false, apart := false, narrowed := true }
def NamesUptoSaid : Prop := namesUptoRow.holds Try.pinned (OpenSpec.upto namesSpec)

/-- 'filbertlaw1.DigitOne', WHERE WHAT IT READS IS OF BULK AT MOST 1048576: true; the input reads as it did. -/
def digitOneUptoRow : OpenClaim := { program := "ytgggnglkocmbgaa", sum := "c6566db64a242b592e3c90fbe23602ed5eeef949080c96c9fd25ab489383faf9", func := "filbert/filbertlaw1.DigitOne", spec := "digitOne", plainKeys := false, apart := false, narrowed := true }
def DigitOneUptoSaid : Prop := digitOneUptoRow.holds Try.pinned (OpenSpec.upto digitOneSpec)

/-- 'filbertlaw1.DigitBack', WHERE WHAT IT READS IS OF BULK AT MOST 1048576: true; the input reads as it did. -/
def digitBackUptoRow : OpenClaim := { program := "ytgggnglkocmbgaa", sum := "c6566db64a242b592e3c90fbe23602ed5eeef949080c96c9fd25ab489383faf9", func := "filbert/filbertlaw1.DigitBack", spec := "digitBack", plainKeys := false, apart := false, narrowed := true }
def DigitBackUptoSaid : Prop := digitBackUptoRow.holds Try.pinned (OpenSpec.upto digitBackSpec)

/-- 'filbertlaw1.AutoParts', WHERE WHAT IT READS IS OF BULK AT MOST 1048576: true; the input reads as it did. -/
def autoPartsUptoRow : OpenClaim := { program := "ytgggnglkocmbgaa", sum := "c6566db64a242b592e3c90fbe23602ed5eeef949080c96c9fd25ab489383faf9", func := "filbert/filbertlaw1.AutoParts", spec := "autoParts", unfollowed := true, recurses := true, plainKeys := false, apart := false, narrowed := true }
def AutoPartsUptoSaid : Prop := autoPartsUptoRow.holds Try.pinned (OpenSpec.upto autoPartsSpec)

/-- 'filbertlaw4.AskEnds', WHERE WHAT IT READS IS OF BULK AT MOST 1048576: true; the input reads as it did. -/
def askEndsUptoRow : OpenClaim := { program := "ytgggnglkocmbgaa", sum := "c6566db64a242b592e3c90fbe23602ed5eeef949080c96c9fd25ab489383faf9", func := "filbert/filbertlaw4.AskEnds", spec := "askEnds", unfollowed := true, recurses := true, plainKeys := false, apart := false, narrowed := true }
def AskEndsUptoSaid : Prop := askEndsUptoRow.holds Try.pinned (OpenSpec.upto askEndsSpec)

/-- 'filbertlaw4.AskFinds', WHERE WHAT IT READS IS OF BULK AT MOST 1048576: true; the input reads as it did. -/
def askFindsUptoRow : OpenClaim := { program := "ytgggnglkocmbgaa", sum := "c6566db64a242b592e3c90fbe23602ed5eeef949080c96c9fd25ab489383faf9", func := "filbert/filbertlaw4.AskFinds", spec := "askFinds", unfollowed := true, recurses := true, plainKeys := false, apart := false, narrowed := true }
def AskFindsUptoSaid : Prop := askFindsUptoRow.holds Try.pinned (OpenSpec.upto askFindsSpec)

/-- 'filbertlaw1.PairLaws', WHERE WHAT IT READS IS OF BULK AT MOST 1048576: true; the input reads as it did. -/
def pairLawsUptoRow : OpenClaim := { program := "ytgggnglkocmbgaa", sum := "c6566db64a242b592e3c90fbe23602ed5eeef949080c96c9fd25ab489383faf9", func := "filbert/filbertlaw1.PairLaws", spec := "pairLaws", plainKeys := false, apart := false, narrowed := true }
def PairLawsUptoSaid : Prop := pairLawsUptoRow.holds Try.pinned (OpenSpec.upto pairLawsSpec)

/-- 'filbertlaw1.PairTakes', WHERE WHAT IT READS IS OF BULK AT MOST 1048576: true; the input reads as it did. -/
def pairTakesUptoRow : OpenClaim := { program := "ytgggnglkocmbgaa", sum := "c6566db64a242b592e3c90fbe23602ed5eeef949080c96c9fd25ab489383faf9", func := "filbert/filbertlaw1.PairTakes", spec := "pairTakes", plainKeys := false, apart := false, narrowed := true }
def PairTakesUptoSaid : Prop := pairTakesUptoRow.holds Try.pinned (OpenSpec.upto pairTakesSpec)

/-- 'filbertlaw1.LetterBack', WHERE WHAT IT READS IS OF BULK AT MOST 1048576: true; the input reads as it did. -/
def letterBackUptoRow : OpenClaim := { program := "ytgggnglkocmbgaa", sum := "c6566db64a242b592e3c90fbe23602ed5eeef949080c96c9fd25ab489383faf9", func := "filbert/filbertlaw1.LetterBack", spec := "letterBack", plainKeys := false, apart := false, narrowed := true }
def LetterBackUptoSaid : Prop := letterBackUptoRow.holds Try.pinned (OpenSpec.upto letterBackSpec)

/-- 'filbertlaw1.TrackBack', WHERE WHAT IT READS IS OF BULK AT MOST 1048576: true; the input reads as it did. -/
def trackBackUptoRow : OpenClaim := { program := "ytgggnglkocmbgaa", sum := "c6566db64a242b592e3c90fbe23602ed5eeef949080c96c9fd25ab489383faf9", func := "filbert/filbertlaw1.TrackBack", spec := "trackBack", unfollowed := true, recurses := true, plainKeys := false, apart := false, narrowed := true }
def TrackBackUptoSaid : Prop := trackBackUptoRow.holds Try.pinned (OpenSpec.upto trackBackSpec)

/-- 'filbertlaw1.TrackTakes', WHERE WHAT IT READS IS OF BULK AT MOST 1048576: true; the input reads as it did. -/
def trackTakesUptoRow : OpenClaim := { program := "ytgggnglkocmbgaa", sum := "c6566db64a242b592e3c90fbe23602ed5eeef949080c96c9fd25ab489383faf9", func := "filbert/filbertlaw1.TrackTakes", spec := "trackTakes", unfollowed := true, recurses := true, plainKeys := false, apart := false, narrowed := true }
def TrackTakesUptoSaid : Prop := trackTakesUptoRow.holds Try.pinned (OpenSpec.upto trackTakesSpec)

end Rows
end Go.Proofs.Ytgggnglkocmbgaa
