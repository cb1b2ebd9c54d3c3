/- Plain laws, data behind worlds, and contracts of functions, for the last text. No conditions. -/
import Derived.Test.YthcclcbliedodaaLay
import Derived.Test.YthcclcbliedodaaM4
import Derived.Test.YthcclcbliedodaaChecked
import Derived.SizedLaws
import Derived.Shelf.SortM.Plain
import Derived.Shelf.SortM.SortNone
import Derived.Sort.OwnSortedInts
import Derived.Ground.SlgmProg
import Derived.Shelf.SlicesG.CompactI
import Derived.Ground.SlgnProg
import Derived.Lib.OwnBridge
import Derived.Shelf.Slices.Clone
import Derived.Shelf.Spec.SlicesInsert
import Derived.Shelf.Spec.SlicesInsertGrow
import Derived.Ground.Names2Prog
import Derived.Lib.SmallJoins
set_option linter.unusedSimpArgs false
set_option linter.unusedVariables false
set_option linter.unnecessarySimpa false
set_option linter.unusedSectionVars false
namespace Go.Proofs.Ythcclcbliedodaa
open Go.RowKit

def tt0 : Nat → Option TI
  | 1 => some ⟨.plain, 1, 8, [.t .undef], false⟩
  | 2 => some ⟨.int .i64, 1, 8, [.t (.int .i64 0)], false⟩
  | 3 => some ⟨.int .i64, 1, 8, [.t (.int .i64 0)], false⟩
  | 4 => some ⟨.bool, 1, 1, [.t (.bool false)], false⟩
  | 5 => some ⟨.int .u8, 1, 1, [.t (.int .u8 0)], false⟩
  | 6 => some ⟨.int .u8, 1, 1, [.t (.int .u8 0)], false⟩
  | 7 => some ⟨.struct [(0, 1), (1, 1), (2, 1), (3, 1)], 4, 24, [.t (.int .i64 0), .t (.int .i64 0), .t (.bool false), .t (.int .u8 0)], false⟩
  | _ => none
def tt1 : Nat → Option TI
  | 8 => some ⟨.struct [(0, 1), (1, 1), (2, 1), (3, 1)], 4, 24, [.t (.int .i64 0), .t (.int .i64 0), .t (.bool false), .t (.int .u8 0)], false⟩
  | 9 => some ⟨.str, 1, 16, [.t (.str ByteArray.empty)], false⟩
  | 10 => some ⟨.str, 1, 16, [.t (.str ByteArray.empty)], false⟩
  | 11 => some ⟨.str, 1, 16, [.t (.str ByteArray.empty)], false⟩
  | 12 => some ⟨.int .u64, 1, 8, [.t (.int .u64 0)], false⟩
  | 13 => some ⟨.struct [(0, 1), (1, 1)], 2, 24, [.t (.str ByteArray.empty), .t (.int .u64 0)], false⟩
  | 14 => some ⟨.struct [(0, 1), (1, 1)], 2, 24, [.t (.str ByteArray.empty), .t (.int .u64 0)], false⟩
  | 15 => some ⟨.plain, 1, 8, [.t .undef], false⟩
  | _ => none
def tt2 : Nat → Option TI
  | 16 => some ⟨.plain, 1, 8, [.t .undef], false⟩
  | 17 => some ⟨.plain, 1, 8, [.t .undef], false⟩
  | 18 => some ⟨.struct [(0, 1)], 1, 8, [.t .undef], false⟩
  | 19 => some ⟨.struct [(0, 1)], 1, 8, [.t .undef], false⟩
  | 20 => some ⟨.iface, 1, 16, [.t .nilI], false⟩
  | 21 => some ⟨.int .i32, 1, 4, [.t (.int .i32 0)], false⟩
  | 22 => some ⟨.slice 26, 1, 24, [.nil], false⟩
  | 23 => some ⟨.slice 4, 1, 24, [.nil], false⟩
  | _ => none
def tt3 : Nat → Option TI
  | 24 => some ⟨.struct [(0, 1), (1, 1), (2, 1), (3, 1)], 4, 64, [.t (.int .i64 0), .t (.int .i64 0), .nil, .nil], false⟩
  | 25 => some ⟨.struct [(0, 1), (1, 1), (2, 1), (3, 1)], 4, 64, [.t (.int .i64 0), .t (.int .i64 0), .nil, .nil], false⟩
  | 26 => some ⟨.slice 3, 1, 24, [.nil], false⟩
  | 27 => some ⟨.slice 22, 1, 24, [.nil], false⟩
  | 28 => some ⟨.struct [(0, 1), (1, 1), (2, 1), (3, 1), (4, 1)], 5, 88, [.t (.int .i64 0), .t (.int .i64 0), .nil, .nil, .nil], false⟩
  | 29 => some ⟨.struct [(0, 1), (1, 1), (2, 1), (3, 1), (4, 1)], 5, 88, [.t (.int .i64 0), .t (.int .i64 0), .nil, .nil, .nil], false⟩
  | 30 => some ⟨.iface, 1, 16, [.t .nilI], false⟩
  | 31 => some ⟨.iface, 1, 16, [.t .nilI], false⟩
  | _ => none
def tt4 : Nat → Option TI
  | 33 => some ⟨.plain, 1, 8, [.t .undef], false⟩
  | 34 => some ⟨.plain, 1, 8, [.t .undef], false⟩
  | 36 => some ⟨.plain, 1, 8, [.t .undef], false⟩
  | 37 => some ⟨.plain, 1, 8, [.t .undef], false⟩
  | 38 => some ⟨.plain, 1, 8, [.t .undef], false⟩
  | 39 => some ⟨.plain, 1, 8, [.t .undef], false⟩
  | _ => none
def tt5 : Nat → Option TI
  | 40 => some ⟨.plain, 1, 8, [.t .undef], false⟩
  | 41 => some ⟨.plain, 1, 8, [.t .undef], false⟩
  | 43 => some ⟨.plain, 1, 8, [.t .undef], false⟩
  | 45 => some ⟨.plain, 1, 8, [.t .undef], false⟩
  | 46 => some ⟨.plain, 1, 8, [.t .undef], false⟩
  | 47 => some ⟨.plain, 1, 8, [.t .undef], false⟩
  | _ => none
def tt6 : Nat → Option TI
  | 48 => some ⟨.plain, 1, 8, [.t .undef], false⟩
  | 49 => some ⟨.plain, 1, 8, [.t .undef], false⟩
  | 50 => some ⟨.plain, 1, 8, [.t .undef], false⟩
  | 51 => some ⟨.plain, 1, 8, [.t .undef], false⟩
  | 52 => some ⟨.plain, 1, 8, [.t .undef], false⟩
  | 53 => some ⟨.plain, 1, 8, [.t .undef], false⟩
  | 54 => some ⟨.plain, 1, 8, [.t .undef], false⟩
  | 55 => some ⟨.plain, 1, 8, [.t .undef], false⟩
  | _ => none
def tt7 : Nat → Option TI
  | 56 => some ⟨.int .i64, 1, 8, [.t (.int .i64 0)], false⟩
  | 57 => some ⟨.plain, 1, 8, [.t .undef], false⟩
  | 59 => some ⟨.plain, 1, 8, [.t .undef], false⟩
  | 60 => some ⟨.plain, 1, 8, [.t .undef], false⟩
  | 61 => some ⟨.plain, 1, 8, [.t .undef], false⟩
  | 63 => some ⟨.plain, 1, 8, [.t .undef], false⟩
  | _ => none
def tt8 : Nat → Option TI
  | 64 => some ⟨.plain, 1, 8, [.t .undef], false⟩
  | 65 => some ⟨.plain, 1, 8, [.t .undef], false⟩
  | 67 => some ⟨.plain, 1, 8, [.t .undef], false⟩
  | 69 => some ⟨.plain, 1, 8, [.t .undef], false⟩
  | 70 => some ⟨.plain, 1, 8, [.t .undef], false⟩
  | 71 => some ⟨.plain, 1, 8, [.t .undef], false⟩
  | _ => none
def tt9 : Nat → Option TI
  | 72 => some ⟨.plain, 1, 8, [.t .undef], false⟩
  | 74 => some ⟨.plain, 1, 8, [.t .undef], false⟩
  | 75 => some ⟨.plain, 1, 8, [.t .undef], false⟩
  | 76 => some ⟨.array 2 3, 2, 16, [.t (.int .i64 0), .t (.int .i64 0)], false⟩
  | 77 => some ⟨.map (.ints 2) 76 3, 1, 8, [.t .undef], false⟩
  | 78 => some ⟨.slice 76, 1, 24, [.nil], false⟩
  | _ => none
def tt10 : Nat → Option TI
  | 80 => some ⟨.plain, 1, 8, [.t .undef], false⟩
  | 81 => some ⟨.plain, 1, 8, [.t .undef], false⟩
  | 82 => some ⟨.plain, 1, 8, [.t .undef], false⟩
  | 83 => some ⟨.plain, 1, 8, [.t .undef], false⟩
  | 84 => some ⟨.plain, 1, 8, [.t .undef], false⟩
  | 85 => some ⟨.plain, 1, 8, [.t .undef], false⟩
  | 86 => some ⟨.map (.ints 2) 76 26, 1, 8, [.t .undef], false⟩
  | 87 => some ⟨.map (.str) 9 3, 1, 8, [.t .undef], false⟩
  | _ => none
def tt11 : Nat → Option TI
  | 88 => some ⟨.slice 5, 1, 24, [.nil], false⟩
  | 89 => some ⟨.int .u64, 1, 8, [.t (.int .u64 0)], false⟩
  | 90 => some ⟨.plain, 1, 8, [.t .undef], false⟩
  | 91 => some ⟨.plain, 1, 8, [.t .undef], false⟩
  | 92 => some ⟨.plain, 1, 8, [.t .undef], false⟩
  | 93 => some ⟨.plain, 1, 8, [.t .undef], false⟩
  | 94 => some ⟨.plain, 1, 8, [.t .undef], false⟩
  | 95 => some ⟨.plain, 1, 8, [.t .undef], false⟩
  | _ => none
def tt12 : Nat → Option TI
  | 96 => some ⟨.plain, 1, 8, [.t .undef], false⟩
  | 97 => some ⟨.plain, 1, 8, [.t .undef], false⟩
  | 98 => some ⟨.plain, 1, 8, [.t .undef], false⟩
  | 99 => some ⟨.plain, 1, 8, [.t .undef], false⟩
  | 100 => some ⟨.plain, 1, 8, [.t .undef], false⟩
  | 101 => some ⟨.plain, 1, 8, [.t .undef], false⟩
  | 102 => some ⟨.int .i64, 1, 8, [.t (.int .i64 0)], false⟩
  | _ => none
def tt13 : Nat → Option TI
  | 104 => some ⟨.plain, 1, 8, [.t .undef], false⟩
  | 105 => some ⟨.plain, 1, 8, [.t .undef], false⟩
  | 106 => some ⟨.plain, 1, 8, [.t .undef], false⟩
  | 107 => some ⟨.plain, 1, 8, [.t .undef], false⟩
  | 108 => some ⟨.plain, 1, 8, [.t .undef], false⟩
  | 109 => some ⟨.plain, 1, 8, [.t .undef], false⟩
  | 110 => some ⟨.int .u32, 1, 4, [.t (.int .u32 0)], false⟩
  | 111 => some ⟨.plain, 1, 8, [.t .undef], false⟩
  | _ => none
def tt14 : Nat → Option TI
  | 112 => some ⟨.int .u64, 1, 8, [.t (.int .u64 0)], false⟩
  | 113 => some ⟨.int .u64, 1, 8, [.t (.int .u64 0)], false⟩
  | 114 => some ⟨.plain, 1, 8, [.t .undef], false⟩
  | 115 => some ⟨.plain, 1, 8, [.t .undef], false⟩
  | 116 => some ⟨.plain, 1, 8, [.t .undef], false⟩
  | 117 => some ⟨.plain, 1, 8, [.t .undef], false⟩
  | 118 => some ⟨.plain, 1, 8, [.t .undef], false⟩
  | 119 => some ⟨.plain, 1, 8, [.t .undef], false⟩
  | _ => none
def tt15 : Nat → Option TI
  | 121 => some ⟨.plain, 1, 8, [.t .undef], false⟩
  | 122 => some ⟨.plain, 1, 8, [.t .undef], false⟩
  | 123 => some ⟨.struct [(0, 1), (1, 1), (2, 1), (3, 1)], 4, 40, [.t .undef, .t .undef, .t .undef, .t (.str ByteArray.empty)], false⟩
  | 124 => some ⟨.struct [(0, 1), (1, 1), (2, 1), (3, 1)], 4, 40, [.t .undef, .t .undef, .t .undef, .t (.str ByteArray.empty)], false⟩
  | _ => none
def tt16 : Nat → Option TI
  | 128 => some ⟨.plain, 1, 8, [.t .undef], false⟩
  | 129 => some ⟨.int .u8, 1, 1, [.t (.int .u8 0)], false⟩
  | 130 => some ⟨.int .u8, 1, 1, [.t (.int .u8 0)], false⟩
  | 131 => some ⟨.plain, 1, 8, [.t .undef], false⟩
  | 132 => some ⟨.plain, 1, 8, [.t .undef], false⟩
  | 133 => some ⟨.int .i32, 1, 4, [.t (.int .i32 0)], false⟩
  | 134 => some ⟨.int .i32, 1, 4, [.t (.int .i32 0)], false⟩
  | 135 => some ⟨.struct [(0, 1), (1, 1), (2, 1), (3, 1), (4, 1), (5, 1), (6, 1), (7, 1), (8, 1), (9, 1), (10, 1)], 11, 48, [.t (.int .u64 0), .t (.int .u64 0), .t (.int .u32 0), .t (.int .u8 0), .t (.int .u8 0), .t (.int .u8 0), .t (.int .u8 0), .t .undef, .t .undef, .t (.int .i32 0), .t (.int .i32 0)], false⟩
  | _ => none
def tt17 : Nat → Option TI
  | 136 => some ⟨.struct [(0, 1), (1, 1), (2, 1), (3, 1), (4, 1), (5, 1), (6, 1), (7, 1), (8, 1), (9, 1), (10, 1)], 11, 48, [.t (.int .u64 0), .t (.int .u64 0), .t (.int .u32 0), .t (.int .u8 0), .t (.int .u8 0), .t (.int .u8 0), .t (.int .u8 0), .t .undef, .t .undef, .t (.int .i32 0), .t (.int .i32 0)], false⟩
  | _ => none
def tts0 (n : Nat) : Nat → Option TI
  | 0 => tt0 n
  | 1 => tt1 n
  | 2 => tt2 n
  | 3 => tt3 n
  | 4 => tt4 n
  | 5 => tt5 n
  | 6 => tt6 n
  | 7 => tt7 n
  | _ => none
def tts1 (n : Nat) : Nat → Option TI
  | 8 => tt8 n
  | 9 => tt9 n
  | 10 => tt10 n
  | 11 => tt11 n
  | 12 => tt12 n
  | 13 => tt13 n
  | 14 => tt14 n
  | 15 => tt15 n
  | _ => none
def tts2 (n : Nat) : Nat → Option TI
  | 16 => tt16 n
  | 17 => tt17 n
  | _ => none
def tt (n : Nat) : Option TI := match n / 64 with
  | 0 => tts0 n (n / 8)
  | 1 => tts1 n (n / 8)
  | 2 => tts2 n (n / 8)
  | _ => none
set_option maxRecDepth 100000
theorem laid : laidOutB Try.prog = true := by kernel_rfl
theorem small : Try.prog.types.size + 2 ≤ 10000 := of_decide_eq_true (by kernel_rfl)
theorem tt0_ok : TTok Try.prog tt0 := by
  intro t i h
  unfold tt0 at h
  split at h <;> first
    | (cases h; exact chkTI_ok laid small (by kernel_rfl))
    | cases h
theorem tt1_ok : TTok Try.prog tt1 := by
  intro t i h
  unfold tt1 at h
  split at h <;> first
    | (cases h; exact chkTI_ok laid small (by kernel_rfl))
    | cases h
theorem tt2_ok : TTok Try.prog tt2 := by
  intro t i h
  unfold tt2 at h
  split at h <;> first
    | (cases h; exact chkTI_ok laid small (by kernel_rfl))
    | cases h
theorem tt3_ok : TTok Try.prog tt3 := by
  intro t i h
  unfold tt3 at h
  split at h <;> first
    | (cases h; exact chkTI_ok laid small (by kernel_rfl))
    | cases h
theorem tt4_ok : TTok Try.prog tt4 := by
  intro t i h
  unfold tt4 at h
  split at h <;> first
    | (cases h; exact chkTI_ok laid small (by kernel_rfl))
    | cases h
theorem tt5_ok : TTok Try.prog tt5 := by
  intro t i h
  unfold tt5 at h
  split at h <;> first
    | (cases h; exact chkTI_ok laid small (by kernel_rfl))
    | cases h
theorem tt6_ok : TTok Try.prog tt6 := by
  intro t i h
  unfold tt6 at h
  split at h <;> first
    | (cases h; exact chkTI_ok laid small (by kernel_rfl))
    | cases h
theorem tt7_ok : TTok Try.prog tt7 := by
  intro t i h
  unfold tt7 at h
  split at h <;> first
    | (cases h; exact chkTI_ok laid small (by kernel_rfl))
    | cases h
theorem tt8_ok : TTok Try.prog tt8 := by
  intro t i h
  unfold tt8 at h
  split at h <;> first
    | (cases h; exact chkTI_ok laid small (by kernel_rfl))
    | cases h
theorem tt9_ok : TTok Try.prog tt9 := by
  intro t i h
  unfold tt9 at h
  split at h <;> first
    | (cases h; exact chkTI_ok laid small (by kernel_rfl))
    | cases h
theorem tt10_ok : TTok Try.prog tt10 := by
  intro t i h
  unfold tt10 at h
  split at h <;> first
    | (cases h; exact chkTI_ok laid small (by kernel_rfl))
    | cases h
theorem tt11_ok : TTok Try.prog tt11 := by
  intro t i h
  unfold tt11 at h
  split at h <;> first
    | (cases h; exact chkTI_ok laid small (by kernel_rfl))
    | cases h
theorem tt12_ok : TTok Try.prog tt12 := by
  intro t i h
  unfold tt12 at h
  split at h <;> first
    | (cases h; exact chkTI_ok laid small (by kernel_rfl))
    | cases h
theorem tt13_ok : TTok Try.prog tt13 := by
  intro t i h
  unfold tt13 at h
  split at h <;> first
    | (cases h; exact chkTI_ok laid small (by kernel_rfl))
    | cases h
theorem tt14_ok : TTok Try.prog tt14 := by
  intro t i h
  unfold tt14 at h
  split at h <;> first
    | (cases h; exact chkTI_ok laid small (by kernel_rfl))
    | cases h
theorem tt15_ok : TTok Try.prog tt15 := by
  intro t i h
  unfold tt15 at h
  split at h <;> first
    | (cases h; exact chkTI_ok laid small (by kernel_rfl))
    | cases h
theorem tt16_ok : TTok Try.prog tt16 := by
  intro t i h
  unfold tt16 at h
  split at h <;> first
    | (cases h; exact chkTI_ok laid small (by kernel_rfl))
    | cases h
theorem tt17_ok : TTok Try.prog tt17 := by
  intro t i h
  unfold tt17 at h
  split at h <;> first
    | (cases h; exact chkTI_ok laid small (by kernel_rfl))
    | cases h
theorem tts0_ok (k : Nat) : TTok Try.prog (fun n => tts0 n k) := by
  intro t i h
  unfold tts0 at h
  split at h <;> first
    | exact tt0_ok _ _ h
    | exact tt1_ok _ _ h
    | exact tt2_ok _ _ h
    | exact tt3_ok _ _ h
    | exact tt4_ok _ _ h
    | exact tt5_ok _ _ h
    | exact tt6_ok _ _ h
    | exact tt7_ok _ _ h
    | cases h
theorem tts1_ok (k : Nat) : TTok Try.prog (fun n => tts1 n k) := by
  intro t i h
  unfold tts1 at h
  split at h <;> first
    | exact tt8_ok _ _ h
    | exact tt9_ok _ _ h
    | exact tt10_ok _ _ h
    | exact tt11_ok _ _ h
    | exact tt12_ok _ _ h
    | exact tt13_ok _ _ h
    | exact tt14_ok _ _ h
    | exact tt15_ok _ _ h
    | cases h
theorem tts2_ok (k : Nat) : TTok Try.prog (fun n => tts2 n k) := by
  intro t i h
  unfold tts2 at h
  split at h <;> first
    | exact tt16_ok _ _ h
    | exact tt17_ok _ _ h
    | cases h
theorem tt_ok : TTok Try.prog tt := by
  intro t i h
  unfold tt at h
  split at h <;> first
    | exact tts0_ok _ _ _ h
    | exact tts1_ok _ _ _ h
    | exact tts2_ok _ _ _ h
    | cases h
end Go.Proofs.Ythcclcbliedodaa
namespace Go.Proofs.Ythcclcbliedodaa
open Go.RowKit

attribute [go_sem] nLe nNle nLt nNlt nEq nNe iLe iNle iLt iNlt iEq iNe
attribute [go_sem] runOps stepOp stepOp0 stepOp1 evalOp dstOk St.ev.eq_1 St.ev.eq_2 St.ev.eq_3 St.ev.eq_4 ofConst St.get
attribute [go_sem] St.put look T.bin isConst mkFn allT St.len St.lst St.obj St.load loadT loadS
attribute [go_sem] mkAgg TK.isAgg St.index treeIndex SV.plus T.cells T.max2 T.min2 fillS SV.storable T.storable SV.cells
attribute [go_sem] St.litS idxOk zipFrz frz frzC frzL St.append St.appLen scrub St.bd SV.ren renL
attribute [go_sem] Ob.ren St.store T.put TI.zT SV.toT0 List.length_replicate List.getElem?_replicate Nat.one_mul Nat.mul_one List.isEmpty_cons List.isEmpty_nil or_self
attribute [go_sem] true_or or_true false_or or_false and_self decide_eq_true_eq if_true if_false ite_true ite_false Option.getD_some Option.getD_none
attribute [go_sem] Option.map_some Option.map_none Option.bind_some Option.bind_none decide_true decide_false Bool.true_and Bool.and_true Bool.false_and Bool.and_false Bool.not_true Bool.not_false
attribute [go_sem] beq_self_eq_true List.getElem?_cons_zero List.getElem?_cons_succ List.map_cons List.map_nil List.cons_append List.nil_append List.length_cons List.length_nil List.toList_toArray true_and and_true
attribute [go_sem] false_and and_false List.all_cons List.all_nil List.drop_zero List.drop_succ_cons List.take_succ_cons List.take_zero List.head?_cons List.set_cons_zero List.set_cons_succ Bool.or_true
attribute [go_sem] Bool.true_or Bool.or_false Bool.false_or ne_eq not_true_eq_false not_false_eq_true Nat.zero_add List.getElem?_toArray tInt tNat tInts tBools
attribute [go_sem] tIntss wrap_i64 List.getElem?_map List.length_map Int.toNat_natCast List.all_map stepX stepX0 evalX St.callR findCo
attribute [go_sem] St.litQ St.sliceQ St.rdL St.rd St.trL St.tr T.flatData flatAll lookR St.mapUp St.slice strSlice
attribute [go_sem] T.okKey T.inR bytesOf eq_self stepI quietOp St.ownAll St.own setSlot true_implies implies_true false_implies
attribute [go_sem] keepL reach addNew refsL SV.refs Ob.refs List.append_nil List.mem_cons List.not_mem_nil List.getElem?_nil posIn St.resL
attribute [go_sem] St.res1 St.gc St.head
theorem gb_a (l : List Int) (k : Nat) (h : k < l.length) : l[k]? = some l[k]! := get_bang l k h
theorem gb_b (l : List Bool) (k : Nat) (h : k < l.length) : l[k]? = some l[k]! := get_bang l k h
theorem gb_c (l : List (List Int)) (k : Nat) (h : k < l.length) : l[k]? = some l[k]! := get_bang l k h
theorem gb_d (l : List Nat) (k : Nat) (h : k < l.length) : l[k]? = some l[k]! := get_bang l k h
theorem gb_e (l : List T) (k : Nat) (h : k < l.length) : l[k]? = some l[k]! := get_bang l k h
theorem gb_f (l : List (List (List Int))) (k : Nat) (h : k < l.length) : l[k]? = some l[k]! := get_bang l k h
theorem gb_g (l : List (List Bool)) (k : Nat) (h : k < l.length) : l[k]? = some l[k]! := get_bang l k h
theorem gb_h (l : List (List Nat)) (k : Nat) (h : k < l.length) : l[k]? = some l[k]! := get_bang l k h
theorem gb_i (l : List (List (List (List Int)))) (k : Nat) (h : k < l.length) : l[k]? = some l[k]! := get_bang l k h
theorem gb_j (l : List (Int × Int)) (k : Nat) (h : k < l.length) : l[k]? = some l[k]! := get_bang l k h
theorem gb_k (l : List (Nat × Nat)) (k : Nat) (h : k < l.length) : l[k]? = some l[k]! := get_bang l k h
theorem gb_l (l : List UInt8) (k : Nat) (h : k < l.length) : l[k]? = some l[k]! := get_bang l k h
theorem gb_m (l : List (List T)) (k : Nat) (h : k < l.length) : l[k]? = some l[k]! := get_bang l k h
theorem gb_n (l : List String) (k : Nat) (h : k < l.length) : l[k]? = some l[k]! := get_bang l k h
theorem gb_o (l : List (Int × Int × Int)) (k : Nat) (h : k < l.length) : l[k]? = some l[k]! := get_bang l k h
theorem gb_p (l : List (T × T)) (k : Nat) (h : k < l.length) : l[k]? = some l[k]! := get_bang l k h
theorem gb_q (l : List (List (Int × Int))) (k : Nat) (h : k < l.length) : l[k]? = some l[k]! := get_bang l k h
theorem gb_r (l : List (Nat × Nat × Nat)) (k : Nat) (h : k < l.length) : l[k]? = some l[k]! := get_bang l k h
theorem gb_s (l : List (List UInt8)) (k : Nat) (h : k < l.length) : l[k]? = some l[k]! := get_bang l k h
theorem gb_t (l : List (List (T × T))) (k : Nat) (h : k < l.length) : l[k]? = some l[k]! := get_bang l k h
theorem gb_u (l : List (List (Int × Int))) (k : Nat) (h : k < l.length) : l[k]? = some l[k]! := get_bang l k h
attribute [go_sem] gb_a gb_b gb_c gb_d gb_e gb_f gb_g gb_h gb_i gb_j gb_k gb_l gb_m gb_n gb_o gb_p gb_q gb_r gb_s gb_t gb_u
attribute [go_sem] T.beqA eqIs SV.gd Option.some.injEq
attribute [go_sem] St.sliceA T.isCell stepA allocAt List.lookup
attribute [go_sem] St.res tt tts0 tts1 tts2 tt0 tt1 tt2 tt3 tt4 tt5 tt6 tt7 tt8 tt9 tt10 tt11 tt12 tt13 tt14 tt15 tt16 tt17
theorem w1 : type_of% @SW_seq := @SW_seq
theorem w2 : type_of% @SW_block := @SW_block
theorem w3 : type_of% @SThen_n := @SThen_n
theorem w4 : type_of% @SThen_r := @SThen_r
theorem w5 : type_of% @SThen_e := @SThen_e
theorem w6 : type_of% @SIn_n := @SIn_n
theorem w7 : type_of% @SIn_r := @SIn_r
theorem w8 : type_of% @SIn_eq := @SIn_eq
theorem w9 : type_of% @SW_skip := @SW_skip
theorem wa : type_of% @SW_exit := @SW_exit
theorem wb : type_of% @SW_ret := @SW_ret
theorem wc : type_of% @SPost_r := @SPost_r
theorem wd : type_of% @SIn_ne := @SIn_ne
theorem we : type_of% @SW_true := @SW_true
theorem wf : type_of% @SW_false := @SW_false
theorem wg : type_of% @runX_nil := @runX_nil
theorem wh : type_of% @runI_nil := @runI_nil
theorem wi : type_of% @runX_cons := @runX_cons
theorem wj : type_of% @runI_cons := @runI_cons
end Go.Proofs.Ythcclcbliedodaa
namespace Go.Proofs.Ythcclcbliedodaa
open Go.RowKit

def tErr (e : Int) : T := if e = 0 then .nilI else .iface 56 (.int .i64 e)
theorem tErr0 : tErr 0 = .nilI := rfl
def tAuto (a : GAuto) : T := .agg [tInt a.base, tInt a.tracks, tIntss a.next, tBools a.ends]
def I64s (l : List Int) : Prop := ∀ x ∈ l, I64 x
structure I64A (a : GAuto) : Prop where
  base : I64 a.base
  tracks : I64 a.tracks
  next : ∀ r ∈ a.next, I64s r
section
variable {P : Program} {G : World → Prop}
end
theorem bang_get {α : Type} [Inhabited α] {l : List α} {i : Nat} {x : α} (h : l[i]! = x) (hi : i < l.length) : l[i]? = some x := by rw [← h, getElem!_pos l i hi]; exact List.getElem?_eq_getElem hi
theorem bang_mem {α : Type} [Inhabited α] {l : List α} {i : Nat} {x : α} (h : l[i]! = x) (hi : i < l.length) : x ∈ l := List.mem_of_getElem? (bang_get h hi)
theorem bang_D {α : Type} [Inhabited α] {l : List α} {i : Nat} {x d : α} (h : l[i]! = x) (hi : i < l.length) : l.getD i d = x := by rw [getD_lt hi, ← h, getElem!_pos l i hi]
theorem bang_at {α : Type} [Inhabited α] {l : List α} {i : Nat} {x : α} (h : l[i]! = x) (hi : i < l.length) : l[i] = x := by rw [← h, getElem!_pos l i hi]
theorem take_next {α : Type} [Inhabited α] {l : List α} {i : Nat} {x : α} (h : l[i]! = x) (hi : i < l.length) : l.take (i + 1) = l.take i ++ [x] := by
  rw [List.take_succ_eq_append_getElem hi, bang_at h hi]
theorem nextOf_bang {next : List (List Int)} {s l u : Int} {row : List Int} (hrow : next[s.toNat]! = row) (hs : s.toNat < next.length) (hu : row[l.toNat]! = u) (hl : l.toNat < row.length) : nextOf next s l = u := by
  unfold nextOf; rw [bang_D hrow hs, bang_D hu hl]
theorem runFrom_take (next : List (List Int)) {w : List Int} {i : Nat} {x : Int} (hx : w[i]! = x) (hi : i < w.length) (s : Int) : runFrom next s (w.take (i + 1)) = nextOf next (runFrom next s (w.take i)) x := by
  rw [take_next hx hi, runFrom_append]; rfl
section
variable {G : World → Prop} (hG : Lasting G)
include hG
theorem Radix_snd (base : Int) : Snd Try.prog G 51 [tInt base] (tInt (radix base)) := by
  have htb : Tab.ok Try.prog G [] := Tab.nil
  refine snd_of_body (n := 12) (tm := [(0, .t (tInt base))]) (rs := [.tmp 2]) tt_ok Try.func51 rfl rfl rfl rfl rfl ?_
  unfold radix
  by_cases h1 : base = 1
  · repeat' (first | (with_reducible first | apply w1 | apply w2 | apply w3 | apply w4 | apply w5 | apply w6 | apply w7 | apply w8 | apply w9 | apply wa | apply wb | apply wc) | ((with_reducible apply wd); focus decide) | ((with_reducible apply we); focus exact rfl) | ((with_reducible apply wf); focus exact rfl) | ((first | (with_reducible apply SW_run tt_ok hG htb) | ((with_reducible apply SW_draw rfl tt_ok hG htb); (focus kernel_rfl); focus simp only [List.range, List.range.loop, List.size_toArray, List.length_cons, List.length_nil, Nat.reduceAdd])); focus ((repeat' (first | (with_reducible first | exact wg | exact wh) | ((with_reducible first | apply wi | apply wj); focus (simp (discharger := omega) only [go_sem, h1, simprocAttr]; with_reducible rfl)))); done)))
    exact (by simp (discharger := omega) only [go_sem, h1, simprocAttr])
  · by_cases h2 : 2 ≤ base
    · by_cases h3 : base ≤ 6
      · repeat' (first | (with_reducible first | apply w1 | apply w2 | apply w3 | apply w4 | apply w5 | apply w6 | apply w7 | apply w8 | apply w9 | apply wa | apply wb | apply wc) | ((with_reducible apply wd); focus decide) | ((with_reducible apply we); focus exact rfl) | ((with_reducible apply wf); focus exact rfl) | ((first | (with_reducible apply SW_run tt_ok hG htb) | ((with_reducible apply SW_draw rfl tt_ok hG htb); (focus kernel_rfl); focus simp only [List.range, List.range.loop, List.size_toArray, List.length_cons, List.length_nil, Nat.reduceAdd])); focus ((repeat' (first | (with_reducible first | exact wg | exact wh) | ((with_reducible first | apply wi | apply wj); focus (simp (discharger := omega) only [go_sem, simprocAttr]; with_reducible rfl)))); done)))
        exact (by simp (discharger := omega) only [go_sem, simprocAttr])
      · repeat' (first | (with_reducible first | apply w1 | apply w2 | apply w3 | apply w4 | apply w5 | apply w6 | apply w7 | apply w8 | apply w9 | apply wa | apply wb | apply wc) | ((with_reducible apply wd); focus decide) | ((with_reducible apply we); focus exact rfl) | ((with_reducible apply wf); focus exact rfl) | ((first | (with_reducible apply SW_run tt_ok hG htb) | ((with_reducible apply SW_draw rfl tt_ok hG htb); (focus kernel_rfl); focus simp only [List.range, List.range.loop, List.size_toArray, List.length_cons, List.length_nil, Nat.reduceAdd])); focus ((repeat' (first | (with_reducible first | exact wg | exact wh) | ((with_reducible first | apply wi | apply wj); focus (simp (discharger := omega) only [go_sem, simprocAttr]; with_reducible rfl)))); done)))
        exact (by simp (discharger := omega) only [go_sem, simprocAttr])
    · repeat' (first | (with_reducible first | apply w1 | apply w2 | apply w3 | apply w4 | apply w5 | apply w6 | apply w7 | apply w8 | apply w9 | apply wa | apply wb | apply wc) | ((with_reducible apply wd); focus decide) | ((with_reducible apply we); focus exact rfl) | ((with_reducible apply wf); focus exact rfl) | ((first | (with_reducible apply SW_run tt_ok hG htb) | ((with_reducible apply SW_draw rfl tt_ok hG htb); (focus kernel_rfl); focus simp only [List.range, List.range.loop, List.size_toArray, List.length_cons, List.length_nil, Nat.reduceAdd])); focus ((repeat' (first | (with_reducible first | exact wg | exact wh) | ((with_reducible first | apply wi | apply wj); focus (simp (discharger := omega) only [go_sem, simprocAttr]; with_reducible rfl)))); done)))
      exact (by simp (discharger := omega) only [go_sem, simprocAttr])
set_option maxHeartbeats 4000000 in
theorem Many_snd (base t : Int) : Snd Try.prog G 29 [tInt base, tInt t] (.tup [tInt (manyOf base t), tErr (manyErr base t)]) := by
  have htb := Tab.cons (Radix_snd hG base) Tab.nil
  refine snd_of_body (n := 32) (tm := [(0, .t (tInt base)), (1, .t (tInt t))]) (rs := [.tmp 4, .tmp 5]) tt_ok Try.func29 rfl rfl rfl rfl rfl ?_
  unfold manyOf manyErr
  generalize hk : radix base = k at htb ⊢
  by_cases h1 : k = 0
  · subst h1
    repeat' (first | (with_reducible first | apply w1 | apply w2 | apply w3 | apply w4 | apply w5 | apply w6 | apply w7 | apply w8 | apply w9 | apply wa | apply wb | apply wc) | ((with_reducible apply wd); focus decide) | ((with_reducible apply we); focus exact rfl) | ((with_reducible apply wf); focus exact rfl) | ((first | (with_reducible apply SW_run tt_ok hG htb) | ((with_reducible apply SW_draw rfl tt_ok hG htb); (focus kernel_rfl); focus simp only [List.range, List.range.loop, List.size_toArray, List.length_cons, List.length_nil, Nat.reduceAdd])); focus ((repeat' (first | (with_reducible first | exact wg | exact wh) | ((with_reducible first | apply wi | apply wj); focus (simp (discharger := omega) only [go_sem, simprocAttr]; with_reducible rfl)))); done)))
    exact (by simp (discharger := omega) only [go_sem, tErr, simprocAttr])
  · by_cases h2 : t < 0
    · repeat' (first | (with_reducible first | apply w1 | apply w2 | apply w3 | apply w4 | apply w5 | apply w6 | apply w7 | apply w8 | apply w9 | apply wa | apply wb | apply wc) | ((with_reducible apply wd); focus decide) | ((with_reducible apply we); focus exact rfl) | ((with_reducible apply wf); focus exact rfl) | ((first | (with_reducible apply SW_run tt_ok hG htb) | ((with_reducible apply SW_draw rfl tt_ok hG htb); (focus kernel_rfl); focus simp only [List.range, List.range.loop, List.size_toArray, List.length_cons, List.length_nil, Nat.reduceAdd])); focus ((repeat' (first | (with_reducible first | exact wg | exact wh) | ((with_reducible first | apply wi | apply wj); focus (simp (discharger := omega) only [go_sem, simprocAttr]; with_reducible rfl)))); done)))
      exact (by simp (discharger := omega) only [go_sem, tErr, simprocAttr])
    · by_cases h3 : 5 < t
      · repeat' (first | (with_reducible first | apply w1 | apply w2 | apply w3 | apply w4 | apply w5 | apply w6 | apply w7 | apply w8 | apply w9 | apply wa | apply wb | apply wc) | ((with_reducible apply wd); focus decide) | ((with_reducible apply we); focus exact rfl) | ((with_reducible apply wf); focus exact rfl) | ((first | (with_reducible apply SW_run tt_ok hG htb) | ((with_reducible apply SW_draw rfl tt_ok hG htb); (focus kernel_rfl); focus simp only [List.range, List.range.loop, List.size_toArray, List.length_cons, List.length_nil, Nat.reduceAdd])); focus ((repeat' (first | (with_reducible first | exact wg | exact wh) | ((with_reducible first | apply wi | apply wj); focus (simp (discharger := omega) only [go_sem, simprocAttr]; with_reducible rfl)))); done)))
        exact (by simp (discharger := omega) only [go_sem, tErr, simprocAttr])
      · obtain ⟨r2, r6⟩ := radix_two (b := base) (by omega)
        rw [hk] at r2 r6
        obtain ⟨t, rfl⟩ := Int.eq_ofNat_of_zero_le (show 0 ≤ t by omega)
        rw [show (if k = 0 ∨ (t : Int) < 0 ∨ 5 < (t : Int) then (1 : Int) else if 36 < powW k (t : Int).toNat then 3 else 0) = if 36 < powW k t then 3 else 0 by rw [if_neg (by omega)]; rfl]
        repeat' (first | (with_reducible first | apply w1 | apply w2 | apply w3 | apply w4 | apply w5 | apply w6 | apply w7 | apply w8 | apply w9 | apply wa | apply wb | apply wc) | ((with_reducible apply wd); focus decide) | ((with_reducible apply we); focus exact rfl) | ((with_reducible apply wf); focus exact rfl) | ((first | (with_reducible apply SW_run tt_ok hG htb) | ((with_reducible apply SW_draw rfl tt_ok hG htb); (focus kernel_rfl); focus simp only [List.range, List.range.loop, List.size_toArray, List.length_cons, List.length_nil, Nat.reduceAdd])); focus ((repeat' (first | (with_reducible first | exact wg | exact wh) | ((with_reducible first | apply wi | apply wj); focus (simp (discharger := omega) only [go_sem, simprocAttr]; with_reducible rfl)))); done)))
        refine SW_loop (fun m s => ∃ i : Nat, m = t - i ∧ s = ⟨32, [(6, .t (tInt k)), (7, .t (tInt (powW k i))), (21, .t (tInt t)), (22, .t (tInt i))], []⟩ ∧ i ≤ t) t ⟨_, Norm.headS (own := []) (keep := [6, 7, 21, 22]) (by refine ⟨?_, ?_⟩; (simp (discharger := omega) only [go_sem, simprocAttr]; with_reducible rfl); refine ⟨?_, ?_, ?_, ?_⟩ <;> (simp only [go_sem, simprocAttr]; with_reducible rfl)), 0, rfl, rfl, Nat.zero_le _⟩ ?_
        rintro m s ⟨i, rfl, rfl, hi⟩
        have hb := powW_bd r2 r6 (j := i) (by omega)
        by_cases hlt : i < t
        · have hb1 : 1 ≤ powW k i * k ∧ powW k i * k ≤ 7776 := powW_bd r2 r6 (j := i + 1) (by omega)
          repeat' (first | (with_reducible first | apply w1 | apply w2 | apply w3 | apply w4 | apply w5 | apply w6 | apply w7 | apply w8 | apply w9 | apply wa | apply wb | apply wc) | ((with_reducible apply wd); focus decide) | ((with_reducible apply we); focus exact rfl) | ((with_reducible apply wf); focus exact rfl) | ((first | (with_reducible apply SW_run tt_ok hG htb) | ((with_reducible apply SW_draw rfl tt_ok hG htb); (focus kernel_rfl); focus simp only [List.range, List.range.loop, List.size_toArray, List.length_cons, List.length_nil, Nat.reduceAdd])); focus ((repeat' (first | (with_reducible first | exact wg | exact wh) | ((with_reducible first | apply wi | apply wj); focus (simp (discharger := omega) only [go_sem, simprocAttr]; with_reducible rfl)))); done)))
          exact ⟨t - (i + 1), _, by omega, Norm.headS (own := []) (keep := [6, 7, 21, 22]) (by refine ⟨?_, ?_⟩; (simp (discharger := omega) only [go_sem, simprocAttr]; with_reducible rfl); refine ⟨?_, ?_, ?_, ?_⟩ <;> (simp only [go_sem, simprocAttr]; with_reducible rfl)), i + 1, rfl, rfl, by omega⟩
        · obtain rfl : i = t := by omega
          by_cases h36 : 36 < powW k i
          · repeat' (first | (with_reducible first | apply w1 | apply w2 | apply w3 | apply w4 | apply w5 | apply w6 | apply w7 | apply w8 | apply w9 | apply wa | apply wb | apply wc) | ((with_reducible apply wd); focus decide) | ((with_reducible apply we); focus exact rfl) | ((with_reducible apply wf); focus exact rfl) | ((first | (with_reducible apply SW_run tt_ok hG htb) | ((with_reducible apply SW_draw rfl tt_ok hG htb); (focus kernel_rfl); focus simp only [List.range, List.range.loop, List.size_toArray, List.length_cons, List.length_nil, Nat.reduceAdd])); focus ((repeat' (first | (with_reducible first | exact wg | exact wh) | ((with_reducible first | apply wi | apply wj); focus (simp (discharger := omega) only [go_sem, simprocAttr]; with_reducible rfl)))); done)))
            exact (by simp (discharger := omega) only [go_sem, tErr, simprocAttr])
          · repeat' (first | (with_reducible first | apply w1 | apply w2 | apply w3 | apply w4 | apply w5 | apply w6 | apply w7 | apply w8 | apply w9 | apply wa | apply wb | apply wc) | ((with_reducible apply wd); focus decide) | ((with_reducible apply we); focus exact rfl) | ((with_reducible apply wf); focus exact rfl) | ((first | (with_reducible apply SW_run tt_ok hG htb) | ((with_reducible apply SW_draw rfl tt_ok hG htb); (focus kernel_rfl); focus simp only [List.range, List.range.loop, List.size_toArray, List.length_cons, List.length_nil, Nat.reduceAdd])); focus ((repeat' (first | (with_reducible first | exact wg | exact wh) | ((with_reducible first | apply wi | apply wj); focus (simp (discharger := omega) only [go_sem, simprocAttr]; with_reducible rfl)))); done)))
            exact (by simp (discharger := omega) only [go_sem, tErr, simprocAttr])
set_option maxHeartbeats 4000000 in
theorem Check_snd (a : GAuto) : Snd Try.prog G 28 [tAuto a] (tErr (autoFault a)) := by
  have htb := Tab.cons (Many_snd hG a.base a.tracks) Tab.nil
  refine snd_of_body (n := 72) (tm := [(0, .t (tAuto a))]) (rs := [.tmp 2]) tt_ok Try.func28 rfl rfl rfl rfl rfl ?_
  unfold autoFault
  by_cases h0 : manyErr a.base a.tracks = 0
  · rw [if_neg (by omega)]
    rw [h0] at htb
    have h36 := (many_ok h0).2.2.2.1
    rw [← (many_ok h0).2.2.2.2] at h36
    generalize hmo : manyOf a.base a.tracks = mo at *
    by_cases h1 : a.next.length = 0
    · repeat' (first | (with_reducible first | apply w1 | apply w2 | apply w3 | apply w4 | apply w5 | apply w6 | apply w7 | apply w8 | apply w9 | apply wa | apply wb | apply wc) | ((with_reducible apply wd); focus decide) | ((with_reducible apply we); focus exact rfl) | ((with_reducible apply wf); focus exact rfl) | ((first | (with_reducible apply SW_run tt_ok hG htb) | ((with_reducible apply SW_draw rfl tt_ok hG htb); (focus kernel_rfl); focus simp only [List.range, List.range.loop, List.size_toArray, List.length_cons, List.length_nil, Nat.reduceAdd])); focus ((repeat' (first | (with_reducible first | exact wg | exact wh) | ((with_reducible first | apply wi | apply wj); focus (simp (discharger := omega) only [go_sem, tAuto, tErr, simprocAttr]; with_reducible rfl)))); done)))
      exact (by simp (discharger := omega) only [go_sem, tErr, simprocAttr])
    · by_cases h2 : 80 < a.next.length
      · repeat' (first | (with_reducible first | apply w1 | apply w2 | apply w3 | apply w4 | apply w5 | apply w6 | apply w7 | apply w8 | apply w9 | apply wa | apply wb | apply wc) | ((with_reducible apply wd); focus decide) | ((with_reducible apply we); focus exact rfl) | ((with_reducible apply wf); focus exact rfl) | ((first | (with_reducible apply SW_run tt_ok hG htb) | ((with_reducible apply SW_draw rfl tt_ok hG htb); (focus kernel_rfl); focus simp only [List.range, List.range.loop, List.size_toArray, List.length_cons, List.length_nil, Nat.reduceAdd])); focus ((repeat' (first | (with_reducible first | exact wg | exact wh) | ((with_reducible first | apply wi | apply wj); focus (simp (discharger := omega) only [go_sem, tAuto, tErr, simprocAttr]; with_reducible rfl)))); done)))
        exact (by simp (discharger := omega) only [go_sem, tErr, simprocAttr])
      · by_cases h3 : a.ends.length = a.next.length
        · rw [if_neg h1, if_neg h2, if_neg (by omega)]
          repeat' (first | (with_reducible first | apply w1 | apply w2 | apply w3 | apply w4 | apply w5 | apply w6 | apply w7 | apply w8 | apply w9 | apply wa | apply wb | apply wc) | ((with_reducible apply wd); focus decide) | ((with_reducible apply we); focus exact rfl) | ((with_reducible apply wf); focus exact rfl) | ((first | (with_reducible apply SW_run tt_ok hG htb) | ((with_reducible apply SW_draw rfl tt_ok hG htb); (focus kernel_rfl); focus simp only [List.range, List.range.loop, List.size_toArray, List.length_cons, List.length_nil, Nat.reduceAdd])); focus ((repeat' (first | (with_reducible first | exact wg | exact wh) | ((with_reducible first | apply wi | apply wj); focus (simp (discharger := omega) only [go_sem, tAuto, tErr, h3, simprocAttr]; with_reducible rfl)))); done)))
          refine SW_loop (fun m s => ∃ i : Nat, m = a.next.length - i ∧ s = ⟨72, [(1, .bptr 0 0), (3, .t (tInt mo)), (43, .t (tIntss a.next)), (44, .t (tInt a.next.length)), (45, .t (tInt i))], [.box [.t (tInt a.base), .t (tInt a.tracks), .t (tIntss a.next), .t (tBools a.ends)]]⟩ ∧ i ≤ a.next.length ∧ ∀ j (hj : j < a.next.length), j < i → (a.next[j].length : Int) = mo ∧ ∀ s ∈ a.next[j], 0 ≤ s ∧ s < (a.next.length : Int)) a.next.length
            ⟨_, Norm.headS (own := []) (keep := [1, 3, 43, 44, 45]) (by refine ⟨?_, ?_⟩; (simp (discharger := omega) only [go_sem, simprocAttr]; with_reducible rfl); refine ⟨?_, ?_, ?_, ?_⟩ <;> (simp only [go_sem, simprocAttr]; with_reducible rfl)), 0, rfl, rfl, Nat.zero_le _, fun j hj h => by omega⟩ ?_
          rintro m s ⟨i, rfl, rfl, hi, hA⟩
          by_cases hlt : i < a.next.length
          · obtain ⟨row, hrow⟩ : ∃ row, a.next[i]! = row := ⟨_, rfl⟩
            have hat := bang_at hrow hlt
            obtain ⟨f1, f2⟩ := rowsFault_at hlt hA
            rw [hat] at f1 f2
            by_cases hrl : (row.length : Int) = mo
            · repeat' (first | (with_reducible first | apply w1 | apply w2 | apply w3 | apply w4 | apply w5 | apply w6 | apply w7 | apply w8 | apply w9 | apply wa | apply wb | apply wc) | ((with_reducible apply wd); focus decide) | ((with_reducible apply we); focus exact rfl) | ((with_reducible apply wf); focus exact rfl) | ((first | (with_reducible apply SW_run tt_ok hG htb) | ((with_reducible apply SW_draw rfl tt_ok hG htb); (focus kernel_rfl); focus simp only [List.range, List.range.loop, List.size_toArray, List.length_cons, List.length_nil, Nat.reduceAdd])); focus ((repeat' (first | (with_reducible first | exact wg | exact wh) | ((with_reducible first | apply wi | apply wj); focus (simp (discharger := omega) only [go_sem, hrow, simprocAttr]; with_reducible rfl)))); done)))
              refine SW_loop (fun m s => ∃ l : Nat, m = row.length - l ∧ s = ⟨72, [(1, .bptr 0 0), (3, .t (tInt mo)), (43, .t (tIntss a.next)), (44, .t (tInt a.next.length)), (45, .t (tInt i)), (54, .t (tInts row)), (55, .t (tInt row.length)), (56, .t (tInt l))], [.box [.t (tInt a.base), .t (tInt a.tracks), .t (tIntss a.next), .t (tBools a.ends)]]⟩ ∧ l ≤ row.length ∧ ∀ x ∈ row.take l, 0 ≤ x ∧ x < (a.next.length : Int)) row.length
                ⟨_, Norm.headS (own := []) (keep := [1, 3, 43, 44, 45, 54, 55, 56]) (by refine ⟨?_, ?_⟩; (simp (discharger := omega) only [go_sem, simprocAttr]; with_reducible rfl); refine ⟨?_, ?_, ?_, ?_⟩ <;> (simp only [go_sem, simprocAttr]; with_reducible rfl)), 0, rfl, rfl, Nat.zero_le _, fun x hx => by simp at hx⟩ ?_
              rintro m s ⟨l, rfl, rfl, hl, hB⟩
              by_cases hlt2 : l < row.length
              · obtain ⟨x, hx⟩ : ∃ x, row[l]! = x := ⟨_, rfl⟩
                have htk := take_next hx hlt2
                have hxm := bang_mem hx hlt2
                by_cases hx0 : 0 ≤ x
                · by_cases hxm2 : x < (a.next.length : Int)
                  · repeat' (first | (with_reducible first | apply w1 | apply w2 | apply w3 | apply w4 | apply w5 | apply w6 | apply w7 | apply w8 | apply w9 | apply wa | apply wb | apply wc) | ((with_reducible apply wd); focus decide) | ((with_reducible apply we); focus exact rfl) | ((with_reducible apply wf); focus exact rfl) | ((first | (with_reducible apply SW_run tt_ok hG htb) | ((with_reducible apply SW_draw rfl tt_ok hG htb); (focus kernel_rfl); focus simp only [List.range, List.range.loop, List.size_toArray, List.length_cons, List.length_nil, Nat.reduceAdd])); focus ((repeat' (first | (with_reducible first | exact wg | exact wh) | ((with_reducible first | apply wi | apply wj); focus (simp (discharger := omega) only [go_sem, hx, simprocAttr]; with_reducible rfl)))); done)))
                    exact ⟨row.length - (l + 1), _, by omega, Norm.headS (own := []) (keep := [1, 3, 43, 44, 45, 54, 55, 56]) (by refine ⟨?_, ?_⟩; (simp (discharger := omega) only [go_sem, simprocAttr]; with_reducible rfl); refine ⟨?_, ?_, ?_, ?_⟩ <;> (simp only [go_sem, simprocAttr]; with_reducible rfl)), l + 1, rfl, rfl, by omega, fun y hy => by
                      rw [htk] at hy
                      rcases List.mem_append.1 hy with h | h
                      · exact hB y h
                      · simp at h; subst h; exact ⟨hx0, hxm2⟩⟩
                  · rw [f2 hrl ⟨x, hxm, by omega⟩]
                    repeat' (first | (with_reducible first | apply w1 | apply w2 | apply w3 | apply w4 | apply w5 | apply w6 | apply w7 | apply w8 | apply w9 | apply wa | apply wb | apply wc) | ((with_reducible apply wd); focus decide) | ((with_reducible apply we); focus exact rfl) | ((with_reducible apply wf); focus exact rfl) | ((first | (with_reducible apply SW_run tt_ok hG htb) | ((with_reducible apply SW_draw rfl tt_ok hG htb); (focus kernel_rfl); focus simp only [List.range, List.range.loop, List.size_toArray, List.length_cons, List.length_nil, Nat.reduceAdd])); focus ((repeat' (first | (with_reducible first | exact wg | exact wh) | ((with_reducible first | apply wi | apply wj); focus (simp (discharger := omega) only [go_sem, hx, simprocAttr]; with_reducible rfl)))); done)))
                    exact (by simp (discharger := omega) only [go_sem, tErr, simprocAttr])
                · rw [f2 hrl ⟨x, hxm, by omega⟩]
                  repeat' (first | (with_reducible first | apply w1 | apply w2 | apply w3 | apply w4 | apply w5 | apply w6 | apply w7 | apply w8 | apply w9 | apply wa | apply wb | apply wc) | ((with_reducible apply wd); focus decide) | ((with_reducible apply we); focus exact rfl) | ((with_reducible apply wf); focus exact rfl) | ((first | (with_reducible apply SW_run tt_ok hG htb) | ((with_reducible apply SW_draw rfl tt_ok hG htb); (focus kernel_rfl); focus simp only [List.range, List.range.loop, List.size_toArray, List.length_cons, List.length_nil, Nat.reduceAdd])); focus ((repeat' (first | (with_reducible first | exact wg | exact wh) | ((with_reducible first | apply wi | apply wj); focus (simp (discharger := omega) only [go_sem, hx, simprocAttr]; with_reducible rfl)))); done)))
                  exact (by simp (discharger := omega) only [go_sem, tErr, simprocAttr])
              · obtain rfl : l = row.length := by omega
                rw [List.take_length] at hB
                repeat' (first | (with_reducible first | apply w1 | apply w2 | apply w3 | apply w4 | apply w5 | apply w6 | apply w7 | apply w8 | apply w9 | apply wa | apply wb | apply wc) | ((with_reducible apply wd); focus decide) | ((with_reducible apply we); focus exact rfl) | ((with_reducible apply wf); focus exact rfl) | ((first | (with_reducible apply SW_run tt_ok hG htb) | ((with_reducible apply SW_draw rfl tt_ok hG htb); (focus kernel_rfl); focus simp only [List.range, List.range.loop, List.size_toArray, List.length_cons, List.length_nil, Nat.reduceAdd])); focus ((repeat' (first | (with_reducible first | exact wg | exact wh) | ((with_reducible first | apply wi | apply wj); focus (simp (discharger := omega) only [go_sem, simprocAttr]; with_reducible rfl)))); done)))
                exact ⟨a.next.length - (i + 1), _, by omega, Norm.headS (own := []) (keep := [1, 3, 43, 44, 45]) (by refine ⟨?_, ?_⟩; (simp (discharger := omega) only [go_sem, simprocAttr]; with_reducible rfl); refine ⟨?_, ?_, ?_, ?_⟩ <;> (simp only [go_sem, simprocAttr]; with_reducible rfl)), i + 1, rfl, rfl, by omega, fun j hj h => by
                  by_cases e : j = i
                  · subst e; rw [hat]; exact ⟨hrl, hB⟩
                  · exact hA j hj (by omega)⟩
            · rw [f1 hrl]
              repeat' (first | (with_reducible first | apply w1 | apply w2 | apply w3 | apply w4 | apply w5 | apply w6 | apply w7 | apply w8 | apply w9 | apply wa | apply wb | apply wc) | ((with_reducible apply wd); focus decide) | ((with_reducible apply we); focus exact rfl) | ((with_reducible apply wf); focus exact rfl) | ((first | (with_reducible apply SW_run tt_ok hG htb) | ((with_reducible apply SW_draw rfl tt_ok hG htb); (focus kernel_rfl); focus simp only [List.range, List.range.loop, List.size_toArray, List.length_cons, List.length_nil, Nat.reduceAdd])); focus ((repeat' (first | (with_reducible first | exact wg | exact wh) | ((with_reducible first | apply wi | apply wj); focus (simp (discharger := omega) only [go_sem, hrow, simprocAttr]; with_reducible rfl)))); done)))
              exact (by simp (discharger := omega) only [go_sem, tErr, simprocAttr])
          · obtain rfl : i = a.next.length := by omega
            rw [rowsFault_zero.2 fun r hr => by obtain ⟨j, hj, rfl⟩ := List.mem_iff_getElem.1 hr; exact hA j hj hj]
            repeat' (first | (with_reducible first | apply w1 | apply w2 | apply w3 | apply w4 | apply w5 | apply w6 | apply w7 | apply w8 | apply w9 | apply wa | apply wb | apply wc) | ((with_reducible apply wd); focus decide) | ((with_reducible apply we); focus exact rfl) | ((with_reducible apply wf); focus exact rfl) | ((first | (with_reducible apply SW_run tt_ok hG htb) | ((with_reducible apply SW_draw rfl tt_ok hG htb); (focus kernel_rfl); focus simp only [List.range, List.range.loop, List.size_toArray, List.length_cons, List.length_nil, Nat.reduceAdd])); focus ((repeat' (first | (with_reducible first | exact wg | exact wh) | ((with_reducible first | apply wi | apply wj); focus (simp (discharger := omega) only [go_sem, simprocAttr]; with_reducible rfl)))); done)))
            exact (by simp (discharger := omega) only [go_sem, tErr, simprocAttr])
        · repeat' (first | (with_reducible first | apply w1 | apply w2 | apply w3 | apply w4 | apply w5 | apply w6 | apply w7 | apply w8 | apply w9 | apply wa | apply wb | apply wc) | ((with_reducible apply wd); focus decide) | ((with_reducible apply we); focus exact rfl) | ((with_reducible apply wf); focus exact rfl) | ((first | (with_reducible apply SW_run tt_ok hG htb) | ((with_reducible apply SW_draw rfl tt_ok hG htb); (focus kernel_rfl); focus simp only [List.range, List.range.loop, List.size_toArray, List.length_cons, List.length_nil, Nat.reduceAdd])); focus ((repeat' (first | (with_reducible first | exact wg | exact wh) | ((with_reducible first | apply wi | apply wj); focus (simp (discharger := omega) only [go_sem, tAuto, tErr, h3, simprocAttr]; with_reducible rfl)))); done)))
          exact (by simp (discharger := omega) only [go_sem, tErr, h3, simprocAttr])
  · generalize manyErr a.base a.tracks = e at *
    repeat' (first | (with_reducible first | apply w1 | apply w2 | apply w3 | apply w4 | apply w5 | apply w6 | apply w7 | apply w8 | apply w9 | apply wa | apply wb | apply wc) | ((with_reducible apply wd); focus decide) | ((with_reducible apply we); focus exact rfl) | ((with_reducible apply wf); focus exact rfl) | ((first | (with_reducible apply SW_run tt_ok hG htb) | ((with_reducible apply SW_draw rfl tt_ok hG htb); (focus kernel_rfl); focus simp only [List.range, List.range.loop, List.size_toArray, List.length_cons, List.length_nil, Nat.reduceAdd])); focus ((repeat' (first | (with_reducible first | exact wg | exact wh) | ((with_reducible first | apply wi | apply wj); focus (simp (discharger := omega) only [go_sem, tAuto, tErr, h0, simprocAttr]; with_reducible rfl)))); done)))
    exact (by simp (discharger := omega) only [go_sem, tErr, h0, simprocAttr])
end
end Go.Proofs.Ythcclcbliedodaa
namespace Go.Proofs.Ythcclcbliedodaa
open Go.ChangeShapes Go.WideShapes Go.ChangeAt Go.RowKit Go.Joins Go.Deep

section
variable {H : Type} {enc : TypeId × Value → H} {w : World} {sp : Nat → Bool} {held : Bool}
/-- One cell that reads as a datum. -/
def OpensT (enc : TypeId × Value → H) (w : World) (sp : Nat → Bool) (held : Bool) (T : TypeId) (Q : Go.Proofs.Ythcclcbliedodaa.T → Prop) : Prop :=
  ∀ n v y, DataW.trod enc Try.prog w 0 sp held n T [v] = some y → v.oneCell' = true ∧ ∃ x, Q x ∧ x.cells = [x] ∧ RepT (· < w.heap.size) w x v
theorem flat_cells : ∀ {l : List Go.Proofs.Ythcclcbliedodaa.T}, (∀ x ∈ l, x.cells = [x]) → Go.Proofs.Ythcclcbliedodaa.flat l = l
  | [], _ => rfl
  | a :: t, h => by
    have := flat_cells fun x hx => h x (List.mem_cons_of_mem a hx)
    simp only [Go.Proofs.Ythcclcbliedodaa.flat, List.flatMap_cons] at this ⊢
    rw [this, h a List.mem_cons_self]; rfl
theorem opensT_int {T : TypeId} (ht : Try.prog.underlying T = some (.int .i64)) : OpensT enc w sp held T fun x => ∃ n, x = tInt n ∧ I64 n := by
  intro n v y h
  obtain ⟨a, rfl, h2⟩ := opens_int ht n v y h
  exact ⟨rfl, _, ⟨a, rfl, h2⟩, rfl, .int _ _⟩
theorem opensT_bool {T : TypeId} (ht : Try.prog.underlying T = some .bool) : OpensT enc w sp held T fun x => ∃ b, x = .bool b := by
  intro n v y h
  obtain ⟨a, rfl⟩ := opens_bool ht n v y h
  exact ⟨rfl, _, ⟨a, rfl⟩, rfl, .bool _⟩
theorem opensT_slice {T e : TypeId} {Q : Go.Proofs.Ythcclcbliedodaa.T → Prop} (ht : Try.prog.underlying T = some (.slice e)) (hc : Try.prog.cellsOf e = 1) (hE : OpensT enc w sp held e Q) :
    OpensT enc w sp held T fun x => ∃ l, x = .list l ∧ ∀ y ∈ l, Q y := by
  intro n v y h
  rcases open_slice1 ht hc h with ⟨hcs, _⟩ | ⟨a, len, cap, m, n', V, D, Pl, hcs, _, hl, hcap, hm, _, hx⟩
  · obtain rfl : v = .slice none 0 0 := by simpa using hcs
    exact ⟨rfl, _, ⟨[], rfl, fun y hy => by simp at hy⟩, rfl, .list [] none 0 1 (fun _ => undef) (Nat.zero_le _) Nat.one_pos (fun x hx => by simp at hx) (fun h => (h rfl).elim) (fun k hk => by simp at hk) (fun k y hy => by simp [Go.Proofs.Ythcclcbliedodaa.flat] at hy) (Nat.le_refl _)⟩
  · obtain rfl : v = .slice (some a) len cap := by simpa using hcs
    have hlm : len ≤ m := by rw [hm]; split <;> omega
    have hall : ∀ i, i < len → (V i).oneCell' = true ∧ ∃ b, Q b ∧ b.cells = [b] ∧ RepT (· < w.heap.size) w b (V i) := fun i hi => hE _ _ _ (hx i (by omega)).2
    have key : ∀ k, k ≤ len → ∃ l : List Go.Proofs.Ythcclcbliedodaa.T, l.length = k ∧ ∀ i (hi : i < l.length), Q l[i] ∧ l[i].cells = [l[i]] ∧ RepT (· < w.heap.size) w l[i] (V i) := by
      intro k
      induction k with
      | zero => intro _; exact ⟨[], rfl, fun i hi => absurd hi (by simp)⟩
      | succ k ih =>
        intro hk
        obtain ⟨l, hl1, hl2⟩ := ih (by omega)
        obtain ⟨_, b, hb⟩ := hall k (by omega)
        refine ⟨l ++ [b], by simp [hl1], fun i hi => ?_⟩
        rw [List.getElem_append]
        split
        · exact hl2 i ‹_›
        · obtain rfl : i = k := by simp at hi; omega
          simpa using hb
    obtain ⟨l, hl1, hl2⟩ := key len (Nat.le_refl _)
    subst hl1
    have hcells : ∀ x ∈ l, x.cells = [x] := fun x hx => by obtain ⟨i, hi, rfl⟩ := List.mem_iff_getElem.1 hx; exact (hl2 i hi).2.1
    have hfl := flat_cells hcells
    refine ⟨rfl, _, ⟨l, rfl, fun y hy => by obtain ⟨i, hi, rfl⟩ := List.mem_iff_getElem.1 hy; exact (hl2 i hi).1⟩, rfl, ?_⟩
    refine .list l (some a) cap 1 V (by simp only [maxLen] at hcap ⊢; omega) Nat.one_pos (fun x hx => by rw [hcells x hx]; rfl) (fun hne => ?_) (fun k hk => (hall k (by omega)).1) (fun k y hy => ?_) (by omega)
    · obtain ⟨b, off, spot⟩ := a
      have hpos : 0 < l.length := List.length_pos_iff.2 hne
      have hc1 := (hx 0 (by omega)).1
      have hspot : spot = none := by simpa [Addr.add] using World.cell?_spot hc1
      subst hspot
      have hadd : ∀ i, (⟨b, off, none⟩ : Addr).add i = ⟨b, off + i, none⟩ := fun i => by unfold Addr.add; split <;> simp_all
      refine ⟨b, off, rfl, ?_, fun k hk => ?_⟩
      · rw [hadd] at hc1; exact cell_lt hc1
      · have := (hx k (by omega)).1
        rw [hadd] at this; exact this
    · rw [hfl] at hy
      obtain ⟨hk, rfl⟩ := List.getElem?_eq_some_iff.1 hy
      exact (hl2 k hk).2.2
theorem allMap {α : Type} {f : α → Go.Proofs.Ythcclcbliedodaa.T} {Q : α → Prop} : ∀ {l : List Go.Proofs.Ythcclcbliedodaa.T}, (∀ y ∈ l, ∃ a, y = f a ∧ Q a) → ∃ q : List α, l = q.map f ∧ ∀ a ∈ q, Q a
  | [], _ => ⟨[], rfl, fun a ha => by simp at ha⟩
  | x :: t, h => by
    obtain ⟨a, rfl, ha⟩ := h x List.mem_cons_self
    obtain ⟨q, rfl, hq⟩ := allMap fun y hy => h y (List.mem_cons_of_mem _ hy)
    exact ⟨a :: q, rfl, fun b hb => by
      rcases List.mem_cons.1 hb with rfl | hb
      · exact ha
      · exact hq b hb⟩
theorem opensT_ints {T : TypeId} (h : OpensT enc w sp held T fun x => ∃ l, x = .list l ∧ ∀ y ∈ l, ∃ n, y = tInt n ∧ I64 n) : OpensT enc w sp held T fun x => ∃ l, x = tInts l ∧ I64s l := fun n v y hy => by
  obtain ⟨h1, x, ⟨l, rfl, hl⟩, h2, h3⟩ := h n v y hy
  obtain ⟨q, rfl, hq⟩ := allMap hl
  exact ⟨h1, _, ⟨q, rfl, hq⟩, rfl, h3⟩
theorem opensIntsT : OpensT enc w sp held 26 fun x => ∃ l, x = tInts l ∧ I64s l := opensT_ints (opensT_slice Try.underlying26 (by kernel_rfl) (opensT_int Try.underlying3))
theorem opensIntssT : OpensT enc w sp held 22 fun x => ∃ l, x = tIntss l ∧ ∀ r ∈ l, I64s r := fun n v y hy => by
  obtain ⟨h1, x, ⟨l, rfl, hl⟩, h2, h3⟩ := opensT_slice Try.underlying22 (by kernel_rfl) opensIntsT n v y hy
  obtain ⟨q, rfl, hq⟩ := allMap hl
  exact ⟨h1, _, ⟨q, rfl, hq⟩, rfl, h3⟩
theorem opensBoolsT : OpensT enc w sp held 23 fun x => ∃ l, x = tBools l := fun n v y hy => by
  obtain ⟨h1, x, ⟨l, rfl, hl⟩, h2, h3⟩ := opensT_slice Try.underlying23 (by kernel_rfl) (opensT_bool Try.underlying4) n v y hy
  obtain ⟨q, rfl, hq⟩ := allMap (Q := fun _ => True) fun y hy => by obtain ⟨b, hb⟩ := hl y hy; exact ⟨b, hb, trivial⟩
  exact ⟨h1, _, ⟨q, rfl⟩, rfl, h3⟩
/-- An argument that reads as a list of numbers. -/
def ReadsInts (w : World) (v : Value) (l : List Int) : Prop := I64s l ∧ RepT (· < w.heap.size) w (tInts l) v
def ReadsAuto (w : World) (v : Value) (a : GAuto) : Prop := I64A a ∧ RepT (· < w.heap.size) w (tAuto a) v
theorem openIntsT {v : Value} (hv : v.cells = #[v]) {d : DataW H} {p : List MemPlace} (hd : DataW.Trod enc Try.prog w 0 sp held 26 v d p) : ∃ l, ReadsInts w v l := by
  obtain ⟨n, hn⟩ := hd
  rw [hv] at hn
  obtain ⟨_, x, ⟨l, rfl, hl⟩, _, h3⟩ := opensIntsT n v _ hn
  exact ⟨l, hl, h3⟩
set_option maxRecDepth 100000 in
theorem openAutoT {base : Nat} {v : Value} {d : DataW H} {p : List MemPlace} (hv : Value.okWide Try.prog w .any base 25 v) (h : DataW.Trod enc Try.prog w 0 sp held 25 v d p) :
    ∃ a : GAuto, ReadsAuto w v a := by
  obtain ⟨v0, v1, v2, v3, y0, y1, y2, y3, n, rfl, _, _, h0, h1, h2, h3⟩ := open_agg4 Try.underlying25 (by kernel_rfl) (by kernel_rfl) hv h
  obtain ⟨a0, rfl, i0⟩ := opens_int Try.underlying3 _ _ _ h0
  obtain ⟨a1, rfl, i1⟩ := opens_int Try.underlying3 _ _ _ h1
  obtain ⟨o2, x2, ⟨a2, rfl, i2⟩, _, hn⟩ := opensIntssT _ _ _ h2
  obtain ⟨o3, x3, ⟨a3, rfl⟩, _, he⟩ := opensBoolsT _ _ _ h3
  refine ⟨⟨a0, a1, a2, a3⟩, ⟨i0, i1, i2⟩, .agg _ _ rfl (fun k v hk => ?_) fun k y v hy hk => ?_⟩
  · match k, hk with
    | 0, hk => cases hk; rfl
    | 1, hk => cases hk; rfl
    | 2, hk => cases hk; exact o2
    | 3, hk => cases hk; exact o3
  · match k, hy, hk with
    | 0, hy, hk => cases hy; cases hk; exact .int _ _
    | 1, hy, hk => cases hy; cases hk; exact .int _ _
    | 2, hy, hk => cases hy; cases hk; exact hn
    | 3, hy, hk => cases hy; cases hk; exact he
end
theorem walkN {P : Program} {G : World → Prop} {f : Nat} {xs : List T} {w : World} {vs : Array Value} (h : Snd P G f xs (.bool true)) (hG : G w) (hl : vs.size = xs.length) (hx : ∀ (k : Nat) (y : T) (v : Value), xs[k]? = some y → vs[k]? = some v → RepT (· < w.heap.size) w y v) : Calls P f vs w (Ret (.bool true) w) :=
  (h.calls (· < w.heap.size) w vs hG hl hx).mono fun e w' hq => by obtain ⟨u, h1, h2, h3⟩ := hq; cases h2; exact ⟨h1, h3⟩
end Go.Proofs.Ythcclcbliedodaa
namespace Go.Proofs.Ythcclcbliedodaa
open Go.ChangeShapes Go.WideShapes Go.ChangeAt Go.RowKit Go.Joins Go.Deep

theorem sized_ints {H : Type} {enc : TypeId × Value → H} {w : World} {sp : Nat → Bool} {held : Bool} {v : Value} {d : DataW H} {p : List MemPlace} (hd : DataW.Trod enc Try.prog w 0 sp held 26 v d p) (hv : v.cells = #[v]) {ts : List TypeId} {ds : List (DataW H)} {j : Nat}
    (hs : (DataW.weightsEach Try.prog ts ds).all (· ≤ reachBytes) = true) (ht : ts[j]? = some 26) (hj : ds[j]? = some d) {l : List Int} (hr : ReadsInts w v l) : l.length * 8 ≤ 140737488351232 := by
  obtain ⟨n, hn⟩ := hd
  rw [hv] at hn
  obtain ⟨a, cap, sz, xs, e, _⟩ := hr.2.listInv
  rw [List.length_map] at e
  rcases open_slice1 Try.underlying26 (by kernel_rfl) hn with ⟨hcs, _⟩ | ⟨a', len, cap', m, n', V, D, Pl, hcs, _, _, _, _, hx, _⟩
  · have : v = .slice none 0 0 := by simpa using hcs
    rw [this] at e
    have : l.length = 0 := by injection e with _ h _; omega
    omega
  · have hv2 : v = .slice (some a') len cap' := by simpa using hcs
    rw [hv2] at e
    have hl : len = l.length := by injection e
    have hd : d = .slice ((List.range len).map D) ((List.range (m - len)).map fun j => D (len + j)) := congrArg Prod.fst hx
    have h := sized_slice hs ht (by rw [hj, hd]) Try.underlying26
    have hb : Try.prog.bytesOf 3 = 8 := by kernel_rfl
    rw [hb] at h
    simp only [List.length_map, List.length_range] at h
    unfold reachBytes at h
    omega
end Go.Proofs.Ythcclcbliedodaa
namespace Go.Proofs
open Go.Shelf
end Go.Proofs
namespace Go.Proofs.Ythcclcbliedodaa
open Go.RowKit Go.Sort Go.Lib

def iL (l : List Int) : List T := l.map (T.int .i64)
theorem iL_length (l : List Int) : (iL l).length = l.length := List.length_map _
theorem flat_iL (l : List Int) : flat (iL l) = iL l := by
  induction l with
  | nil => rfl
  | cons x l ih => simp only [flat, iL, List.map_cons, List.flatMap_cons, T.cells] at ih ⊢; rw [ih]; rfl
theorem iL_vals {S : Nat → Prop} {w : World} {l : List Int} {xs : List Value} (h : RepL S w (flat (iL l)) xs) : xs = l.map (Value.int .i64) := by
  rw [flat_iL] at h
  apply List.ext_getElem?
  intro k
  have hlen := h.len
  rw [iL_length] at hlen
  by_cases hk : k < l.length
  · have e1 : (iL l)[k]? = some (.int .i64 l[k]) := by unfold iL; rw [List.getElem?_map, List.getElem?_eq_getElem hk]; rfl
    have e2 : xs[k]? = some (xs[k]'(by omega)) := List.getElem?_eq_getElem _
    have := h.rep k _ _ e1 e2
    generalize xs[k]'(by omega) = v at this e2
    cases this
    rw [e2, List.getElem?_map, List.getElem?_eq_getElem hk]; rfl
  · rw [List.getElem?_eq_none (by omega), List.getElem?_eq_none (by simp; omega)]
theorem iL_rep (S : Nat → Prop) (w : World) (l : List Int) : RepL S w (flat (iL l)) (l.map (Value.int .i64)) := by
  rw [flat_iL]
  refine ⟨by simp [iL], fun v hv => ?_, fun k y v h1 h2 => ?_⟩
  · obtain ⟨x, _, rfl⟩ := List.mem_map.1 hv; rfl
  · unfold iL at h1
    rw [List.getElem?_map, Option.map_eq_some_iff] at h1 h2
    obtain ⟨x, hx, rfl⟩ := h1
    obtain ⟨y, hy, rfl⟩ := h2
    rw [hx] at hy; cases hy
    exact .int _ _
theorem enter_body {P : Program} {f : Nat} {fn : Func} {c : Code} (hf : P.funcs[f]? = some fn) (hb : fn.body = some c) (hn : (fn.name == "runtime.NumGoroutine") = false) (vs : Array Value) (w : World) : (callFunc f vs).run P w = .ok (.enter f vs) w := by
  unfold callFunc
  rw [Sem.run_bind, run_program, Result.andThen_ok]
  simp only [hf, hn, hb, Option.isNone_some, Bool.false_eq_true, if_false]
  rfl
section
variable {P : Program} {C : Ctx} {hd : List Hd} {w w' : World} {e : Nat} {l ys : List Int}
theorem row_open (hr : StR C ⟨0, [], [.row e 1 true (iL l)]⟩ hd act0 w) {v : Value} (hv : RepS (vis C hd) w hd (.sref 0) v) : ∃ ad cap, v = .slice ad l.length cap ∧ hd = [.sl ad l.length cap (Value.slice ad l.length cap).ownBlock] ∧ w.ownsRow C.w0.heap.size e 1 (.slice ad l.length cap) l.length (l.map (Value.int .i64)) := by
  cases hv with
  | sref _ ad n cap o hh =>
  have hob := hr.ob 0 _ _ rfl hh
  obtain ⟨e1, e2, e3, e4, e5⟩ := hob
  rw [iL_length] at e1
  subst e1
  rcases e5 with ⟨xs, f1, f2, f3⟩ | ⟨q, _⟩
  rotate_left
  · cases q
  have hl := hr.hl
  match hd, hh, hl with
  | [x], hh, _ =>
    simp only [List.getElem?_cons_zero, Option.some.injEq] at hh
    subst hh
    rw [iL_vals f3] at f1
    exact ⟨ad, cap, rfl, by rw [f2], f1⟩
theorem row_change (hr : StR C ⟨0, [], [.row e 1 true (iL l)]⟩ hd act0 w) {ad : Option Addr} {n n' cap : Nat} {o : Option Nat} (hh : hd = [.sl ad n cap o]) (ho2 : o = (Value.slice ad n' cap).ownBlock) (hg : w.grownBy w' o)
    (ho : w'.ownsRow C.w0.heap.size e 1 (.slice ad n' cap) n' (ys.map (Value.int .i64))) (hn : n' = ys.length) (hm : ys.length ≤ maxLen) : StR C ⟨0, [], [.row e 1 true (iL ys)]⟩ [.sl ad n' cap o] act0 w' := by
  subst hh
  have hown : ∀ b, o = some b → C.w0.heap.size ≤ b ∧ b < w.heap.size := fun b hb => hr.own _ b List.mem_cons_self hb
  have := hr.set (fun _ => none) 0 (.row e 1 true (iL ys)) _ (.sl ad n' cap o) rfl ((Below.refl _ w).grown hg hr.below.size fun k hk => (hown k hk).1) (fun b hb hne => hg.block b hb fun q => hne (by rw [← q]; rfl))
    (fun b hb => ⟨(hown b hb).1, Nat.lt_of_lt_of_le (hown b hb).2 hg.size, .inl hb⟩) (fun i j h e => by cases e) ⟨by rw [iL_length]; exact hn, Nat.one_pos, by rw [iL_length]; exact hm, fun x hx => by
      obtain ⟨y, _, rfl⟩ := List.mem_map.1 hx; rfl, .inl ⟨_, ho, ho2, iL_rep _ _ _⟩⟩
  exact this
end
section
variable {G : World → Prop}
theorem Sort_snd (e : Nat) (l : List Int) (hl : l.length < 4611686018427387904) : SndG Try.prog G 60 [.sref 0] [.row e 1 true (iL l)] [0] (.t (.tup [])) [.row e 1 true (iL (sortL l))] := by
  refine ⟨enter_body Try.func60 rfl rfl, Nat.le_refl _, fun i l h => ?_, fun C hd w vs hG hr hvs hrep => ?_⟩
  · match i, h with
    | 0, h => cases h
  · obtain ⟨v, rfl⟩ : ∃ v, vs = #[v] := by
      match vs, hvs with
      | ⟨[v]⟩, _ => exact ⟨v, rfl⟩
    obtain ⟨ad, cap, rfl, hd0, hown⟩ := row_open hr (hrep 0 _ _ rfl rfl)
    have fin : ∀ w', StR C ⟨0, [], [.row e 1 true (iL (sortL l))]⟩ [.sl ad l.length cap (Value.slice ad l.length cap).ownBlock] act0 w' → ∃ v hd', Ending.returned (.tuple #[]) = .returned v ∧ StR C ⟨0, [], [.row e 1 true (iL (sortL l))]⟩ hd' act0 w' ∧ (∀ (i : Nat) (q : List SV) (b : Nat), ([.row e 1 true (iL l)] : List Ob)[i]? = some (.box q) → hd[i]? = some (.bx b true) → hd'[i]? = some (.bx b true)) ∧ (∀ i ∈ [0], ∀ h, hd[i]? = some h → hd'[i]? = some h) ∧ RepS (vis C hd') w' hd' (.t (.tup [])) v := fun w' h => by
      refine ⟨_, _, rfl, h, fun i q b h1 h2 => ?_, fun i _ h e => by rw [← hd0]; exact e, .t _ _ (.tup [] #[] rfl fun k y v h => by simp at h)⟩
      match i, h1 with
      | 0, h1 => cases h1
    cases l with
    | nil =>
      refine (AnyM.slices_Sort_int_none Try.laySort ad cap w).mono fun e' w' ⟨h1, h2⟩ => ?_
      subst h1 h2
      refine fin _ ?_
      rw [← hd0, show sortL [] = [] from List.mergeSort_nil]; exact hr
    | cons x l =>
      rcases hown.2 with ⟨q, _⟩ | ⟨g, cap', cur, q, hB, hg, h1, h2, h3, h4⟩
      · cases q
      cases q
      obtain ⟨g', cap'', q, _, hlt, _, _, _, hH⟩ := holds_of_ownsRow hown (by simp)
      cases q
      refine (AnyM.slices_Sort_int Try.laySort g 0 cap (x :: l) w hH hlt hl).mono fun e' w' ⟨q1, n, os, q2⟩ => ?_
      subst q1 q2
      refine fin _ ?_
      refine row_change hr hd0 rfl (grownBy_sortedI _) ?_ (sortL_len _).symm (by rw [sortL_len]; omega)
      exact ownsRow_sortedI (sortL_len _) hB hg h1 h2 h3
theorem Compact_snd (e : Nat) (l : List Int) (hl : l.length ≤ 9223372036854775807) : SndG Try.prog G 61 [.sref 0] [.row e 1 true (iL l)] [] (.sref 0) [.row e 1 true (iL (Go.Lib.compact l))] := by
  refine ⟨enter_body Try.func61 rfl rfl, Nat.le_refl _, fun i l h => ?_, fun C hd w vs hG hr hvs hrep => ?_⟩
  · match i, h with
    | 0, h => cases h
  · obtain ⟨v, rfl⟩ : ∃ v, vs = #[v] := by
      match vs, hvs with
      | ⟨[v]⟩, _ => exact ⟨v, rfl⟩
    obtain ⟨ad, cap, rfl, hd0, hown⟩ := row_open hr (hrep 0 _ _ rfl rfl)
    have fin : ∀ n' w', StR C ⟨0, [], [.row e 1 true (iL (Go.Lib.compact l))]⟩ [.sl ad n' cap (Value.slice ad l.length cap).ownBlock] act0 w' → ∃ v hd', Ending.returned (.slice ad n' cap) = .returned v ∧ StR C ⟨0, [], [.row e 1 true (iL (Go.Lib.compact l))]⟩ hd' act0 w' ∧ (∀ (i : Nat) (q : List SV) (b : Nat), ([.row e 1 true (iL l)] : List Ob)[i]? = some (.box q) → hd[i]? = some (.bx b true) → hd'[i]? = some (.bx b true)) ∧ (∀ i ∈ ([] : List Nat), ∀ h, hd[i]? = some h → hd'[i]? = some h) ∧ RepS (vis C hd') w' hd' (.sref 0) v := fun n' w' h => by
      refine ⟨_, _, rfl, h, fun i q b h1 h2 => ?_, (fun i hi => by simp at hi), .sref _ _ _ _ _ rfl⟩
      match i, h1 with
      | 0, h1 => cases h1
    cases l with
    | nil =>
      refine (AnyG.slices_Compact_int_empty Try.layCompact ad cap w).mono fun e' w' ⟨h1, h2⟩ => ?_
      subst h1 h2
      refine fin _ _ ?_
      have hr2 := hr
      rw [hd0] at hr2
      exact hr2
    | cons x l =>
      rcases hown.2 with ⟨q, _⟩ | ⟨g, cap', cur, q, hB, hg, h1, h2, h3, h4⟩
      · cases q
      cases q
      obtain ⟨g', cap'', q, _, hlt, _, _, _, hH⟩ := holds_of_ownsRow hown (by simp)
      cases q
      refine (AnyG.slices_Compact_int Try.layCompact g 0 cap (x :: l) w hH hl h1).mono fun e' w' ⟨q1, n, q2⟩ => ?_
      subst q1 q2
      refine fin _ _ ?_
      have hcl : (Go.Lib.compact (x :: l)).length ≤ (x :: l).length := by
        show (compactUpTo _ _).length ≤ _
        unfold compactUpTo
        rw [List.length_map]
        exact Nat.le_trans (List.length_filter_le _ _) (by simp)
      refine row_change hr hd0 rfl (by have := grownBy_sortedI (w := w) (g := g) (n := n) (os := #[]) (Go.Lib.compact (x :: l) ++ List.replicate ((x :: l).length - (Go.Lib.compact (x :: l)).length) 0).toArray; rwa [grow_empty] at this) ?_ rfl (by omega)
      have := ownsRow_putRow (q := n) (k := (Go.Lib.compact (x :: l)).length) (ys := Go.Lib.compact (x :: l) ++ List.replicate ((x :: l).length - (Go.Lib.compact (x :: l)).length) 0) hown (by rw [List.length_append, List.length_replicate]; omega) hcl
      rw [List.take_left'] at this
      · exact this
      · rfl
end
end Go.Proofs.Ythcclcbliedodaa
namespace Go.Proofs.Ythcclcbliedodaa
open Go.RowKit

section
variable {G : World → Prop} (hG : Lasting G)
include hG
set_option maxHeartbeats 16000000 in
set_option maxRecDepth 100000 in
theorem find_snd (met : List (List Int)) (s : List Int) (hs : Small s) (hl : s.length ≤ 1000000) (hm : ∀ q ∈ met, Small q) (hnd : met.Nodup) (hml : met.length ≤ 100000) :
    SndG Try.prog G 59 [.sref 4, .bptr 0 0, .bptr 1 0] [.box [.map 2], .box [.sref 3], .map .str (strEntries met), .row 26 1 true (met.map tInts), .row 3 1 true (iL s)] [] (.t (tNat (idxS (addS met (canonL s)) (canonL s))))
      [.box [.map 2], .box [.sref 3], .map .str (strEntries (addS met (canonL s))), .row 26 1 true ((addS met (canonL s)).map tInts), .hole] := by
  refine sndG_of_body tt_ok Try.func59 rfl rfl (n := 50) rfl (rs := [.tmp 4]) rfl (Nat.le_refl _) [0, 1] (fun i l h => ?_) (fun i hi => ?_) fun bs => ?_
  · match i, h with
    | 0, h => cases h; exact ⟨by decide, _, rfl⟩
    | 1, h => cases h; exact ⟨by decide, _, rfl⟩
    | 2, h => cases h
    | 3, h => cases h
    | 4, h => cases h
  · match i, hi with
    | 0, _ => exact ⟨_, rfl⟩
    | 1, _ => exact ⟨_, rfl⟩
    | i + 2, hi => simp at hi
  obtain ⟨b0, hb0⟩ : ∃ b0, bs 0 = b0 := ⟨_, rfl⟩
  obtain ⟨b1, hb1⟩ : ∃ b1, bs 1 = b1 := ⟨_, rfl⟩
  show SW _ _ _ _ ⟨50, [(0, .sref 4), (1, .bptr 0 0), (2, .bptr 1 0), (50, .pin 0 (bs 0)), (51, .pin 1 (bs 1))], [.box [.map 2], .box [.sref 3], .map .str (strEntries met), .row 26 1 true (met.map tInts), .row 3 1 true (iL s)]⟩
  rw [hb0, hb1]
  have hsl := sortL_len s
  have hcl := canonL_len s
  have hcs := hs.canon
  have c1 := Sort_snd (G := G) 3 s (by omega)
  have c2 := Compact_snd (G := G) 3 (sortL s) (by omega)
  have hce : Go.Lib.compact (sortL s) = canonL s := rfl
  rw [hce] at c2
  have htb : Tab.ok Try.prog G [] := Tab.nil
  obtain ⟨ms, hms⟩ : ∃ ms, met.map tInts = ms := ⟨_, rfl⟩
  obtain ⟨es, hes⟩ : ∃ es, strEntries met = es := ⟨_, rfl⟩
  rw [hms, hes]
  repeat' (first | (with_reducible first | refine SW_seq ?_ | refine SW_block ?_ | refine SThen_n ?_ | refine SThen_r ?_ | refine SThen_e ?_ | refine SIn_n ?_ | refine SIn_r ?_ | refine SIn_eq ?_ | refine SW_skip ?_ | refine SW_exit ?_ | refine SW_ret ?_ | refine SPost_r ?_) | ((with_reducible refine SIn_ne ?_ ?_); focus decide) | ((with_reducible refine SW_true ?_ ?_); focus exact rfl) | ((with_reducible refine SW_false ?_ ?_); focus exact rfl) | ((with_reducible apply SW_run tt_ok hG htb); focus ((repeat' (first | (with_reducible exact runX_nil) | ((with_reducible apply runX_cons); focus (simp (discharger := omega) only [go_sem, simprocAttr]; with_reducible rfl)))); done)))
  refine SW_norm (Norm.headS (own := []) (keep := [0, 50, 51, 1, 2]) (by refine ⟨?_, ?_⟩; (simp (discharger := omega) only [go_sem, simprocAttr]; with_reducible rfl); refine ⟨?_, ?_, ?_, ?_⟩ <;> (simp only [go_sem, simprocAttr]; with_reducible rfl))) ?_
  refine SW_runG tt_ok hG htb 1 rfl (by simp only [List.take_succ_cons, List.take_zero]; rfl) (by simp only [List.drop_succ_cons, List.drop_zero, Nat.reduceAdd]; rfl) (by (repeat' (first | (with_reducible exact runX_nil) | ((with_reducible apply runX_cons); focus (simp (discharger := omega) only [go_sem, simprocAttr]; with_reducible rfl))))) rfl rfl (g := 60) (cap := []) (obs := [.row 3 1 true (iL s)]) (ks := [0]) (obs' := [.row 3 1 true (iL (sortL s))]) (rst := ?zra) (r := .t (.tup [])) (s2 := ?zsa) (s3 := ?zua) ?q1a ?q2a ?q3a ?q4a ?q5a ?q6a ?q7a ?q8a ?q9a ?q10a
  case q5a => exact c1
  case q1a => rfl
  case q2a => rfl
  case q3a => rfl
  case q4a => rfl
  case q6a => rfl
  case q7a => rfl
  case q8a =>
    simp only [go_sem, St.back, List.map_cons, List.map_nil, SV.ren, Ob.ren, renL, pastG, lateG, List.length_cons, List.length_nil, List.take_succ_cons, List.take_zero, List.drop_succ_cons, List.drop_zero, List.getElem?_cons_zero, List.getElem?_cons_succ, List.getElem?_nil]
    rfl
  case q9a => (repeat' (first | (with_reducible exact runX_nil) | ((with_reducible apply runX_cons); focus (simp (discharger := omega) only [go_sem, simprocAttr]; with_reducible rfl))))
  repeat' (first | (with_reducible first | refine SW_seq ?_ | refine SW_block ?_ | refine SThen_n ?_ | refine SThen_r ?_ | refine SThen_e ?_ | refine SIn_n ?_ | refine SIn_r ?_ | refine SIn_eq ?_ | refine SW_skip ?_ | refine SW_exit ?_ | refine SW_ret ?_ | refine SPost_r ?_) | ((with_reducible refine SIn_ne ?_ ?_); focus decide) | ((with_reducible refine SW_true ?_ ?_); focus exact rfl) | ((with_reducible refine SW_false ?_ ?_); focus exact rfl) | ((with_reducible apply SW_run tt_ok hG htb); focus ((repeat' (first | (with_reducible exact runX_nil) | ((with_reducible apply runX_cons); focus (simp (discharger := omega) only [go_sem, simprocAttr]; with_reducible rfl)))); done)))
  refine SW_norm (Norm.headS (own := []) (keep := [0, 50, 51, 1, 2]) (by refine ⟨?_, ?_⟩; (simp (discharger := omega) only [go_sem, simprocAttr]; with_reducible rfl); refine ⟨?_, ?_, ?_, ?_⟩ <;> (simp only [go_sem, simprocAttr]; with_reducible rfl))) ?_
  refine SW_runG tt_ok hG htb 1 rfl (by simp only [List.take_succ_cons, List.take_zero]; rfl) (by simp only [List.drop_succ_cons, List.drop_zero, Nat.reduceAdd]; rfl) (by (repeat' (first | (with_reducible exact runX_nil) | ((with_reducible apply runX_cons); focus (simp (discharger := omega) only [go_sem, simprocAttr]; with_reducible rfl))))) rfl rfl (g := 61) (cap := []) (obs := [.row 3 1 true (iL (sortL s))]) (ks := []) (obs' := [.row 3 1 true (iL (canonL s))]) (rst := ?zrb) (r := .sref 0) (s2 := ?zsb) (s3 := ?zub) ?q1b ?q2b ?q3b ?q4b ?q5b ?q6b ?q7b ?q8b ?q9b ?q10b
  case q5b => exact c2
  case q1b => rfl
  case q2b => rfl
  case q3b => rfl
  case q4b => rfl
  case q6b => rfl
  case q7b => rfl
  case q8b =>
    simp only [go_sem, St.back, List.map_cons, List.map_nil, SV.ren, Ob.ren, renL, pastG, lateG, List.length_cons, List.length_nil, List.take_succ_cons, List.take_zero, List.drop_succ_cons, List.drop_zero, List.getElem?_cons_zero, List.getElem?_cons_succ, List.getElem?_nil]
    rfl
  case q9b => (repeat' (first | (with_reducible exact runX_nil) | ((with_reducible apply runX_cons); focus (simp (discharger := omega) only [go_sem, simprocAttr]; with_reducible rfl))))
  repeat' (first | (with_reducible first | refine SW_seq ?_ | refine SW_block ?_ | refine SThen_n ?_ | refine SThen_r ?_ | refine SThen_e ?_ | refine SIn_n ?_ | refine SIn_r ?_ | refine SIn_eq ?_ | refine SW_skip ?_ | refine SW_exit ?_ | refine SW_ret ?_ | refine SPost_r ?_) | ((with_reducible refine SIn_ne ?_ ?_); focus decide) | ((with_reducible refine SW_true ?_ ?_); focus exact rfl) | ((with_reducible refine SW_false ?_ ?_); focus exact rfl) | ((with_reducible apply SW_run tt_ok hG htb); focus ((repeat' (first | (with_reducible exact runX_nil) | ((with_reducible apply runX_cons); focus (simp (discharger := omega) only [go_sem, simprocAttr]; with_reducible rfl)))); done)))
  refine SW_norm (Norm.frz (y := .list (iL (canonL s))) 0 rfl rfl) ?_
  refine SW_norm (Norm.datum 0 0 rfl rfl) ?_
  rw [show T.list (iL (canonL s)) = tInts (canonL s) from rfl]
  generalize hS : canonL s = S at *
  have hSl : S.length ≤ 1000000 := by omega
  repeat' (first | (with_reducible first | apply w1 | apply w2 | apply w3 | apply w4 | apply w5 | apply w6 | apply w7 | apply w8 | apply w9 | apply wa | apply wb | apply wc) | ((with_reducible apply wd); focus decide) | ((with_reducible apply we); focus exact rfl) | ((with_reducible apply wf); focus exact rfl) | ((first | (with_reducible apply SW_run tt_ok hG htb) | ((with_reducible apply SW_draw rfl tt_ok hG htb); (focus kernel_rfl); focus simp only [List.range, List.range.loop, List.size_toArray, List.length_cons, List.length_nil, Nat.reduceAdd])); focus ((repeat' (first | (with_reducible first | exact wg | exact wh) | ((with_reducible first | apply wi | apply wj); focus (simp (discharger := omega) only [go_sem, simprocAttr]; with_reducible rfl)))); done)))
  refine SW_loop (fun mm st => ∃ (i : Nat) (kt : List T), mm = S.length - i ∧ st = ⟨50, [(0, .t (tInts S)), (50, .pin 0 b0), (51, .pin 1 b1), (1, .bptr 0 0), (2, .bptr 1 0), (5, .sref 2), (17, .t (tInts S)), (18, .t (tNat S.length)), (19, .t (tNat i))], [.box [.map 3], .box [.sref 4], .row 5 1 true kt, .map .str es, .row 26 1 true ms]⟩ ∧ i ≤ S.length ∧ kt = (fillB S i).map tByte) S.length
    ⟨_, Norm.headS (own := []) (keep := [0, 50, 51, 1, 2, 5, 17, 18, 19]) (by refine ⟨?_, ?_⟩; (simp (discharger := omega) only [go_sem, simprocAttr]; with_reducible rfl); refine ⟨?_, ?_, ?_, ?_⟩ <;> (simp only [go_sem, simprocAttr]; with_reducible rfl)), 0, _, rfl, rfl, Nat.zero_le _, by rw [fillB_zero, List.map_replicate]; rfl⟩ ?_
  rintro mm st ⟨i, kt, rfl, rfl, hi, hkt⟩
  have hkl : kt.length = S.length := by rw [hkt, List.length_map, fillB_len hi]
  by_cases hlt : i < S.length
  · obtain ⟨x, hx⟩ : ∃ x, S[i]! = x := ⟨_, rfl⟩
    have hx2 := hcs x (bang_mem hx hlt)
    have hw : IntKind.u8.wrap x = x := by
      rw [show x = ((x.toNat : Nat) : Int) by omega, u8lo]; omega
    repeat' (first | (with_reducible first | apply w1 | apply w2 | apply w3 | apply w4 | apply w5 | apply w6 | apply w7 | apply w8 | apply w9 | apply wa | apply wb | apply wc) | ((with_reducible apply wd); focus decide) | ((with_reducible apply we); focus exact rfl) | ((with_reducible apply wf); focus exact rfl) | ((first | (with_reducible apply SW_run tt_ok hG htb) | ((with_reducible apply SW_draw rfl tt_ok hG htb); (focus kernel_rfl); focus simp only [List.range, List.range.loop, List.size_toArray, List.length_cons, List.length_nil, Nat.reduceAdd])); focus ((repeat' (first | (with_reducible first | exact wg | exact wh) | ((with_reducible first | apply wi | apply wj); focus (simp (discharger := omega) only [go_sem, hx, hw, simprocAttr]; with_reducible rfl)))); done)))
    exact ⟨S.length - (i + 1), _, by omega, Norm.headS (own := []) (keep := [0, 50, 51, 1, 2, 5, 17, 18, 19]) (by refine ⟨?_, ?_⟩; (simp (discharger := omega) only [go_sem, simprocAttr]; with_reducible rfl); refine ⟨?_, ?_, ?_, ?_⟩ <;> (simp only [go_sem, simprocAttr]; with_reducible rfl)), i + 1, _, rfl, rfl, by omega, by rw [← fillB_set (bang_get hx hlt), List.map_set, ← hkt]; rfl⟩
  · obtain rfl : i = S.length := by omega
    rw [fillB_all] at hkt
    subst hkt
    obtain ⟨ky, hky⟩ : ∃ ky, bytesStr S = ky := ⟨_, rfl⟩
    have hstr : (⟨(S.map fun n => UInt8.ofNat n.toNat).toArray⟩ : ByteArray) = ky := hky
    have hsz : ky.size ≤ 2000000 := by
      rw [← hky]
      simp only [bytesStr, ByteArray.size, List.size_toArray, List.length_map]; omega
    by_cases hin : S ∈ met
    · have hadd : addS met S = met := if_pos hin
      have hk := idx_get hin
      rw [hadd]
      generalize idxS met S = k at *
      have hget : mapGet es (.str ky) = some (tNat k) := by
        rw [← hes, ← hky]; exact strEntries_get_some hm hnd hk
      rw [hms, hes]
      repeat' (first | (with_reducible first | apply w1 | apply w2 | apply w3 | apply w4 | apply w5 | apply w6 | apply w7 | apply w8 | apply w9 | apply wa | apply wb | apply wc) | ((with_reducible apply wd); focus decide) | ((with_reducible apply we); focus exact rfl) | ((with_reducible apply wf); focus exact rfl) | ((first | (with_reducible apply SW_run tt_ok hG htb) | ((with_reducible apply SW_draw rfl tt_ok hG htb); (focus kernel_rfl); focus simp only [List.range, List.range.loop, List.size_toArray, List.length_cons, List.length_nil, Nat.reduceAdd])); focus ((repeat' (first | (with_reducible first | exact wg | exact wh) | ((with_reducible first | apply wi | apply wj); focus (simp (discharger := omega) only [go_sem, bytesOf_map, hstr, hget, simprocAttr]; with_reducible rfl)))); done)))
      subst hb0 hb1
      exact SPostG_r ((Norm.headS (own := []) (keep := [50, 51, 4]) (by refine ⟨?_, ?_⟩; (simp (discharger := omega) only [go_sem, simprocAttr]; with_reducible rfl); refine ⟨?_, ?_, ?_, ?_⟩ <;> (simp only [go_sem, simprocAttr]; with_reducible rfl))).trans (Norm.hole _)) rfl rfl (fun i hi => by
        match i, hi with
        | 0, _ => rfl
        | 1, _ => rfl
        | i + 2, hi => simp at hi)
    · have hadd : addS met S = met ++ [S] := if_neg hin
      have hget : mapGet es (.str ky) = none := by
        rw [← hes, ← hky]; exact strEntries_get_none hm hcs hin
      have hset : mapSet es (.str ky) (tNat met.length) = strEntries (met ++ [S]) := by
        rw [← hes, ← hky]; exact strEntries_set hm hcs hin
      have hml2 : ms.length = met.length := by rw [← hms]; simp
      rw [hadd, idx_new hin]
      have hms2 : (met ++ [S]).map tInts = ms ++ [tInts S] := by rw [List.map_append, hms]; rfl
      rw [← hset, hms2]
      repeat' (first | (with_reducible first | apply w1 | apply w2 | apply w3 | apply w4 | apply w5 | apply w6 | apply w7 | apply w8 | apply w9 | apply wa | apply wb | apply wc) | ((with_reducible apply wd); focus decide) | ((with_reducible apply we); focus exact rfl) | ((with_reducible apply wf); focus exact rfl) | ((first | (with_reducible apply SW_run tt_ok hG htb) | ((with_reducible apply SW_draw rfl tt_ok hG htb); (focus kernel_rfl); focus simp only [List.range, List.range.loop, List.size_toArray, List.length_cons, List.length_nil, Nat.reduceAdd])); focus ((repeat' (first | (with_reducible first | exact wg | exact wh) | ((with_reducible first | apply wi | apply wj); focus (simp (discharger := omega) only [go_sem, bytesOf_map, hstr, hget, hml2, simprocAttr]; with_reducible rfl)))); done)))
      subst hb0 hb1
      exact SPostG_r ((Norm.headS (own := []) (keep := [50, 51, 4]) (by refine ⟨?_, ?_⟩; (simp (discharger := omega) only [go_sem, simprocAttr]; with_reducible rfl); refine ⟨?_, ?_, ?_, ?_⟩ <;> (simp only [go_sem, simprocAttr]; with_reducible rfl))).trans (Norm.hole _)) rfl rfl (fun i hi => by
        match i, hi with
        | 0, _ => rfl
        | 1, _ => rfl
        | i + 2, hi => simp at hi)
end
end Go.Proofs.Ythcclcbliedodaa
namespace Go.Proofs.Ythcclcbliedodaa
open Go.RowKit

/-- What comes up of a step. -/
def nextD (stp : List Int → Nat → List Int) (s : List Int) (l : Nat) : List Int := canonL (stp s l)
def growOk (stp : List Int → Nat → List Int) (n : Nat) (first : List Int) : Bool := setsOk (nextD stp) n (canonL first)
def growSets (stp : List Int → Nat → List Int) (n : Nat) (first : List Int) : List (List Int) := if growOk stp n first = true then setsOf (nextD stp) n (canonL first) else []
def growRows (stp : List Int → Nat → List Int) (n : Nat) (first : List Int) : List (List Int) := if growOk stp n first = true then rowsOf (nextD stp) n (canonL first) else []
section
variable {G : World → Prop} (hG : Lasting G)
include hG
end
end Go.Proofs.Ythcclcbliedodaa
namespace Go.Proofs.Ythcclcbliedodaa
open Go.RowKit

section
variable {G : World → Prop} (hG : Lasting G)
include hG
set_option maxHeartbeats 4000000 in
theorem Run_snd (a : GAuto) (w : List Int) : Snd Try.prog G 40 [tAuto a, tInts w] (.tup [tInt (runOf a w), tErr (runErr a w)]) := by
  have htb := Tab.cons (Check_snd hG a) Tab.nil
  refine snd_of_body (n := 56) (tm := [(0, .t (tAuto a)), (1, .t (tInts w))]) (rs := [.tmp 4, .tmp 5]) tt_ok Try.func40 rfl rfl rfl rfl rfl ?_
  by_cases h0 : autoFault a = 0
  · have g := good_of h0
    have hlet : letters a = ((manyOf a.base a.tracks).toNat : Nat) := g.letters
    generalize (manyOf a.base a.tracks).toNat = n at g hlet
    generalize hm : a.next.length = m at g
    have hm0 := g.m0
    have hm80 := g.m80
    have hn36 := g.n36
    have e0 : runErr a w = longFault n w := by unfold runErr; rw [if_neg (by omega), hlet]
    have htb' := htb
    rw [h0] at htb
    clear htb'
    by_cases h4 : 400 < w.length
    · have e1 : runErr a w = 3 := by rw [e0]; unfold longFault; rw [if_pos h4]
      have e2 : runOf a w = 0 := by unfold runOf; rw [e1]; rfl
      rw [e1, e2]
      repeat' (first | (with_reducible first | apply w1 | apply w2 | apply w3 | apply w4 | apply w5 | apply w6 | apply w7 | apply w8 | apply w9 | apply wa | apply wb | apply wc) | ((with_reducible apply wd); focus decide) | ((with_reducible apply we); focus exact rfl) | ((with_reducible apply wf); focus exact rfl) | ((first | (with_reducible apply SW_run tt_ok hG htb) | ((with_reducible apply SW_draw rfl tt_ok hG htb); (focus kernel_rfl); focus simp only [List.range, List.range.loop, List.size_toArray, List.length_cons, List.length_nil, Nat.reduceAdd])); focus ((repeat' (first | (with_reducible first | exact wg | exact wh) | ((with_reducible first | apply wi | apply wj); focus (simp (discharger := omega) only [go_sem, tAuto, tErr, simprocAttr]; with_reducible rfl)))); done)))
      exact (by simp (discharger := omega) only [go_sem, tErr, simprocAttr])
    · obtain ⟨r0, hr0⟩ : ∃ r, a.next[0]! = r := ⟨_, rfl⟩
      have hr0l : r0.length = n := g.rows.row _ (bang_mem hr0 (by omega))
      repeat' (first | (with_reducible first | apply w1 | apply w2 | apply w3 | apply w4 | apply w5 | apply w6 | apply w7 | apply w8 | apply w9 | apply wa | apply wb | apply wc) | ((with_reducible apply wd); focus decide) | ((with_reducible apply we); focus exact rfl) | ((with_reducible apply wf); focus exact rfl) | ((first | (with_reducible apply SW_run tt_ok hG htb) | ((with_reducible apply SW_draw rfl tt_ok hG htb); (focus kernel_rfl); focus simp only [List.range, List.range.loop, List.size_toArray, List.length_cons, List.length_nil, Nat.reduceAdd])); focus ((repeat' (first | (with_reducible first | exact wg | exact wh) | ((with_reducible first | apply wi | apply wj); focus (simp (discharger := omega) only [go_sem, tAuto, tErr, simprocAttr]; with_reducible rfl)))); done)))
      refine SW_loop (fun k s => ∃ i : Nat, k = w.length - i ∧ s = ⟨56, [(1, .t (tInts w)), (2, .bptr 0 0), (21, .t (tInts w)), (22, .t (tInt w.length)), (23, .t (tInt i))], [.box [.t (tInt a.base), .t (tInt a.tracks), .t (tIntss a.next), .t (tBools a.ends)]]⟩ ∧ i ≤ w.length ∧ ∀ j (hj : j < w.length), j < i → 0 ≤ w[j] ∧ w[j] < (n : Int)) w.length
        ⟨_, Norm.headS (own := []) (keep := [1, 2, 21, 22, 23]) (by refine ⟨?_, ?_⟩; (simp (discharger := omega) only [go_sem, simprocAttr]; with_reducible rfl); refine ⟨?_, ?_, ?_, ?_⟩ <;> (simp only [go_sem, simprocAttr]; with_reducible rfl)), 0, rfl, rfl, Nat.zero_le _, fun j hj h => by omega⟩ ?_
      rintro k s ⟨i, rfl, rfl, hi, hA⟩
      by_cases hlt : i < w.length
      · obtain ⟨x, hx⟩ : ∃ x, w[i]! = x := ⟨_, rfl⟩
        have hat := bang_at hx hlt
        by_cases hx0 : 0 ≤ x
        · by_cases hxn : x < (n : Int)
          · repeat' (first | (with_reducible first | apply w1 | apply w2 | apply w3 | apply w4 | apply w5 | apply w6 | apply w7 | apply w8 | apply w9 | apply wa | apply wb | apply wc) | ((with_reducible apply wd); focus decide) | ((with_reducible apply we); focus exact rfl) | ((with_reducible apply wf); focus exact rfl) | ((first | (with_reducible apply SW_run tt_ok hG htb) | ((with_reducible apply SW_draw rfl tt_ok hG htb); (focus kernel_rfl); focus simp only [List.range, List.range.loop, List.size_toArray, List.length_cons, List.length_nil, Nat.reduceAdd])); focus ((repeat' (first | (with_reducible first | exact wg | exact wh) | ((with_reducible first | apply wi | apply wj); focus (simp (discharger := omega) only [go_sem, hx, hr0, simprocAttr]; with_reducible rfl)))); done)))
            exact ⟨w.length - (i + 1), _, by omega, Norm.headS (own := []) (keep := [1, 2, 21, 22, 23]) (by refine ⟨?_, ?_⟩; (simp (discharger := omega) only [go_sem, simprocAttr]; with_reducible rfl); refine ⟨?_, ?_, ?_, ?_⟩ <;> (simp only [go_sem, simprocAttr]; with_reducible rfl)), i + 1, rfl, rfl, by omega, fun j hj h => by
              by_cases e : j = i
              · subst e; rw [hat]; omega
              · exact hA j hj (by omega)⟩
          · have e1 : runErr a w = 1 := by rw [e0]; exact longFault_at h4 hlt (by rw [hat]; omega)
            have e2 : runOf a w = 0 := by unfold runOf; rw [e1]; rfl
            rw [e1, e2]
            repeat' (first | (with_reducible first | apply w1 | apply w2 | apply w3 | apply w4 | apply w5 | apply w6 | apply w7 | apply w8 | apply w9 | apply wa | apply wb | apply wc) | ((with_reducible apply wd); focus decide) | ((with_reducible apply we); focus exact rfl) | ((with_reducible apply wf); focus exact rfl) | ((first | (with_reducible apply SW_run tt_ok hG htb) | ((with_reducible apply SW_draw rfl tt_ok hG htb); (focus kernel_rfl); focus simp only [List.range, List.range.loop, List.size_toArray, List.length_cons, List.length_nil, Nat.reduceAdd])); focus ((repeat' (first | (with_reducible first | exact wg | exact wh) | ((with_reducible first | apply wi | apply wj); focus (simp (discharger := omega) only [go_sem, hx, hr0, simprocAttr]; with_reducible rfl)))); done)))
            exact (by simp (discharger := omega) only [go_sem, tErr, simprocAttr])
        · have e1 : runErr a w = 1 := by rw [e0]; exact longFault_at h4 hlt (by rw [hat]; omega)
          have e2 : runOf a w = 0 := by unfold runOf; rw [e1]; rfl
          rw [e1, e2]
          repeat' (first | (with_reducible first | apply w1 | apply w2 | apply w3 | apply w4 | apply w5 | apply w6 | apply w7 | apply w8 | apply w9 | apply wa | apply wb | apply wc) | ((with_reducible apply wd); focus decide) | ((with_reducible apply we); focus exact rfl) | ((with_reducible apply wf); focus exact rfl) | ((first | (with_reducible apply SW_run tt_ok hG htb) | ((with_reducible apply SW_draw rfl tt_ok hG htb); (focus kernel_rfl); focus simp only [List.range, List.range.loop, List.size_toArray, List.length_cons, List.length_nil, Nat.reduceAdd])); focus ((repeat' (first | (with_reducible first | exact wg | exact wh) | ((with_reducible first | apply wi | apply wj); focus (simp (discharger := omega) only [go_sem, hx, hr0, simprocAttr]; with_reducible rfl)))); done)))
          exact (by simp (discharger := omega) only [go_sem, tErr, simprocAttr])
      · obtain rfl : i = w.length := by omega
        have e1 : runErr a w = 0 := by rw [e0]; exact longFault_ok h4 fun j hj => hA j hj hj
        have e2 : runOf a w = runFrom a.next 0 w := by unfold runOf; rw [e1]; rfl
        rw [e1, e2]
        repeat' (first | (with_reducible first | apply w1 | apply w2 | apply w3 | apply w4 | apply w5 | apply w6 | apply w7 | apply w8 | apply w9 | apply wa | apply wb | apply wc) | ((with_reducible apply wd); focus decide) | ((with_reducible apply we); focus exact rfl) | ((with_reducible apply wf); focus exact rfl) | ((first | (with_reducible apply SW_run tt_ok hG htb) | ((with_reducible apply SW_draw rfl tt_ok hG htb); (focus kernel_rfl); focus simp only [List.range, List.range.loop, List.size_toArray, List.length_cons, List.length_nil, Nat.reduceAdd])); focus ((repeat' (first | (with_reducible first | exact wg | exact wh) | ((with_reducible first | apply wi | apply wj); focus (simp (discharger := omega) only [go_sem, simprocAttr]; with_reducible rfl)))); done)))
        refine SW_loop (fun k s => ∃ (i : Nat) (q : Int), k = w.length - i ∧ s = ⟨56, [(2, .bptr 0 0), (9, .t (tInt q)), (40, .t (tInts w)), (41, .t (tInt w.length)), (42, .t (tInt i))], [.box [.t (tInt a.base), .t (tInt a.tracks), .t (tIntss a.next), .t (tBools a.ends)]]⟩ ∧ i ≤ w.length ∧ q = runFrom a.next 0 (w.take i)) w.length
          ⟨_, Norm.headS (own := []) (keep := [2, 9, 40, 41, 42]) (by refine ⟨?_, ?_⟩; (simp (discharger := omega) only [go_sem, simprocAttr]; with_reducible rfl); refine ⟨?_, ?_, ?_, ?_⟩ <;> (simp only [go_sem, simprocAttr]; with_reducible rfl)), 0, 0, rfl, rfl, Nat.zero_le _, rfl⟩ ?_
        rintro k s ⟨i, q, rfl, rfl, hi, hq⟩
        have hAm : ∀ x ∈ w, 0 ≤ x ∧ x < (n : Int) := fun x hx => by obtain ⟨j, hj, rfl⟩ := List.mem_iff_getElem.1 hx; exact hA j hj hj
        have hqm : 0 ≤ q ∧ q < (m : Int) := by rw [hq]; exact runFrom_ok g.rows _ 0 (by omega) fun x hx => hAm x (List.mem_of_mem_take hx)
        by_cases hlt : i < w.length
        · obtain ⟨x, hx⟩ : ∃ x, w[i]! = x := ⟨_, rfl⟩
          have hxn := hAm x (bang_mem hx hlt)
          obtain ⟨row, hrow⟩ : ∃ row, a.next[q.toNat]! = row := ⟨_, rfl⟩
          have hrl : row.length = n := g.rows.row _ (bang_mem hrow (by omega))
          obtain ⟨u, hu⟩ : ∃ u, row[x.toNat]! = u := ⟨_, rfl⟩
          have hstep := runFrom_take a.next hx hlt 0
          rw [← hq, nextOf_bang hrow (by omega) hu (by omega)] at hstep
          repeat' (first | (with_reducible first | apply w1 | apply w2 | apply w3 | apply w4 | apply w5 | apply w6 | apply w7 | apply w8 | apply w9 | apply wa | apply wb | apply wc) | ((with_reducible apply wd); focus decide) | ((with_reducible apply we); focus exact rfl) | ((with_reducible apply wf); focus exact rfl) | ((first | (with_reducible apply SW_run tt_ok hG htb) | ((with_reducible apply SW_draw rfl tt_ok hG htb); (focus kernel_rfl); focus simp only [List.range, List.range.loop, List.size_toArray, List.length_cons, List.length_nil, Nat.reduceAdd])); focus ((repeat' (first | (with_reducible first | exact wg | exact wh) | ((with_reducible first | apply wi | apply wj); focus (simp (discharger := omega) only [go_sem, hx, hrow, hu, simprocAttr]; with_reducible rfl)))); done)))
          exact ⟨w.length - (i + 1), _, by omega, Norm.headS (own := []) (keep := [2, 9, 40, 41, 42]) (by refine ⟨?_, ?_⟩; (simp (discharger := omega) only [go_sem, simprocAttr]; with_reducible rfl); refine ⟨?_, ?_, ?_, ?_⟩ <;> (simp only [go_sem, simprocAttr]; with_reducible rfl)), i + 1, u, rfl, rfl, by omega, hstep.symm⟩
        · obtain rfl : i = w.length := by omega
          rw [List.take_length] at hq
          rw [← hq]
          repeat' (first | (with_reducible first | apply w1 | apply w2 | apply w3 | apply w4 | apply w5 | apply w6 | apply w7 | apply w8 | apply w9 | apply wa | apply wb | apply wc) | ((with_reducible apply wd); focus decide) | ((with_reducible apply we); focus exact rfl) | ((with_reducible apply wf); focus exact rfl) | ((first | (with_reducible apply SW_run tt_ok hG htb) | ((with_reducible apply SW_draw rfl tt_ok hG htb); (focus kernel_rfl); focus simp only [List.range, List.range.loop, List.size_toArray, List.length_cons, List.length_nil, Nat.reduceAdd])); focus ((repeat' (first | (with_reducible first | exact wg | exact wh) | ((with_reducible first | apply wi | apply wj); focus (simp (discharger := omega) only [go_sem, simprocAttr]; with_reducible rfl)))); done)))
          exact (by simp (discharger := omega) only [go_sem, tErr, simprocAttr])
  · have e1 : runErr a w = autoFault a := by unfold runErr; rw [if_pos h0]
    have e2 : runOf a w = 0 := by unfold runOf; rw [e1, if_neg h0]
    rw [e1, e2]
    generalize autoFault a = e at *
    repeat' (first | (with_reducible first | apply w1 | apply w2 | apply w3 | apply w4 | apply w5 | apply w6 | apply w7 | apply w8 | apply w9 | apply wa | apply wb | apply wc) | ((with_reducible apply wd); focus decide) | ((with_reducible apply we); focus exact rfl) | ((with_reducible apply wf); focus exact rfl) | ((first | (with_reducible apply SW_run tt_ok hG htb) | ((with_reducible apply SW_draw rfl tt_ok hG htb); (focus kernel_rfl); focus simp only [List.range, List.range.loop, List.size_toArray, List.length_cons, List.length_nil, Nat.reduceAdd])); focus ((repeat' (first | (with_reducible first | exact wg | exact wh) | ((with_reducible first | apply wi | apply wj); focus (simp (discharger := omega) only [go_sem, tAuto, tErr, h0, simprocAttr]; with_reducible rfl)))); done)))
    exact (by simp (discharger := omega) only [go_sem, tErr, h0, simprocAttr])
theorem Takes_snd (a : GAuto) (w : List Int) : Snd Try.prog G 17 [tAuto a, tInts w] (.tup [.bool (takesOf a w), tErr (runErr a w)]) := by
  have htb := Tab.cons (Run_snd hG a w) Tab.nil
  refine snd_of_body (n := 24) (tm := [(0, .t (tAuto a)), (1, .t (tInts w))]) (rs := [.tmp 4, .tmp 5]) tt_ok Try.func17 rfl rfl rfl rfl rfl ?_
  by_cases h0 : runErr a w = 0
  · obtain ⟨h1, h2, h3⟩ := runErr_zero h0
    have g := good_of h1
    have hq := runFrom_ok g.rows w 0 (by have := g.m0; omega) (by rw [← g.letters]; exact h3)
    have e2 : runOf a w = runFrom a.next 0 w := by unfold runOf; rw [h0]; rfl
    have he := g.ends
    have e3 : takesOf a w = a.ends[(runFrom a.next 0 w).toNat]! := by
      unfold takesOf endOf; rw [h0, getD_lt (by omega), getElem!_pos a.ends _ (by omega)]; rfl
    rw [e3, h0]
    rw [h0, e2] at htb
    generalize runFrom a.next 0 w = q at *
    repeat' (first | (with_reducible first | apply w1 | apply w2 | apply w3 | apply w4 | apply w5 | apply w6 | apply w7 | apply w8 | apply w9 | apply wa | apply wb | apply wc) | ((with_reducible apply wd); focus decide) | ((with_reducible apply we); focus exact rfl) | ((with_reducible apply wf); focus exact rfl) | ((first | (with_reducible apply SW_run tt_ok hG htb) | ((with_reducible apply SW_draw rfl tt_ok hG htb); (focus kernel_rfl); focus simp only [List.range, List.range.loop, List.size_toArray, List.length_cons, List.length_nil, Nat.reduceAdd])); focus ((repeat' (first | (with_reducible first | exact wg | exact wh) | ((with_reducible first | apply wi | apply wj); focus (simp (discharger := omega) only [go_sem, tAuto, tErr, simprocAttr]; with_reducible rfl)))); done)))
    exact (by simp (discharger := omega) only [go_sem, tErr, simprocAttr])
  · have e2 : takesOf a w = false := by unfold takesOf; simp [h0]
    rw [e2]
    generalize runErr a w = e at *
    repeat' (first | (with_reducible first | apply w1 | apply w2 | apply w3 | apply w4 | apply w5 | apply w6 | apply w7 | apply w8 | apply w9 | apply wa | apply wb | apply wc) | ((with_reducible apply wd); focus decide) | ((with_reducible apply we); focus exact rfl) | ((with_reducible apply wf); focus exact rfl) | ((first | (with_reducible apply SW_run tt_ok hG htb) | ((with_reducible apply SW_draw rfl tt_ok hG htb); (focus kernel_rfl); focus simp only [List.range, List.range.loop, List.size_toArray, List.length_cons, List.length_nil, Nat.reduceAdd])); focus ((repeat' (first | (with_reducible first | exact wg | exact wh) | ((with_reducible first | apply wi | apply wj); focus (simp (discharger := omega) only [go_sem, tAuto, tErr, h0, simprocAttr]; with_reducible rfl)))); done)))
    exact (by simp (discharger := omega) only [go_sem, tErr, h0, simprocAttr])
end
end Go.Proofs.Ythcclcbliedodaa
namespace Go.Proofs.Ythcclcbliedodaa
open Go.RowKit

section
variable {G : World → Prop} (hG : Lasting G)
include hG
end
/-- The states to which words of some letters lead, in the order in which they are found. -/
def closeD (a : GAuto) (letters : List Int) (s : Int) (j : Nat) : Int := nx a.next s (letters[j]!).toNat
def closeL (a : GAuto) (letters : List Int) : List Int := growS (closeD a letters) letters.length 0 a.next.length
section
variable {G : World → Prop} (hG : Lasting G)
include hG
end
end Go.Proofs.Ythcclcbliedodaa
namespace Go.Proofs.Ythcclcbliedodaa
open Go.RowKit

section
variable {G : World → Prop} (hG : Lasting G)
include hG
theorem IndexFunc_snd (l : List Int) (gf : Nat) (cap : List T) (p : Int → Bool) (hp : ∀ x ∈ l, Snd Try.prog G gf ([tInt x] ++ cap) (.bool (p x))) : Snd Try.prog G 63 [tInts l, .fn gf cap] (tInt (if l.any p = true then ((l.findIdx p : Nat) : Int) else -1)) := by
  have htb : Tab.ok Try.prog G [] := Tab.nil
  refine snd_of_body (n := 19) (tm := [(0, .t (tInts l)), (1, .t (.fn gf cap))]) (rs := [.tmp 4]) tt_ok Try.func63 rfl rfl rfl rfl rfl ?_
  refine SW_len (t := 0) (l := _) rfl fun hlen => ?_
  rw [List.length_map] at hlen
  repeat' (first | (with_reducible first | apply w1 | apply w2 | apply w3 | apply w4 | apply w5 | apply w6 | apply w7 | apply w8 | apply w9 | apply wa | apply wb | apply wc) | ((with_reducible apply wd); focus decide) | ((with_reducible apply we); focus exact rfl) | ((with_reducible apply wf); focus exact rfl) | ((first | (with_reducible apply SW_run tt_ok hG htb) | ((with_reducible apply SW_draw rfl tt_ok hG htb); (focus kernel_rfl); focus simp only [List.range, List.range.loop, List.size_toArray, List.length_cons, List.length_nil, Nat.reduceAdd])); focus ((repeat' (first | (with_reducible first | exact wg | exact wh) | ((with_reducible first | apply wi | apply wj); focus (simp (discharger := omega) only [go_sem, simprocAttr]; with_reducible rfl)))); done)))
  refine SW_loop (fun mm st => ∃ i : Nat, mm = l.length - i ∧ st = ⟨19, [(0, .t (tInts l)), (1, .t (.fn gf cap)), (7, .t (tNat l.length)), (8, .t (tNat i))], []⟩ ∧ i ≤ l.length ∧ ∀ (j : Nat) (x : Int), j < i → l[j]? = some x → p x = false) l.length
    ⟨_, Norm.headS (own := []) (keep := [0, 1, 7, 8]) (by refine ⟨?_, ?_⟩; (simp (discharger := omega) only [go_sem, simprocAttr]; with_reducible rfl); refine ⟨?_, ?_, ?_, ?_⟩ <;> (simp only [go_sem, simprocAttr]; with_reducible rfl)), 0, rfl, rfl, Nat.zero_le _, fun j x hj => by omega⟩ ?_
  rintro mm st ⟨i, rfl, rfl, hi, hno⟩
  by_cases hlt : i < l.length
  · obtain ⟨y, hy⟩ : ∃ y, l[i]! = y := ⟨_, rfl⟩
    have hg := bang_get hy hlt
    have c1 := hp y (List.mem_of_getElem? hg)
    cases hpy : p y with
    | true =>
      rw [hpy] at c1
      have hany : l.any p = true := List.any_eq_true.2 ⟨y, List.mem_of_getElem? hg, hpy⟩
      have hidx : l.findIdx p = i := by
        rw [List.findIdx_eq hlt]
        obtain ⟨q1, q2⟩ := List.getElem?_eq_some_iff.1 hg
        refine ⟨by rw [q2]; exact hpy, fun j hj => hno j _ hj (List.getElem?_eq_getElem (by omega))⟩
      rw [if_pos hany, hidx]
      have htb := Tab.cons c1 Tab.nil
      repeat' (first | (with_reducible first | apply w1 | apply w2 | apply w3 | apply w4 | apply w5 | apply w6 | apply w7 | apply w8 | apply w9 | apply wa | apply wb | apply wc) | ((with_reducible apply wd); focus decide) | ((with_reducible apply we); focus exact rfl) | ((with_reducible apply wf); focus exact rfl) | ((first | (with_reducible apply SW_run tt_ok hG htb) | ((with_reducible apply SW_draw rfl tt_ok hG htb); (focus kernel_rfl); focus simp only [List.range, List.range.loop, List.size_toArray, List.length_cons, List.length_nil, Nat.reduceAdd])); focus ((repeat' (first | (with_reducible first | exact wg | exact wh) | ((with_reducible first | apply wi | apply wj); focus (simp (discharger := omega) only [go_sem, hy, simprocAttr]; with_reducible rfl)))); done)))
      exact (by simp (discharger := omega) only [go_sem, simprocAttr])
    | false =>
      rw [hpy] at c1
      have htb := Tab.cons c1 Tab.nil
      repeat' (first | (with_reducible first | apply w1 | apply w2 | apply w3 | apply w4 | apply w5 | apply w6 | apply w7 | apply w8 | apply w9 | apply wa | apply wb | apply wc) | ((with_reducible apply wd); focus decide) | ((with_reducible apply we); focus exact rfl) | ((with_reducible apply wf); focus exact rfl) | ((first | (with_reducible apply SW_run tt_ok hG htb) | ((with_reducible apply SW_draw rfl tt_ok hG htb); (focus kernel_rfl); focus simp only [List.range, List.range.loop, List.size_toArray, List.length_cons, List.length_nil, Nat.reduceAdd])); focus ((repeat' (first | (with_reducible first | exact wg | exact wh) | ((with_reducible first | apply wi | apply wj); focus (simp (discharger := omega) only [go_sem, hy, simprocAttr]; with_reducible rfl)))); done)))
      exact ⟨l.length - (i + 1), _, by omega, Norm.headS (own := []) (keep := [0, 1, 7, 8]) (by refine ⟨?_, ?_⟩; (simp (discharger := omega) only [go_sem, simprocAttr]; with_reducible rfl); refine ⟨?_, ?_, ?_, ?_⟩ <;> (simp only [go_sem, simprocAttr]; with_reducible rfl)), i + 1, rfl, rfl, by omega, fun j x hj hx => by
        by_cases e : j = i
        · subst e; rw [hg] at hx; cases hx; exact hpy
        · exact hno j x (by omega) hx⟩
  · obtain rfl : i = l.length := by omega
    have hno2 : ¬ l.any p = true := fun q => by
      obtain ⟨x, hx, h2⟩ := List.any_eq_true.1 q
      obtain ⟨j, hj⟩ := List.mem_iff_getElem?.1 hx
      rw [hno j x (List.getElem?_eq_some_iff.1 hj).1 hj] at h2
      cases h2
    rw [if_neg hno2]
    repeat' (first | (with_reducible first | apply w1 | apply w2 | apply w3 | apply w4 | apply w5 | apply w6 | apply w7 | apply w8 | apply w9 | apply wa | apply wb | apply wc) | ((with_reducible apply wd); focus decide) | ((with_reducible apply we); focus exact rfl) | ((with_reducible apply wf); focus exact rfl) | ((first | (with_reducible apply SW_run tt_ok hG htb) | ((with_reducible apply SW_draw rfl tt_ok hG htb); (focus kernel_rfl); focus simp only [List.range, List.range.loop, List.size_toArray, List.length_cons, List.length_nil, Nat.reduceAdd])); focus ((repeat' (first | (with_reducible first | exact wg | exact wh) | ((with_reducible first | apply wi | apply wj); focus (simp (discharger := omega) only [go_sem, simprocAttr]; with_reducible rfl)))); done)))
    exact (by simp (discharger := omega) only [go_sem, simprocAttr])
theorem ContainsFunc_snd (l : List Int) (gf : Nat) (cap : List T) (p : Int → Bool) (hp : ∀ x ∈ l, Snd Try.prog G gf ([tInt x] ++ cap) (.bool (p x))) : Snd Try.prog G 54 [tInts l, .fn gf cap] (.bool (l.any p)) := by
  have c1 := IndexFunc_snd hG l gf cap p hp
  refine snd_of_body (n := 9) (tm := [(0, .t (tInts l)), (1, .t (.fn gf cap))]) (rs := [.tmp 4]) tt_ok Try.func54 rfl rfl rfl rfl rfl ?_
  cases h : l.any p with
  | true =>
    rw [h, if_pos rfl] at c1
    have htb := Tab.cons c1 Tab.nil
    have h2 : ((l.findIdx p : Nat) : Int) ≥ 0 := by omega
    generalize l.findIdx p = k at *
    repeat' (first | (with_reducible first | apply w1 | apply w2 | apply w3 | apply w4 | apply w5 | apply w6 | apply w7 | apply w8 | apply w9 | apply wa | apply wb | apply wc) | ((with_reducible apply wd); focus decide) | ((with_reducible apply we); focus exact rfl) | ((with_reducible apply wf); focus exact rfl) | ((first | (with_reducible apply SW_run tt_ok hG htb) | ((with_reducible apply SW_draw rfl tt_ok hG htb); (focus kernel_rfl); focus simp only [List.range, List.range.loop, List.size_toArray, List.length_cons, List.length_nil, Nat.reduceAdd])); focus ((repeat' (first | (with_reducible first | exact wg | exact wh) | ((with_reducible first | apply wi | apply wj); focus (simp (discharger := omega) only [go_sem, h2, simprocAttr]; with_reducible rfl)))); done)))
    exact (by simp (discharger := omega) only [go_sem, h2, simprocAttr])
  | false =>
    rw [h, if_neg (by decide)] at c1
    have htb := Tab.cons c1 Tab.nil
    repeat' (first | (with_reducible first | apply w1 | apply w2 | apply w3 | apply w4 | apply w5 | apply w6 | apply w7 | apply w8 | apply w9 | apply wa | apply wb | apply wc) | ((with_reducible apply wd); focus decide) | ((with_reducible apply we); focus exact rfl) | ((with_reducible apply wf); focus exact rfl) | ((first | (with_reducible apply SW_run tt_ok hG htb) | ((with_reducible apply SW_draw rfl tt_ok hG htb); (focus kernel_rfl); focus simp only [List.range, List.range.loop, List.size_toArray, List.length_cons, List.length_nil, Nat.reduceAdd])); focus ((repeat' (first | (with_reducible first | exact wg | exact wh) | ((with_reducible first | apply wi | apply wj); focus (simp (discharger := omega) only [go_sem, simprocAttr]; with_reducible rfl)))); done)))
    exact (by simp (discharger := omega) only [go_sem, simprocAttr])
theorem Ends_snd (sets : List (List Int)) (hlen : sets.length ≤ 100000) (gf : Nat) (cap : List T) (p : Int → Bool) (hp : ∀ s ∈ sets, ∀ x ∈ s, Snd Try.prog G gf ([tInt x] ++ cap) (.bool (p x))) : Snd Try.prog G 38 [tIntss sets, .fn gf cap] (tBools (sets.map fun s => s.any p)) := by
  have htb : Tab.ok Try.prog G [] := Tab.nil
  refine snd_of_body (n := 22) (tm := [(0, .t (tIntss sets)), (1, .t (.fn gf cap))]) (rs := [.tmp 4]) tt_ok Try.func38 rfl rfl rfl rfl rfl ?_
  repeat' (first | (with_reducible first | apply w1 | apply w2 | apply w3 | apply w4 | apply w5 | apply w6 | apply w7 | apply w8 | apply w9 | apply wa | apply wb | apply wc) | ((with_reducible apply wd); focus decide) | ((with_reducible apply we); focus exact rfl) | ((with_reducible apply wf); focus exact rfl) | ((first | (with_reducible apply SW_run tt_ok hG htb) | ((with_reducible apply SW_draw rfl tt_ok hG htb); (focus kernel_rfl); focus simp only [List.range, List.range.loop, List.size_toArray, List.length_cons, List.length_nil, Nat.reduceAdd])); focus ((repeat' (first | (with_reducible first | exact wg | exact wh) | ((with_reducible first | apply wi | apply wj); focus (simp (discharger := omega) only [go_sem, simprocAttr]; with_reducible rfl)))); done)))
  refine SW_loop (fun mm st => ∃ (i : Nat) (bs : List T), mm = sets.length - i ∧ st = ⟨22, [(1, .t (.fn gf cap)), (5, .sref 0), (8, .t (tIntss sets)), (9, .t (tNat sets.length)), (10, .t (tNat i))], [.row 4 1 true bs]⟩ ∧ i ≤ sets.length ∧ bs = ((sets.take i).map fun s => s.any p).map T.bool) sets.length
    ⟨_, Norm.headS (own := [(5, 4, 1, true)]) (keep := [1, 5, 8, 9, 10]) (by refine ⟨?_, ?_⟩; (simp (discharger := omega) only [go_sem, simprocAttr]; with_reducible rfl); refine ⟨?_, ?_, ?_, ?_⟩ <;> (simp only [go_sem, simprocAttr]; with_reducible rfl)), 0, _, rfl, rfl, Nat.zero_le _, rfl⟩ ?_
  rintro mm st ⟨i, bs, rfl, rfl, hi, hbs⟩
  have hbl : bs.length = i := by rw [hbs]; simp; omega
  by_cases hlt : i < sets.length
  · obtain ⟨s, hs⟩ : ∃ s, sets[i]! = s := ⟨_, rfl⟩
    have hg := bang_get hs hlt
    have c1 := ContainsFunc_snd hG s gf cap p (hp s (List.mem_of_getElem? hg))
    have htk : sets.take (i + 1) = sets.take i ++ [s] := by
      rw [List.take_succ_eq_append_getElem hlt]
      obtain ⟨q1, q2⟩ := List.getElem?_eq_some_iff.1 hg
      rw [q2]
    have hb2 : ((sets.take (i + 1)).map fun s => s.any p).map T.bool = bs ++ [.bool (s.any p)] := by rw [htk, hbs]; simp
    generalize s.any p = b at *
    have htb := Tab.cons c1 Tab.nil
    repeat' (first | (with_reducible first | apply w1 | apply w2 | apply w3 | apply w4 | apply w5 | apply w6 | apply w7 | apply w8 | apply w9 | apply wa | apply wb | apply wc) | ((with_reducible apply wd); focus decide) | ((with_reducible apply we); focus exact rfl) | ((with_reducible apply wf); focus exact rfl) | ((first | (with_reducible apply SW_run tt_ok hG htb) | ((with_reducible apply SW_draw rfl tt_ok hG htb); (focus kernel_rfl); focus simp only [List.range, List.range.loop, List.size_toArray, List.length_cons, List.length_nil, Nat.reduceAdd])); focus ((repeat' (first | (with_reducible first | exact wg | exact wh) | ((with_reducible first | apply wi | apply wj); focus (simp (discharger := omega) only [go_sem, hs, hbl, simprocAttr]; with_reducible rfl)))); done)))
    exact ⟨sets.length - (i + 1), _, by omega, Norm.headS (own := []) (keep := [1, 5, 8, 9, 10]) (by refine ⟨?_, ?_⟩; (simp (discharger := omega) only [go_sem, simprocAttr]; with_reducible rfl); refine ⟨?_, ?_, ?_, ?_⟩ <;> (simp only [go_sem, simprocAttr]; with_reducible rfl)), i + 1, _, rfl, rfl, by omega, hb2.symm⟩
  · obtain rfl : i = sets.length := by omega
    rw [List.take_length] at hbs
    repeat' (first | (with_reducible first | apply w1 | apply w2 | apply w3 | apply w4 | apply w5 | apply w6 | apply w7 | apply w8 | apply w9 | apply wa | apply wb | apply wc) | ((with_reducible apply wd); focus decide) | ((with_reducible apply we); focus exact rfl) | ((with_reducible apply wf); focus exact rfl) | ((first | (with_reducible apply SW_run tt_ok hG htb) | ((with_reducible apply SW_draw rfl tt_ok hG htb); (focus kernel_rfl); focus simp only [List.range, List.range.loop, List.size_toArray, List.length_cons, List.length_nil, Nat.reduceAdd])); focus ((repeat' (first | (with_reducible first | exact wg | exact wh) | ((with_reducible first | apply wi | apply wj); focus (simp (discharger := omega) only [go_sem, simprocAttr]; with_reducible rfl)))); done)))
    exact (by simp (discharger := omega) only [go_sem, hbs, simprocAttr])
end
end Go.Proofs.Ythcclcbliedodaa
namespace Go.Proofs.Ythcclcbliedodaa
open Go.RowKit

section
variable {G : World → Prop} (hG : Lasting G)
include hG
end
end Go.Proofs.Ythcclcbliedodaa
namespace Go.Proofs.Ythcclcbliedodaa
open Go.RowKit

/-- What a map from looks to classes holds. -/
def entries (κ : Int → ByteArray) (R : List Int) : List (T × T) := R.zipIdx.map fun p => (.str (κ p.1), tNat p.2)
theorem entries_length (κ : Int → ByteArray) (R : List Int) : (entries κ R).length = R.length := by simp [entries]
theorem entries_mem {κ : Int → ByteArray} {R : List Int} {p : T × T} (h : p ∈ entries κ R) : ∃ r ∈ R, p.1 = .str (κ r) := by
  obtain ⟨q, hq, rfl⟩ := List.mem_map.1 h
  have := (List.mem_zipIdx_iff_getElem?.1 (show (q.1, q.2) ∈ R.zipIdx from hq))
  exact ⟨q.1, List.mem_of_getElem? this, rfl⟩
theorem entries_none {κ : Int → ByteArray} {R : List Int} {s : Int} (h : ∀ r ∈ R, κ r ≠ κ s) : ∀ p ∈ entries κ R, p.1 ≠ .str (κ s) := fun p hp e => by
  obtain ⟨r, hr, e2⟩ := entries_mem hp
  rw [e2] at e
  exact h r hr (T.str.inj e)
theorem entries_get_none {κ : Int → ByteArray} {R : List Int} {s : Int} (h : ∀ r ∈ R, κ r ≠ κ s) : mapGet (entries κ R) (.str (κ s)) = none := mapGet_none (entries_none h)
theorem entries_set {κ : Int → ByteArray} {R : List Int} {s : Int} (h : ∀ r ∈ R, κ r ≠ κ s) : mapSet (entries κ R) (.str (κ s)) (tNat R.length) = entries κ (R ++ [s]) := by
  rw [mapSet_none (entries_none h)]; simp [entries, List.zipIdx_append]
theorem entries_get_some {κ : Int → ByteArray} {R : List Int} {s r : Int} {k : Nat} (hd : R.Pairwise fun r q => κ r ≠ κ q) (hk : R[k]? = some r) (he : κ r = κ s) : mapGet (entries κ R) (.str (κ s)) = some (tNat k) := by
  refine mapGet_some (j := k) (p := (.str (κ r), tNat k)) ?_ ?_ (by rw [he])
  · rw [List.pairwise_iff_getElem]
    intro i j hi hj hij e
    simp only [entries, List.getElem_map, List.getElem_zipIdx] at e
    rw [entries_length] at hi hj
    exact List.pairwise_iff_getElem.1 hd i j hi hj hij (T.str.inj e)
  · simp [entries, List.getElem?_map, List.getElem?_zipIdx, hk]
/-- What Shrink hands back. -/
noncomputable def shrinkT (base tracks : Int) (n : Nat) (next : List (List Int)) (ends : List Bool) : T :=
  if (leastRE n next ends).1.length ≤ 80 then .tup [tAuto ⟨base, tracks, (leastRE n next ends).1, (leastRE n next ends).2⟩, .bool true] else .tup [tAuto GAuto.zero, .bool false]
section
variable {G : World → Prop} (hG : Lasting G)
include hG
set_option maxHeartbeats 4000000 in
set_option maxRecDepth 100000 in
theorem Shrink_big (base tracks : Int) {n m : Nat} {next : List (List Int)} {ends : List Bool} (hR : Rows0 n m next) (hm : 0 < m) (hm2 : m ≤ 2000000) (hm3 : (leastRE n next ends).1.length ≤ 65536) (he : ends.length = m) (hn : n ≤ 1000) :
    Snd Try.prog G 37 [tInt base, tInt tracks, tIntss next, tBools ends] (shrinkT base tracks n next ends) := by
  have htb : Tab.ok Try.prog G [] := Tab.nil
  have hlen := hR.len
  refine snd_of_body (n := 220) (tm := [(0, .t (tInt base)), (1, .t (tInt tracks)), (2, .t (tIntss next)), (3, .t (tBools ends))]) (rs := [.cell 8 25, .tmp 9]) tt_ok Try.func37 rfl rfl rfl rfl rfl ?_
  repeat' (first | (with_reducible first | apply w1 | apply w2 | apply w3 | apply w4 | apply w5 | apply w6 | apply w7 | apply w8 | apply w9 | apply wa | apply wb | apply wc) | ((with_reducible apply wd); focus decide) | ((with_reducible apply we); focus exact rfl) | ((with_reducible apply wf); focus exact rfl) | ((first | (with_reducible apply SW_run tt_ok hG htb) | ((with_reducible apply SW_draw rfl tt_ok hG htb); (focus kernel_rfl); focus simp only [List.range, List.range.loop, List.size_toArray, List.length_cons, List.length_nil, Nat.reduceAdd])); focus ((repeat' (first | (with_reducible first | exact wg | exact wh) | ((with_reducible first | apply wi | apply wj); focus (simp (discharger := omega) only [go_sem, simprocAttr]; with_reducible rfl)))); done)))
  refine SW_loop (fun k s => ∃ (i : Nat) (out : List Int) (ot st : List T), k = m - i ∧ s = ⟨220, [(0, .t (tInt base)), (1, .t (tInt tracks)), (2, .t (tIntss next)), (3, .t (tBools ends)), (8, .bptr 0 0), (10, .sref 1), (11, .sref 2), (12, .t (tInt i))], [.box [.t (tInt 0), .t (tInt 0), .nil, .nil], .row 3 1 false ot, .row 4 1 true st]⟩ ∧
      ot = out.map tInt ∧ st = (seenOf m out).map T.bool ∧ i ≤ out.length ∧ MetOk m out ∧ Bfs next n out i 0) m ⟨_, Norm.headS (own := [(10, 3, 1, false), (11, 4, 1, true)]) (keep := [0, 1, 2, 3, 8, 10, 11, 12]) (by refine ⟨?_, ?_⟩; (simp (discharger := omega) only [go_sem, simprocAttr]; with_reducible rfl); refine ⟨?_, ?_, ?_, ?_⟩ <;> (simp only [go_sem, simprocAttr]; with_reducible rfl)), 0, [0], _, _, rfl, rfl, rfl, ?_⟩ ?_
  · refine ⟨?_, by simp, ⟨by simp, fun s hs => by simp at hs; subst hs; omega⟩, Bfs.start _ _⟩
    have := seenOf_set m [] 0
    rw [List.nil_append] at this
    rw [show ((0 : Nat) : Int) = 0 from rfl] at this
    rw [← this, seenOf_nil, List.map_set, List.map_replicate, hlen]
  · rintro k s ⟨i, out, ot, st, rfl, rfl, rfl, rfl, hi, hmo, hbf⟩
    have hol := hmo.len
    by_cases hlt : i < out.length
    · have hs : 0 ≤ out[i]! ∧ out[i]! < (m : Int) := by rw [getElem!_pos out i hlt]; exact hmo.ok _ (List.getElem_mem hlt)
      obtain ⟨row, hrow⟩ : ∃ row, next[out[i]!.toNat]! = row := ⟨_, rfl⟩
      have hrl : out[i]!.toNat < next.length := by omega
      have hrm : row ∈ next := by rw [← hrow, getElem!_pos next _ hrl]; exact List.getElem_mem hrl
      have hrn : row.length = n := hR.row _ hrm
      have hnx : ∀ l, nx next out[i]! l = row.getD l 0 := fun l => by unfold nx rowOf; rw [getD_lt hrl, ← hrow, getElem!_pos next _ hrl]
      have hio : out[i]? = some out[i]! := by rw [getElem!_pos out i hlt]; exact List.getElem?_eq_getElem hlt
      repeat' (first | (with_reducible first | apply w1 | apply w2 | apply w3 | apply w4 | apply w5 | apply w6 | apply w7 | apply w8 | apply w9 | apply wa | apply wb | apply wc) | ((with_reducible apply wd); focus decide) | ((with_reducible apply we); focus exact rfl) | ((with_reducible apply wf); focus exact rfl) | ((first | (with_reducible apply SW_run tt_ok hG htb) | ((with_reducible apply SW_draw rfl tt_ok hG htb); (focus kernel_rfl); focus simp only [List.range, List.range.loop, List.size_toArray, List.length_cons, List.length_nil, Nat.reduceAdd])); focus ((repeat' (first | (with_reducible first | exact wg | exact wh) | ((with_reducible first | apply wi | apply wj); focus (simp (discharger := omega) only [go_sem, hrow, simprocAttr]; with_reducible rfl)))); done)))
      generalize out[i]! = r at hs hrow hrl hnx hio
      refine SW_loop (fun k s => ∃ (l : Nat) (o : List Int) (ot st : List T), k = n - l ∧ s = ⟨220, [(0, .t (tInt base)), (1, .t (tInt tracks)), (2, .t (tIntss next)), (3, .t (tBools ends)), (8, .bptr 0 0), (10, .sref 1), (11, .sref 2), (12, .t (tInt i)), (52, .t (tInts row)), (53, .t (tInt row.length)), (54, .t (tInt l))], [.box [.t (tInt 0), .t (tInt 0), .nil, .nil], .row 3 1 false ot, .row 4 1 true st]⟩ ∧
          ot = o.map tInt ∧ st = (seenOf m o).map T.bool ∧ l ≤ n ∧ MetOk m o ∧ o[i]? = some r ∧ Bfs next n o i l) n ⟨_, Norm.headS (own := [(10, 3, 1, false), (11, 4, 1, true)]) (keep := [0, 1, 2, 3, 8, 10, 11, 12, 52, 53, 54]) (by refine ⟨?_, ?_⟩; (simp (discharger := omega) only [go_sem, simprocAttr]; with_reducible rfl); refine ⟨?_, ?_, ?_, ?_⟩ <;> (simp only [go_sem, simprocAttr]; with_reducible rfl)), 0, out, _, _, rfl, rfl, rfl, rfl, Nat.zero_le _, hmo, hio, hbf⟩ ?_
      clear hmo hbf hio hlt hi hol
      rintro k s ⟨l, o, ot, st, rfl, rfl, rfl, rfl, hl, hmo, hio, hbf⟩
      have hol := hmo.len
      have hil := (List.getElem?_eq_some_iff.1 hio).1
      have hsl := seenOf_length m o
      by_cases hlt : l < n
      · have hll : l < row.length := by omega
        obtain ⟨u, hul⟩ : ∃ u, row[l]! = u := ⟨_, rfl⟩
        have hu : 0 ≤ u ∧ u < (m : Int) := by rw [← hul, getElem!_pos row l hll]; exact hR.ok _ hrm _ (List.getElem_mem hll)
        have hnxl : nx next r l = u := by rw [hnx, getD_lt hll, ← hul, getElem!_pos row l hll]
        obtain ⟨j, rfl⟩ : ∃ j : Nat, u = j := ⟨u.toNat, by omega⟩
        have hsn : (seenOf m o)[j]! = decide ((j : Int) ∈ o) := by
          rw [getElem!_pos _ _ (by omega), seenOf_at]
        have hset := seenOf_set m o j
        generalize hsne : seenOf m o = sn at hsn hsl hset
        by_cases hm1 : (j : Int) ∈ o
        · rw [decide_eq_true hm1] at hsn
          repeat' (first | (with_reducible first | apply w1 | apply w2 | apply w3 | apply w4 | apply w5 | apply w6 | apply w7 | apply w8 | apply w9 | apply wa | apply wb | apply wc) | ((with_reducible apply wd); focus decide) | ((with_reducible apply we); focus exact rfl) | ((with_reducible apply wf); focus exact rfl) | ((first | (with_reducible apply SW_run tt_ok hG htb) | ((with_reducible apply SW_draw rfl tt_ok hG htb); (focus kernel_rfl); focus simp only [List.range, List.range.loop, List.size_toArray, List.length_cons, List.length_nil, Nat.reduceAdd])); focus ((repeat' (first | (with_reducible first | exact wg | exact wh) | ((with_reducible first | apply wi | apply wj); focus (simp (discharger := omega) only [go_sem, hsn, hul, simprocAttr]; with_reducible rfl)))); done)))
          exact ⟨n - (l + 1), _, by omega, Norm.headS (own := [(10, 3, 1, false), (11, 4, 1, true)]) (keep := [0, 1, 2, 3, 8, 10, 11, 12, 52, 53, 54]) (by refine ⟨?_, ?_⟩; (simp (discharger := omega) only [go_sem, simprocAttr]; with_reducible rfl); refine ⟨?_, ?_, ?_, ?_⟩ <;> (simp only [go_sem, simprocAttr]; with_reducible rfl)), l + 1, o, _, _, rfl, rfl, rfl, by rw [hsne], by omega, hmo, hio, hbf.skip hio hnxl hm1⟩
        · rw [decide_eq_false hm1] at hsn
          repeat' (first | (with_reducible first | apply w1 | apply w2 | apply w3 | apply w4 | apply w5 | apply w6 | apply w7 | apply w8 | apply w9 | apply wa | apply wb | apply wc) | ((with_reducible apply wd); focus decide) | ((with_reducible apply we); focus exact rfl) | ((with_reducible apply wf); focus exact rfl) | ((first | (with_reducible apply SW_run tt_ok hG htb) | ((with_reducible apply SW_draw rfl tt_ok hG htb); (focus kernel_rfl); focus simp only [List.range, List.range.loop, List.size_toArray, List.length_cons, List.length_nil, Nat.reduceAdd])); focus ((repeat' (first | (with_reducible first | exact wg | exact wh) | ((with_reducible first | apply wi | apply wj); focus (simp (discharger := omega) only [go_sem, hsn, hul, simprocAttr]; with_reducible rfl)))); done)))
          exact ⟨n - (l + 1), _, by omega, Norm.headS (own := [(10, 3, 1, false), (11, 4, 1, true)]) (keep := [0, 1, 2, 3, 8, 10, 11, 12, 52, 53, 54]) (by refine ⟨?_, ?_⟩; (simp (discharger := omega) only [go_sem, simprocAttr]; with_reducible rfl); refine ⟨?_, ?_, ?_, ?_⟩ <;> (simp only [go_sem, simprocAttr]; with_reducible rfl)), l + 1, o ++ [(j : Int)], _, _, rfl, rfl, by simp [tInt], by
            rw [← hset, List.map_set], by omega, hmo.snoc hu hm1, by rw [List.getElem?_append_left hil]; exact hio, hbf.snoc hlt hio hnxl hm1⟩
      · obtain rfl : l = n := by omega
        repeat' (first | (with_reducible first | apply w1 | apply w2 | apply w3 | apply w4 | apply w5 | apply w6 | apply w7 | apply w8 | apply w9 | apply wa | apply wb | apply wc) | ((with_reducible apply wd); focus decide) | ((with_reducible apply we); focus exact rfl) | ((with_reducible apply wf); focus exact rfl) | ((first | (with_reducible apply SW_run tt_ok hG htb) | ((with_reducible apply SW_draw rfl tt_ok hG htb); (focus kernel_rfl); focus simp only [List.range, List.range.loop, List.size_toArray, List.length_cons, List.length_nil, Nat.reduceAdd])); focus ((repeat' (first | (with_reducible first | exact wg | exact wh) | ((with_reducible first | apply wi | apply wj); focus (simp (discharger := omega) only [go_sem, simprocAttr]; with_reducible rfl)))); done)))
        exact ⟨m - (i + 1), _, by omega, Norm.headS (own := [(10, 3, 1, false), (11, 4, 1, true)]) (keep := [0, 1, 2, 3, 8, 10, 11, 12]) (by refine ⟨?_, ?_⟩; (simp (discharger := omega) only [go_sem, simprocAttr]; with_reducible rfl); refine ⟨?_, ?_, ?_, ?_⟩ <;> (simp only [go_sem, simprocAttr]; with_reducible rfl)), i + 1, o, _, _, rfl, rfl, rfl, rfl, by omega, hmo, hbf.line⟩
    · have hie : i = out.length := by omega
      subst hie
      clear hi hlt
      repeat' (first | (with_reducible first | apply w1 | apply w2 | apply w3 | apply w4 | apply w5 | apply w6 | apply w7 | apply w8 | apply w9 | apply wa | apply wb | apply wc) | ((with_reducible apply wd); focus decide) | ((with_reducible apply we); focus exact rfl) | ((with_reducible apply wf); focus exact rfl) | ((first | (with_reducible apply SW_run tt_ok hG htb) | ((with_reducible apply SW_draw rfl tt_ok hG htb); (focus kernel_rfl); focus simp only [List.range, List.range.loop, List.size_toArray, List.length_cons, List.length_nil, Nat.reduceAdd])); focus ((repeat' (first | (with_reducible first | exact wg | exact wh) | ((with_reducible first | apply wi | apply wj); focus (simp (discharger := omega) only [go_sem, simprocAttr]; with_reducible rfl)))); done)))
      refine SW_loop (fun k s => ∃ (i : Nat) (cls : List Nat) (ct : List T), k = m - i ∧ s = ⟨220, [(0, .t (tInt base)), (1, .t (tInt tracks)), (2, .t (tIntss next)), (3, .t (tBools ends)), (8, .bptr 0 0), (10, .sref 1), (15, .sref 2), (74, .sref 1), (75, .t (tInt out.length)), (76, .t (tInt i))], [.box [.t (tInt 0), .t (tInt 0), .nil, .nil], .row 3 1 false (out.map tInt), .row 3 1 true ct]⟩ ∧
          ct = cls.map tNat ∧ cls.length = m ∧ i ≤ out.length ∧ ∀ s : Int, 0 ≤ s → s < m → clf cls s = if s ∈ out.take i ∧ endOf ends s = true then 1 else 0) m ⟨_, Norm.headS (own := [(10, 3, 1, false), (15, 3, 1, true)]) (keep := [0, 1, 2, 3, 8, 10, 15, 74, 75, 76]) (by refine ⟨?_, ?_⟩; (simp (discharger := omega) only [go_sem, simprocAttr]; with_reducible rfl); refine ⟨?_, ?_, ?_, ?_⟩ <;> (simp only [go_sem, simprocAttr]; with_reducible rfl)), 0, List.replicate m 0, _, rfl, rfl, by rw [List.map_replicate, hlen]; rfl, by simp, Nat.zero_le _, fun s h1 h2 => by
            unfold clf
            rw [if_pos h1, getD_lt (by simp; omega)]; simp⟩ ?_
      rintro k s ⟨i, cls, ct, rfl, rfl, rfl, hcl, hi, hcs⟩
      by_cases hlt : i < out.length
      · obtain ⟨r, hor⟩ : ∃ r, out[i]! = r := ⟨_, rfl⟩
        have hio : out[i]? = some r := by rw [← hor, getElem!_pos out i hlt]; exact List.getElem?_eq_getElem hlt
        have hs : 0 ≤ r ∧ r < (m : Int) := hmo.ok _ (List.mem_of_getElem? hio)
        have htk : out.take (i + 1) = out.take i ++ [r] := by
          rw [List.take_succ_eq_append_getElem hlt]
          rw [List.getElem?_eq_getElem hlt] at hio
          rw [Option.some.inj hio]
        have hend : ends[r.toNat]! = endOf ends r := by unfold endOf; rw [getD_lt (by omega), getElem!_pos ends _ (by omega)]
        by_cases hee : endOf ends r = true
        · rw [hee] at hend
          repeat' (first | (with_reducible first | apply w1 | apply w2 | apply w3 | apply w4 | apply w5 | apply w6 | apply w7 | apply w8 | apply w9 | apply wa | apply wb | apply wc) | ((with_reducible apply wd); focus decide) | ((with_reducible apply we); focus exact rfl) | ((with_reducible apply wf); focus exact rfl) | ((first | (with_reducible apply SW_run tt_ok hG htb) | ((with_reducible apply SW_draw rfl tt_ok hG htb); (focus kernel_rfl); focus simp only [List.range, List.range.loop, List.size_toArray, List.length_cons, List.length_nil, Nat.reduceAdd])); focus ((repeat' (first | (with_reducible first | exact wg | exact wh) | ((with_reducible first | apply wi | apply wj); focus (simp (discharger := omega) only [go_sem, hor, hend, simprocAttr]; with_reducible rfl)))); done)))
          obtain ⟨c1, c2⟩ := clf_set (cls := cls) (r := r) hs.1 (by omega) 1
          exact ⟨m - (i + 1), _, by omega, Norm.headS (own := [(10, 3, 1, false), (15, 3, 1, true)]) (keep := [0, 1, 2, 3, 8, 10, 15, 74, 75, 76]) (by refine ⟨?_, ?_⟩; (simp (discharger := omega) only [go_sem, simprocAttr]; with_reducible rfl); refine ⟨?_, ?_, ?_, ?_⟩ <;> (simp only [go_sem, simprocAttr]; with_reducible rfl)), i + 1, cls.set r.toNat 1, _, rfl, rfl, by rw [List.map_set]; rfl, by simpa using hcl, by omega, fun s h1 h2 => by
            rw [htk]
            by_cases e : s = r
            · subst e; rw [c1]; simp [hee]
            · rw [c2 s e, hcs s h1 h2]; simp [e]⟩
        · have hee : endOf ends r = false := by simpa using hee
          rw [hee] at hend
          repeat' (first | (with_reducible first | apply w1 | apply w2 | apply w3 | apply w4 | apply w5 | apply w6 | apply w7 | apply w8 | apply w9 | apply wa | apply wb | apply wc) | ((with_reducible apply wd); focus decide) | ((with_reducible apply we); focus exact rfl) | ((with_reducible apply wf); focus exact rfl) | ((first | (with_reducible apply SW_run tt_ok hG htb) | ((with_reducible apply SW_draw rfl tt_ok hG htb); (focus kernel_rfl); focus simp only [List.range, List.range.loop, List.size_toArray, List.length_cons, List.length_nil, Nat.reduceAdd])); focus ((repeat' (first | (with_reducible first | exact wg | exact wh) | ((with_reducible first | apply wi | apply wj); focus (simp (discharger := omega) only [go_sem, hor, hend, simprocAttr]; with_reducible rfl)))); done)))
          exact ⟨m - (i + 1), _, by omega, Norm.headS (own := [(10, 3, 1, false), (15, 3, 1, true)]) (keep := [0, 1, 2, 3, 8, 10, 15, 74, 75, 76]) (by refine ⟨?_, ?_⟩; (simp (discharger := omega) only [go_sem, simprocAttr]; with_reducible rfl); refine ⟨?_, ?_, ?_, ?_⟩ <;> (simp only [go_sem, simprocAttr]; with_reducible rfl)), i + 1, cls, _, rfl, rfl, rfl, hcl, by omega, fun s h1 h2 => by
            rw [htk, hcs s h1 h2]
            by_cases e : s = r
            · subst e; simp [hee]
            · simp [e]⟩
      · have hie : i = out.length := by omega
        subst hie
        rw [List.take_length] at hcs
        clear hi hlt
        repeat' (first | (with_reducible first | apply w1 | apply w2 | apply w3 | apply w4 | apply w5 | apply w6 | apply w7 | apply w8 | apply w9 | apply wa | apply wb | apply wc) | ((with_reducible apply wd); focus decide) | ((with_reducible apply we); focus exact rfl) | ((with_reducible apply wf); focus exact rfl) | ((first | (with_reducible apply SW_run tt_ok hG htb) | ((with_reducible apply SW_draw rfl tt_ok hG htb); (focus kernel_rfl); focus simp only [List.range, List.range.loop, List.size_toArray, List.length_cons, List.length_nil, Nat.reduceAdd])); focus ((repeat' (first | (with_reducible first | exact wg | exact wh) | ((with_reducible first | apply wi | apply wj); focus (simp (discharger := omega) only [go_sem, simprocAttr]; with_reducible rfl)))); done)))
        refine SW_loop (fun k s => ∃ (many : Nat) (cls : List Nat), k = m + 1 - many ∧ s = ⟨220, [(0, .t (tInt base)), (1, .t (tInt tracks)), (2, .t (tIntss next)), (3, .t (tBools ends)), (8, .bptr 0 0), (10, .sref 1), (15, .sref 2), (18, .t (tNat many))], [.box [.t (tInt 0), .t (tInt 0), .nil, .nil], .row 3 1 false (out.map tInt), .row 3 1 false (cls.map tNat)]⟩ ∧
            cls.length = m ∧ many ≤ m ∧ RInv next ends n out (clf cls) many ∧ (∀ s, s ∈ out → clf cls s < 65536) ∧ ∀ s t, s ∈ out → t ∈ out → clf cls s = clf cls t → endOf ends s = endOf ends t) (m + 1) ⟨_, Norm.headS (own := [(10, 3, 1, false), (15, 3, 1, false)]) (keep := [0, 1, 2, 3, 8, 10, 15, 18]) (by refine ⟨?_, ?_⟩; (simp (discharger := omega) only [go_sem, simprocAttr]; with_reducible rfl); refine ⟨?_, ?_, ?_, ?_⟩ <;> (simp only [go_sem, simprocAttr]; with_reducible rfl)), 0, cls, rfl, rfl, hcl, Nat.zero_le _, ?_, ?_, ?_⟩ ?_
        · refine RInv.start fun s t hs ht e => ?_
          have h1 := hmo.ok s hs
          have h2 := hmo.ok t ht
          rw [hcs s h1.1 h1.2, hcs t h2.1 h2.2, e]; simp [hs, ht]
        · intro s hs
          have h1 := hmo.ok s hs
          rw [hcs s h1.1 h1.2]; split <;> omega
        · intro s t hs ht e
          have h1 := hmo.ok s hs
          have h2 := hmo.ok t ht
          rw [hcs s h1.1 h1.2, hcs t h2.1 h2.2] at e
          simp only [hs, ht, true_and] at e
          cases e1 : endOf ends s <;> cases e2 : endOf ends t <;> simp_all
        clear hcs hcl cls
        rintro k s ⟨many, cls, rfl, rfl, hcl, hmany, hinv, h16, hce⟩
        have hlook := key_looks (ends := ends) hR hmo hbf h16 hce
        repeat' (first | (with_reducible first | apply w1 | apply w2 | apply w3 | apply w4 | apply w5 | apply w6 | apply w7 | apply w8 | apply w9 | apply wa | apply wb | apply wc) | ((with_reducible apply wd); focus decide) | ((with_reducible apply we); focus exact rfl) | ((with_reducible apply wf); focus exact rfl) | ((first | (with_reducible apply SW_run tt_ok hG htb) | ((with_reducible apply SW_draw rfl tt_ok hG htb); (focus kernel_rfl); focus simp only [List.range, List.range.loop, List.size_toArray, List.length_cons, List.length_nil, Nat.reduceAdd])); focus ((repeat' (first | (with_reducible first | exact wg | exact wh) | ((with_reducible first | apply wi | apply wj); focus (simp (discharger := omega) only [go_sem, simprocAttr]; with_reducible rfl)))); done)))
        refine SW_loop (fun k s => ∃ (i : Nat) (frs : List Nat) (R : List Int) (es : List (T × T)) (ft kt : List T), k = m - i ∧ s = ⟨220, [(0, .t (tInt base)), (1, .t (tInt tracks)), (2, .t (tIntss next)), (3, .t (tBools ends)), (8, .bptr 0 0), (10, .sref 1), (15, .sref 2), (18, .t (tNat many)), (19, .map 3), (20, .sref 4), (21, .sref 5), (92, .sref 1), (93, .t (tInt out.length)), (94, .t (tInt i))], [.box [.t (tInt 0), .t (tInt 0), .nil, .nil], .row 3 1 false (out.map tInt), .row 3 1 false (cls.map tNat), .map .str es, .row 3 1 true ft, .row 5 1 true kt]⟩ ∧
            es = entries (fun s => bytesStr (keyOf' next (clf cls) s)) R ∧ ft = frs.map tNat ∧ frs.length = m ∧ i ≤ out.length ∧ Numd (out.take i) (fun s => bytesStr (keyOf' next (clf cls) s)) (clf frs) R) m ⟨_, Norm.headS (own := [(10, 3, 1, false), (15, 3, 1, false), (20, 3, 1, true), (21, 5, 1, true)]) (keep := [0, 1, 2, 3, 8, 10, 15, 18, 19, 20, 21, 92, 93, 94]) (by refine ⟨?_, ?_⟩; (simp (discharger := omega) only [go_sem, simprocAttr]; with_reducible rfl); refine ⟨?_, ?_, ?_, ?_⟩ <;> (simp only [go_sem, simprocAttr]; with_reducible rfl)), 0, List.replicate m 0, [], _, _, _, rfl, rfl, rfl, by rw [List.map_replicate, hlen]; rfl, by simp, Nat.zero_le _, by rw [List.take_zero]; exact Numd.start _ _⟩ ?_
        rintro k s ⟨i, frs, R, es, ft, kt, rfl, rfl, hes, rfl, hfl, hi, hN⟩
        by_cases hlt : i < out.length
        · obtain ⟨r, hor⟩ : ∃ r, out[i]! = r := ⟨_, rfl⟩
          have hio : out[i]? = some r := by rw [← hor, getElem!_pos out i hlt]; exact List.getElem?_eq_getElem hlt
          have hrm : r ∈ out := List.mem_of_getElem? hio
          have hs : 0 ≤ r ∧ r < (m : Int) := hmo.ok _ hrm
          have hnr : r ∉ out.take i := fun hm => by
            obtain ⟨q, hq, e⟩ := List.mem_iff_getElem.1 hm
            simp only [List.getElem_take] at e
            rw [List.getElem?_eq_getElem hlt] at hio
            have := nodup_inj hmo.nd (by simp at hq; omega) hlt (e.trans (Option.some.inj hio).symm)
            simp at hq; omega
          have htk : out.take (i + 1) = out.take i ++ [r] := by
            rw [List.take_succ_eq_append_getElem hlt]
            rw [List.getElem?_eq_getElem hlt] at hio
            rw [Option.some.inj hio]
          obtain ⟨row, hrow⟩ : ∃ row, next[r.toNat]! = row := ⟨_, rfl⟩
          have hrl : r.toNat < next.length := by omega
          have hrow2 : rowOf next r = row := by unfold rowOf; rw [getD_lt hrl, ← hrow, getElem!_pos next _ hrl]
          have hrmem : row ∈ next := by rw [← hrow, getElem!_pos next _ hrl]; exact List.getElem_mem hrl
          have hrn : row.length = n := hR.row _ hrmem
          obtain ⟨c, hc⟩ : ∃ c, cls[r.toNat]! = c := ⟨_, rfl⟩
          have hc2 : clf cls r = c := by rw [← clf_at hs.1 (by omega), hc]
          have hc16 : c < 65536 := by rw [← hc2]; exact h16 r hrm
          have hhi := u8hi hc16
          have hh2 : IntKind.u8.wrap ((c : Int).fdiv 256) = (c : Int) / 256 := by simpa [IntKind.bits] using hhi
          repeat' (first | (with_reducible first | apply w1 | apply w2 | apply w3 | apply w4 | apply w5 | apply w6 | apply w7 | apply w8 | apply w9 | apply wa | apply wb | apply wc) | ((with_reducible apply wd); focus decide) | ((with_reducible apply we); focus exact rfl) | ((with_reducible apply wf); focus exact rfl) | ((first | (with_reducible apply SW_run tt_ok hG htb) | ((with_reducible apply SW_draw rfl tt_ok hG htb); (focus kernel_rfl); focus simp only [List.range, List.range.loop, List.size_toArray, List.length_cons, List.length_nil, Nat.reduceAdd])); focus ((repeat' (first | (with_reducible first | exact wg | exact wh) | ((with_reducible first | apply wi | apply wj); focus (simp (discharger := omega) only [go_sem, hor, hrow, hc, u8lo, hhi, simprocAttr]; with_reducible rfl)))); done)))
          refine SW_loop (fun k s => ∃ (l : Nat) (kt : List T), k = n - l ∧ s = ⟨220, [(0, .t (tInt base)), (1, .t (tInt tracks)), (2, .t (tIntss next)), (3, .t (tBools ends)), (8, .bptr 0 0), (10, .sref 1), (15, .sref 2), (18, .t (tNat many)), (19, .map 3), (20, .sref 4), (21, .sref 5), (23, .t (tInt r)), (92, .sref 1), (93, .t (tInt out.length)), (94, .t (tInt i)), (116, .t (tInts row)), (117, .t (tInt row.length)), (118, .t (tInt l))], [.box [.t (tInt 0), .t (tInt 0), .nil, .nil], .row 3 1 false (out.map tInt), .row 3 1 false (cls.map tNat), .map .str es, .row 3 1 true (frs.map tNat), .row 5 1 true kt]⟩ ∧
              l ≤ n ∧ kt = (byt c ++ (row.take l).flatMap fun t => byt (clf cls t)).map tByte) n ⟨_, Norm.headS (own := [(10, 3, 1, false), (15, 3, 1, false), (20, 3, 1, true), (21, 5, 1, true)]) (keep := [0, 1, 2, 3, 8, 10, 15, 18, 19, 20, 21, 23, 92, 93, 94, 116, 117, 118]) (by refine ⟨?_, ?_⟩; (simp (discharger := omega) only [go_sem, simprocAttr]; with_reducible rfl); refine ⟨?_, ?_, ?_, ?_⟩ <;> (simp only [go_sem, simprocAttr]; with_reducible rfl)), 0, _, rfl, rfl, Nat.zero_le _, by simp [byt, tByte, hh2]⟩ ?_
          rintro k s ⟨l, kt, rfl, rfl, hl, rfl⟩
          by_cases hlt2 : l < n
          · obtain ⟨u, hul⟩ : ∃ u, row[l]! = u := ⟨_, rfl⟩
            have hul2 : row[l]? = some u := by rw [← hul, getElem!_pos row l (by omega)]; exact List.getElem?_eq_getElem (by omega)
            have hnx : nx next r l = u := by unfold nx; rw [hrow2, List.getD_eq_getElem?_getD, hul2]; rfl
            have hum : u ∈ out := by rw [← hnx]; exact hbf.closed r hrm l hlt2
            have hu : 0 ≤ u ∧ u < (m : Int) := hmo.ok _ hum
            obtain ⟨d, hd⟩ : ∃ d, cls[u.toNat]! = d := ⟨_, rfl⟩
            have hd2 : clf cls u = d := by rw [← clf_at hu.1 (by omega), hd]
            have hd16 : d < 65536 := by rw [← hd2]; exact h16 u hum
            have hdhi := u8hi hd16
            have hd2' : IntKind.u8.wrap ((d : Int).fdiv 256) = (d : Int) / 256 := by simpa [IntKind.bits] using hdhi
            have hll : l < row.length := by omega
            have hkl : ((byt c ++ (row.take l).flatMap fun t => byt (clf cls t)).length : Nat) ≤ 2002 := by
              rw [List.length_append, byt_len, List.length_take]
              simp [byt]; omega
            have htk2 : row.take (l + 1) = row.take l ++ [u] := by
              rw [List.take_succ_eq_append_getElem hll]
              rw [List.getElem?_eq_getElem hll] at hul2
              rw [Option.some.inj hul2]
            generalize hkx : (byt c ++ (row.take l).flatMap fun t => byt (clf cls t)) = kx at hkl ⊢
            repeat' (first | (with_reducible first | apply w1 | apply w2 | apply w3 | apply w4 | apply w5 | apply w6 | apply w7 | apply w8 | apply w9 | apply wa | apply wb | apply wc) | ((with_reducible apply wd); focus decide) | ((with_reducible apply we); focus exact rfl) | ((with_reducible apply wf); focus exact rfl) | ((first | (with_reducible apply SW_run tt_ok hG htb) | ((with_reducible apply SW_draw rfl tt_ok hG htb); (focus kernel_rfl); focus simp only [List.range, List.range.loop, List.size_toArray, List.length_cons, List.length_nil, Nat.reduceAdd])); focus ((repeat' (first | (with_reducible first | exact wg | exact wh) | ((with_reducible first | apply wi | apply wj); focus (simp (discharger := omega) only [go_sem, hul, hd, u8lo, hdhi, simprocAttr]; with_reducible rfl)))); done)))
            exact ⟨n - (l + 1), _, by omega, Norm.headS (own := [(10, 3, 1, false), (15, 3, 1, false), (20, 3, 1, true), (21, 5, 1, true)]) (keep := [0, 1, 2, 3, 8, 10, 15, 18, 19, 20, 21, 23, 92, 93, 94, 116, 117, 118]) (by refine ⟨?_, ?_⟩; (simp (discharger := omega) only [go_sem, simprocAttr]; with_reducible rfl); refine ⟨?_, ?_, ?_, ?_⟩ <;> (simp only [go_sem, simprocAttr]; with_reducible rfl)), l + 1, _, rfl, rfl, by omega, by
              rw [htk2, List.flatMap_append, ← List.append_assoc, hkx, List.map_append]
              simp [hd2, byt, tByte, hd2']⟩
          · obtain rfl : l = n := by omega
            rw [List.take_of_length_le (by omega)]
            have hkey : (byt c ++ row.flatMap fun t => byt (clf cls t)) = keyOf' next (clf cls) r := by unfold keyOf'; rw [hc2, hrow2]
            have hkl : ((byt c ++ row.flatMap fun t => byt (clf cls t)).length : Nat) ≤ 2002 := by
              rw [List.length_append, byt_len]; simp [byt]; omega
            rw [hkey] at hkl ⊢
            obtain ⟨ks, hks⟩ : ∃ ks, bytesStr (keyOf' next (clf cls) r) = ks := ⟨_, rfl⟩
            have hsz : ks.size ≤ 2002 := by rw [← hks]; simpa [bytesStr, ByteArray.size] using hkl
            have hstr : (⟨((keyOf' next (clf cls) r).map fun n => UInt8.ofNat n.toNat).toArray⟩ : ByteArray) = ks := hks
            generalize keyOf' next (clf cls) r = kx at hstr ⊢
            have hel : es.length = R.length := by rw [hes, entries_length]
            by_cases hx : ∃ (k : Nat) (q : Int), R[k]? = some q ∧ bytesStr (keyOf' next (clf cls) q) = bytesStr (keyOf' next (clf cls) r)
            · obtain ⟨k, q, hk1, hk2⟩ := hx
              have hget : mapGet es (.str ks) = some (tNat k) := by
                rw [hes, ← hks]; exact entries_get_some hN.distinct hk1 hk2
              obtain ⟨c1, c2⟩ := clf_set (cls := frs) (r := r) hs.1 (by omega) k
              repeat' (first | (with_reducible first | apply w1 | apply w2 | apply w3 | apply w4 | apply w5 | apply w6 | apply w7 | apply w8 | apply w9 | apply wa | apply wb | apply wc) | ((with_reducible apply wd); focus decide) | ((with_reducible apply we); focus exact rfl) | ((with_reducible apply wf); focus exact rfl) | ((first | (with_reducible apply SW_run tt_ok hG htb) | ((with_reducible apply SW_draw rfl tt_ok hG htb); (focus kernel_rfl); focus simp only [List.range, List.range.loop, List.size_toArray, List.length_cons, List.length_nil, Nat.reduceAdd])); focus ((repeat' (first | (with_reducible first | exact wg | exact wh) | ((with_reducible first | apply wi | apply wj); focus (simp (discharger := omega) only [go_sem, bytesOf_map, hstr, hget, simprocAttr]; with_reducible rfl)))); done)))
              exact ⟨m - (i + 1), _, by omega, Norm.headS (own := [(10, 3, 1, false), (15, 3, 1, false), (20, 3, 1, true), (21, 5, 1, true)]) (keep := [0, 1, 2, 3, 8, 10, 15, 18, 19, 20, 21, 92, 93, 94]) (by refine ⟨?_, ?_⟩; (simp (discharger := omega) only [go_sem, simprocAttr]; with_reducible rfl); refine ⟨?_, ?_, ?_, ?_⟩ <;> (simp only [go_sem, simprocAttr]; with_reducible rfl)), i + 1, frs.set r.toNat k, R, es, _, _, rfl, rfl, hes, by rw [List.map_set]; rfl, by simpa using hfl, by omega, by rw [htk]; exact hN.old hnr hk1 hk2 c2 c1⟩
            · have hno : ∀ q ∈ R, bytesStr (keyOf' next (clf cls) q) ≠ bytesStr (keyOf' next (clf cls) r) := fun q hq e => by
                obtain ⟨k, hk⟩ := List.mem_iff_getElem?.1 hq
                exact hx ⟨k, q, hk, e⟩
              have hget : mapGet es (.str ks) = none := by
                rw [hes, ← hks]; exact entries_get_none (κ := fun s => bytesStr (keyOf' next (clf cls) s)) hno
              have hset : mapSet es (.str ks) (tNat R.length) = entries (fun s => bytesStr (keyOf' next (clf cls) s)) (R ++ [r]) := by
                rw [hes, ← hks]; exact entries_set (κ := fun s => bytesStr (keyOf' next (clf cls) s)) hno
              obtain ⟨c1, c2⟩ := clf_set (cls := frs) (r := r) hs.1 (by omega) R.length
              repeat' (first | (with_reducible first | apply w1 | apply w2 | apply w3 | apply w4 | apply w5 | apply w6 | apply w7 | apply w8 | apply w9 | apply wa | apply wb | apply wc) | ((with_reducible apply wd); focus decide) | ((with_reducible apply we); focus exact rfl) | ((with_reducible apply wf); focus exact rfl) | ((first | (with_reducible apply SW_run tt_ok hG htb) | ((with_reducible apply SW_draw rfl tt_ok hG htb); (focus kernel_rfl); focus simp only [List.range, List.range.loop, List.size_toArray, List.length_cons, List.length_nil, Nat.reduceAdd])); focus ((repeat' (first | (with_reducible first | exact wg | exact wh) | ((with_reducible first | apply wi | apply wj); focus (simp (discharger := omega) only [go_sem, bytesOf_map, hstr, hget, hel, simprocAttr]; with_reducible rfl)))); done)))
              exact ⟨m - (i + 1), _, by omega, Norm.headS (own := [(10, 3, 1, false), (15, 3, 1, false), (20, 3, 1, true), (21, 5, 1, true)]) (keep := [0, 1, 2, 3, 8, 10, 15, 18, 19, 20, 21, 92, 93, 94]) (by refine ⟨?_, ?_⟩; (simp (discharger := omega) only [go_sem, simprocAttr]; with_reducible rfl); refine ⟨?_, ?_, ?_, ?_⟩ <;> (simp only [go_sem, simprocAttr]; with_reducible rfl)), i + 1, frs.set r.toNat R.length, R ++ [r], _, _, _, rfl, rfl, hset, by rw [List.map_set]; rfl, by simpa using hfl, by omega, by rw [htk]; exact hN.new hnr hno c2 c1⟩
        · have hie : i = out.length := by omega
          subst hie
          rw [List.take_length] at hN
          clear hi hlt
          have hel : es.length = R.length := by rw [hes, entries_length]
          have hmore := hinv.more hN hlook
          have hbig : R.length ≤ 65536 := by
            have h1 := hinv.bound hR hm hbf hlook (Q := R) (fun r hr => hN.mem hr) hN.distinct
            omega
          have hbound : R.length ≤ m := by
            have h1 := hinv.bound hR hm hbf hlook (Q := R) (fun r hr => hN.mem hr) hN.distinct
            have h2 := (leastRE_spec (ends := ends) hR hm).2
            omega
          by_cases hRm : R.length = many
          · have hdone := hinv.done hR hm hmo hbf hN hlook hRm
            have hre := leastRE_eq hR hm hdone
            have hclR : ∀ s, s ∈ out → clf frs s < R.length := fun s hs => hN.lt hs
            clear hinv hlook h16 hce hmore hes
            repeat' (first | (with_reducible first | apply w1 | apply w2 | apply w3 | apply w4 | apply w5 | apply w6 | apply w7 | apply w8 | apply w9 | apply wa | apply wb | apply wc) | ((with_reducible apply wd); focus decide) | ((with_reducible apply we); focus exact rfl) | ((with_reducible apply wf); focus exact rfl) | ((first | (with_reducible apply SW_run tt_ok hG htb) | ((with_reducible apply SW_draw rfl tt_ok hG htb); (focus kernel_rfl); focus simp only [List.range, List.range.loop, List.size_toArray, List.length_cons, List.length_nil, Nat.reduceAdd])); focus ((repeat' (first | (with_reducible first | exact wg | exact wh) | ((with_reducible first | apply wi | apply wj); focus (simp (discharger := omega) only [go_sem, hel, hRm, simprocAttr]; with_reducible rfl)))); done)))
            have hRl : (leftRows next (clf frs) R).length = R.length := by simp [leftRows]
            have hEl : (leftEnds ends R).length = R.length := by simp [leftEnds]
            refine SW_loop (fun k s => ∃ (i q : Nat) (nt et : List T), k = m - i ∧ s = ⟨220, [(2, .t (tIntss next)), (3, .t (tBools ends)), (8, .bptr 0 0), (10, .sref 1), (15, .sref 2), (28, .bptr 3 0), (167, .sref 1), (168, .t (tInt out.length)), (169, .t (tInt i))], [.box [.t (tInt 0), .t (tInt 0), .nil, .nil], .row 3 1 false (out.map tInt), .row 3 1 false (frs.map tNat), .box [.t (tInt base), .t (tInt tracks), .sref 4, .sref 5], .row 26 1 true nt, .row 4 1 true et]⟩ ∧
                nt = ((leftRows next (clf frs) R).take q).map tInts ∧ et = ((leftEnds ends R).take q).map T.bool ∧ i ≤ out.length ∧ q ≤ R.length ∧ q ≤ 80 ∧ ∀ s, s ∈ out.take i → clf frs s < q) m
              ⟨_, (Norm.ownB (j := 6) (off := 2) (e := 26) (sz := 1) rfl rfl Nat.one_pos).trans ((Norm.ownB (j := 6) (off := 3) (e := 4) (sz := 1) rfl rfl Nat.one_pos).trans (Norm.headS (own := [(10, 3, 1, false), (15, 3, 1, false)]) (keep := [2, 3, 8, 10, 15, 28, 167, 168, 169]) (by refine ⟨?_, ?_⟩; (simp (discharger := omega) only [go_sem, simprocAttr]; with_reducible rfl); refine ⟨?_, ?_, ?_, ?_⟩ <;> (simp only [go_sem, simprocAttr]; with_reducible rfl)))), 0, 0, _, _, rfl, rfl, by simp, by simp, Nat.zero_le _, Nat.zero_le _, Nat.zero_le _, fun s hs => by simp at hs⟩ ?_
            rintro k s ⟨i, q, nt, et, rfl, rfl, hnt, het, hi, hq, hq80, hall⟩
            have hnl : nt.length = q := by rw [hnt]; simp; omega
            have hel2 : et.length = q := by rw [het]; simp; omega
            by_cases hlt : i < out.length
            · obtain ⟨r, hor⟩ : ∃ r, out[i]! = r := ⟨_, rfl⟩
              have hio : out[i]? = some r := by rw [← hor, getElem!_pos out i hlt]; exact List.getElem?_eq_getElem hlt
              have hrm : r ∈ out := List.mem_of_getElem? hio
              have hs : 0 ≤ r ∧ r < (m : Int) := hmo.ok _ hrm
              have htk : out.take (i + 1) = out.take i ++ [r] := by
                rw [List.take_succ_eq_append_getElem hlt]
                rw [List.getElem?_eq_getElem hlt] at hio
                rw [Option.some.inj hio]
              obtain ⟨c, hc⟩ : ∃ c, frs[r.toNat]! = c := ⟨_, rfl⟩
              have hc2 : clf frs r = c := by rw [← clf_at hs.1 (by omega), hc]
              have hcR : c < R.length := by rw [← hc2]; exact hclR r hrm
              have hle : c ≤ q := by
                rcases Nat.lt_or_ge q c with hqc | hqc
                · exfalso
                  have hqR : q < R.length := by omega
                  obtain ⟨i0, a1, a2, a3⟩ := hN.first q _ (List.getElem?_eq_getElem hqR)
                  rcases Nat.lt_trichotomy i i0 with h | h | h
                  · have := a3 i r h hio; omega
                  · subst h; rw [hio] at a1; have := Option.some.inj a1; rw [← this, hc2] at a2; omega
                  · have : R[q] ∈ out.take i := List.mem_of_getElem? (by rw [List.getElem?_take, if_pos h]; exact a1)
                    have := hall _ this; omega
                · exact hqc
              by_cases hcq : c < q
              · repeat' (first | (with_reducible first | apply w1 | apply w2 | apply w3 | apply w4 | apply w5 | apply w6 | apply w7 | apply w8 | apply w9 | apply wa | apply wb | apply wc) | ((with_reducible apply wd); focus decide) | ((with_reducible apply we); focus exact rfl) | ((with_reducible apply wf); focus exact rfl) | ((first | (with_reducible apply SW_run tt_ok hG htb) | ((with_reducible apply SW_draw rfl tt_ok hG htb); (focus kernel_rfl); focus simp only [List.range, List.range.loop, List.size_toArray, List.length_cons, List.length_nil, Nat.reduceAdd])); focus ((repeat' (first | (with_reducible first | exact wg | exact wh) | ((with_reducible first | apply wi | apply wj); focus (simp (discharger := omega) only [go_sem, hor, hc, hnl, simprocAttr]; with_reducible rfl)))); done)))
                exact ⟨m - (i + 1), _, by omega, Norm.headS (own := [(10, 3, 1, false), (15, 3, 1, false)]) (keep := [2, 3, 8, 10, 15, 28, 167, 168, 169]) (by refine ⟨?_, ?_⟩; (simp (discharger := omega) only [go_sem, simprocAttr]; with_reducible rfl); refine ⟨?_, ?_, ?_, ?_⟩ <;> (simp only [go_sem, simprocAttr]; with_reducible rfl)), i + 1, q, nt, et, rfl, rfl, hnt, het, by omega, hq, hq80, fun s hs' => by
                  rw [htk] at hs'
                  rcases List.mem_append.1 hs' with h | h
                  · exact hall s h
                  · simp at h; subst h; omega⟩
              · obtain rfl : c = q := by omega
                have hRq : R[c] = r := by
                  obtain ⟨i0, a1, a2, a3⟩ := hN.first c _ (List.getElem?_eq_getElem hcR)
                  rcases Nat.lt_trichotomy i i0 with h | h | h
                  · have := a3 i r h hio; omega
                  · subst h; rw [hio] at a1; exact (Option.some.inj a1).symm
                  · have : R[c] ∈ out.take i := List.mem_of_getElem? (by rw [List.getElem?_take, if_pos h]; exact a1)
                    have := hall _ this; omega
                by_cases h80 : c = 80
                · have hT : shrinkT base tracks n next ends = .tup [tAuto GAuto.zero, .bool false] := by
                    unfold shrinkT; rw [hre, if_neg (by simp only [hRl]; omega)]
                  rw [hT]
                  repeat' (first | (with_reducible first | apply w1 | apply w2 | apply w3 | apply w4 | apply w5 | apply w6 | apply w7 | apply w8 | apply w9 | apply wa | apply wb | apply wc) | ((with_reducible apply wd); focus decide) | ((with_reducible apply we); focus exact rfl) | ((with_reducible apply wf); focus exact rfl) | ((first | (with_reducible apply SW_run tt_ok hG htb) | ((with_reducible apply SW_draw rfl tt_ok hG htb); (focus kernel_rfl); focus simp only [List.range, List.range.loop, List.size_toArray, List.length_cons, List.length_nil, Nat.reduceAdd])); focus ((repeat' (first | (with_reducible first | exact wg | exact wh) | ((with_reducible first | apply wi | apply wj); focus (simp (discharger := omega) only [go_sem, hor, hc, hnl, h80, simprocAttr]; with_reducible rfl)))); done)))
                  exact (by simp (discharger := omega) only [go_sem, tAuto, GAuto.zero, simprocAttr])
                · obtain ⟨row, hrow⟩ : ∃ row, next[r.toNat]! = row := ⟨_, rfl⟩
                  have hrl : r.toNat < next.length := by omega
                  have hrow2 : rowOf next r = row := by unfold rowOf; rw [getD_lt hrl, ← hrow, getElem!_pos next _ hrl]
                  have hrmem : row ∈ next := by rw [← hrow, getElem!_pos next _ hrl]; exact List.getElem_mem hrl
                  have hrn : row.length = n := hR.row _ hrmem
                  have hend : ends[r.toNat]! = endOf ends r := by unfold endOf; rw [getD_lt (by omega), getElem!_pos ends _ (by omega)]
                  repeat' (first | (with_reducible first | apply w1 | apply w2 | apply w3 | apply w4 | apply w5 | apply w6 | apply w7 | apply w8 | apply w9 | apply wa | apply wb | apply wc) | ((with_reducible apply wd); focus decide) | ((with_reducible apply we); focus exact rfl) | ((with_reducible apply wf); focus exact rfl) | ((first | (with_reducible apply SW_run tt_ok hG htb) | ((with_reducible apply SW_draw rfl tt_ok hG htb); (focus kernel_rfl); focus simp only [List.range, List.range.loop, List.size_toArray, List.length_cons, List.length_nil, Nat.reduceAdd])); focus ((repeat' (first | (with_reducible first | exact wg | exact wh) | ((with_reducible first | apply wi | apply wj); focus (simp (discharger := omega) only [go_sem, hor, hc, hnl, h80, hrow, simprocAttr]; with_reducible rfl)))); done)))
                  refine SW_loop (fun k s => ∃ (l : Nat) (rt : List T), k = n - l ∧ s = ⟨220, [(2, .t (tIntss next)), (3, .t (tBools ends)), (8, .bptr 0 0), (10, .sref 1), (15, .sref 2), (28, .bptr 3 0), (167, .sref 1), (168, .t (tInt out.length)), (169, .t (tInt i)), (30, .t (tInt r)), (31, .sref 4), (189, .t (tInts row)), (190, .t (tInt row.length)), (191, .t (tInt l))], [.box [.t (tInt 0), .t (tInt 0), .nil, .nil], .row 3 1 false (out.map tInt), .row 3 1 false (frs.map tNat), .box [.t (tInt base), .t (tInt tracks), .sref 5, .sref 6], .row 3 1 true rt, .row 26 1 true nt, .row 4 1 true et]⟩ ∧
                      l ≤ n ∧ rt = (row.take l).map fun t => tNat (clf frs t)) n ⟨_, Norm.headS (own := [(10, 3, 1, false), (15, 3, 1, false), (31, 3, 1, true)]) (keep := [2, 3, 8, 10, 15, 28, 167, 168, 169, 30, 31, 189, 190, 191]) (by refine ⟨?_, ?_⟩; (simp (discharger := omega) only [go_sem, simprocAttr]; with_reducible rfl); refine ⟨?_, ?_, ?_, ?_⟩ <;> (simp only [go_sem, simprocAttr]; with_reducible rfl)), 0, _, rfl, rfl, Nat.zero_le _, rfl⟩ ?_
                  rintro k s ⟨l, rt, rfl, rfl, hl, hrt⟩
                  have hrtl : rt.length = l := by rw [hrt]; simp; omega
                  by_cases hlt2 : l < n
                  · obtain ⟨u, hul⟩ : ∃ u, row[l]! = u := ⟨_, rfl⟩
                    have hll : l < row.length := by omega
                    have hul2 : row[l]? = some u := by rw [← hul, getElem!_pos row l hll]; exact List.getElem?_eq_getElem hll
                    have hu : 0 ≤ u ∧ u < (m : Int) := hR.ok _ hrmem _ (List.mem_of_getElem? hul2)
                    obtain ⟨d, hd⟩ : ∃ d, frs[u.toNat]! = d := ⟨_, rfl⟩
                    have hd2 : clf frs u = d := by rw [← clf_at hu.1 (by omega), hd]
                    have htk2 : row.take (l + 1) = row.take l ++ [u] := by
                      rw [List.take_succ_eq_append_getElem hll]
                      rw [List.getElem?_eq_getElem hll] at hul2
                      rw [Option.some.inj hul2]
                    repeat' (first | (with_reducible first | apply w1 | apply w2 | apply w3 | apply w4 | apply w5 | apply w6 | apply w7 | apply w8 | apply w9 | apply wa | apply wb | apply wc) | ((with_reducible apply wd); focus decide) | ((with_reducible apply we); focus exact rfl) | ((with_reducible apply wf); focus exact rfl) | ((first | (with_reducible apply SW_run tt_ok hG htb) | ((with_reducible apply SW_draw rfl tt_ok hG htb); (focus kernel_rfl); focus simp only [List.range, List.range.loop, List.size_toArray, List.length_cons, List.length_nil, Nat.reduceAdd])); focus ((repeat' (first | (with_reducible first | exact wg | exact wh) | ((with_reducible first | apply wi | apply wj); focus (simp (discharger := omega) only [go_sem, hul, hd, simprocAttr]; with_reducible rfl)))); done)))
                    exact ⟨n - (l + 1), _, by omega, Norm.headS (own := [(10, 3, 1, false), (15, 3, 1, false), (31, 3, 1, true)]) (keep := [2, 3, 8, 10, 15, 28, 167, 168, 169, 30, 31, 189, 190, 191]) (by refine ⟨?_, ?_⟩; (simp (discharger := omega) only [go_sem, simprocAttr]; with_reducible rfl); refine ⟨?_, ?_, ?_, ?_⟩ <;> (simp only [go_sem, simprocAttr]; with_reducible rfl)), l + 1, _, rfl, rfl, by omega, by rw [htk2, hrt]; simp [hd2, tNat]⟩
                  · obtain rfl : l = n := by omega
                    rw [List.take_of_length_le (by omega)] at hrt
                    repeat' (first | (with_reducible first | apply w1 | apply w2 | apply w3 | apply w4 | apply w5 | apply w6 | apply w7 | apply w8 | apply w9 | apply wa | apply wb | apply wc) | ((with_reducible apply wd); focus decide) | ((with_reducible apply we); focus exact rfl) | ((with_reducible apply wf); focus exact rfl) | ((first | (with_reducible apply SW_run tt_ok hG htb) | ((with_reducible apply SW_draw rfl tt_ok hG htb); (focus kernel_rfl); focus simp only [List.range, List.range.loop, List.size_toArray, List.length_cons, List.length_nil, Nat.reduceAdd])); focus ((repeat' (first | (with_reducible first | exact wg | exact wh) | ((with_reducible first | apply wi | apply wj); focus (simp (discharger := omega) only [go_sem, hor, hend, simprocAttr]; with_reducible rfl)))); done)))
                    have hlr : (leftRows next (clf frs) R).take (c + 1) = (leftRows next (clf frs) R).take c ++ [row.map fun t => (clf frs t : Int)] := by
                      rw [List.take_succ_eq_append_getElem (by omega)]
                      congr 1
                      simp [leftRows, hRq, hrow2]
                    have hle2 : (leftEnds ends R).take (c + 1) = (leftEnds ends R).take c ++ [endOf ends r] := by
                      rw [List.take_succ_eq_append_getElem (by omega)]
                      congr 1
                      simp [leftEnds, hRq]
                    exact ⟨m - (i + 1), _, by omega, Norm.headS (own := [(10, 3, 1, false), (15, 3, 1, false)]) (keep := [2, 3, 8, 10, 15, 28, 167, 168, 169]) (by refine ⟨?_, ?_⟩; (simp (discharger := omega) only [go_sem, simprocAttr]; with_reducible rfl); refine ⟨?_, ?_, ?_, ?_⟩ <;> (simp only [go_sem, simprocAttr]; with_reducible rfl)), i + 1, c + 1, _, _, rfl, rfl, by rw [hlr, List.map_append, ← hnt, hrt]; simp [tInts, tNat, tInt], by rw [hle2, List.map_append, ← het]; rfl, by omega, by omega, by omega, fun s hs' => by
                      rw [htk] at hs'
                      rcases List.mem_append.1 hs' with h | h
                      · have := hall s h; omega
                      · simp at h; subst h; omega⟩
            · have hie : i = out.length := by omega
              subst hie
              rw [List.take_length] at hall
              have hqR : q = R.length := by
                rcases Nat.lt_or_ge q R.length with h | h
                · have := hall _ (hN.mem (List.getElem_mem h))
                  rw [hN.cl_of (List.getElem?_eq_getElem h)] at this; omega
                · omega
              rw [List.take_of_length_le (by omega)] at hnt het
              have hT : shrinkT base tracks n next ends = .tup [tAuto ⟨base, tracks, leftRows next (clf frs) R, leftEnds ends R⟩, .bool true] := by
                unfold shrinkT; rw [hre, if_pos (by simp only [hRl]; omega)]
              rw [hT]
              repeat' (first | (with_reducible first | apply w1 | apply w2 | apply w3 | apply w4 | apply w5 | apply w6 | apply w7 | apply w8 | apply w9 | apply wa | apply wb | apply wc) | ((with_reducible apply wd); focus decide) | ((with_reducible apply we); focus exact rfl) | ((with_reducible apply wf); focus exact rfl) | ((first | (with_reducible apply SW_run tt_ok hG htb) | ((with_reducible apply SW_draw rfl tt_ok hG htb); (focus kernel_rfl); focus simp only [List.range, List.range.loop, List.size_toArray, List.length_cons, List.length_nil, Nat.reduceAdd])); focus ((repeat' (first | (with_reducible first | exact wg | exact wh) | ((with_reducible first | apply wi | apply wj); focus (simp (discharger := omega) only [go_sem, simprocAttr]; with_reducible rfl)))); done)))
              subst hnt het
              exact (by simp (discharger := omega) only [go_sem, tAuto, simprocAttr])
          · repeat' (first | (with_reducible first | apply w1 | apply w2 | apply w3 | apply w4 | apply w5 | apply w6 | apply w7 | apply w8 | apply w9 | apply wa | apply wb | apply wc) | ((with_reducible apply wd); focus decide) | ((with_reducible apply we); focus exact rfl) | ((with_reducible apply wf); focus exact rfl) | ((first | (with_reducible apply SW_run tt_ok hG htb) | ((with_reducible apply SW_draw rfl tt_ok hG htb); (focus kernel_rfl); focus simp only [List.range, List.range.loop, List.size_toArray, List.length_cons, List.length_nil, Nat.reduceAdd])); focus ((repeat' (first | (with_reducible first | exact wg | exact wh) | ((with_reducible first | apply wi | apply wj); focus (simp (discharger := omega) only [go_sem, hel, hRm, simprocAttr]; with_reducible rfl)))); done)))
            exact ⟨m + 1 - R.length, _, by omega, Norm.headS (own := [(10, 3, 1, false), (15, 3, 1, false)]) (keep := [0, 1, 2, 3, 8, 10, 15, 18]) (by refine ⟨?_, ?_⟩; (simp (discharger := omega) only [go_sem, simprocAttr]; with_reducible rfl); refine ⟨?_, ?_, ?_, ?_⟩ <;> (simp only [go_sem, simprocAttr]; with_reducible rfl)), R.length, frs, rfl, rfl, hfl, hbound, hinv.step hbf hN hlook, fun s hs => by have := hN.lt hs; omega, fun s t hs ht e => hlook.ofEnds s t hs ht ((hN.eq_iff hs ht).1 e)⟩
theorem Shrink_snd (base tracks : Int) {n m : Nat} {next : List (List Int)} {ends : List Bool} (hR : Rows0 n m next) (hm : 0 < m) (hm2 : m ≤ 65536) (he : ends.length = m) (hn : n ≤ 1000) :
    Snd Try.prog G 37 [tInt base, tInt tracks, tIntss next, tBools ends] (shrinkT base tracks n next ends) :=
  Shrink_big hG base tracks hR hm (by omega) (Nat.le_trans (leastRE_spec (ends := ends) hR hm).2 hm2) he hn
end
end Go.Proofs.Ythcclcbliedodaa
namespace Go.Proofs.Ythcclcbliedodaa
open Go.RowKit

/-- The least automaton of one without fault. -/
noncomputable def leastA (a : GAuto) : GAuto := ⟨a.base, a.tracks, (leastRE (manyOf a.base a.tracks).toNat a.next a.ends).1, (leastRE (manyOf a.base a.tracks).toNat a.next a.ends).2⟩
noncomputable def leastOf (a : GAuto) : GAuto := if autoFault a = 0 then leastA a else GAuto.zero
theorem shrink_least {a : GAuto} {n m : Nat} (g : Good a n m) : shrinkT a.base a.tracks n a.next a.ends = .tup [tAuto (leastA a), .bool true] := by
  have h := (leastRE_spec (ends := a.ends) g.rows g.m0).2
  have hn : (manyOf a.base a.tracks).toNat = n := by rw [g.n_eq]; rfl
  unfold shrinkT leastA
  rw [if_pos (by have := g.m80; omega), hn]
section
variable {G : World → Prop} (hG : Lasting G)
include hG
theorem Shrink_good {a : GAuto} {n m : Nat} (g : Good a n m) : Snd Try.prog G 37 [tInt a.base, tInt a.tracks, tIntss a.next, tBools a.ends] (.tup [tAuto (leastA a), .bool true]) := by
  have := Shrink_snd (G := G) hG a.base a.tracks g.rows g.m0 (by have := g.m80; omega) g.ends (by have := g.n36; omega)
  rwa [shrink_least g] at this
theorem Least_snd (a : GAuto) : Snd Try.prog G 18 [tAuto a] (.tup [tAuto (leastOf a), tErr (autoFault a)]) := by
  by_cases h0 : autoFault a = 0
  · have htb := Tab.cons (Check_snd hG a) (Tab.cons (Shrink_good (G := G) hG (good_of h0)) Tab.nil)
    refine snd_of_body (n := 26) (tm := [(0, .t (tAuto a))]) (rs := [.cell 2 25, .tmp 3]) tt_ok Try.func18 rfl rfl rfl rfl rfl ?_
    unfold leastOf
    rw [if_pos h0]
    generalize leastA a = b at htb ⊢
    repeat' (first | (with_reducible first | apply w1 | apply w2 | apply w3 | apply w4 | apply w5 | apply w6 | apply w7 | apply w8 | apply w9 | apply wa | apply wb | apply wc) | ((with_reducible apply wd); focus decide) | ((with_reducible apply we); focus exact rfl) | ((with_reducible apply wf); focus exact rfl) | ((first | (with_reducible apply SW_run tt_ok hG htb) | ((with_reducible apply SW_draw rfl tt_ok hG htb); (focus kernel_rfl); focus simp only [List.range, List.range.loop, List.size_toArray, List.length_cons, List.length_nil, Nat.reduceAdd])); focus ((repeat' (first | (with_reducible first | exact wg | exact wh) | ((with_reducible first | apply wi | apply wj); focus (simp (discharger := omega) only [go_sem, tAuto, tErr, h0, simprocAttr]; with_reducible rfl)))); done)))
    exact (by simp (discharger := omega) only [go_sem, tAuto, tErr, h0, simprocAttr])
  · have htb := Tab.cons (Check_snd hG a) Tab.nil
    refine snd_of_body (n := 26) (tm := [(0, .t (tAuto a))]) (rs := [.cell 2 25, .tmp 3]) tt_ok Try.func18 rfl rfl rfl rfl rfl ?_
    unfold leastOf
    rw [if_neg h0]
    repeat' (first | (with_reducible first | apply w1 | apply w2 | apply w3 | apply w4 | apply w5 | apply w6 | apply w7 | apply w8 | apply w9 | apply wa | apply wb | apply wc) | ((with_reducible apply wd); focus decide) | ((with_reducible apply we); focus exact rfl) | ((with_reducible apply wf); focus exact rfl) | ((first | (with_reducible apply SW_run tt_ok hG htb) | ((with_reducible apply SW_draw rfl tt_ok hG htb); (focus kernel_rfl); focus simp only [List.range, List.range.loop, List.size_toArray, List.length_cons, List.length_nil, Nat.reduceAdd])); focus ((repeat' (first | (with_reducible first | exact wg | exact wh) | ((with_reducible first | apply wi | apply wj); focus (simp (discharger := omega) only [go_sem, tAuto, tErr, h0, simprocAttr]; with_reducible rfl)))); done)))
    exact (by simp (discharger := omega) only [go_sem, tAuto, tErr, h0, GAuto.zero, simprocAttr])
end
end Go.Proofs.Ythcclcbliedodaa
namespace Go.Proofs.Ythcclcbliedodaa
open Go.RowKit

section
variable {G : World → Prop} (hG : Lasting G)
include hG
end
end Go.Proofs.Ythcclcbliedodaa
namespace Go.Proofs.Ythcclcbliedodaa
open Go.RowKit

def stepW (next : List (List Int)) (W : List (List Int)) (s : List Int) (l : Nat) : List Int := s.flatMap fun x => (W[l]!).map fun k => nx next x k.toNat
section
variable {G : World → Prop} (hG : Lasting G)
include hG
end
end Go.Proofs.Ythcclcbliedodaa
namespace Go.Proofs.Ythcclcbliedodaa
open Go.RowKit

section
variable {G : World → Prop} (hG : Lasting G)
include hG
end
end Go.Proofs.Ythcclcbliedodaa
namespace Go.Proofs.Ythcclcbliedodaa
open Go.RowKit

section
variable {G : World → Prop} (hG : Lasting G)
include hG
end
end Go.Proofs.Ythcclcbliedodaa
namespace Go.Proofs.Ythcclcbliedodaa

/-- The language of an automaton. -/
def lng (a : GAuto) : List Nat → Bool := lang a.next a.ends 0
/-- It is the least automaton of a language. -/
structure IsLeast (a : GAuto) (n : Nat) (base tracks : Int) (L : List Nat → Bool) : Prop where
  base : a.base = base
  tracks : a.tracks = tracks
  least : Least n a.next a.ends L
theorem IsLeast.unique {a b : GAuto} {n : Nat} {base tracks : Int} {L L' : List Nat → Bool} (h : IsLeast a n base tracks L) (h' : IsLeast b n base tracks L') (hL : ∀ w, Ltr n w → L w = L' w) : a = b := by
  have := (h.least.lang_congr hL).unique h'.least
  cases a; cases b
  simp only [GAuto.mk.injEq]
  exact ⟨h.base.trans h'.base.symm, h.tracks.trans h'.tracks.symm, this.1, this.2⟩
theorem Least.length_pos {n : Nat} {N : List (List Int)} {E : List Bool} {L : List Nat → Bool} (h : Least n N E L) : 0 < N.length := h.canon.m0
theorem IsLeast.good {a a0 : GAuto} {n m : Nat} {L : List Nat → Bool} (g : Good a0 n m) (h : IsLeast a n a0.base a0.tracks L) (h80 : a.next.length ≤ 80) : Good a n a.next.length :=
  ⟨by rw [h.base, h.tracks]; exact g.many, by rw [h.base, h.tracks]; exact g.n_eq, g.n0, g.n36, h.least.length_pos, h80, h.least.len, h.least.rows⟩
theorem leastA_isLeast {a : GAuto} {n m : Nat} (g : Good a n m) : IsLeast (leastA a) n a.base a.tracks (lng a) ∧ (leastA a).next.length ≤ m := by
  have h := leastRE_spec (ends := a.ends) g.rows g.m0
  have hn : (manyOf a.base a.tracks).toNat = n := by rw [g.n_eq]; rfl
  unfold leastA
  rw [hn]
  exact ⟨⟨rfl, rfl, h.1⟩, h.2⟩
theorem Least.not {n : Nat} {N : List (List Int)} {E : List Bool} {L : List Nat → Bool} (h : Least n N E L) : Least n N (E.map (!·)) fun w => !L w := by
  have key : ∀ k, k < N.length → (E.map (!·)).getD k false = !E.getD k false := fun k hk => by
    have := h.len
    rw [getD_lt (by simp; omega), getD_lt (by omega)]; simp
  have hrun : ∀ (w : List Nat) (s : Nat), s < N.length → Ltr n w → runN (fun k l => ((N.getD k []).getD l 0).toNat) s w < N.length := by
    intro w
    induction w with
    | nil => intro s hs _; exact hs
    | cons l w ih => intro s hs hw; exact ih _ (h.canon.lt s l hs (hw l List.mem_cons_self)) fun x hx => hw x (List.mem_cons_of_mem _ hx)
  refine ⟨by simp [h.len], h.row, h.pos, h.canon.m0, h.canon.lt, fun w hw => ?_, h.canon.rg, h.canon.reach, fun s t hs ht hh => h.canon.red s t hs ht fun w hw => ?_⟩
  · rw [key _ (hrun w 0 h.canon.m0 hw)]; exact congrArg _ (h.canon.lang w hw)
  · have := hh w hw
    rw [key _ (hrun w s hs hw), key _ (hrun w t ht hw)] at this
    simpa using this
/-- A least automaton takes the words of its language. -/
theorem IsLeast.lng {a : GAuto} {n : Nat} {base tracks : Int} {L : List Nat → Bool} (h : IsLeast a n base tracks L) {w : List Nat} (hw : Ltr n w) : Go.Proofs.Ythcclcbliedodaa.lng a w = L w := h.least.takes hw
end Go.Proofs.Ythcclcbliedodaa
namespace Go.Proofs.Ythcclcbliedodaa

section
variable {n n' m : Nat} {next : List (List Int)} {to : List Int}
end
def fixD (base : Int) (t k : Nat) (x : Int) (l : Nat) : List Int := (unpack (radix base) t (l : Int)).take k ++ [x] ++ (unpack (radix base) t (l : Int)).drop k
def fixL (base : Int) (t k : Nat) (x : Int) (l : Nat) : Int := pack (radix base) (fixD base t k x l)
end Go.Proofs.Ythcclcbliedodaa
namespace Go.Proofs.Ythcclcbliedodaa
open Go.RowKit

section
variable {P : Program} {G : World → Prop} {κ : Type} {tt : Nat → Option TI} {tb : Tab} {K : St → (κ → Option HR) → Prop} {Q : Exit → St → (κ → Option HR) → Prop} {st : St} {g : κ → Option HR} {i id : Nat}
theorem HThen_n (h : K st g) : HThen K Q .normal st g := h
theorem HThen_r (h : Q .ret st g) : HThen K Q .ret st g := h
theorem HThen_e (h : Q (.exit i) st g) : HThen K Q (.exit i) st g := h
theorem HIn_n (h : Q .normal st g) : HIn id Q .normal st g := h
theorem HIn_r (h : Q .ret st g) : HIn id Q .ret st g := h
theorem HIn_eq (h : Q .normal st g) : HIn id Q (.exit id) st g := by simp [HIn, h]
theorem HIn_ne (hne : i ≠ id) (h : Q (.exit i) st g) : HIn id Q (.exit i) st g := by simp [HIn, hne, h]
theorem HW_run (hT : TTok P tt) (hGl : Lasting G) (htb : Tab.ok P G tb) {id : Nat} {l : List Oper} {st st' : St} {g : κ → Option HR} (h : runX tt tb l.toArray l st = some st') (hq : Q .normal st' g) : HW P G (.region id l.toArray false) Q st g :=
  HW_sw (SW_run hT hGl htb h hq)
theorem HW_draw (hm : P.follows .mixedOrders = true) (hT : TTok P tt) (hGl : Lasting G) (htb : Tab.ok P G tb) {id : Nat} {ops : Array Oper} (htopo : topoB ops = true) {s t : St} {g : κ → Option HR} (h : runI tt tb ops (List.range ops.size) s = some t) (hq : Q .normal t g) : HW P G (.region id ops true) Q s g :=
  HW_sw (SW_draw hm hT hGl htb htopo h hq)
end
theorem v1 : type_of% @HW_seq := @HW_seq
theorem v2 : type_of% @HW_block := @HW_block
theorem v3 : type_of% @HThen_n := @HThen_n
theorem v4 : type_of% @HThen_r := @HThen_r
theorem v5 : type_of% @HThen_e := @HThen_e
theorem v6 : type_of% @HIn_n := @HIn_n
theorem v7 : type_of% @HIn_r := @HIn_r
theorem v8 : type_of% @HIn_eq := @HIn_eq
theorem v9 : type_of% @HW_skip := @HW_skip
theorem va : type_of% @HW_exit := @HW_exit
theorem vb : type_of% @HW_ret := @HW_ret
theorem vc : type_of% @SPost_r := @SPost_r
theorem vd : type_of% @HIn_ne := @HIn_ne
theorem ve : type_of% @HW_true := @HW_true
theorem vf : type_of% @HW_false := @HW_false
/-- The types, a nil []int being told as its header. -/
def ttR (t : Nat) : Option TI := if t = 26 then some ⟨.slice 3, 1, 24, [.t (.raw none 0 0)], false⟩ else tt t
attribute [go_sem] ttR
theorem ttR_ok : TTok Try.prog ttR := fun t i h => by
  unfold ttR at h
  split at h
  · rename_i e
    subst e
    cases h
    have k := tt_ok 26 ⟨.slice 3, 1, 24, [.nil], false⟩ rfl
    obtain ⟨inf, i1, i2, i3, z, i4, i5, i6, i7, i8⟩ := k.info
    refine ⟨⟨inf, i1, i2, i3, z, i4, i5, rfl, fun q x v h1 h2 => ?_, i8⟩, k.pos, k.says, fun h => by cases h⟩
    match q, h1 with
    | 0, h1 =>
      cases h1
      have := i7 0 .nil v rfl h2
      unfold zm at this
      split at this <;> first | rfl | (cases this; done) | (simp_all; done) | skip
  · exact tt_ok t i h
end Go.Proofs.Ythcclcbliedodaa
namespace Go.Proofs.Ythcclcbliedodaa
open Go.RowKit

section
variable {G : World → Prop} (hG : Lasting G)
include hG
end
end Go.Proofs.Ythcclcbliedodaa
namespace Go.Proofs.Ythcclcbliedodaa
open Go.RowKit

section
variable {G : World → Prop} (hG : Lasting G)
include hG
end
end Go.Proofs.Ythcclcbliedodaa
namespace Go.Proofs.Ythcclcbliedodaa

theorem takes_lng' {a : GAuto} {n m : Nat} (g : Good a n m) {w : List Int} (h : w.length ≤ 400 ∧ ∀ l ∈ w, 0 ≤ l ∧ l < (n : Int)) : takesOf a w = lng a (w.map Int.toNat) := by
  rw [takes_good g h.1 h.2, runFrom_runS]; rfl
theorem ltr_toNat' {n : Nat} {w : List Int} (h : ∀ l ∈ w, 0 ≤ l ∧ l < (n : Int)) : Ltr n (w.map Int.toNat) := fun x hx => by
  obtain ⟨l, hl, rfl⟩ := List.mem_map.1 hx
  have := h l hl; omega
end Go.Proofs.Ythcclcbliedodaa
namespace Go.Proofs.Ythcclcbliedodaa

theorem least_again {a : GAuto} {n m : Nat} (g : Good a n m) : leastOf (leastA a) = leastA a ∧ autoFault (leastA a) = 0 ∧ Good (leastA a) n (leastA a).next.length := by
  obtain ⟨h1, h2⟩ := leastA_isLeast g
  have g' := IsLeast.good g h1 (by have := g.m80; omega)
  obtain ⟨h3, _⟩ := leastA_isLeast g'
  refine ⟨?_, g'.fault, g'⟩
  unfold leastOf
  rw [if_pos g'.fault]
  exact IsLeast.unique (n := n) (base := a.base) (tracks := a.tracks) h3 h1 fun w hw => h1.lng hw
end Go.Proofs.Ythcclcbliedodaa
namespace Go.Proofs.Ythcclcbliedodaa
open Go.RowKit

/-- At each letter of what is left the letters with a digit more. -/
def withR (base : Int) (t k l : Nat) : List Int := (List.range (radix base).toNat).map fun x : Nat => fixL base t k x l
def withW (base : Int) (t k : Nat) : List (List Int) := (List.range (manyOf base (t : Int)).toNat).map (withR base t k)
def leftW (a : GAuto) (track : Int) : List (List Int) := withW a.base (a.tracks - 1).toNat track.toNat
def leftN (a : GAuto) : Nat := (manyOf a.base (((a.tracks - 1).toNat : Nat) : Int)).toNat
noncomputable def leftF (a : GAuto) (track : Int) : List Int := closeL (leastA a) ((leftW a track)[0]!)
def leftBad (a : GAuto) (track : Int) : Prop := autoFault a ≠ 0 ∨ track < 0 ∨ a.tracks ≤ track
open Classical in
noncomputable def leftS (a : GAuto) (track : Int) : List (List Int) := if leftBad a track then [] else growSets (stepW (leastA a).next (leftW a track)) (leftN a) (leftF a track)
open Classical in
noncomputable def leftR (a : GAuto) (track : Int) : List (List Int) := if leftBad a track then [] else growRows (stepW (leastA a).next (leftW a track)) (leftN a) (leftF a track)
/-- What is known where nothing is wrong. -/
structure LeftOk (a : GAuto) (k t N nW r : Nat) : Prop where
  good : Good a N a.next.length
  tr : a.tracks = ((t + 1 : Nat) : Int)
  kt : k ≤ t
  t4 : t ≤ 4
  rad : radix a.base = (r : Int)
  r2 : 2 ≤ r
  r6 : r ≤ 6
  many : manyErr a.base (t : Int) = 0
  nWe : manyOf a.base (t : Int) = (nW : Int)
  nW0 : 0 < nW
  nW36 : nW ≤ 36
  N_eq : (N : Int) = powW (radix a.base) (t + 1)
/-- Rows of hidden rows, and what they hold. -/
def HdrInv (g : Nat → Option HR) (ws : List T) (n : Nat) (cont : Nat → List Int) : Prop := ws.length = n ∧ ∀ j, j < n → HdrOk g j 3 1 (iL (cont j)) (ws[j]!)
theorem HdrInv.init (n : Nat) : HdrInv (fun _ => none) (List.replicate n (.raw none 0 0)) n (fun _ => []) :=
  ⟨List.length_replicate, fun j hj => .inl ⟨rfl, rfl, by rw [getElem!_pos _ _ (by rw [List.length_replicate]; exact hj), List.getElem_replicate]⟩⟩
theorem HdrInv.congr {g : Nat → Option HR} {ws : List T} {n : Nat} {cont cont' : Nat → List Int} (h : HdrInv g ws n cont) (he : ∀ j, j < n → cont' j = cont j) : HdrInv g ws n cont' :=
  ⟨h.1, fun j hj => by rw [he j hj]; exact h.2 j hj⟩
theorem HdrInv.step {g : Nat → Option HR} {ws : List T} {n : Nat} {cont cont' : Nat → List Int} (h : HdrInv g ws n cont) {l : Nat} (hl : l < n) (v : Int) (c : Option Addr × Nat × Nat) (h1 : cont' l = cont l ++ [v]) (h2 : ∀ j, j ≠ l → j < n → cont' j = cont j) :
    HdrInv (upd g l (some ⟨c.1, c.2.1, c.2.2, 3, 1, iL (cont l) ++ [.int .i64 v]⟩)) (ws.set l (.raw c.1 c.2.1 c.2.2)) n cont' := by
  refine ⟨by rw [List.length_set]; exact h.1, fun j hj => ?_⟩
  have hlen := h.1
  have hg : (ws.set l (T.raw c.1 c.2.1 c.2.2))[j]! = if l = j then T.raw c.1 c.2.1 c.2.2 else ws[j]! := by
    rw [getElem!_pos _ _ (by rw [List.length_set]; omega), List.getElem_set]
    split
    · rfl
    · rw [getElem!_pos _ _ (by omega)]
  rw [hg]
  by_cases e : l = j
  · subst e
    rw [if_pos rfl, h1]
    refine .inr ⟨⟨c.1, c.2.1, c.2.2, 3, 1, iL (cont l) ++ [.int .i64 v]⟩, by simp [upd], rfl, rfl, by simp [iL], rfl⟩
  · rw [if_neg e, h2 j (fun q => e q.symm) hj]
    have e2 : upd g l (some ⟨c.1, c.2.1, c.2.2, 3, 1, iL (cont l) ++ [.int .i64 v]⟩) j = g j := by
      show (if j = l then _ else g j) = g j
      rw [if_neg fun q => e q.symm]
    rcases h.2 j hj with ⟨q1, q2, q3⟩ | ⟨r, q1, q2, q3, q4, q5⟩
    · exact .inl ⟨by rw [e2]; exact q1, q2, q3⟩
    · exact .inr ⟨r, by rw [e2]; exact q1, q2, q3, q4, q5⟩
theorem HdrInv.opens {g : Nat → Option HR} {ws : List T} {n : Nat} {W : List (List Int)} (h : HdrInv g ws n (fun j => W[j]!)) (hW : W.length = n) (hne : ∀ r ∈ W, r ≠ []) : (W.map tInts).length = ws.length ∧ ∀ (i : Nat) (y y' : T), ws[i]? = some y → (W.map tInts)[i]? = some y' → OpenH g y y' := by
  refine ⟨by rw [List.length_map, h.1, hW], fun i y y' h1 h2 => ?_⟩
  obtain ⟨hi, e1⟩ := List.getElem?_eq_some_iff.1 h1
  have hin : i < n := by rw [← h.1]; exact hi
  have ey : ws[i]! = y := by rw [getElem!_pos ws i hi, e1]
  rw [List.getElem?_map, Option.map_eq_some_iff] at h2
  obtain ⟨r, hr, rfl⟩ := h2
  have er : W[i]! = r := by
    obtain ⟨q1, q2⟩ := List.getElem?_eq_some_iff.1 hr
    rw [getElem!_pos W i q1, q2]
  have hk := h.2 i hin
  simp only [er, ey] at hk
  rcases hk with ⟨_, q2, _⟩ | ⟨q, q1, _, _, q4, rfl⟩
  · exfalso
    exact hne r (List.mem_of_getElem? hr) (List.eq_nil_of_length_eq_zero (by have := congrArg List.length q2; rw [iL_length] at this; exact this))
  · exact .raw i q (iL r) q1 (by rw [q4]) fun k y z e1 e2 => by
      rw [q4, e2] at e1
      cases e1
      exact .refl _
end Go.Proofs.Ythcclcbliedodaa
namespace Go.Proofs.Ythcclcbliedodaa
open Go.RowKit

section
variable {G : World → Prop} (hG : Lasting G)
include hG
end
end Go.Proofs.Ythcclcbliedodaa
namespace Go.Proofs.Ythcclcbliedodaa
open Go.RowKit

theorem bang0 {l : List (List Int)} {x : List Int} (h : l[0]? = some x) : l[0]! = x := by
  cases l with
  | nil => simp at h
  | cons y l => simpa using h
theorem grow_facts {stp : List Int → Nat → List Int} {n : Nat} {first : List Int} (h : growOk stp n first = true) :
    (growRows stp n first).length = (growSets stp n first).length ∧ 0 < (growSets stp n first).length ∧ (growSets stp n first).length ≤ 2000 ∧ Rows0 n (growSets stp n first).length (growRows stp n first) ∧ (growSets stp n first)[0]! = canonL first ∧ Expl (nextD stp) n (growSets stp n first) (growRows stp n first) := by
  have hs : growSets stp n first = setsOf (nextD stp) n (canonL first) := if_pos h
  have hr : growRows stp n first = rowsOf (nextD stp) n (canonL first) := if_pos h
  have hex := rowsOf_expl h
  have hl : (rowsOf (nextD stp) n (canonL first)).length = (setsOf (nextD stp) n (canonL first)).length := rowsOf_len
  have h0 : (setsOf (nextD stp) n (canonL first))[0]? = some (canonL first) := by unfold setsOf; generalize 2001 = k; exact growS_zero k
  have h2 : (setsOf (nextD stp) n (canonL first)).length ≤ 2000 := by
    have h' := h
    unfold growOk setsOk at h'
    exact of_decide_eq_true h'
  rw [hs, hr]
  obtain ⟨q1, q2⟩ := List.getElem?_eq_some_iff.1 h0
  exact ⟨hl, q1, h2, hex.table hl, bang0 h0, hex⟩
theorem grow_inm {stp : List Int → Nat → List Int} {n m : Nat} {first : List Int} (hf : Inm m first) (hs : ∀ s l, Inm m s → l < n → Inm m (stp s l)) : ∀ s ∈ growSets stp n first, Inm m s ∧ s.Pairwise (· < ·) := fun s h => by
  unfold growSets at h
  split at h
  · unfold setsOf at h
    generalize 2001 = k at h
    exact growS_in' (p := fun s => Inm m s ∧ s.Pairwise (· < ·)) ⟨hf.canon, (canonL_spec _).1⟩ (fun s l hl hp => ⟨(hs s l hp.1 hl).canon, (canonL_spec _).1⟩) k s h
  · simp at h
theorem inm_len {m : Nat} {s : List Int} (h : Inm m s) (ha : s.Pairwise (· < ·)) : s.length ≤ m := asc_len ha h
end Go.Proofs.Ythcclcbliedodaa
namespace Go.Proofs
open Go.Shelf
end Go.Proofs
namespace Go.Proofs.Ythcclcbliedodaa
open Go.RowKit Go.Lib

section
variable {P : Program} {C : Ctx} {hd : List Hd} {w w' : World} {e : Nat} {l ys : List Int}
end
section
variable {G : World → Prop}
/-- What a call hands back, in another form. -/
theorem SndG.post {P : Program} {f : Nat} {xs : List SV} {obs obs' obs'' : List Ob} {r r' : SV} {tm : List (Nat × SV)} (h : SndG P G f xs obs [] r obs') (hlen : obs.length ≤ obs''.length) (hbox : ∀ (i : Nat) (l : List SV), obs[i]? ≠ some (.box l)) (hl : look tm 0 = some r') (hn : Norm ⟨1, [(0, r)], obs'⟩ ⟨1, tm, obs''⟩) : SndG P G f xs obs [] r' obs'' :=
  ⟨h.enter, hlen, fun i l q => (hbox i l q).elim, fun C hd w vs hG hr hvs hrep => (h.calls C hd w vs hG hr hvs hrep).mono fun e w' ⟨v, hd', e1, h1, _, _, h2⟩ => by
    have hr1 : StR C ⟨1, [(0, r)], obs'⟩ hd' { tmps := #[v], defers := [] } w' := ⟨h1.below, rfl, rfl, h1.hl, h1.ob, h1.own, h1.dist, fun t y hy => (by
      simp only [look] at hy
      split at hy
      · rename_i e; subst e; cases hy; exact h2
      · cases hy), h1.ext⟩
    obtain ⟨hd2, hr2⟩ := hn C hd' _ w' hr1
    exact ⟨v, hd2, e1, ⟨hr2.below, rfl, rfl, hr2.hl, hr2.ob, hr2.own, hr2.dist, fun t y hy => by simp [look] at hy, hr2.ext⟩, fun i l b q => (hbox i l q).elim, fun i hi => by simp at hi, hr2.sl 0 r' hl⟩⟩
end
end Go.Proofs.Ythcclcbliedodaa
namespace Go.Proofs.Ythcclcbliedodaa
open Go.RowKit

section
variable {G : World → Prop} (hG : Lasting G)
include hG
end
end Go.Proofs.Ythcclcbliedodaa
namespace Go.Proofs.Ythcclcbliedodaa
open Go.RowKit

section
variable {G : World → Prop} (hG : Lasting G)
include hG
end
end Go.Proofs.Ythcclcbliedodaa
namespace Go.Proofs.Ythcclcbliedodaa
open Go.RowKit

/-- What is known where nothing is wrong. -/
structure LeftIs (a : GAuto) (k t N nW r m : Nat) : Prop where
  ok : LeftOk a k t N nW r
  M : Good (leastA a) N m
  Wlen : (withW a.base t k).length = nW
  Wrow : ∀ w ∈ withW a.base t k, w.length = r ∧ ∀ x ∈ w, 0 ≤ x ∧ x < (N : Int)
  W : leftW a (k : Int) = withW a.base t k
  n : leftN a = nW
  first : Inm m (closeL (leastA a) ((withW a.base t k)[0]!))
  F : leftF a (k : Int) = closeL (leastA a) ((withW a.base t k)[0]!)
  len : (leftR a k).length = (leftS a k).length
  pos : 0 < (leftS a k).length
  few : (leftS a k).length ≤ 2000
  rows : Rows0 nW (leftS a k).length (leftR a k)
  sets : ∀ s ∈ leftS a k, Inm m s ∧ s.Pairwise (· < ·)
  gok : growOk (stepW (leastA a).next (withW a.base t k)) nW (closeL (leastA a) ((withW a.base t k)[0]!)) = true
  expl : Expl (nextD (stepW (leastA a).next (withW a.base t k))) nW (leftS a k) (leftR a k)
  start : (leftS a k)[0]! = canonL (closeL (leastA a) ((withW a.base t k)[0]!))
section
variable {G : World → Prop} (hG : Lasting G)
include hG
end
end Go.Proofs.Ythcclcbliedodaa
namespace Go.Proofs.Ythcclcbliedodaa
open Go.RowKit

section
variable {G : World → Prop} (hG : Lasting G)
include hG
end
end Go.Proofs.Ythcclcbliedodaa
namespace Go.Proofs.Ythcclcbliedodaa
open Go.RowKit

/-- What words of some letters lead to. -/
inductive Rch (a : GAuto) (letters : List Int) : Int → Prop
  | zero : Rch a letters 0
  | step (s : Int) (j : Nat) (h : Rch a letters s) (hj : j < letters.length) : Rch a letters (closeD a letters s j)
section
variable {G : World → Prop} (hG : Lasting G)
include hG
end
end Go.Proofs.Ythcclcbliedodaa
namespace Go.Proofs.Ythcclcbliedodaa

def walkOk (c : Nat → Nat → Bool) : Nat → List Nat → Bool
  | _, [] => true
  | s, l :: w => !c s l && walkOk c l w
def chain (c : Nat → Nat → Bool) : List Nat → Bool
  | [] => true
  | x :: w => walkOk c x w
/-- Two letters that have a digit 1 on the same track, in base Fib. -/
def clash (base : Int) (t s l : Nat) : Bool := base == 1 && (List.range t).any fun k => digitAt (radix base) t (s : Int) k == 1 && digitAt (radix base) t (l : Int) k == 1
end Go.Proofs.Ythcclcbliedodaa
namespace Go.Proofs.Ythcclcbliedodaa

/-- The least rows and ends of a language. -/
noncomputable def leastL (n : Nat) (L : List Nat → Bool) : List (List Int) × List Bool := open Classical in if h : ∃ p : List (List Int) × List Bool, Least n p.1 p.2 L then Classical.choose h else ([], [])
theorem leastL_eq {n : Nat} {N : List (List Int)} {E : List Bool} {L : List Nat → Bool} (h : Least n N E L) : leastL n L = (N, E) := by
  have hx : ∃ p : List (List Int) × List Bool, Least n p.1 p.2 L := ⟨(N, E), h⟩
  unfold leastL
  rw [dif_pos hx]
  have := (Classical.choose_spec hx).unique h
  exact Prod.ext this.1 this.2
/-- Some table takes this language. -/
def Regular (n : Nat) (L : List Nat → Bool) : Prop := ∃ N E, Least n N E L
theorem Regular.of {n m : Nat} {next : List (List Int)} {ends : List Bool} {L : List Nat → Bool} (hR : Rows0 n m next) (hm : 0 < m) (h : ∀ w, Ltr n w → lang next ends 0 w = L w) : Regular n L :=
  ⟨_, _, (leastRE_spec (ends := ends) hR hm).1.lang_congr h⟩
theorem Regular.least {n : Nat} {L : List Nat → Bool} (h : Regular n L) : Least n (leastL n L).1 (leastL n L).2 L := by
  obtain ⟨N, E, h⟩ := h
  rw [leastL_eq h]; exact h
/-- A least automaton has no more states than words have kinds. -/
theorem Least.bound {n : Nat} {N : List (List Int)} {E : List Bool} {L : List Nat → Bool} (h : Least n N E L) (K : Nat) (κ : List Nat → Nat) (hκ : ∀ v, Ltr n v → κ v < K)
    (hres : ∀ v w, Ltr n v → Ltr n w → κ v = κ w → ∀ x, Ltr n x → L (v ++ x) = L (w ++ x)) : N.length ≤ K := by
  have hreach : ∀ k s, s ≤ k → s < N.length → ∃ v, Ltr n v ∧ runN (fun k l => ((N.getD k []).getD l 0).toNat) 0 v = s := by
    intro k
    induction k with
    | zero => intro s hs _; exact ⟨[], fun _ h => by simp at h, by rw [show s = 0 by omega]; rfl⟩
    | succ k ih =>
      intro s hs hlt
      by_cases h0 : s = 0
      · subst h0; exact ⟨[], fun _ h => by simp at h, rfl⟩
      · obtain ⟨q, l, hq, hl, e⟩ := h.canon.reach s (by omega) hlt
        obtain ⟨v, hv, ev⟩ := ih q (by omega) (by omega)
        refine ⟨v ++ [l], fun x hx => ?_, ?_⟩
        · rcases List.mem_append.1 hx with hx | hx
          · exact hv x hx
          · simp at hx; subst hx; exact hl
        · unfold runN at ev ⊢
          rw [List.foldl_append, ev]; exact e
  have hr : ∀ s, ∃ v, s < N.length → Ltr n v ∧ runN (fun k l => ((N.getD k []).getD l 0).toNat) 0 v = s := fun s => by
    by_cases hs : s < N.length
    · obtain ⟨v, hv⟩ := hreach s s (Nat.le_refl _) hs
      exact ⟨v, fun _ => hv⟩
    · exact ⟨[], fun h => (hs h).elim⟩
  obtain ⟨f, hf⟩ := Classical.axiomOfChoice hr
  have := nodup_boundN K ((List.range N.length).map fun s => κ (f s)) (by
    refine List.pairwise_map.2 (List.nodup_range.imp_of_mem fun {s q} hs hq hne e => hne ?_)
    have hs := List.mem_range.1 hs
    have hq := List.mem_range.1 hq
    obtain ⟨h1, h2⟩ := hf s hs
    obtain ⟨h3, h4⟩ := hf q hq
    refine h.canon.red s q hs hq fun x hx => ?_
    have := hres _ _ h1 h3 e x hx
    have app : ∀ v, Ltr n v → Ltr n (v ++ x) := fun v hv y hy => by
      rcases List.mem_append.1 hy with hy | hy
      · exact hv y hy
      · exact hx y hy
    rw [← h.canon.lang _ (app _ h1), ← h.canon.lang _ (app _ h3)] at this
    unfold runN at this h2 h4 ⊢
    rw [List.foldl_append, List.foldl_append, h2, h4] at this
    exact this) fun k hk => by
      obtain ⟨s, hs, rfl⟩ := List.mem_map.1 hk
      exact hκ _ (hf s (List.mem_range.1 hs)).1
  simpa using this

section
variable {base : Int} {t n m : Nat} {next : List (List Int)} {ends : List Bool}
end

section
variable {k m : Nat} {next : List (List Int)}
end

section
variable {A B : List (List Int)} {f g : Nat → Nat} {n n1 n2 ma mb : Nat}
end
end Go.Proofs.Ythcclcbliedodaa
namespace Go.Proofs.Ythcclcbliedodaa
open Go.RowKit

section
variable {G : World → Prop} (hG : Lasting G)
include hG
end
end Go.Proofs.Ythcclcbliedodaa
namespace Go.Proofs.Ythcclcbliedodaa
open Go.RowKit

/-- A word of all tracks that reads as one of what is left. -/
inductive Fill (W : List (List Int)) : List Nat → List Nat → Prop
  | nil : Fill W [] []
  | cons {k l : Nat} {v w : List Nat} (h : ((k : Nat) : Int) ∈ W[l]!) (t : Fill W v w) : Fill W (k :: v) (l :: w)
theorem bang_in {W : List (List Int)} {l : Nat} {k : Int} (h : k ∈ W[l]!) : ∃ r ∈ W, k ∈ r ∧ W[l]? = some r := by
  by_cases hl : l < W.length
  · exact ⟨_, bang_mem rfl hl, h, bang_get rfl hl⟩
  · rw [getElem!_neg W l hl] at h
    cases h
theorem Fill.ltr {W : List (List Int)} {N : Nat} (hW : ∀ r ∈ W, ∀ k ∈ r, 0 ≤ k ∧ k < (N : Int)) {v w : List Nat} (h : Fill W v w) : Ltr N v := by
  induction h with
  | nil => intro x hx; cases hx
  | cons h t ih =>
    intro x hx
    rcases List.mem_cons.1 hx with rfl | hx
    · obtain ⟨r, h1, h2, _⟩ := bang_in h
      have := hW r h1 _ h2
      omega
    · exact ih x hx
section
variable {next W : List (List Int)}
theorem runS_append (w v : List Nat) (s : Int) : runS next s (w ++ v) = runS next (runS next s w) v := List.foldl_append
end
theorem bool_iff {a b : Bool} (h : a = true ↔ b = true) : a = b := by
  cases a <;> cases b <;> simp_all
end Go.Proofs.Ythcclcbliedodaa
namespace Go.Proofs.Ythcclcbliedodaa
open Go.RowKit

section
variable {base : Int} {t j : Nat}
end
section
variable {a : GAuto} {k t N nW r : Nat}
end
/-- Few sets come up. -/
theorem nodup_few {σ : Type} {l : List σ} {p : σ → Prop} (f : σ → Nat) {K : Nat} (hn : l.Nodup) (hp : ∀ s ∈ l, p s) (hf : ∀ s, p s → f s < K) (hi : ∀ s t, p s → p t → f s = f t → s = t) : l.length ≤ K := by
  have : (l.map f).Nodup := by
    unfold List.Nodup
    rw [List.pairwise_map]
    exact List.Pairwise.imp_of_mem (fun {s t} hs ht hne e => hne (hi s t (hp s hs) (hp t ht) e)) hn
  have := nodup_boundN K (l.map f) this fun x hx => by
    obtain ⟨s, hs, rfl⟩ := List.mem_map.1 hx
    exact hf s (hp s hs)
  simpa using this
theorem sets_few {σ : Type} [DecidableEq σ] {δ : σ → Nat → σ} {n : Nat} {s0 : σ} {p : σ → Prop} (f : σ → Nat) {K : Nat} (h0 : p s0) (hp : ∀ s l, l < n → p s → p (δ s l)) (hf : ∀ s, p s → f s < K) (hi : ∀ s t, p s → p t → f s = f t → s = t) (hK : K ≤ 2000) : setsOk δ n s0 = true := by
  unfold setsOk
  rw [decide_eq_true_iff]
  exact Nat.le_trans (nodup_few f sets_nodup (growS_in' h0 hp _) hf hi) hK
/-- 0s ahead do not matter. -/
def Closed (n : Nat) (L : List Nat → Bool) : Prop := ∀ w, Ltr n w → L (0 :: w) = L w
theorem Closed.congr {n : Nat} {L L' : List Nat → Bool} (hn : 0 < n) (h : Closed n L) (he : ∀ w, Ltr n w → L w = L' w) : Closed n L' := fun w hw => by
  rw [← he w hw, ← he (0 :: w) (fun x hx => by rcases List.mem_cons.1 hx with rfl | hx; exact hn; exact hw x hx)]
  exact h w hw
end Go.Proofs.Ythcclcbliedodaa
namespace Go.Proofs.Ythcclcbliedodaa
open Go.RowKit

/-- The states that lead to one at a letter. -/
def fromL (next : List (List Int)) (m : Nat) (t : Int) (l : Nat) : List Int := ((List.range m).filter fun x : Nat => decide (nx next ((x : Nat) : Int) l = t)).map fun x : Nat => ((x : Nat) : Int)
def stepT (next : List (List Int)) (m : Nat) (s : List Int) (l : Nat) : List Int := s.flatMap fun t => fromL next m t l
theorem fromL_mem {next : List (List Int)} {m : Nat} {t : Int} {l : Nat} {x : Int} : x ∈ fromL next m t l ↔ (0 ≤ x ∧ x < (m : Int)) ∧ nx next x l = t := by
  unfold fromL
  rw [List.mem_map]
  constructor
  · rintro ⟨y, hy, rfl⟩
    obtain ⟨h1, h2⟩ := List.mem_filter.1 hy
    have := List.mem_range.1 h1
    exact ⟨by omega, of_decide_eq_true h2⟩
  · rintro ⟨h, e⟩
    refine ⟨x.toNat, List.mem_filter.2 ⟨List.mem_range.2 (by omega), ?_⟩, by omega⟩
    rw [Int.toNat_of_nonneg h.1]
    exact decide_eq_true e
theorem fromL_len (next : List (List Int)) (m : Nat) (t : Int) (l : Nat) : (fromL next m t l).length ≤ m := by
  unfold fromL
  rw [List.length_map]
  exact Nat.le_trans (List.length_filter_le _ _) (by simp)
theorem stepT_mem {next : List (List Int)} {m : Nat} {s : List Int} {l : Nat} {x : Int} : x ∈ stepT next m s l ↔ (0 ≤ x ∧ x < (m : Int)) ∧ nx next x l ∈ s := by
  unfold stepT
  rw [List.mem_flatMap]
  constructor
  · rintro ⟨t, ht, hx⟩
    obtain ⟨h1, rfl⟩ := fromL_mem.1 hx
    exact ⟨h1, ht⟩
  · rintro ⟨h1, h2⟩
    exact ⟨_, h2, fromL_mem.2 ⟨h1, rfl⟩⟩
theorem stepT_in {next : List (List Int)} {m : Nat} {s : List Int} {l : Nat} : Inm m (stepT next m s l) := fun _ hx => (stepT_mem.1 hx).1
theorem stepT_len (next : List (List Int)) (m : Nat) (s : List Int) (l : Nat) : (stepT next m s l).length ≤ s.length * m := by
  induction s with
  | nil => simp [stepT]
  | cons x s ih =>
    have e : stepT next m (x :: s) l = fromL next m x l ++ stepT next m s l := rfl
    have := fromL_len next m x l
    rw [e, List.length_append, List.length_cons, Nat.add_mul, Nat.one_mul]
    omega
theorem stepT_D {next : List (List Int)} {m : Nat} {s : List Int} {l : Nat} {x : Int} : x ∈ nextD (stepT next m) s l ↔ (0 ≤ x ∧ x < (m : Int)) ∧ nx next x l ∈ s := by
  unfold nextD
  rw [canonL_mem, stepT_mem]
theorem stepT_run {n m : Nat} {next : List (List Int)} (h : Rows0 n m next) : ∀ (w : List Nat) (s : List Int) (x : Int), Ltr n w → Inm m s → (x ∈ w.foldl (nextD (stepT next m)) s ↔ (0 ≤ x ∧ x < (m : Int)) ∧ runS next x w.reverse ∈ s)
  | [], s, x, _, hs => ⟨fun q => ⟨hs x q, q⟩, fun q => q.2⟩
  | l :: w, s, x, hw, hs => by
    have hw' : Ltr n w := fun y hy => hw y (List.mem_cons_of_mem _ hy)
    have hwr : Ltr n w.reverse := fun y hy => hw' y (List.mem_reverse.1 hy)
    rw [List.foldl_cons, stepT_run h w _ x hw' fun y hy => (stepT_D.1 hy).1, List.reverse_cons, runS_append]
    constructor
    · rintro ⟨h1, h2⟩
      exact ⟨h1, (stepT_D.1 h2).2⟩
    · rintro ⟨h1, h2⟩
      exact ⟨h1, stepT_D.2 ⟨runS_ok h _ x h1 hwr, h2⟩⟩
/-- The states with an end. -/
def endsF (ends : List Bool) (m : Nat) : List Int := ((List.range m).filter fun x : Nat => endOf ends ((x : Nat) : Int)).map fun x : Nat => ((x : Nat) : Int)
theorem endsF_mem {ends : List Bool} {m : Nat} {x : Int} : x ∈ endsF ends m ↔ (0 ≤ x ∧ x < (m : Int)) ∧ endOf ends x = true := by
  unfold endsF
  rw [List.mem_map]
  constructor
  · rintro ⟨y, hy, rfl⟩
    obtain ⟨h1, h2⟩ := List.mem_filter.1 hy
    have := List.mem_range.1 h1
    exact ⟨by omega, h2⟩
  · rintro ⟨h, e⟩
    refine ⟨x.toNat, List.mem_filter.2 ⟨List.mem_range.2 (by omega), ?_⟩, by omega⟩
    rw [Int.toNat_of_nonneg h.1]
    exact e
theorem endsF_len (ends : List Bool) (m : Nat) : (endsF ends m).length ≤ m := by
  unfold endsF
  rw [List.length_map]
  exact Nat.le_trans (List.length_filter_le _ _) (by simp)
def isZ (x : Int) : Bool := decide (x = 0)
noncomputable def turnN (a : GAuto) : Nat := (manyOf a.base a.tracks).toNat
noncomputable def turnF (a : GAuto) : List Int := endsF (leastA a).ends (leastA a).next.length
noncomputable def turnD (a : GAuto) : List Int → Nat → List Int := stepT (leastA a).next (leastA a).next.length
noncomputable def turnOk (a : GAuto) : Bool := growOk (turnD a) (turnN a) (turnF a)
noncomputable def turnErr0 (a : GAuto) : Int := if autoFault a ≠ 0 then autoFault a else if turnOk a = false then 3 else 0
noncomputable def turnS (a : GAuto) : List (List Int) := if autoFault a ≠ 0 then [] else growSets (turnD a) (turnN a) (turnF a)
noncomputable def turnR (a : GAuto) : List (List Int) := if autoFault a ≠ 0 then [] else growRows (turnD a) (turnN a) (turnF a)
noncomputable def turnE (a : GAuto) : List Bool := (turnS a).map fun s => s.any isZ
noncomputable def turnRE (a : GAuto) : List (List Int) × List Bool := leastRE (turnN a) (turnR a) (turnE a)
noncomputable def turnErr (a : GAuto) : Int := if turnErr0 a ≠ 0 then turnErr0 a else if (turnRE a).1.length ≤ 80 then 0 else 3
noncomputable def turnA (a : GAuto) : GAuto := if turnErr a = 0 then ⟨a.base, a.tracks, (turnRE a).1, (turnRE a).2⟩ else GAuto.zero
/-- What is known where nothing is wrong. -/
structure TurnIs (a : GAuto) (n m : Nat) : Prop where
  ok : Good a n a.next.length
  M : Good (leastA a) n m
  nE : turnN a = n
  mE : (leastA a).next.length = m
  D : turnD a = stepT (leastA a).next m
  F : turnF a = endsF (leastA a).ends m
  len : (turnR a).length = (turnS a).length
  pos : 0 < (turnS a).length
  few : (turnS a).length ≤ 2000
  rows : Rows0 n (turnS a).length (turnR a)
  sets : ∀ s ∈ turnS a, Inm m s ∧ s.Pairwise (· < ·)
  gok : growOk (stepT (leastA a).next m) n (endsF (leastA a).ends m) = true
  Se : turnS a = growSets (stepT (leastA a).next m) n (endsF (leastA a).ends m)
  Re : turnR a = growRows (stepT (leastA a).next m) n (endsF (leastA a).ends m)
  expl : Expl (nextD (stepT (leastA a).next m)) n (turnS a) (turnR a)
  start : (turnS a)[0]! = canonL (endsF (leastA a).ends m)
theorem turnErr0_zero {a : GAuto} (h : turnErr0 a = 0) : autoFault a = 0 ∧ turnOk a = true := by
  unfold turnErr0 at h
  split at h
  · rename_i h1; exact (h1 h).elim
  · rename_i h1
    split at h
    · omega
    · rename_i h2
      exact ⟨Classical.not_not.1 h1, by simpa using h2⟩
theorem turn_is {a : GAuto} (h : turnErr0 a = 0) : ∃ n m, TurnIs a n m := by
  obtain ⟨hf, hok⟩ := turnErr0_zero h
  have g := good_of hf
  obtain ⟨_, _, gM⟩ := least_again g
  have hS : turnS a = growSets (turnD a) (turnN a) (turnF a) := if_neg fun q => q hf
  have hR : turnR a = growRows (turnD a) (turnN a) (turnF a) := if_neg fun q => q hf
  obtain ⟨f1, f2, f3, f4, f5, f6⟩ := grow_facts hok
  have hIm : Inm (leastA a).next.length (turnF a) := fun x hx => (endsF_mem.1 hx).1
  have fS := grow_inm (n := turnN a) (stp := turnD a) hIm fun s l _ _ => stepT_in
  rw [← hS] at f1 f2 f3 f4 f5 f6 fS
  rw [← hR] at f1 f4 f6
  exact ⟨_, _, g, gM, rfl, rfl, rfl, rfl, f1, f2, f3, f4, fS, hok, hS, hR, f6, f5⟩
theorem turn_lang {a : GAuto} {n m : Nat} (h : TurnIs a n m) {w : List Nat} (hw : Ltr n w) : lang (turnR a) (turnE a) 0 w = lng (leastA a) w.reverse := by
  have hIm : Inm m (endsF (leastA a).ends m) := fun x hx => (endsF_mem.1 hx).1
  have hwr : Ltr n w.reverse := fun y hy => hw y (List.mem_reverse.1 hy)
  rw [h.expl.lang (E := fun s => s.any isZ) h.len (bang_get h.start h.pos) (fun i s hs => by unfold turnE; rw [List.getElem?_map, hs]; rfl) hw]
  have hm0 := h.M.m0
  refine bool_iff ?_
  rw [List.any_eq_true]
  unfold lng lang
  constructor
  · rintro ⟨x, hx, e⟩
    obtain rfl : x = 0 := of_decide_eq_true e
    have := ((stepT_run h.M.rows w _ 0 hw hIm.canon).1 hx).2
    rw [canonL_mem] at this
    exact (endsF_mem.1 this).2
  · intro he
    refine ⟨0, (stepT_run h.M.rows w _ 0 hw hIm.canon).2 ⟨by omega, ?_⟩, rfl⟩
    rw [canonL_mem]
    exact endsF_mem.2 ⟨runS_ok h.M.rows _ 0 (by omega) hwr, he⟩
theorem turnErr_zero {a : GAuto} (h : turnErr a = 0) : turnErr0 a = 0 ∧ (turnRE a).1.length ≤ 80 := by
  unfold turnErr at h
  split at h
  · rename_i h1; exact (h1 h).elim
  · rename_i h1
    split at h
    · exact ⟨Classical.not_not.1 h1, by assumption⟩
    · omega
/-- What Turn gives, if nothing is wrong. -/
theorem turn_isLeast {a : GAuto} (h : turnErr a = 0) : ∃ n m, Good a n a.next.length ∧ TurnIs a n m ∧ IsLeast (turnA a) n a.base a.tracks (fun w => lng a w.reverse) ∧ (turnA a).next.length ≤ 80 := by
  obtain ⟨h0, h80⟩ := turnErr_zero h
  obtain ⟨n, m, t⟩ := turn_is h0
  have hA : turnA a = ⟨a.base, a.tracks, (turnRE a).1, (turnRE a).2⟩ := if_pos h
  have hRE : turnRE a = leastRE n (turnR a) (turnE a) := by unfold turnRE; rw [t.nE]
  have hs := leastRE_spec (ends := turnE a) t.rows t.pos
  have hl : IsLeast (leastA a) n a.base a.tracks (lng a) := (leastA_isLeast t.ok).1
  refine ⟨n, m, t.ok, t, ?_, ?_⟩
  · rw [hA]
    refine ⟨rfl, rfl, ?_⟩
    show Least n (turnRE a).1 (turnRE a).2 _
    rw [hRE]
    exact hs.1.lang_congr fun w hw => by rw [turn_lang t hw]; exact hl.lng fun y hy => hw y (List.mem_reverse.1 hy)
  · rw [hA]; exact h80
/-- Each state of a least automaton is reached. -/
theorem Least.word {n : Nat} {N : List (List Int)} {E : List Bool} {L : List Nat → Bool} (h : Least n N E L) : ∀ k, k < N.length → ∃ u, Ltr n u ∧ Go.Proofs.Ythcclcbliedodaa.runS N 0 u = ((k : Nat) : Int) := by
  intro k
  induction k using Nat.strongRecOn with
  | ind k ih =>
    intro hk
    by_cases h0 : k = 0
    · subst h0; exact ⟨[], fun x hx => by (cases hx), rfl⟩
    · obtain ⟨s, l, hs, hl, e⟩ := h.canon.reach k (by omega) hk
      obtain ⟨u, hu, eu⟩ := ih s hs (by omega)
      refine ⟨u ++ [l], fun x hx => ?_, ?_⟩
      · rcases List.mem_append.1 hx with hx | hx
        · exact hu x hx
        · rw [List.mem_singleton] at hx; subst hx; exact hl
      · rw [runS_append, eu]
        have hr := h.rows
        have hb := nx_ok hr (s := ((s : Nat) : Int)) (by omega) hl
        show nx N ((s : Nat) : Int) l = _
        have e2 : (nx N ((s : Nat) : Int) l).toNat = k := by rw [← e]; rfl
        omega
/-- Turned twice it is the least automaton. -/
theorem turn_again {a : GAuto} (h : turnErr a = 0) : turnErr (turnA a) = 0 ∧ turnA (turnA a) = leastA a := by
  obtain ⟨n, m, g, t, hl, h80⟩ := turn_isLeast h
  have gB := hl.good g h80
  obtain ⟨b, hb⟩ : ∃ b, turnA a = b := ⟨_, rfl⟩
  rw [hb] at hl gB h80 ⊢
  have hbb := hl.base
  have hbt := hl.tracks
  have hmeb : leastA b = b := (leastA_isLeast gB).1.unique (by rw [hbb, hbt]; exact hl) fun w hw => hl.lng hw
  have hnb : turnN b = n := by unfold turnN; rw [gB.n_eq]; rfl
  have hla := (leastA_isLeast g).1
  have h80a : (leastA a).next.length ≤ 80 := Nat.le_trans (leastA_isLeast g).2 g.m80
  have hfb : autoFault b = 0 := gB.fault
  -- a set that comes up, by the state to which its word leads
  have hIm : Inm b.next.length (endsF b.ends b.next.length) := fun x hx => (endsF_mem.1 hx).1
  have hmem : ∀ (w : List Nat) (x : Int), Ltr n w → (x ∈ w.foldl (nextD (stepT b.next b.next.length)) (canonL (endsF b.ends b.next.length)) ↔ (0 ≤ x ∧ x < (b.next.length : Int)) ∧ endOf b.ends (runS b.next x w.reverse) = true) := fun w x hw => by
    have hwr : Ltr n w.reverse := fun y hy => hw y (List.mem_reverse.1 hy)
    rw [stepT_run gB.rows w _ x hw hIm.canon, canonL_mem, endsF_mem]
    exact ⟨fun q => ⟨q.1, q.2.2⟩, fun q => ⟨q.1, runS_ok gB.rows _ x q.1 hwr, q.2⟩⟩
  have hok : growOk (stepT b.next b.next.length) n (endsF b.ends b.next.length) = true := by
    unfold growOk
    let p : List Int → Prop := fun s => s.Pairwise (· < ·) ∧ ∃ w, Ltr n w ∧ s = w.foldl (nextD (stepT b.next b.next.length)) (canonL (endsF b.ends b.next.length))
    have wd : ∀ s, p s → ∃ w, Ltr n w ∧ s = w.foldl (nextD (stepT b.next b.next.length)) (canonL (endsF b.ends b.next.length)) := fun s hs => hs.2
    refine sets_few (p := p) (fun s => open Classical in if hs : p s then (runS (leastA a).next 0 (Classical.choose (wd s hs))).toNat else 0) (K := (leastA a).next.length) ⟨(canonL_spec _).1, [], fun x hx => by (cases hx), rfl⟩ ?_ ?_ ?_ (by omega)
    · rintro s l hll ⟨_, w, hw, rfl⟩
      refine ⟨(canonL_spec _).1, w ++ [l], fun x hx => ?_, by rw [List.foldl_append]; rfl⟩
      rcases List.mem_append.1 hx with hx | hx
      · exact hw x hx
      · rw [List.mem_singleton] at hx; subst hx; exact hll
    · intro s hs
      rw [dif_pos hs]
      have hw := (Classical.choose_spec (wd s hs)).1
      have := runS_ok hla.least.rows _ 0 (by have := hla.least.length_pos; omega) hw
      omega
    · intro s s' hs hs' e
      rw [dif_pos hs, dif_pos hs'] at e
      obtain ⟨hw, es⟩ := Classical.choose_spec (wd s hs)
      obtain ⟨hw', es'⟩ := Classical.choose_spec (wd s' hs')
      generalize Classical.choose (wd s hs) = w at *
      generalize Classical.choose (wd s' hs') = w' at *
      have b1 := runS_ok hla.least.rows w 0 (by have := hla.least.length_pos; omega) hw
      have b2 := runS_ok hla.least.rows w' 0 (by have := hla.least.length_pos; omega) hw'
      have e2 : runS (leastA a).next 0 w = runS (leastA a).next 0 w' := by omega
      refine asc_eq hs.1 hs'.1 fun x => ?_
      rw [es, es', hmem w x hw, hmem w' x hw']
      refine and_congr_right fun hx => ?_
      obtain ⟨u, hu, eu⟩ := hl.least.word x.toNat (by omega)
      rw [Int.toNat_of_nonneg hx.1] at eu
      rw [← eu, ← runS_append, ← runS_append]
      have key : ∀ v, Ltr n v → endOf b.ends (runS b.next 0 (u ++ v.reverse)) = endOf (leastA a).ends (runS (leastA a).next (runS (leastA a).next 0 v) u.reverse) := fun v hv => by
        have huv : Ltr n (u ++ v.reverse) := fun y hy => by
          rcases List.mem_append.1 hy with hy | hy
          · exact hu y hy
          · exact hv y (List.mem_reverse.1 hy)
        have h1 := hl.lng huv
        have huv2 : Ltr n (v ++ u.reverse) := fun y hy => by
          rcases List.mem_append.1 hy with hy | hy
          · exact hv y hy
          · exact hu y (List.mem_reverse.1 hy)
        have h2 := hla.lng huv2
        rw [List.reverse_append, List.reverse_reverse, ← h2] at h1
        unfold lng lang at h1
        rw [h1, runS_append]
      rw [key w hw, key w' hw', e2]
  have hOk : turnOk b = true := by unfold turnOk turnD turnF; rw [hnb, hmeb]; exact hok
  have he0 : turnErr0 b = 0 := by unfold turnErr0; rw [if_neg (fun q => q hfb), if_neg (by rw [hOk]; decide)]
  obtain ⟨n2, m2, tb⟩ := turn_is he0
  have hn2 : n2 = n := by rw [← tb.nE, hnb]
  subst hn2
  have hRE : turnRE b = ((leastA a).next, (leastA a).ends) := by
    have : turnRE b = leastRE n2 (turnR b) (turnE b) := by unfold turnRE; rw [hnb]
    rw [this]
    refine leastRE_eq tb.rows tb.pos (hla.least.lang_congr fun w hw => ?_)
    have hwr : Ltr n2 w.reverse := fun y hy => hw y (List.mem_reverse.1 hy)
    rw [turn_lang tb hw, hmeb, hl.lng hwr, List.reverse_reverse]
  have he : turnErr b = 0 := by
    unfold turnErr
    rw [if_neg (by rw [he0]; decide), hRE, if_pos h80a]
  refine ⟨he, ?_⟩
  unfold turnA
  rw [if_pos he, hRE, hbb, hbt]
  rfl
end Go.Proofs.Ythcclcbliedodaa
namespace Go.Proofs.Ythcclcbliedodaa
open Go.RowKit

def keyT (t : Int) (l : Nat) : T := .agg [.int .i64 t, .int .i64 ((l : Nat) : Int)]
theorem keyT_inj {t t' : Int} {l l' : Nat} (h : keyT t l = keyT t' l') : t = t' ∧ l = l' := by
  unfold keyT at h
  simp only [T.agg.injEq, List.cons.injEq, T.int.injEq, true_and, and_true] at h
  omega
def MapSays (mes : List (T × T)) (next : List (List Int)) (m n : Nat) : Prop := ∀ (t : Int) (l : Nat), 0 ≤ t → t < (m : Int) → l < n → mapGet mes (keyT t l) = if fromL next m t l = [] then none else some (tInts (fromL next m t l))
section
variable {G : World → Prop} (hG : Lasting G)
include hG
set_option maxHeartbeats 8000000 in
set_option maxRecDepth 100000 in
theorem TurnStep_snd {next : List (List Int)} {m n : Nat} (hm80 : m ≤ 80) (hn : n ≤ 36) {mes : List (T × T)} (h : MapSays mes next m n) (s : List Int) (hs : Inm m s) (hsl : s.length ≤ 1000) (l : Nat) (hl : l < n) :
    SndG Try.prog G 53 ([.t (tInts s), .t (tNat l)] ++ [.bptr 0 0]) [.box [.map 1], .map (.ints 2) mes] [] (.sref 2) ([.box [.map 1], .map (.ints 2) mes] ++ [.row 3 1 true (iL (stepT next m s l))]) := by
  refine sndG_of_body tt_ok Try.func53 rfl rfl (n := 24) rfl (rs := [.tmp 5]) rfl (by simp only [List.length_cons, List.length_nil, List.length_append]; decide) [0] (fun i l h => ?_) (fun i hi => ?_) fun bs => ?_
  · match i, h with
    | 0, h => exact ⟨by simp, _, rfl⟩
    | 1, h => cases h
  · simp only [List.mem_singleton] at hi
    subst hi
    exact ⟨_, rfl⟩
  show SW _ _ _ _ ⟨24, [(0, .t (tInts s)), (1, .t (tNat l)), (2, .bptr 0 0), (24, .pin 0 (bs 0))], [.box [.map 1], .map (.ints 2) mes]⟩
  have htb : Tab.ok Try.prog G [] := Tab.nil
  have hstep : ∀ (p : List Int) (x : Int), stepT next m (p ++ [x]) l = stepT next m p l ++ fromL next m x l := fun p x => by
    unfold stepT
    rw [List.flatMap_append]; simp
  repeat' (first | (with_reducible first | apply w1 | apply w2 | apply w3 | apply w4 | apply w5 | apply w6 | apply w7 | apply w8 | apply w9 | apply wa | apply wb | apply wc) | ((with_reducible apply wd); focus decide) | ((with_reducible apply we); focus exact rfl) | ((with_reducible apply wf); focus exact rfl) | ((first | (with_reducible apply SW_run tt_ok hG htb) | ((with_reducible apply SW_draw rfl tt_ok hG htb); (focus kernel_rfl); focus simp only [List.range, List.range.loop, List.size_toArray, List.length_cons, List.length_nil, Nat.reduceAdd])); focus ((repeat' (first | (with_reducible first | exact wg | exact wh) | ((with_reducible first | apply wi | apply wj); focus (simp (discharger := omega) only [go_sem, simprocAttr]; with_reducible rfl)))); done)))
  refine SW_loop (fun mm st => ∃ (i : Nat) (os : List T), mm = s.length - i ∧ st = ⟨24, [(24, .pin 0 (bs 0)), (1, .t (tNat l)), (2, .bptr 0 0), (6, .sref 1), (9, .t (tInts s)), (10, .t (tNat s.length)), (11, .t (tNat i))], [.box [.map 2], .row 3 1 true os, .map (.ints 2) mes]⟩ ∧ i ≤ s.length ∧ os = iL (stepT next m (s.take i) l)) s.length
    ⟨_, Norm.headS (own := [(6, 3, 1, true)]) (keep := [24, 1, 2, 6, 9, 10, 11]) (by refine ⟨?_, ?_⟩; (simp (discharger := omega) only [go_sem, simprocAttr]; with_reducible rfl); refine ⟨?_, ?_, ?_, ?_⟩ <;> (simp only [go_sem, simprocAttr]; with_reducible rfl)), 0, _, rfl, rfl, Nat.zero_le _, rfl⟩ ?_
  rintro mm st ⟨i, os, rfl, rfl, hi, hos⟩
  have hos1 : os.length ≤ 1000 * 80 := by
    rw [hos, iL_length]
    refine Nat.le_trans (stepT_len next m _ l) (Nat.mul_le_mul ?_ hm80)
    rw [List.length_take]; omega
  by_cases hlt : i < s.length
  · obtain ⟨x, hx⟩ : ∃ x, s[i]! = x := ⟨_, rfl⟩
    have hg := bang_get hx hlt
    have hxb := hs x (List.mem_of_getElem? hg)
    have htk : s.take (i + 1) = s.take i ++ [x] := by
      rw [List.take_succ_eq_append_getElem hlt]
      obtain ⟨q1, q2⟩ := List.getElem?_eq_some_iff.1 hg
      rw [q2]
    have hget := h x l hxb.1 hxb.2 hl
    have hFl := fromL_len next m x l
    have hos2 : iL (stepT next m (s.take (i + 1)) l) = os ++ iL (fromL next m x l) := by rw [htk, hstep, hos]; simp [iL]
    obtain ⟨F, hF⟩ : ∃ F, fromL next m x l = F := ⟨_, rfl⟩
    rw [hF] at hget hFl hos2
    unfold keyT at hget
    by_cases hE : F = []
    · subst hE
      rw [if_pos rfl] at hget
      rw [show iL [] = [] from rfl, List.append_nil] at hos2
      repeat' (first | (with_reducible first | apply w1 | apply w2 | apply w3 | apply w4 | apply w5 | apply w6 | apply w7 | apply w8 | apply w9 | apply wa | apply wb | apply wc) | ((with_reducible apply wd); focus decide) | ((with_reducible apply we); focus exact rfl) | ((with_reducible apply wf); focus exact rfl) | ((first | (with_reducible apply SW_run tt_ok hG htb) | ((with_reducible apply SW_draw rfl tt_ok hG htb); (focus kernel_rfl); focus simp only [List.range, List.range.loop, List.size_toArray, List.length_cons, List.length_nil, Nat.reduceAdd])); focus ((repeat' (first | (with_reducible first | exact wg | exact wh) | ((with_reducible first | apply wi | apply wj); focus (simp (discharger := omega) only [go_sem, hx, hget, List.append_nil, simprocAttr]; with_reducible rfl)))); done)))
      exact ⟨s.length - (i + 1), _, by omega, Norm.headS (own := []) (keep := [24, 1, 2, 6, 9, 10, 11]) (by refine ⟨?_, ?_⟩; (simp (discharger := omega) only [go_sem, simprocAttr]; with_reducible rfl); refine ⟨?_, ?_, ?_, ?_⟩ <;> (simp only [go_sem, simprocAttr]; with_reducible rfl)), i + 1, _, rfl, rfl, by omega, hos2.symm⟩
    · rw [if_neg hE] at hget
      have hall : ∀ l : List Int, (l.all fun _ => true) = true := fun l => by simp
      repeat' (first | (with_reducible first | apply w1 | apply w2 | apply w3 | apply w4 | apply w5 | apply w6 | apply w7 | apply w8 | apply w9 | apply wa | apply wb | apply wc) | ((with_reducible apply wd); focus decide) | ((with_reducible apply we); focus exact rfl) | ((with_reducible apply wf); focus exact rfl) | ((first | (with_reducible apply SW_run tt_ok hG htb) | ((with_reducible apply SW_draw rfl tt_ok hG htb); (focus kernel_rfl); focus simp only [List.range, List.range.loop, List.size_toArray, List.length_cons, List.length_nil, Nat.reduceAdd])); focus ((repeat' (first | (with_reducible first | exact wg | exact wh) | ((with_reducible first | apply wi | apply wj); focus (simp (discharger := omega) only [go_sem, hx, hget, Function.comp_def, hall, simprocAttr]; with_reducible rfl)))); done)))
      exact ⟨s.length - (i + 1), _, by omega, Norm.headS (own := []) (keep := [24, 1, 2, 6, 9, 10, 11]) (by refine ⟨?_, ?_⟩; (simp (discharger := omega) only [go_sem, simprocAttr]; with_reducible rfl); refine ⟨?_, ?_, ?_, ?_⟩ <;> (simp only [go_sem, simprocAttr]; with_reducible rfl)), i + 1, _, rfl, rfl, by omega, hos2.symm⟩
  · obtain rfl : i = s.length := by omega
    rw [List.take_length] at hos
    rw [← hos]
    repeat' (first | (with_reducible first | apply w1 | apply w2 | apply w3 | apply w4 | apply w5 | apply w6 | apply w7 | apply w8 | apply w9 | apply wa | apply wb | apply wc) | ((with_reducible apply wd); focus decide) | ((with_reducible apply we); focus exact rfl) | ((with_reducible apply wf); focus exact rfl) | ((first | (with_reducible apply SW_run tt_ok hG htb) | ((with_reducible apply SW_draw rfl tt_ok hG htb); (focus kernel_rfl); focus simp only [List.range, List.range.loop, List.size_toArray, List.length_cons, List.length_nil, Nat.reduceAdd])); focus ((repeat' (first | (with_reducible first | exact wg | exact wh) | ((with_reducible first | apply wi | apply wj); focus (simp (discharger := omega) only [go_sem, simprocAttr]; with_reducible rfl)))); done)))
    refine SPostG_norm (Norm.headP [0, 2, 1] rfl (own := []) (keep := [24, 5]) (by refine ⟨?_, ?_⟩; (simp (discharger := omega) only [go_sem, simprocAttr]; with_reducible rfl); refine ⟨?_, ?_, ?_, ?_⟩ <;> (simp only [go_sem, simprocAttr]; with_reducible rfl))) ?_
    exact SPostG_r (Norm.refl _) rfl rfl (fun i hi => by simp only [List.mem_singleton] at hi; subst hi; rfl)
end
theorem mapGet_all {es : List (T × T)} {k : T} (h : mapGet es k = none) : ∀ p ∈ es, p.1 ≠ k := by
  induction es with
  | nil => intro p hp; cases hp
  | cons q es ih =>
    unfold mapGet at h
    split at h
    · cases h
    · rename_i hq
      intro p hp
      rcases List.mem_cons.1 hp with rfl | hp
      · exact hq
      · exact ih h p hp
theorem mapGet_at {es : List (T × T)} {k v : T} (h : mapGet es k = some v) : ∃ (j : Nat) (p : T × T), es[j]? = some p ∧ p.1 = k ∧ p.2 = v := by
  induction es with
  | nil => cases h
  | cons q es ih =>
    unfold mapGet at h
    split at h
    · rename_i hq
      cases h
      exact ⟨0, q, rfl, hq, rfl⟩
    · obtain ⟨j, p, h1, h2⟩ := ih h
      exact ⟨j + 1, p, h1, h2⟩
theorem mapGet_set (es : List (T × T)) (k v : T) : mapGet (mapSet es k v) k = some v := by
  induction es with
  | nil => unfold mapSet mapGet; rw [if_pos rfl]
  | cons q es ih =>
    unfold mapSet
    split
    · unfold mapGet; rw [if_pos rfl]
    · rename_i hq
      unfold mapGet; rw [if_neg hq]; exact ih
theorem mapGet_other (es : List (T × T)) {k k' : T} (v : T) (h : k ≠ k') : mapGet (mapSet es k v) k' = mapGet es k' := by
  induction es with
  | nil => unfold mapSet mapGet; rw [if_neg h]; rfl
  | cons q es ih =>
    unfold mapSet
    split
    · rename_i hq
      unfold mapGet; rw [if_neg h, if_neg (by rw [hq]; exact h)]
    · unfold mapGet
      split
      · rfl
      · exact ih
theorem mapGet_map (f : T → T) (es : List (T × T)) (k : T) : mapGet (es.map fun p => (p.1, f p.1)) k = (mapGet es k).map fun _ => f k := by
  induction es with
  | nil => rfl
  | cons q es ih =>
    rw [List.map_cons]
    unfold mapGet
    split
    · rename_i hq
      rw [Option.map_some]
      simp only at hq ⊢
      rw [hq]
    · exact ih
/-- A map to hidden rows, and what they hold. -/
structure MapInv (g : Nat × Nat → Option HR) (es : List (T × T)) (m n : Nat) (cont : Nat → Nat → List Int) : Prop where
  is : ∀ t l, t < m → l < n → (cont t l = [] ∧ g (t, l) = none ∧ mapGet es (keyT ((t : Nat) : Int) l) = none) ∨ ∃ h : HR, g (t, l) = some h ∧ h.e = 3 ∧ h.sz = 1 ∧ h.l = iL (cont t l) ∧ cont t l ≠ [] ∧ mapGet es (keyT ((t : Nat) : Int) l) = some h.raw
  keys : ∀ p ∈ es, ∃ t l, t < m ∧ l < n ∧ p.1 = keyT ((t : Nat) : Int) l
  pw : es.Pairwise fun p q => p.1 ≠ q.1
theorem MapInv.init (m n : Nat) : MapInv (fun _ => none) [] m n (fun _ _ => []) := ⟨fun _ _ _ _ => .inl ⟨rfl, rfl, rfl⟩, fun p hp => (by cases hp), .nil⟩
theorem MapInv.congr {g : Nat × Nat → Option HR} {es : List (T × T)} {m n : Nat} {cont cont' : Nat → Nat → List Int} (h : MapInv g es m n cont) (he : ∀ t l, t < m → l < n → cont' t l = cont t l) : MapInv g es m n cont' :=
  ⟨fun t l ht hl => by rw [he t l ht hl]; exact h.is t l ht hl, h.keys, h.pw⟩
theorem MapInv.hdr {g : Nat × Nat → Option HR} {es : List (T × T)} {m n : Nat} {cont : Nat → Nat → List Int} (h : MapInv g es m n cont) {t l : Nat} (ht : t < m) (hl : l < n) : (HdrOk g (t, l) 3 1 (iL (cont t l)) (.raw none 0 0) ∧ mapGet es (keyT ((t : Nat) : Int) l) = none) ∨ ∃ a k c, HdrOk g (t, l) 3 1 (iL (cont t l)) (.raw a k c) ∧ mapGet es (keyT ((t : Nat) : Int) l) = some (.raw a k c) := by
  rcases h.is t l ht hl with ⟨h1, h2, h3⟩ | ⟨r, h1, h2, h3, h4, h5, h6⟩
  · exact .inl ⟨.inl ⟨h2, by rw [h1]; rfl, rfl⟩, h3⟩
  · exact .inr ⟨r.a, r.n, r.cap, .inr ⟨r, h1, h2, h3, h4, rfl⟩, h6⟩
theorem MapInv.step {g : Nat × Nat → Option HR} {es : List (T × T)} {m n : Nat} {cont cont' : Nat → Nat → List Int} (h : MapInv g es m n cont) {t l : Nat} (ht : t < m) (hl : l < n) (v : Int) (c : Option Addr × Nat × Nat) (h1 : cont' t l = cont t l ++ [v]) (h2 : ∀ t' l', ¬ (t' = t ∧ l' = l) → cont' t' l' = cont t' l') :
    MapInv (upd g (t, l) (some ⟨c.1, c.2.1, c.2.2, 3, 1, iL (cont t l) ++ [.int .i64 v]⟩)) (mapSet es (keyT ((t : Nat) : Int) l) (.raw c.1 c.2.1 c.2.2)) m n cont' := by
  refine ⟨fun t' l' ht' hl' => ?_, fun p hp => ?_, ?_⟩
  · by_cases e : t' = t ∧ l' = l
    · obtain ⟨rfl, rfl⟩ := e
      exact .inr ⟨⟨c.1, c.2.1, c.2.2, 3, 1, iL (cont t' l') ++ [.int .i64 v]⟩, by simp [upd], rfl, rfl, by rw [h1]; simp [iL], by rw [h1]; simp, mapGet_set _ _ _⟩
    · have hk : keyT ((t : Nat) : Int) l ≠ keyT ((t' : Nat) : Int) l' := fun q => e (by obtain ⟨q1, q2⟩ := keyT_inj q; exact ⟨by omega, q2.symm⟩)
      have hg : upd g (t, l) (some ⟨c.1, c.2.1, c.2.2, 3, 1, iL (cont t l) ++ [.int .i64 v]⟩) (t', l') = g (t', l') := by
        show (if (t', l') = (t, l) then _ else _) = _
        rw [if_neg fun q => e (by simpa using q)]
      rw [h2 t' l' e, hg, mapGet_other _ _ hk]
      exact h.is t' l' ht' hl'
  · cases hq : mapGet es (keyT ((t : Nat) : Int) l) with
    | none =>
      rw [mapSet_none (mapGet_all hq)] at hp
      rcases List.mem_append.1 hp with hp | hp
      · exact h.keys p hp
      · rw [List.mem_singleton] at hp; subst hp; exact ⟨t, l, ht, hl, rfl⟩
    | some u =>
      obtain ⟨j, q, q1, q2, _⟩ := mapGet_at hq
      rw [mapSet_some h.pw q1 q2] at hp
      rcases List.mem_or_eq_of_mem_set hp with hp | rfl
      · exact h.keys p hp
      · exact ⟨t, l, ht, hl, rfl⟩
  · cases hq : mapGet es (keyT ((t : Nat) : Int) l) with
    | none =>
      rw [mapSet_none (mapGet_all hq), List.pairwise_append]
      exact ⟨h.pw, by simp, fun p hp q hq2 => by rw [List.mem_singleton] at hq2; subst hq2; exact mapGet_all hq p hp⟩
    | some u =>
      obtain ⟨j, q, q1, q2, _⟩ := mapGet_at hq
      rw [mapSet_some h.pw q1 q2]
      have e : ((es.set j (keyT ((t : Nat) : Int) l, T.raw c.1 c.2.1 c.2.2)).map (·.1)) = es.map (·.1) := by
        rw [List.map_set]
        show (es.map (·.1)).set j (keyT ((t : Nat) : Int) l) = _
        rw [← q2]
        apply List.ext_getElem?
        intro i
        rw [List.getElem?_set]
        split
        · rename_i e; subst e
          split
          · rw [List.getElem?_map, q1]; rfl
          · rename_i hl; exact absurd (List.getElem?_eq_some_iff.1 q1).1 (by simpa using hl)
        · rfl
      have := List.pairwise_map.2 h.pw
      rw [← e] at this
      exact List.pairwise_map.1 this
/-- What a hidden row holds, by its key. -/
def openV (cont : Nat → Nat → List Int) : T → T
  | .agg [.int _ t, .int _ l] => tInts (cont t.toNat l.toNat)
  | _ => .undef
def openM (cont : Nat → Nat → List Int) (es : List (T × T)) : List (T × T) := es.map fun p => (p.1, openV cont p.1)
theorem openV_key (cont : Nat → Nat → List Int) (t l : Nat) : openV cont (keyT ((t : Nat) : Int) l) = tInts (cont t l) := by simp [openV, keyT]
theorem MapInv.opens {g : Nat × Nat → Option HR} {es : List (T × T)} {m n : Nat} {cont : Nat → Nat → List Int} (h : MapInv g es m n cont) : (openM cont es).length = es.length ∧ ∀ (i : Nat) (y y' : T × T), es[i]? = some y → (openM cont es)[i]? = some y' → y'.1 = y.1 ∧ OpenH g y.2 y'.2 := by
  refine ⟨by simp [openM], fun i y y' h1 h2 => ?_⟩
  unfold openM at h2
  rw [List.getElem?_map, h1, Option.map_some] at h2
  cases h2
  refine ⟨rfl, ?_⟩
  obtain ⟨t, l, ht, hl, e⟩ := h.keys y (List.mem_of_getElem? h1)
  have hg := mapGet_some h.pw h1 e
  rcases h.is t l ht hl with ⟨_, _, h3⟩ | ⟨r, q1, q2, q3, q4, q5, q6⟩
  · rw [h3] at hg; cases hg
  · rw [q6] at hg
    have hy : y.2 = r.raw := (Option.some.inj hg).symm
    show OpenH g y.2 (openV cont y.1)
    rw [e, openV_key, hy]
    exact .raw (t, l) r (iL (cont t l)) q1 (by rw [q4]) fun k a b e1 e2 => by
      rw [q4, e2] at e1
      cases e1
      exact .refl _
theorem MapInv.says {g : Nat × Nat → Option HR} {es : List (T × T)} {m n : Nat} {next : List (List Int)} (h : MapInv g es m n fun t l => fromL next m ((t : Nat) : Int) l) : MapSays (openM (fun t l => fromL next m ((t : Nat) : Int) l) es) next m n := fun t l h0 ht hl => by
  obtain ⟨t, rfl⟩ := Int.eq_ofNat_of_zero_le h0
  unfold openM
  rw [mapGet_map]
  rcases h.is t l (by omega) hl with ⟨h1, _, h3⟩ | ⟨r, q1, q2, q3, q4, q5, q6⟩
  · rw [h3, if_pos h1]; rfl
  · rw [q6, if_neg q5, Option.map_some, openV_key]
/-- What is built while states and letters go on. -/
def contS (next : List (List Int)) (s lc t l : Nat) : List Int := fromL next s ((t : Nat) : Int) l ++ if l < lc ∧ nx next ((s : Nat) : Int) l = ((t : Nat) : Int) then [((s : Nat) : Int)] else []
theorem fromL_succ (next : List (List Int)) (s : Nat) (t : Int) (l : Nat) : fromL next (s + 1) t l = fromL next s t l ++ if nx next ((s : Nat) : Int) l = t then [((s : Nat) : Int)] else [] := by
  unfold fromL
  rw [List.range_succ, List.filter_append, List.map_append]
  congr 1
  by_cases h : nx next ((s : Nat) : Int) l = t
  · rw [if_pos h, List.filter_cons_of_pos (by simpa using h)]; rfl
  · rw [if_neg h, List.filter_cons_of_neg (by simpa using h)]; rfl
theorem contS_zero (next : List (List Int)) (s t l : Nat) : contS next s 0 t l = fromL next s ((t : Nat) : Int) l := by unfold contS; rw [if_neg (by omega), List.append_nil]
theorem contS_end (next : List (List Int)) (s : Nat) {n : Nat} (t : Nat) {l : Nat} (hl : l < n) : fromL next (s + 1) ((t : Nat) : Int) l = contS next s n t l := by
  rw [fromL_succ]
  unfold contS
  by_cases h : nx next ((s : Nat) : Int) l = ((t : Nat) : Int)
  · rw [if_pos h, if_pos ⟨hl, h⟩]
  · rw [if_neg h, if_neg fun q => h q.2]
theorem contS_at {next : List (List Int)} {s lc t : Nat} (h : nx next ((s : Nat) : Int) lc = ((t : Nat) : Int)) : contS next s (lc + 1) t lc = contS next s lc t lc ++ [((s : Nat) : Int)] := by
  unfold contS
  rw [if_pos ⟨by omega, h⟩, if_neg (by omega), List.append_nil]
theorem contS_other {next : List (List Int)} {s lc t t' l' : Nat} (h : nx next ((s : Nat) : Int) lc = ((t : Nat) : Int)) (hne : ¬ (t' = t ∧ l' = lc)) : contS next s (lc + 1) t' l' = contS next s lc t' l' := by
  unfold contS
  congr 1
  by_cases hl : l' = lc
  · subst hl
    rw [if_neg fun q => hne ⟨by omega, rfl⟩, if_neg (by omega)]
  · by_cases q : l' < lc ∧ nx next ((s : Nat) : Int) l' = ((t' : Nat) : Int)
    · rw [if_pos q, if_pos ⟨by omega, q.2⟩]
    · rw [if_neg q, if_neg fun r => q ⟨by omega, r.2⟩]
theorem contS_len (next : List (List Int)) (s lc t l : Nat) : (contS next s lc t l).length ≤ s + 1 := by
  unfold contS
  have := fromL_len next s ((t : Nat) : Int) l
  rw [List.length_append]
  split <;> simp <;> omega
end Go.Proofs.Ythcclcbliedodaa
namespace Go.Proofs.Ythcclcbliedodaa
open Go.RowKit

section
variable {G : World → Prop} (hG : Lasting G)
include hG
set_option maxHeartbeats 16000000 in
set_option maxRecDepth 100000 in
theorem GrowM_snd {m : Nat} (hm80 : m ≤ 80) (first : List Int) (n : Nat) (sf : Nat) {kk : KK} (mes : List (T × T)) (stp : List Int → Nat → List Int) (hf : Inm m first) (hfl : first.length ≤ 1000000) (hn : n ≤ 36) (hsm : ∀ s l, Inm m s → l < n → Inm m (stp s l)) (hlen : ∀ s l, Inm m s → s.Pairwise (· < ·) → l < n → (stp s l).length ≤ 1000000)
    (hstp : ∀ s l, Inm m s → s.Pairwise (· < ·) → l < n → SndG Try.prog G sf ([.t (tInts s), .t (tNat l)] ++ [.bptr 0 0]) [.box [.map 1], .map kk mes] [] (.sref 2) ([.box [.map 1], .map kk mes] ++ [.row 3 1 true (iL (stp s l))])) :
    SndG Try.prog G 45 [.sref 0, .t (tNat n), .fn sf [.bptr 1 0]] [.row 3 1 true (iL first), .box [.map 2], .map kk mes] [] (.t (.tup [tIntss (growSets stp n first), tIntss (growRows stp n first), .bool (growOk stp n first)])) [.hole, .box [.map 2], .map kk mes, .box [.t (tIntss (growSets stp n first))]] := by
  refine sndG_of_body tt_ok Try.func45 rfl rfl (n := 54) rfl (rs := [.cell 6 22, .tmp 7, .tmp 8]) rfl (by simp only [List.length_cons, List.length_nil]; decide) [1] (fun i l h => ?_) (fun i hi => ?_) fun bs => ?_
  · match i, h with
    | 0, h => cases h
    | 1, h => exact ⟨by simp, _, rfl⟩
    | 2, h => cases h
  · simp only [List.mem_singleton] at hi
    subst hi
    exact ⟨_, rfl⟩
  show SW _ _ _ _ ⟨54, [(0, .sref 0), (1, .t (tNat n)), (2, .fn sf [.bptr 1 0]), (55, .pin 1 (bs 1))], [.row 3 1 true (iL first), .box [.map 2], .map kk mes]⟩
  have htb : Tab.ok Try.prog G [] := Tab.nil
  obtain ⟨δ, hδ⟩ : ∃ δ, nextD stp = δ := ⟨_, rfl⟩
  obtain ⟨s0, hs0⟩ : ∃ s0, canonL first = s0 := ⟨_, rfl⟩
  have c1 := find_snd hG [] first (hf.small hm80) hfl (fun q hq => by simp at hq) List.nodup_nil (by simp)
  have e1 : addS ([] : List (List Int)) (canonL first) = [canonL first] := by simp [addS]
  rw [e1, hs0] at c1
  repeat' (first | (with_reducible first | refine SW_seq ?_ | refine SW_block ?_ | refine SThen_n ?_ | refine SThen_r ?_ | refine SThen_e ?_ | refine SIn_n ?_ | refine SIn_r ?_ | refine SIn_eq ?_ | refine SW_skip ?_ | refine SW_exit ?_ | refine SW_ret ?_ | refine SPost_r ?_) | ((with_reducible refine SIn_ne ?_ ?_); focus decide) | ((with_reducible refine SW_true ?_ ?_); focus exact rfl) | ((with_reducible refine SW_false ?_ ?_); focus exact rfl) | ((with_reducible apply SW_run tt_ok hG htb); focus ((repeat' (first | (with_reducible exact runX_nil) | ((with_reducible apply runX_cons); focus (simp (discharger := omega) only [go_sem, simprocAttr]; with_reducible rfl)))); done)))
  refine SW_norm ((Norm.headS (own := []) (keep := [55, 9, 6, 0, 1, 2, 7, 8, 10]) (by refine ⟨?_, ?_⟩; (simp (discharger := omega) only [go_sem, simprocAttr]; with_reducible rfl); refine ⟨?_, ?_, ?_, ?_⟩ <;> (simp only [go_sem, simprocAttr]; with_reducible rfl))).trans (Norm.ownB (j := 2) (off := 0) (e := 26) (sz := 1) rfl rfl (by decide))) ?_
  refine SW_norm (Norm.headP [1, 2, 5, 6, 3] rfl (own := []) (keep := [55, 9, 6, 0, 1, 2, 7, 8, 10]) (by refine ⟨?_, ?_⟩; (simp (discharger := omega) only [go_sem, simprocAttr]; with_reducible rfl); refine ⟨?_, ?_, ?_, ?_⟩ <;> (simp only [go_sem, simprocAttr]; with_reducible rfl))) ?_
  refine SW_region ?_
  refine SL_k tt_ok hG htb 2 (by simp only [List.take_succ_cons, List.take_zero]; rfl) (by simp only [List.drop_succ_cons, List.drop_zero, Nat.reduceAdd]; rfl) (by (repeat' (first | (with_reducible exact runX_nil) | ((with_reducible apply runX_cons); focus (simp (discharger := omega) only [go_sem, simprocAttr]; with_reducible rfl))))) ?_
  refine SL_callH (g := 59) (cap := [.bptr 0 0, .bptr 1 0]) (obs := [.box [.map 2], .box [.sref 3], .map .str (strEntries []), .row 26 1 true ([].map tInts), .row 3 1 true (iL first)]) (ks := []) (obs' := [.box [.map 2], .box [.sref 3], .map .str (strEntries [s0]), .row 26 1 true ([s0].map tInts), .hole]) (rst := ?zra) (r := .t (tNat (idxS [s0] s0))) (s3 := ?zua) rfl rfl ?q1a ?q2a ?q3a ?q4a ?q5a ?q6a ?q7a ?q8a ?q9a
  case q5a => exact c1
  case q1a => rfl
  case q2a => rfl
  case q3a => rfl
  case q4a => rfl
  case q6a => rfl
  case q7a => rfl
  case q8a =>
    simp only [go_sem, St.back, List.map_cons, List.map_nil, SV.ren, Ob.ren, renL, pastG, lateG, List.length_cons, List.length_nil, List.take_succ_cons, List.take_zero, List.drop_succ_cons, List.drop_zero, List.getElem?_cons_zero, List.getElem?_cons_succ, List.getElem?_nil, simprocAttr]
    rfl
  refine SL_done tt_ok hG htb (by (repeat' (first | (with_reducible exact runX_nil) | ((with_reducible apply runX_cons); focus (simp (discharger := omega) only [go_sem, simprocAttr]; with_reducible rfl))))) ?_
  repeat' (first | (with_reducible first | refine SW_seq ?_ | refine SW_block ?_ | refine SThen_n ?_ | refine SThen_r ?_ | refine SThen_e ?_ | refine SIn_n ?_ | refine SIn_r ?_ | refine SIn_eq ?_ | refine SW_skip ?_ | refine SW_exit ?_ | refine SW_ret ?_ | refine SPost_r ?_) | ((with_reducible refine SIn_ne ?_ ?_); focus decide) | ((with_reducible refine SW_true ?_ ?_); focus exact rfl) | ((with_reducible refine SW_false ?_ ?_); focus exact rfl) | ((with_reducible apply SW_run tt_ok hG htb); focus ((repeat' (first | (with_reducible exact runX_nil) | ((with_reducible apply runX_cons); focus (simp (discharger := omega) only [go_sem, simprocAttr]; with_reducible rfl)))); done)))
  have hp0 : Inm m s0 ∧ s0.Pairwise (· < ·) := ⟨hs0 ▸ hf.canon, hs0 ▸ (canonL_spec first).1⟩
  have hpd : ∀ s l, l < n → Inm m s ∧ s.Pairwise (· < ·) → Inm m (δ s l) ∧ (δ s l).Pairwise (· < ·) := fun s l hl h => by
    rw [← hδ]
    exact ⟨(hsm s l h.1 hl).canon, (canonL_spec _).1⟩
  have hgood : ∀ k, ∀ q ∈ growS δ n s0 k, Inm m q ∧ q.Pairwise (· < ·) := growS_in' hp0 hpd
  unfold growSets growRows growOk
  rw [hδ, hs0]
  refine SW_loop (fun mm st => ∃ (i : Nat) (nx ms : List T) (es : List (T × T)), mm = 2001 - i ∧ st = ⟨54, [(55, .pin 0 (bs 1)), (9, .bptr 1 0), (6, .bptr 2 0), (1, .t (tNat n)), (2, .fn sf [.bptr 0 0]), (7, .sref 3), (8, .t (.bool false)), (10, .fn 59 [.bptr 1 0, .bptr 2 0]), (11, .t (tNat i))], [.box [.map 4], .box [.map 5], .box [.sref 6], .row 26 1 true nx, .map kk mes, .map .str es, .row 26 1 true ms]⟩ ∧ i ≤ 2000 ∧ i ≤ (growS δ n s0 i).length ∧ es = strEntries (growS δ n s0 i) ∧ ms = (growS δ n s0 i).map tInts ∧ nx = (rowsIn δ n (growS δ n s0 i) i).map tInts) 2001
    ⟨_, Norm.headS (own := [(7, 26, 1, true)]) (keep := [55, 9, 6, 1, 2, 7, 8, 10, 11]) (by refine ⟨?_, ?_⟩; (simp (discharger := omega) only [go_sem, simprocAttr]; with_reducible rfl); refine ⟨?_, ?_, ?_, ?_⟩ <;> (simp only [go_sem, simprocAttr]; with_reducible rfl)), 0, _, _, _, rfl, rfl, Nat.zero_le _, Nat.zero_le _, rfl, rfl, rfl⟩ ?_
  rintro mm st ⟨i, nx, ms, es, rfl, rfl, hi, hil, hes, hms, hnx⟩
  have hml : ms.length = (growS δ n s0 i).length := by rw [hms, List.length_map]
  by_cases hlt : i < (growS δ n s0 i).length
  rotate_left
  · have hie : (growS δ n s0 i).length = i := by omega
    have hok := grow_few (δ := δ) (n := n) (s0 := s0) hi hie
    rw [if_pos hok, if_pos hok, hok, grow_end (i := i) (by omega) (by omega), grow_rows (by omega) hie]
    have hlt2 : ¬ ((i : Nat) : Int) < ((ms.length : Nat) : Int) := by omega
    have hle2 : ((ms.length : Nat) : Int) ≤ 2000 := by omega
    have hle3 := eq_true hle2
    repeat' (first | (with_reducible first | apply w1 | apply w2 | apply w3 | apply w4 | apply w5 | apply w6 | apply w7 | apply w8 | apply w9 | apply wa | apply wb | apply wc) | ((with_reducible apply wd); focus decide) | ((with_reducible apply we); focus exact rfl) | ((with_reducible apply wf); focus exact rfl) | ((first | (with_reducible apply SW_run tt_ok hG htb) | ((with_reducible apply SW_draw rfl tt_ok hG htb); (focus kernel_rfl); focus simp only [List.range, List.range.loop, List.size_toArray, List.length_cons, List.length_nil, Nat.reduceAdd])); focus ((repeat' (first | (with_reducible first | exact wg | exact wh) | ((with_reducible first | apply wi | apply wj); focus (simp (discharger := omega) only [go_sem, hlt2, hle3, simprocAttr]; with_reducible rfl)))); done)))
    subst hms hnx
    refine SPostG_norm (Norm.headS (own := []) (keep := [55, 6, 7, 8]) (by refine ⟨?_, ?_⟩; (simp (discharger := omega) only [go_sem, simprocAttr]; with_reducible rfl); refine ⟨?_, ?_, ?_, ?_⟩ <;> (simp only [go_sem, simprocAttr]; with_reducible rfl))) ?_
    refine SPostG_normE (Norm.frzRow 4 rfl) (by simp only [go_sem, simprocAttr]; rfl) ?_
    refine SPostG_normE (Norm.frzRow 2 rfl) (by simp only [go_sem, simprocAttr]; rfl) ?_
    refine SPostG_normE (Norm.trB 1 0 rfl rfl rfl) (by simp only [go_sem, simprocAttr]; rfl) ?_
    refine SPostG_normE (Norm.datum 7 2 rfl rfl) (by simp only [go_sem, simprocAttr]; rfl) ?_
    refine SPostG_norm (Norm.headS (own := []) (keep := [55, 6, 7, 8]) (by refine ⟨?_, ?_⟩; (simp (discharger := omega) only [go_sem, simprocAttr]; with_reducible rfl); refine ⟨?_, ?_, ?_, ?_⟩ <;> (simp only [go_sem, simprocAttr]; with_reducible rfl))) ?_
    refine SPostG_normE (Norm.hole _) (by simp only [go_sem, simprocAttr]; rfl) ?_
    refine SPostG_norm (Norm.headP [3, 0, 2, 1] rfl (own := []) (keep := [55, 6, 7, 8]) (by refine ⟨?_, ?_⟩; (simp (discharger := omega) only [go_sem, simprocAttr]; with_reducible rfl); refine ⟨?_, ?_, ?_, ?_⟩ <;> (simp only [go_sem, simprocAttr]; with_reducible rfl))) ?_
    exact SPostG_r (Norm.refl _) rfl rfl (fun i hi => by simp only [List.mem_singleton] at hi; subst hi; rfl)
  by_cases hbig : 2000 < (growS δ n s0 i).length
  · have hok := grow_many (δ := δ) (n := n) (s0 := s0) (i := i) (by omega) hbig
    rw [hok, if_neg (by decide), if_neg (by decide)]
    have hlt2 : ((i : Nat) : Int) < ((ms.length : Nat) : Int) := by omega
    have hgt2 : ((ms.length : Nat) : Int) > 2000 := by omega
    repeat' (first | (with_reducible first | apply w1 | apply w2 | apply w3 | apply w4 | apply w5 | apply w6 | apply w7 | apply w8 | apply w9 | apply wa | apply wb | apply wc) | ((with_reducible apply wd); focus decide) | ((with_reducible apply we); focus exact rfl) | ((with_reducible apply wf); focus exact rfl) | ((first | (with_reducible apply SW_run tt_ok hG htb) | ((with_reducible apply SW_draw rfl tt_ok hG htb); (focus kernel_rfl); focus simp only [List.range, List.range.loop, List.size_toArray, List.length_cons, List.length_nil, Nat.reduceAdd])); focus ((repeat' (first | (with_reducible first | exact wg | exact wh) | ((with_reducible first | apply wi | apply wj); focus (simp (discharger := omega) only [go_sem, hlt2, hgt2, simprocAttr]; with_reducible rfl)))); done)))
    refine SPostG_norm (Norm.headS (own := []) (keep := [55, 6, 7, 8]) (by refine ⟨?_, ?_⟩; (simp (discharger := omega) only [go_sem, simprocAttr]; with_reducible rfl); refine ⟨?_, ?_, ?_, ?_⟩ <;> (simp only [go_sem, simprocAttr]; with_reducible rfl))) ?_
    refine SPostG_normE (Norm.trB 1 0 rfl rfl rfl) (by simp only [go_sem, simprocAttr]; rfl) ?_
    refine SPostG_normE (Norm.tr 7 rfl rfl) (by simp only [go_sem, simprocAttr]; rfl) ?_
    refine SPostG_norm (Norm.headS (own := []) (keep := [55, 6, 7, 8]) (by refine ⟨?_, ?_⟩; (simp (discharger := omega) only [go_sem, simprocAttr]; with_reducible rfl); refine ⟨?_, ?_, ?_, ?_⟩ <;> (simp only [go_sem, simprocAttr]; with_reducible rfl))) ?_
    refine SPostG_normE (Norm.hole _) (by simp only [go_sem, simprocAttr]; rfl) ?_
    refine SPostG_norm (Norm.headP [3, 0, 2, 1] rfl (own := []) (keep := [55, 6, 7, 8]) (by refine ⟨?_, ?_⟩; (simp (discharger := omega) only [go_sem, simprocAttr]; with_reducible rfl); refine ⟨?_, ?_, ?_, ?_⟩ <;> (simp only [go_sem, simprocAttr]; with_reducible rfl))) ?_
    exact SPostG_r (Norm.refl _) rfl rfl (fun i hi => by simp only [List.mem_singleton] at hi; subst hi; rfl)
  obtain ⟨s, hs⟩ : ∃ s, (growS δ n s0 i)[i]? = some s := ⟨_, List.getElem?_eq_getElem hlt⟩
  have hsg := hgood i s (List.mem_of_getElem? hs)
  have hgi := hgood i
  have hndi := growS_nodup (δ := δ) (n := n) (s0 := s0) i
  have hnext := growS_some hs
  have hrows := rows_step hs
  rw [hnext] at hrows
  generalize hP : growS δ n s0 i = P at *
  have hlt2 : ((i : Nat) : Int) < ((ms.length : Nat) : Int) := by omega
  have hgt2 : ¬ ((ms.length : Nat) : Int) > 2000 := by omega
  repeat' (first | (with_reducible first | apply w1 | apply w2 | apply w3 | apply w4 | apply w5 | apply w6 | apply w7 | apply w8 | apply w9 | apply wa | apply wb | apply wc) | ((with_reducible apply wd); focus decide) | ((with_reducible apply we); focus exact rfl) | ((with_reducible apply wf); focus exact rfl) | ((first | (with_reducible apply SW_run tt_ok hG htb) | ((with_reducible apply SW_draw rfl tt_ok hG htb); (focus kernel_rfl); focus simp only [List.range, List.range.loop, List.size_toArray, List.length_cons, List.length_nil, Nat.reduceAdd])); focus ((repeat' (first | (with_reducible first | exact wg | exact wh) | ((with_reducible first | apply wi | apply wj); focus (simp (discharger := omega) only [go_sem, hlt2, hgt2, simprocAttr]; with_reducible rfl)))); done)))
  refine SW_loop (fun mm st => ∃ (l : Nat) (rw' ms' : List T) (es' : List (T × T)), mm = n - l ∧ st = ⟨54, [(55, .pin 0 (bs 1)), (9, .bptr 1 0), (6, .bptr 2 0), (1, .t (tNat n)), (2, .fn sf [.bptr 0 0]), (7, .sref 3), (8, .t (.bool false)), (10, .fn 59 [.bptr 1 0, .bptr 2 0]), (11, .t (tNat i)), (12, .sref 4), (28, .t (tNat n)), (29, .t (tNat l))], [.box [.map 5], .box [.map 6], .box [.sref 7], .row 26 1 true nx, .row 3 1 true rw', .map kk mes, .map .str es', .row 26 1 true ms']⟩ ∧ l ≤ n ∧ es' = strEntries (partS δ P s l) ∧ ms' = (partS δ P s l).map tInts ∧ rw' = (rowIn δ (partS δ P s l) s l).map tInt) n
    ⟨_, Norm.headS (own := [(12, 3, 1, true)]) (keep := [55, 9, 6, 1, 2, 7, 8, 10, 11, 12, 28, 29]) (by refine ⟨?_, ?_⟩; (simp (discharger := omega) only [go_sem, simprocAttr]; with_reducible rfl); refine ⟨?_, ?_, ?_, ?_⟩ <;> (simp only [go_sem, simprocAttr]; with_reducible rfl)), 0, _, _, _, rfl, rfl, Nat.zero_le _, hes, hms, rfl⟩ ?_
  rintro mm st ⟨l, rw', ms', es', rfl, rfl, hl, hes', hms', hrw'⟩
  by_cases hll : l < n
  · have e2 : canonL (stp s l) = δ s l := by rw [← hδ]; rfl
    have hpl := partS_len δ P s l
    have c2 := find_snd hG (partS δ P s l) (stp s l) ((hsm s l hsg.1 hll).small hm80) (hlen s l hsg.1 hsg.2 hll) (fun q hq => (partS_in' (p := fun q => Inm m q ∧ q.Pairwise (· < ·)) hgi l (fun j hj => hpd s j (by omega) hsg) q hq).1.small hm80) (partS_nodup hndi s l) (by omega)
    rw [e2, show addS (partS δ P s l) (δ s l) = partS δ P s (l + 1) from rfl, ← hes', ← hms'] at c2
    have c3 := hstp s l hsg.1 hsg.2 hll
    have hil2 : i < (partS δ P s l).length := by
      have := (partS_pre δ P s l).length_le
      omega
    have hsi : ms'[i]! = tInts s := by
      have h1 : (partS δ P s l)[i]? = some s := pre_get (partS_pre δ P s l) hs
      rw [hms', getElem!_pos _ _ (by rw [List.length_map]; exact hil2)]
      obtain ⟨q1, q2⟩ := List.getElem?_eq_some_iff.1 h1
      simp [q2]
    have hms2 : ms'.length = (partS δ P s l).length := by rw [hms', List.length_map]
    have hrl : rw'.length = l := by rw [hrw', List.length_map]; simp [rowIn]
    obtain ⟨es2, hes2⟩ : ∃ es2, strEntries (partS δ P s (l + 1)) = es2 := ⟨_, rfl⟩
    obtain ⟨ms2, hms3⟩ : ∃ ms2, (partS δ P s (l + 1)).map tInts = ms2 := ⟨_, rfl⟩
    obtain ⟨k, hk⟩ : ∃ k, idxS (partS δ P s (l + 1)) (δ s l) = k := ⟨_, rfl⟩
    have hstep := rowIn_step (δ := δ) (met := P) (s := s) l
    rw [hk] at hstep
    rw [hes2, hms3, hk] at c2
    generalize stp s l = u at *
    repeat' (first | (with_reducible first | refine SW_seq ?_ | refine SW_block ?_ | refine SThen_n ?_ | refine SThen_r ?_ | refine SThen_e ?_ | refine SIn_n ?_ | refine SIn_r ?_ | refine SIn_eq ?_ | refine SW_skip ?_ | refine SW_exit ?_ | refine SW_ret ?_ | refine SPost_r ?_) | ((with_reducible refine SIn_ne ?_ ?_); focus decide) | ((with_reducible refine SW_true ?_ ?_); focus exact rfl) | ((with_reducible refine SW_false ?_ ?_); focus exact rfl) | ((with_reducible apply SW_run tt_ok hG htb); focus ((repeat' (first | (with_reducible exact runX_nil) | ((with_reducible apply runX_cons); focus (simp (discharger := omega) only [go_sem, simprocAttr]; with_reducible rfl)))); done)))
    refine SW_region ?_
    refine SL_k tt_ok hG htb 8 (by simp only [List.take_succ_cons, List.take_zero]; rfl) (by simp only [List.drop_succ_cons, List.drop_zero, Nat.reduceAdd]; rfl) (by (repeat' (first | (with_reducible exact runX_nil) | ((with_reducible apply runX_cons); focus (simp (discharger := omega) only [go_sem, hsi, simprocAttr]; with_reducible rfl))))) ?_
    refine SL_norm (Norm.headP [0, 5] rfl (own := []) (keep := [55, 9, 6, 1, 2, 7, 8, 10, 11, 12, 28, 29, 32, 33, 34, 38, 39]) (by refine ⟨?_, ?_⟩; (simp (discharger := omega) only [go_sem, simprocAttr]; with_reducible rfl); refine ⟨?_, ?_, ?_, ?_⟩ <;> (simp only [go_sem, simprocAttr]; with_reducible rfl))) ?_
    refine SL_callH (g := sf) (cap := [.bptr 0 0]) (obs := [.box [.map 1], .map kk mes]) (ks := []) (obs' := [.box [.map 1], .map kk mes] ++ [.row 3 1 true (iL u)]) (rst := ?zrb) (r := .sref 2) (s3 := ?zub) rfl rfl ?q1b ?q2b ?q3b ?q4b ?q5b ?q6b ?q7b ?q8b ?q9b
    case q5b => exact c3
    case q1b => rfl
    case q2b => rfl
    case q3b => rfl
    case q4b => rfl
    case q6b => rfl
    case q7b => rfl
    case q8b =>
      simp only [go_sem, St.back, List.map_cons, List.map_nil, SV.ren, Ob.ren, renL, pastG, lateG, List.length_cons, List.length_nil, List.take_succ_cons, List.take_zero, List.drop_succ_cons, List.drop_zero, List.getElem?_cons_zero, List.getElem?_cons_succ, List.getElem?_nil, List.cons_append, List.nil_append, simprocAttr]
      rfl
    refine SL_norm (Norm.headP [2, 3, 6, 7, 8] rfl (own := []) (keep := [55, 9, 6, 1, 2, 7, 8, 10, 11, 12, 28, 29, 32, 33, 40]) (by refine ⟨?_, ?_⟩; (simp (discharger := omega) only [go_sem, simprocAttr]; with_reducible rfl); refine ⟨?_, ?_, ?_, ?_⟩ <;> (simp only [go_sem, simprocAttr]; with_reducible rfl))) ?_
    refine SL_callH (g := 59) (cap := [.bptr 0 0, .bptr 1 0]) (obs := [.box [.map 2], .box [.sref 3], .map .str es', .row 26 1 true ms', .row 3 1 true (iL u)]) (ks := []) (obs' := [.box [.map 2], .box [.sref 3], .map .str es2, .row 26 1 true ms2, .hole]) (rst := ?zrc) (r := .t (tNat k)) (s3 := ?zuc) rfl rfl ?q1c ?q2c ?q3c ?q4c ?q5c ?q6c ?q7c ?q8c ?q9c
    case q5c => exact c2
    case q1c => rfl
    case q2c => rfl
    case q3c => rfl
    case q4c => rfl
    case q6c => rfl
    case q7c => rfl
    case q8c =>
      simp only [go_sem, St.back, List.map_cons, List.map_nil, SV.ren, Ob.ren, renL, pastG, lateG, List.length_cons, List.length_nil, List.take_succ_cons, List.take_zero, List.drop_succ_cons, List.drop_zero, List.getElem?_cons_zero, List.getElem?_cons_succ, List.getElem?_nil, simprocAttr]
      rfl
    refine SL_done tt_ok hG htb (by (repeat' (first | (with_reducible exact runX_nil) | ((with_reducible apply runX_cons); focus (simp (discharger := omega) only [go_sem, hrl, simprocAttr]; with_reducible rfl))))) ?_
    repeat' (first | (with_reducible first | refine SW_seq ?_ | refine SW_block ?_ | refine SThen_n ?_ | refine SThen_r ?_ | refine SThen_e ?_ | refine SIn_n ?_ | refine SIn_r ?_ | refine SIn_eq ?_ | refine SW_skip ?_ | refine SW_exit ?_ | refine SW_ret ?_ | refine SPost_r ?_) | ((with_reducible refine SIn_ne ?_ ?_); focus decide) | ((with_reducible refine SW_true ?_ ?_); focus exact rfl) | ((with_reducible refine SW_false ?_ ?_); focus exact rfl) | ((with_reducible apply SW_run tt_ok hG htb); focus ((repeat' (first | (with_reducible exact runX_nil) | ((with_reducible apply runX_cons); focus (simp (discharger := omega) only [go_sem, simprocAttr]; with_reducible rfl)))); done)))
    exact ⟨n - (l + 1), _, by omega, Norm.headS (own := []) (keep := [55, 9, 6, 1, 2, 7, 8, 10, 11, 12, 28, 29]) (by refine ⟨?_, ?_⟩; (simp (discharger := omega) only [go_sem, simprocAttr]; with_reducible rfl); refine ⟨?_, ?_, ?_, ?_⟩ <;> (simp only [go_sem, simprocAttr]; with_reducible rfl)), l + 1, _, _, _, rfl, rfl, by omega, hes2.symm, hms3.symm, by rw [← hstep, List.map_append, ← hrw']; rfl⟩
  · obtain rfl : l = n := by omega
    have hnl : nx.length = i := by
      rw [hnx, List.length_map]
      simp [rowsIn]; omega
    repeat' (first | (with_reducible first | apply w1 | apply w2 | apply w3 | apply w4 | apply w5 | apply w6 | apply w7 | apply w8 | apply w9 | apply wa | apply wb | apply wc) | ((with_reducible apply wd); focus decide) | ((with_reducible apply we); focus exact rfl) | ((with_reducible apply wf); focus exact rfl) | ((first | (with_reducible apply SW_run tt_ok hG htb) | ((with_reducible apply SW_draw rfl tt_ok hG htb); (focus kernel_rfl); focus simp only [List.range, List.range.loop, List.size_toArray, List.length_cons, List.length_nil, Nat.reduceAdd])); focus ((repeat' (first | (with_reducible first | exact wg | exact wh) | ((with_reducible first | apply wi | apply wj); focus (simp (discharger := omega) only [go_sem, hnl, simprocAttr]; with_reducible rfl)))); done)))
    exact ⟨2001 - (i + 1), _, by omega, Norm.headS (own := []) (keep := [55, 9, 6, 1, 2, 7, 8, 10, 11]) (by refine ⟨?_, ?_⟩; (simp (discharger := omega) only [go_sem, simprocAttr]; with_reducible rfl); refine ⟨?_, ?_, ?_, ?_⟩ <;> (simp only [go_sem, simprocAttr]; with_reducible rfl)), i + 1, _, _, _, rfl, rfl, by omega, by rw [hnext]; have := (partS_pre δ P s l).length_le; omega, by rw [hnext]; exact hes', by rw [hnext]; exact hms', by rw [hnext, ← hrows, List.map_append, ← hnx, hrw']; rfl⟩
end
end Go.Proofs.Ythcclcbliedodaa
