/- Plain laws, data behind worlds, and contracts of functions, for the last text. No conditions. -/
import Derived.Test.YtjidhaendndokaaDoorM4
import Derived.Test.YtjidhaendndokaaDoorChecked
set_option linter.unusedSimpArgs false
set_option linter.unusedVariables false
set_option linter.unnecessarySimpa false
set_option linter.unusedSectionVars false
namespace Go.Proofs.YtjidhaendndokaaDoor
open Go.RowKit

def tt0 : Nat → Option TI
  | 1 => some ⟨.plain, 1, 8, [.t .undef], false⟩
  | 2 => some ⟨.int .i64, 1, 8, [.t (.int .i64 0)], false⟩
  | 3 => some ⟨.int .i64, 1, 8, [.t (.int .i64 0)], false⟩
  | 4 => some ⟨.bool, 1, 1, [.t (.bool false)], false⟩
  | 5 => some ⟨.int .u8, 1, 1, [.t (.int .u8 0)], false⟩
  | 6 => some ⟨.int .u8, 1, 1, [.t (.int .u8 0)], false⟩
  | 7 => some ⟨.struct [(0, 1), (1, 1), (2, 1), (3, 1)], 4, 24, [.t (.int .i64 0), .t (.int .i64 0), .t (.bool false), .t (.int .u8 0)], false⟩
  | _ => none
def tt1 : Nat → Option TI
  | 8 => some ⟨.struct [(0, 1), (1, 1), (2, 1), (3, 1)], 4, 24, [.t (.int .i64 0), .t (.int .i64 0), .t (.bool false), .t (.int .u8 0)], false⟩
  | 9 => some ⟨.str, 1, 16, [.t (.str ByteArray.empty)], false⟩
  | 10 => some ⟨.str, 1, 16, [.t (.str ByteArray.empty)], false⟩
  | 11 => some ⟨.str, 1, 16, [.t (.str ByteArray.empty)], false⟩
  | 12 => some ⟨.int .u64, 1, 8, [.t (.int .u64 0)], false⟩
  | 13 => some ⟨.struct [(0, 1), (1, 1)], 2, 24, [.t (.str ByteArray.empty), .t (.int .u64 0)], false⟩
  | 14 => some ⟨.struct [(0, 1), (1, 1)], 2, 24, [.t (.str ByteArray.empty), .t (.int .u64 0)], false⟩
  | 15 => some ⟨.plain, 1, 8, [.t .undef], false⟩
  | _ => none
def tt2 : Nat → Option TI
  | 16 => some ⟨.plain, 1, 8, [.t .undef], false⟩
  | 17 => some ⟨.plain, 1, 8, [.t .undef], false⟩
  | 18 => some ⟨.struct [(0, 1)], 1, 8, [.t .undef], false⟩
  | 19 => some ⟨.struct [(0, 1)], 1, 8, [.t .undef], false⟩
  | 20 => some ⟨.iface, 1, 16, [.t .nilI], false⟩
  | 21 => some ⟨.int .i32, 1, 4, [.t (.int .i32 0)], false⟩
  | 22 => some ⟨.slice 38, 1, 24, [.nil], false⟩
  | 23 => some ⟨.slice 4, 1, 24, [.nil], false⟩
  | _ => none
def tt3 : Nat → Option TI
  | 24 => some ⟨.struct [(0, 1), (1, 1), (2, 1), (3, 1)], 4, 64, [.t (.int .i64 0), .t (.int .i64 0), .nil, .nil], false⟩
  | 25 => some ⟨.struct [(0, 1), (1, 1), (2, 1), (3, 1)], 4, 64, [.t (.int .i64 0), .t (.int .i64 0), .nil, .nil], false⟩
  | 26 => some ⟨.int .i64, 1, 8, [.t (.int .i64 0)], false⟩
  | 27 => some ⟨.plain, 1, 8, [.t .undef], false⟩
  | 28 => some ⟨.plain, 1, 8, [.t .undef], false⟩
  | 29 => some ⟨.iface, 1, 16, [.t .nilI], false⟩
  | 30 => some ⟨.iface, 1, 16, [.t .nilI], false⟩
  | _ => none
def tt4 : Nat → Option TI
  | 32 => some ⟨.plain, 1, 8, [.t .undef], false⟩
  | 33 => some ⟨.plain, 1, 8, [.t .undef], false⟩
  | 34 => some ⟨.plain, 1, 8, [.t .undef], false⟩
  | 35 => some ⟨.plain, 1, 8, [.t .undef], false⟩
  | 37 => some ⟨.plain, 1, 8, [.t .undef], false⟩
  | 38 => some ⟨.slice 3, 1, 24, [.nil], false⟩
  | _ => none
def tt5 : Nat → Option TI
  | 40 => some ⟨.plain, 1, 8, [.t .undef], false⟩
  | 41 => some ⟨.plain, 1, 8, [.t .undef], false⟩
  | 43 => some ⟨.plain, 1, 8, [.t .undef], false⟩
  | 44 => some ⟨.plain, 1, 8, [.t .undef], false⟩
  | 46 => some ⟨.plain, 1, 8, [.t .undef], false⟩
  | 47 => some ⟨.plain, 1, 8, [.t .undef], false⟩
  | _ => none
def tt6 : Nat → Option TI
  | 48 => some ⟨.plain, 1, 8, [.t .undef], false⟩
  | 49 => some ⟨.plain, 1, 8, [.t .undef], false⟩
  | 50 => some ⟨.plain, 1, 8, [.t .undef], false⟩
  | 52 => some ⟨.plain, 1, 8, [.t .undef], false⟩
  | 53 => some ⟨.slice 23, 1, 24, [.nil], false⟩
  | 55 => some ⟨.plain, 1, 8, [.t .undef], false⟩
  | _ => none
def tt7 : Nat → Option TI
  | 56 => some ⟨.plain, 1, 8, [.t .undef], false⟩
  | 57 => some ⟨.plain, 1, 8, [.t .undef], false⟩
  | 58 => some ⟨.plain, 1, 8, [.t .undef], false⟩
  | 59 => some ⟨.plain, 1, 8, [.t .undef], false⟩
  | 60 => some ⟨.plain, 1, 8, [.t .undef], false⟩
  | 61 => some ⟨.plain, 1, 8, [.t .undef], false⟩
  | 62 => some ⟨.plain, 1, 8, [.t .undef], false⟩
  | 63 => some ⟨.plain, 1, 8, [.t .undef], false⟩
  | _ => none
def tt8 : Nat → Option TI
  | 64 => some ⟨.plain, 1, 8, [.t .undef], false⟩
  | 65 => some ⟨.plain, 1, 8, [.t .undef], false⟩
  | 66 => some ⟨.map (.ints 3) 69 3, 1, 8, [.t .undef], false⟩
  | 67 => some ⟨.plain, 1, 8, [.t .undef], false⟩
  | 68 => some ⟨.struct [(0, 1), (1, 1), (2, 1)], 3, 24, [.t (.int .i64 0), .t (.int .i64 0), .t (.int .i64 0)], true⟩
  | 69 => some ⟨.struct [(0, 1), (1, 1), (2, 1)], 3, 24, [.t (.int .i64 0), .t (.int .i64 0), .t (.int .i64 0)], true⟩
  | 71 => some ⟨.plain, 1, 8, [.t .undef], false⟩
  | _ => none
def tt9 : Nat → Option TI
  | 72 => some ⟨.plain, 1, 8, [.t .undef], false⟩
  | 73 => some ⟨.plain, 1, 8, [.t .undef], false⟩
  | 74 => some ⟨.plain, 1, 8, [.t .undef], false⟩
  | 75 => some ⟨.plain, 1, 8, [.t .undef], false⟩
  | 76 => some ⟨.plain, 1, 8, [.t .undef], false⟩
  | 77 => some ⟨.plain, 1, 8, [.t .undef], false⟩
  | 78 => some ⟨.plain, 1, 8, [.t .undef], false⟩
  | 79 => some ⟨.plain, 1, 8, [.t .undef], false⟩
  | _ => none
def tt10 : Nat → Option TI
  | 80 => some ⟨.plain, 1, 8, [.t .undef], false⟩
  | 81 => some ⟨.plain, 1, 8, [.t .undef], false⟩
  | 82 => some ⟨.array 64 3, 64, 512, [.t (.int .i64 0), .t (.int .i64 0), .t (.int .i64 0), .t (.int .i64 0), .t (.int .i64 0), .t (.int .i64 0), .t (.int .i64 0), .t (.int .i64 0), .t (.int .i64 0), .t (.int .i64 0), .t (.int .i64 0), .t (.int .i64 0), .t (.int .i64 0), .t (.int .i64 0), .t (.int .i64 0), .t (.int .i64 0), .t (.int .i64 0), .t (.int .i64 0), .t (.int .i64 0), .t (.int .i64 0), .t (.int .i64 0), .t (.int .i64 0), .t (.int .i64 0), .t (.int .i64 0), .t (.int .i64 0), .t (.int .i64 0), .t (.int .i64 0), .t (.int .i64 0), .t (.int .i64 0), .t (.int .i64 0), .t (.int .i64 0), .t (.int .i64 0), .t (.int .i64 0), .t (.int .i64 0), .t (.int .i64 0), .t (.int .i64 0), .t (.int .i64 0), .t (.int .i64 0), .t (.int .i64 0), .t (.int .i64 0), .t (.int .i64 0), .t (.int .i64 0), .t (.int .i64 0), .t (.int .i64 0), .t (.int .i64 0), .t (.int .i64 0), .t (.int .i64 0), .t (.int .i64 0), .t (.int .i64 0), .t (.int .i64 0), .t (.int .i64 0), .t (.int .i64 0), .t (.int .i64 0), .t (.int .i64 0), .t (.int .i64 0), .t (.int .i64 0), .t (.int .i64 0), .t (.int .i64 0), .t (.int .i64 0), .t (.int .i64 0), .t (.int .i64 0), .t (.int .i64 0), .t (.int .i64 0), .t (.int .i64 0)], false⟩
  | 84 => some ⟨.int .u64, 1, 8, [.t (.int .u64 0)], false⟩
  | 85 => some ⟨.struct [(0, 1), (1, 1), (2, 1)], 3, 24, [.t .undef, .t .undef, .t (.int .u64 0)], false⟩
  | 86 => some ⟨.struct [(0, 1), (1, 1), (2, 1)], 3, 24, [.t .undef, .t .undef, .t (.int .u64 0)], false⟩
  | 87 => some ⟨.plain, 1, 8, [.t .undef], false⟩
  | _ => none
def tt11 : Nat → Option TI
  | 88 => some ⟨.iface, 1, 16, [.t .nilI], false⟩
  | 89 => some ⟨.iface, 1, 16, [.t .nilI], false⟩
  | 90 => some ⟨.plain, 1, 8, [.t .undef], false⟩
  | 91 => some ⟨.int .u8, 1, 1, [.t (.int .u8 0)], false⟩
  | 92 => some ⟨.plain, 1, 8, [.t .undef], false⟩
  | 93 => some ⟨.plain, 1, 8, [.t .undef], false⟩
  | 94 => some ⟨.plain, 1, 8, [.t .undef], false⟩
  | 95 => some ⟨.plain, 1, 8, [.t .undef], false⟩
  | _ => none
def tt12 : Nat → Option TI
  | 96 => some ⟨.plain, 1, 8, [.t .undef], false⟩
  | 97 => some ⟨.plain, 1, 8, [.t .undef], false⟩
  | 98 => some ⟨.struct [(0, 1)], 1, 8, [.t .undef], false⟩
  | 99 => some ⟨.struct [(0, 1)], 1, 8, [.t .undef], false⟩
  | 100 => some ⟨.plain, 1, 8, [.t .undef], false⟩
  | 101 => some ⟨.plain, 1, 8, [.t .undef], false⟩
  | 102 => some ⟨.plain, 1, 8, [.t .undef], false⟩
  | 103 => some ⟨.plain, 1, 8, [.t .undef], false⟩
  | _ => none
def tt13 : Nat → Option TI
  | 104 => some ⟨.iface, 1, 16, [.t .nilI], false⟩
  | 106 => some ⟨.plain, 1, 8, [.t .undef], false⟩
  | 107 => some ⟨.iface, 1, 16, [.t .nilI], false⟩
  | 108 => some ⟨.plain, 1, 8, [.t .undef], false⟩
  | 109 => some ⟨.iface, 1, 16, [.t .nilI], false⟩
  | 110 => some ⟨.slice 30, 1, 24, [.nil], false⟩
  | 111 => some ⟨.plain, 1, 8, [.t .undef], false⟩
  | _ => none
def tt14 : Nat → Option TI
  | 112 => some ⟨.plain, 1, 8, [.t .undef], false⟩
  | 113 => some ⟨.struct [(0, 1), (1, 1), (2, 1), (3, 1)], 4, 40, [.t .undef, .t .undef, .t .undef, .t (.str ByteArray.empty)], false⟩
  | 114 => some ⟨.struct [(0, 1), (1, 1), (2, 1), (3, 1)], 4, 40, [.t .undef, .t .undef, .t .undef, .t (.str ByteArray.empty)], false⟩
  | 118 => some ⟨.plain, 1, 8, [.t .undef], false⟩
  | 119 => some ⟨.plain, 1, 8, [.t .undef], false⟩
  | _ => none
def tt15 : Nat → Option TI
  | 120 => some ⟨.int .u32, 1, 4, [.t (.int .u32 0)], false⟩
  | 121 => some ⟨.int .u8, 1, 1, [.t (.int .u8 0)], false⟩
  | 122 => some ⟨.plain, 1, 8, [.t .undef], false⟩
  | 123 => some ⟨.plain, 1, 8, [.t .undef], false⟩
  | 124 => some ⟨.int .i32, 1, 4, [.t (.int .i32 0)], false⟩
  | 125 => some ⟨.int .i32, 1, 4, [.t (.int .i32 0)], false⟩
  | 126 => some ⟨.struct [(0, 1), (1, 1), (2, 1), (3, 1), (4, 1), (5, 1), (6, 1), (7, 1), (8, 1), (9, 1), (10, 1)], 11, 48, [.t (.int .u64 0), .t (.int .u64 0), .t (.int .u32 0), .t (.int .u8 0), .t (.int .u8 0), .t (.int .u8 0), .t (.int .u8 0), .t .undef, .t .undef, .t (.int .i32 0), .t (.int .i32 0)], false⟩
  | 127 => some ⟨.struct [(0, 1), (1, 1), (2, 1), (3, 1), (4, 1), (5, 1), (6, 1), (7, 1), (8, 1), (9, 1), (10, 1)], 11, 48, [.t (.int .u64 0), .t (.int .u64 0), .t (.int .u32 0), .t (.int .u8 0), .t (.int .u8 0), .t (.int .u8 0), .t (.int .u8 0), .t .undef, .t .undef, .t (.int .i32 0), .t (.int .i32 0)], false⟩
  | _ => none
def tt16 : Nat → Option TI
  | 128 => some ⟨.plain, 1, 8, [.t .undef], false⟩
  | 129 => some ⟨.plain, 1, 8, [.t .undef], false⟩
  | 130 => some ⟨.struct [(0, 1), (1, 1)], 2, 24, [.t (.str ByteArray.empty), .t (.int .u8 0)], false⟩
  | 131 => some ⟨.struct [(0, 1), (1, 1)], 2, 24, [.t (.str ByteArray.empty), .t (.int .u8 0)], false⟩
  | 132 => some ⟨.plain, 1, 8, [.t .undef], false⟩
  | 133 => some ⟨.plain, 1, 8, [.t .undef], false⟩
  | 134 => some ⟨.int .u16, 1, 2, [.t (.int .u16 0)], false⟩
  | 135 => some ⟨.struct [(0, 1), (1, 1), (2, 1), (3, 1), (4, 1)], 5, 16, [.t (.int .i32 0), .t (.int .u16 0), .t (.int .u16 0), .t (.int .u32 0), .t (.int .u32 0)], false⟩
  | _ => none
def tt17 : Nat → Option TI
  | 136 => some ⟨.struct [(0, 1), (1, 1), (2, 1), (3, 1), (4, 1)], 5, 16, [.t (.int .i32 0), .t (.int .u16 0), .t (.int .u16 0), .t (.int .u32 0), .t (.int .u32 0)], false⟩
  | 137 => some ⟨.slice 140, 1, 24, [.nil], false⟩
  | 138 => some ⟨.int .i32, 1, 4, [.t (.int .i32 0)], false⟩
  | 139 => some ⟨.struct [(0, 1), (1, 1), (2, 1), (3, 1)], 4, 16, [.t (.int .i32 0), .t (.int .i32 0), .t (.int .i32 0), .t (.int .i32 0)], false⟩
  | 140 => some ⟨.struct [(0, 1), (1, 1), (2, 1), (3, 1)], 4, 16, [.t (.int .i32 0), .t (.int .i32 0), .t (.int .i32 0), .t (.int .i32 0)], false⟩
  | 141 => some ⟨.plain, 1, 8, [.t .undef], false⟩
  | _ => none
def tts0 (n : Nat) : Nat → Option TI
  | 0 => tt0 n
  | 1 => tt1 n
  | 2 => tt2 n
  | 3 => tt3 n
  | 4 => tt4 n
  | 5 => tt5 n
  | 6 => tt6 n
  | 7 => tt7 n
  | _ => none
def tts1 (n : Nat) : Nat → Option TI
  | 8 => tt8 n
  | 9 => tt9 n
  | 10 => tt10 n
  | 11 => tt11 n
  | 12 => tt12 n
  | 13 => tt13 n
  | 14 => tt14 n
  | 15 => tt15 n
  | _ => none
def tts2 (n : Nat) : Nat → Option TI
  | 16 => tt16 n
  | 17 => tt17 n
  | _ => none
def tt (n : Nat) : Option TI := match n / 64 with
  | 0 => tts0 n (n / 8)
  | 1 => tts1 n (n / 8)
  | 2 => tts2 n (n / 8)
  | _ => none
set_option maxRecDepth 100000
theorem laid : laidOutB Tryd.prog = true := by kernel_rfl
theorem small : Tryd.prog.types.size + 2 ≤ 10000 := of_decide_eq_true (by kernel_rfl)
theorem tt0_ok : TTok Tryd.prog tt0 := by
  intro t i h
  unfold tt0 at h
  split at h <;> first
    | (cases h; exact chkTI_ok laid small (by kernel_rfl))
    | cases h
theorem tt1_ok : TTok Tryd.prog tt1 := by
  intro t i h
  unfold tt1 at h
  split at h <;> first
    | (cases h; exact chkTI_ok laid small (by kernel_rfl))
    | cases h
theorem tt2_ok : TTok Tryd.prog tt2 := by
  intro t i h
  unfold tt2 at h
  split at h <;> first
    | (cases h; exact chkTI_ok laid small (by kernel_rfl))
    | cases h
theorem tt3_ok : TTok Tryd.prog tt3 := by
  intro t i h
  unfold tt3 at h
  split at h <;> first
    | (cases h; exact chkTI_ok laid small (by kernel_rfl))
    | cases h
theorem tt4_ok : TTok Tryd.prog tt4 := by
  intro t i h
  unfold tt4 at h
  split at h <;> first
    | (cases h; exact chkTI_ok laid small (by kernel_rfl))
    | cases h
theorem tt5_ok : TTok Tryd.prog tt5 := by
  intro t i h
  unfold tt5 at h
  split at h <;> first
    | (cases h; exact chkTI_ok laid small (by kernel_rfl))
    | cases h
theorem tt6_ok : TTok Tryd.prog tt6 := by
  intro t i h
  unfold tt6 at h
  split at h <;> first
    | (cases h; exact chkTI_ok laid small (by kernel_rfl))
    | cases h
theorem tt7_ok : TTok Tryd.prog tt7 := by
  intro t i h
  unfold tt7 at h
  split at h <;> first
    | (cases h; exact chkTI_ok laid small (by kernel_rfl))
    | cases h
theorem tt8_ok : TTok Tryd.prog tt8 := by
  intro t i h
  unfold tt8 at h
  split at h <;> first
    | (cases h; exact chkTI_ok laid small (by kernel_rfl))
    | cases h
theorem tt9_ok : TTok Tryd.prog tt9 := by
  intro t i h
  unfold tt9 at h
  split at h <;> first
    | (cases h; exact chkTI_ok laid small (by kernel_rfl))
    | cases h
theorem tt10_ok : TTok Tryd.prog tt10 := by
  intro t i h
  unfold tt10 at h
  split at h <;> first
    | (cases h; exact chkTI_ok laid small (by kernel_rfl))
    | cases h
theorem tt11_ok : TTok Tryd.prog tt11 := by
  intro t i h
  unfold tt11 at h
  split at h <;> first
    | (cases h; exact chkTI_ok laid small (by kernel_rfl))
    | cases h
theorem tt12_ok : TTok Tryd.prog tt12 := by
  intro t i h
  unfold tt12 at h
  split at h <;> first
    | (cases h; exact chkTI_ok laid small (by kernel_rfl))
    | cases h
theorem tt13_ok : TTok Tryd.prog tt13 := by
  intro t i h
  unfold tt13 at h
  split at h <;> first
    | (cases h; exact chkTI_ok laid small (by kernel_rfl))
    | cases h
theorem tt14_ok : TTok Tryd.prog tt14 := by
  intro t i h
  unfold tt14 at h
  split at h <;> first
    | (cases h; exact chkTI_ok laid small (by kernel_rfl))
    | cases h
theorem tt15_ok : TTok Tryd.prog tt15 := by
  intro t i h
  unfold tt15 at h
  split at h <;> first
    | (cases h; exact chkTI_ok laid small (by kernel_rfl))
    | cases h
theorem tt16_ok : TTok Tryd.prog tt16 := by
  intro t i h
  unfold tt16 at h
  split at h <;> first
    | (cases h; exact chkTI_ok laid small (by kernel_rfl))
    | cases h
theorem tt17_ok : TTok Tryd.prog tt17 := by
  intro t i h
  unfold tt17 at h
  split at h <;> first
    | (cases h; exact chkTI_ok laid small (by kernel_rfl))
    | cases h
theorem tts0_ok (k : Nat) : TTok Tryd.prog (fun n => tts0 n k) := by
  intro t i h
  unfold tts0 at h
  split at h <;> first
    | exact tt0_ok _ _ h
    | exact tt1_ok _ _ h
    | exact tt2_ok _ _ h
    | exact tt3_ok _ _ h
    | exact tt4_ok _ _ h
    | exact tt5_ok _ _ h
    | exact tt6_ok _ _ h
    | exact tt7_ok _ _ h
    | cases h
theorem tts1_ok (k : Nat) : TTok Tryd.prog (fun n => tts1 n k) := by
  intro t i h
  unfold tts1 at h
  split at h <;> first
    | exact tt8_ok _ _ h
    | exact tt9_ok _ _ h
    | exact tt10_ok _ _ h
    | exact tt11_ok _ _ h
    | exact tt12_ok _ _ h
    | exact tt13_ok _ _ h
    | exact tt14_ok _ _ h
    | exact tt15_ok _ _ h
    | cases h
theorem tts2_ok (k : Nat) : TTok Tryd.prog (fun n => tts2 n k) := by
  intro t i h
  unfold tts2 at h
  split at h <;> first
    | exact tt16_ok _ _ h
    | exact tt17_ok _ _ h
    | cases h
theorem tt_ok : TTok Tryd.prog tt := by
  intro t i h
  unfold tt at h
  split at h <;> first
    | exact tts0_ok _ _ _ h
    | exact tts1_ok _ _ _ h
    | exact tts2_ok _ _ _ h
    | cases h
end Go.Proofs.YtjidhaendndokaaDoor
namespace Go.Proofs.YtjidhaendndokaaDoor
open Go.RowKit

attribute [go_sem] nLe nNle nLt nNlt nEq nNe iLe iNle iLt iNlt iEq iNe
attribute [go_sem] runOps stepOp stepOp0 stepOp1 evalOp dstOk St.ev.eq_1 St.ev.eq_2 St.ev.eq_3 St.ev.eq_4 ofConst St.get
attribute [go_sem] St.put look T.bin isConst mkFn allT St.len St.lst St.obj St.load loadT loadS
attribute [go_sem] mkAgg TK.isAgg St.index treeIndex SV.plus T.cells T.max2 T.min2 fillS SV.storable T.storable SV.cells
attribute [go_sem] St.litS idxOk zipFrz frz frzC frzL St.append St.appLen scrub St.bd SV.ren renL
attribute [go_sem] Ob.ren St.store T.put TI.zT SV.toT0 List.length_replicate List.getElem?_replicate Nat.one_mul Nat.mul_one List.isEmpty_cons List.isEmpty_nil or_self
attribute [go_sem] true_or or_true false_or or_false and_self decide_eq_true_eq if_true if_false ite_true ite_false Option.getD_some Option.getD_none
attribute [go_sem] Option.map_some Option.map_none Option.bind_some Option.bind_none decide_true decide_false Bool.true_and Bool.and_true Bool.false_and Bool.and_false Bool.not_true Bool.not_false
attribute [go_sem] beq_self_eq_true List.getElem?_cons_zero List.getElem?_cons_succ List.map_cons List.map_nil List.cons_append List.nil_append List.length_cons List.length_nil List.toList_toArray true_and and_true
attribute [go_sem] false_and and_false List.all_cons List.all_nil List.drop_zero List.drop_succ_cons List.take_succ_cons List.take_zero List.head?_cons List.set_cons_zero List.set_cons_succ Bool.or_true
attribute [go_sem] Bool.true_or Bool.or_false Bool.false_or ne_eq not_true_eq_false not_false_eq_true Nat.zero_add List.getElem?_toArray tInt tNat tInts tBools
attribute [go_sem] tIntss wrap_i64 List.getElem?_map List.length_map Int.toNat_natCast List.all_map stepX stepX0 evalX St.callR findCo
attribute [go_sem] St.litQ St.sliceQ St.rdL St.rd St.trL St.tr T.flatData flatAll lookR St.mapUp St.slice strSlice
attribute [go_sem] T.okKey T.inR bytesOf eq_self stepI quietOp St.ownAll St.own setSlot true_implies implies_true false_implies
attribute [go_sem] keepL reach addNew refsL SV.refs Ob.refs List.append_nil List.mem_cons List.not_mem_nil List.getElem?_nil posIn St.resL
attribute [go_sem] St.res1 St.gc St.head
theorem gb_a (l : List Int) (k : Nat) (h : k < l.length) : l[k]? = some l[k]! := get_bang l k h
theorem gb_b (l : List Bool) (k : Nat) (h : k < l.length) : l[k]? = some l[k]! := get_bang l k h
theorem gb_c (l : List (List Int)) (k : Nat) (h : k < l.length) : l[k]? = some l[k]! := get_bang l k h
theorem gb_d (l : List Nat) (k : Nat) (h : k < l.length) : l[k]? = some l[k]! := get_bang l k h
theorem gb_e (l : List T) (k : Nat) (h : k < l.length) : l[k]? = some l[k]! := get_bang l k h
theorem gb_f (l : List (List (List Int))) (k : Nat) (h : k < l.length) : l[k]? = some l[k]! := get_bang l k h
theorem gb_g (l : List (List Bool)) (k : Nat) (h : k < l.length) : l[k]? = some l[k]! := get_bang l k h
theorem gb_h (l : List (List Nat)) (k : Nat) (h : k < l.length) : l[k]? = some l[k]! := get_bang l k h
theorem gb_i (l : List (List (List (List Int)))) (k : Nat) (h : k < l.length) : l[k]? = some l[k]! := get_bang l k h
theorem gb_j (l : List (Int × Int)) (k : Nat) (h : k < l.length) : l[k]? = some l[k]! := get_bang l k h
theorem gb_k (l : List (Nat × Nat)) (k : Nat) (h : k < l.length) : l[k]? = some l[k]! := get_bang l k h
theorem gb_l (l : List UInt8) (k : Nat) (h : k < l.length) : l[k]? = some l[k]! := get_bang l k h
theorem gb_m (l : List (List T)) (k : Nat) (h : k < l.length) : l[k]? = some l[k]! := get_bang l k h
theorem gb_n (l : List String) (k : Nat) (h : k < l.length) : l[k]? = some l[k]! := get_bang l k h
theorem gb_o (l : List (Int × Int × Int)) (k : Nat) (h : k < l.length) : l[k]? = some l[k]! := get_bang l k h
theorem gb_p (l : List (T × T)) (k : Nat) (h : k < l.length) : l[k]? = some l[k]! := get_bang l k h
theorem gb_q (l : List (List (Int × Int))) (k : Nat) (h : k < l.length) : l[k]? = some l[k]! := get_bang l k h
theorem gb_r (l : List (Nat × Nat × Nat)) (k : Nat) (h : k < l.length) : l[k]? = some l[k]! := get_bang l k h
theorem gb_s (l : List (List UInt8)) (k : Nat) (h : k < l.length) : l[k]? = some l[k]! := get_bang l k h
theorem gb_t (l : List (List (T × T))) (k : Nat) (h : k < l.length) : l[k]? = some l[k]! := get_bang l k h
theorem gb_u (l : List (List (Int × Int))) (k : Nat) (h : k < l.length) : l[k]? = some l[k]! := get_bang l k h
attribute [go_sem] gb_a gb_b gb_c gb_d gb_e gb_f gb_g gb_h gb_i gb_j gb_k gb_l gb_m gb_n gb_o gb_p gb_q gb_r gb_s gb_t gb_u
attribute [go_sem] nilQ isNilS T.beqA eqIs SV.gd Option.some.injEq
attribute [go_sem] St.sliceA T.isCell stepA allocAt List.lookup
attribute [go_sem] St.res tt tts0 tts1 tts2 tt0 tt1 tt2 tt3 tt4 tt5 tt6 tt7 tt8 tt9 tt10 tt11 tt12 tt13 tt14 tt15 tt16 tt17
theorem w1 : type_of% @SW_seq := @SW_seq
theorem w2 : type_of% @SW_block := @SW_block
theorem w3 : type_of% @SThen_n := @SThen_n
theorem w4 : type_of% @SThen_r := @SThen_r
theorem w5 : type_of% @SThen_e := @SThen_e
theorem w6 : type_of% @SIn_n := @SIn_n
theorem w7 : type_of% @SIn_r := @SIn_r
theorem w8 : type_of% @SIn_eq := @SIn_eq
theorem w9 : type_of% @SW_skip := @SW_skip
theorem wa : type_of% @SW_exit := @SW_exit
theorem wb : type_of% @SW_ret := @SW_ret
theorem wc : type_of% @SPost_r := @SPost_r
theorem wd : type_of% @SIn_ne := @SIn_ne
theorem we : type_of% @SW_true := @SW_true
theorem wf : type_of% @SW_false := @SW_false
theorem wg : type_of% @runX_nil := @runX_nil
theorem wh : type_of% @runI_nil := @runI_nil
theorem wi : type_of% @runX_cons := @runX_cons
theorem wj : type_of% @runI_cons := @runI_cons
end Go.Proofs.YtjidhaendndokaaDoor
namespace Go.Proofs.YtjidhaendndokaaDoor
open Go.RowKit

def tErr (e : Int) : T := if e = 0 then .nilI else .iface 26 (.int .i64 e)
theorem tErr0 : tErr 0 = .nilI := rfl
def tAuto (a : GAuto) : T := .agg [tInt a.base, tInt a.tracks, tIntss a.next, tBools a.ends]
def I64s (l : List Int) : Prop := ∀ x ∈ l, I64 x
structure I64A (a : GAuto) : Prop where
  base : I64 a.base
  tracks : I64 a.tracks
  next : ∀ r ∈ a.next, I64s r
section
variable {P : Program} {G : World → Prop}
theorem enter_of {f : Nat} {fn : Func} {c : Code} (hf : P.funcs[f]? = some fn) (hb : fn.body = some c) (hn : (fn.name == "runtime.NumGoroutine") = false) (vs : Array Value) (w : World) : (callFunc f vs).run P w = .ok (.enter f vs) w := by
  unfold callFunc
  rw [Sem.run_bind, run_program, Result.andThen_ok]
  simp only [hf, hn, hb, Option.isNone_some, Bool.false_eq_true, if_false]
  rfl
theorem snd2 {f : Nat} {fn : Func} {c : Code} {x y r : T} (hf : P.funcs[f]? = some fn) (hb : fn.body = some c) (hn : (fn.name == "runtime.NumGoroutine") = false)
    (h : ∀ (S : Nat → Prop) (w : World) (v u : Value), G w → (∀ b, S b → b < w.heap.size) → RepT S w x v → RepT S w y u → ∃ V, Calls P f #[v, u] w (fun e w' => e = .returned V ∧ Below w.heap.size w w') ∧ ∀ S w, RepT S w r V) : Snd P G f [x, y] r := by
  refine ⟨enter_of hf hb hn, fun S w vs hG hs hr => ?_⟩
  obtain ⟨l⟩ := vs
  match l, hs with
  | [v0, v1], _ =>
    obtain ⟨V, h1, h2⟩ := h (fun b => S b ∧ b < w.heap.size) w v0 v1 hG (fun b hb => hb.2) ((hr 0 _ v0 rfl rfl).keep ⟨Nat.le_refl _, fun b hb hlt => ⟨rfl, hb, hlt⟩⟩) ((hr 1 _ v1 rfl rfl).keep ⟨Nat.le_refl _, fun b hb hlt => ⟨rfl, hb, hlt⟩⟩)
    exact h1.mono fun e w' hq => ⟨V, hq.1, h2 _ _, hq.2⟩
end
theorem intInv {S : Nat → Prop} {w : World} {n : Int} {v : Value} (h : RepT S w (tInt n) v) : v = .int .i64 n := by cases h; rfl
theorem bang_get {α : Type} [Inhabited α] {l : List α} {i : Nat} {x : α} (h : l[i]! = x) (hi : i < l.length) : l[i]? = some x := by rw [← h, getElem!_pos l i hi]; exact List.getElem?_eq_getElem hi
theorem bang_mem {α : Type} [Inhabited α] {l : List α} {i : Nat} {x : α} (h : l[i]! = x) (hi : i < l.length) : x ∈ l := List.mem_of_getElem? (bang_get h hi)
theorem bang_D {α : Type} [Inhabited α] {l : List α} {i : Nat} {x d : α} (h : l[i]! = x) (hi : i < l.length) : l.getD i d = x := by rw [getD_lt hi, ← h, getElem!_pos l i hi]
theorem bang_at {α : Type} [Inhabited α] {l : List α} {i : Nat} {x : α} (h : l[i]! = x) (hi : i < l.length) : l[i] = x := by rw [← h, getElem!_pos l i hi]
theorem take_next {α : Type} [Inhabited α] {l : List α} {i : Nat} {x : α} (h : l[i]! = x) (hi : i < l.length) : l.take (i + 1) = l.take i ++ [x] := by
  rw [List.take_succ_eq_append_getElem hi, bang_at h hi]
theorem nextOf_bang {next : List (List Int)} {s l u : Int} {row : List Int} (hrow : next[s.toNat]! = row) (hs : s.toNat < next.length) (hu : row[l.toNat]! = u) (hl : l.toNat < row.length) : nextOf next s l = u := by
  unfold nextOf; rw [bang_D hrow hs, bang_D hu hl]
theorem runFrom_take (next : List (List Int)) {w : List Int} {i : Nat} {x : Int} (hx : w[i]! = x) (hi : i < w.length) (s : Int) : runFrom next s (w.take (i + 1)) = nextOf next (runFrom next s (w.take i)) x := by
  rw [take_next hx hi, runFrom_append]; rfl
section
variable {G : World → Prop} (hG : Lasting G)
include hG
theorem Radix_snd (base : Int) : Snd Tryd.prog G 34 [tInt base] (tInt (radix base)) := by
  have htb : Tab.ok Tryd.prog G [] := Tab.nil
  refine snd_of_body (n := 12) (tm := [(0, .t (tInt base))]) (rs := [.tmp 2]) tt_ok Tryd.func34 rfl rfl rfl rfl rfl ?_
  unfold radix
  by_cases h1 : base = 1
  · repeat' (first | (with_reducible first | apply w1 | apply w2 | apply w3 | apply w4 | apply w5 | apply w6 | apply w7 | apply w8 | apply w9 | apply wa | apply wb | apply wc) | ((with_reducible apply wd); focus decide) | ((with_reducible apply we); focus exact rfl) | ((with_reducible apply wf); focus exact rfl) | ((first | (with_reducible apply SW_run tt_ok hG htb) | ((with_reducible apply SW_draw rfl tt_ok hG htb); (focus kernel_rfl); focus simp only [List.range, List.range.loop, List.size_toArray, List.length_cons, List.length_nil, Nat.reduceAdd])); focus ((repeat' (first | (with_reducible first | exact wg | exact wh) | ((with_reducible first | apply wi | apply wj); focus (simp (discharger := omega) only [go_sem, h1, simprocAttr]; with_reducible rfl)))); done)))
    exact (by simp (discharger := omega) only [go_sem, h1, simprocAttr])
  · by_cases h2 : 2 ≤ base
    · by_cases h3 : base ≤ 6
      · repeat' (first | (with_reducible first | apply w1 | apply w2 | apply w3 | apply w4 | apply w5 | apply w6 | apply w7 | apply w8 | apply w9 | apply wa | apply wb | apply wc) | ((with_reducible apply wd); focus decide) | ((with_reducible apply we); focus exact rfl) | ((with_reducible apply wf); focus exact rfl) | ((first | (with_reducible apply SW_run tt_ok hG htb) | ((with_reducible apply SW_draw rfl tt_ok hG htb); (focus kernel_rfl); focus simp only [List.range, List.range.loop, List.size_toArray, List.length_cons, List.length_nil, Nat.reduceAdd])); focus ((repeat' (first | (with_reducible first | exact wg | exact wh) | ((with_reducible first | apply wi | apply wj); focus (simp (discharger := omega) only [go_sem, simprocAttr]; with_reducible rfl)))); done)))
        exact (by simp (discharger := omega) only [go_sem, simprocAttr])
      · repeat' (first | (with_reducible first | apply w1 | apply w2 | apply w3 | apply w4 | apply w5 | apply w6 | apply w7 | apply w8 | apply w9 | apply wa | apply wb | apply wc) | ((with_reducible apply wd); focus decide) | ((with_reducible apply we); focus exact rfl) | ((with_reducible apply wf); focus exact rfl) | ((first | (with_reducible apply SW_run tt_ok hG htb) | ((with_reducible apply SW_draw rfl tt_ok hG htb); (focus kernel_rfl); focus simp only [List.range, List.range.loop, List.size_toArray, List.length_cons, List.length_nil, Nat.reduceAdd])); focus ((repeat' (first | (with_reducible first | exact wg | exact wh) | ((with_reducible first | apply wi | apply wj); focus (simp (discharger := omega) only [go_sem, simprocAttr]; with_reducible rfl)))); done)))
        exact (by simp (discharger := omega) only [go_sem, simprocAttr])
    · repeat' (first | (with_reducible first | apply w1 | apply w2 | apply w3 | apply w4 | apply w5 | apply w6 | apply w7 | apply w8 | apply w9 | apply wa | apply wb | apply wc) | ((with_reducible apply wd); focus decide) | ((with_reducible apply we); focus exact rfl) | ((with_reducible apply wf); focus exact rfl) | ((first | (with_reducible apply SW_run tt_ok hG htb) | ((with_reducible apply SW_draw rfl tt_ok hG htb); (focus kernel_rfl); focus simp only [List.range, List.range.loop, List.size_toArray, List.length_cons, List.length_nil, Nat.reduceAdd])); focus ((repeat' (first | (with_reducible first | exact wg | exact wh) | ((with_reducible first | apply wi | apply wj); focus (simp (discharger := omega) only [go_sem, simprocAttr]; with_reducible rfl)))); done)))
      exact (by simp (discharger := omega) only [go_sem, simprocAttr])
set_option maxHeartbeats 4000000 in
theorem Many_snd (base t : Int) : Snd Tryd.prog G 33 [tInt base, tInt t] (.tup [tInt (manyOf base t), tErr (manyErr base t)]) := by
  have htb := Tab.cons (Radix_snd hG base) Tab.nil
  refine snd_of_body (n := 32) (tm := [(0, .t (tInt base)), (1, .t (tInt t))]) (rs := [.tmp 4, .tmp 5]) tt_ok Tryd.func33 rfl rfl rfl rfl rfl ?_
  unfold manyOf manyErr
  generalize hk : radix base = k at htb ⊢
  by_cases h1 : k = 0
  · subst h1
    repeat' (first | (with_reducible first | apply w1 | apply w2 | apply w3 | apply w4 | apply w5 | apply w6 | apply w7 | apply w8 | apply w9 | apply wa | apply wb | apply wc) | ((with_reducible apply wd); focus decide) | ((with_reducible apply we); focus exact rfl) | ((with_reducible apply wf); focus exact rfl) | ((first | (with_reducible apply SW_run tt_ok hG htb) | ((with_reducible apply SW_draw rfl tt_ok hG htb); (focus kernel_rfl); focus simp only [List.range, List.range.loop, List.size_toArray, List.length_cons, List.length_nil, Nat.reduceAdd])); focus ((repeat' (first | (with_reducible first | exact wg | exact wh) | ((with_reducible first | apply wi | apply wj); focus (simp (discharger := omega) only [go_sem, simprocAttr]; with_reducible rfl)))); done)))
    exact (by simp (discharger := omega) only [go_sem, tErr, simprocAttr])
  · by_cases h2 : t < 0
    · repeat' (first | (with_reducible first | apply w1 | apply w2 | apply w3 | apply w4 | apply w5 | apply w6 | apply w7 | apply w8 | apply w9 | apply wa | apply wb | apply wc) | ((with_reducible apply wd); focus decide) | ((with_reducible apply we); focus exact rfl) | ((with_reducible apply wf); focus exact rfl) | ((first | (with_reducible apply SW_run tt_ok hG htb) | ((with_reducible apply SW_draw rfl tt_ok hG htb); (focus kernel_rfl); focus simp only [List.range, List.range.loop, List.size_toArray, List.length_cons, List.length_nil, Nat.reduceAdd])); focus ((repeat' (first | (with_reducible first | exact wg | exact wh) | ((with_reducible first | apply wi | apply wj); focus (simp (discharger := omega) only [go_sem, simprocAttr]; with_reducible rfl)))); done)))
      exact (by simp (discharger := omega) only [go_sem, tErr, simprocAttr])
    · by_cases h3 : 5 < t
      · repeat' (first | (with_reducible first | apply w1 | apply w2 | apply w3 | apply w4 | apply w5 | apply w6 | apply w7 | apply w8 | apply w9 | apply wa | apply wb | apply wc) | ((with_reducible apply wd); focus decide) | ((with_reducible apply we); focus exact rfl) | ((with_reducible apply wf); focus exact rfl) | ((first | (with_reducible apply SW_run tt_ok hG htb) | ((with_reducible apply SW_draw rfl tt_ok hG htb); (focus kernel_rfl); focus simp only [List.range, List.range.loop, List.size_toArray, List.length_cons, List.length_nil, Nat.reduceAdd])); focus ((repeat' (first | (with_reducible first | exact wg | exact wh) | ((with_reducible first | apply wi | apply wj); focus (simp (discharger := omega) only [go_sem, simprocAttr]; with_reducible rfl)))); done)))
        exact (by simp (discharger := omega) only [go_sem, tErr, simprocAttr])
      · obtain ⟨r2, r6⟩ := radix_two (b := base) (by omega)
        rw [hk] at r2 r6
        obtain ⟨t, rfl⟩ := Int.eq_ofNat_of_zero_le (show 0 ≤ t by omega)
        rw [show (if k = 0 ∨ (t : Int) < 0 ∨ 5 < (t : Int) then (1 : Int) else if 36 < powW k (t : Int).toNat then 3 else 0) = if 36 < powW k t then 3 else 0 by rw [if_neg (by omega)]; rfl]
        repeat' (first | (with_reducible first | apply w1 | apply w2 | apply w3 | apply w4 | apply w5 | apply w6 | apply w7 | apply w8 | apply w9 | apply wa | apply wb | apply wc) | ((with_reducible apply wd); focus decide) | ((with_reducible apply we); focus exact rfl) | ((with_reducible apply wf); focus exact rfl) | ((first | (with_reducible apply SW_run tt_ok hG htb) | ((with_reducible apply SW_draw rfl tt_ok hG htb); (focus kernel_rfl); focus simp only [List.range, List.range.loop, List.size_toArray, List.length_cons, List.length_nil, Nat.reduceAdd])); focus ((repeat' (first | (with_reducible first | exact wg | exact wh) | ((with_reducible first | apply wi | apply wj); focus (simp (discharger := omega) only [go_sem, simprocAttr]; with_reducible rfl)))); done)))
        refine SW_loop (fun m s => ∃ i : Nat, m = t - i ∧ s = ⟨32, [(6, .t (tInt k)), (7, .t (tInt (powW k i))), (21, .t (tInt t)), (22, .t (tInt i))], []⟩ ∧ i ≤ t) t ⟨_, Norm.headS (own := []) (keep := [6, 7, 21, 22]) (by refine ⟨?_, ?_⟩; (simp (discharger := omega) only [go_sem, simprocAttr]; with_reducible rfl); refine ⟨?_, ?_, ?_, ?_⟩ <;> (simp only [go_sem, simprocAttr]; with_reducible rfl)), 0, rfl, rfl, Nat.zero_le _⟩ ?_
        rintro m s ⟨i, rfl, rfl, hi⟩
        have hb := powW_bd r2 r6 (j := i) (by omega)
        by_cases hlt : i < t
        · have hb1 : 1 ≤ powW k i * k ∧ powW k i * k ≤ 7776 := powW_bd r2 r6 (j := i + 1) (by omega)
          repeat' (first | (with_reducible first | apply w1 | apply w2 | apply w3 | apply w4 | apply w5 | apply w6 | apply w7 | apply w8 | apply w9 | apply wa | apply wb | apply wc) | ((with_reducible apply wd); focus decide) | ((with_reducible apply we); focus exact rfl) | ((with_reducible apply wf); focus exact rfl) | ((first | (with_reducible apply SW_run tt_ok hG htb) | ((with_reducible apply SW_draw rfl tt_ok hG htb); (focus kernel_rfl); focus simp only [List.range, List.range.loop, List.size_toArray, List.length_cons, List.length_nil, Nat.reduceAdd])); focus ((repeat' (first | (with_reducible first | exact wg | exact wh) | ((with_reducible first | apply wi | apply wj); focus (simp (discharger := omega) only [go_sem, simprocAttr]; with_reducible rfl)))); done)))
          exact ⟨t - (i + 1), _, by omega, Norm.headS (own := []) (keep := [6, 7, 21, 22]) (by refine ⟨?_, ?_⟩; (simp (discharger := omega) only [go_sem, simprocAttr]; with_reducible rfl); refine ⟨?_, ?_, ?_, ?_⟩ <;> (simp only [go_sem, simprocAttr]; with_reducible rfl)), i + 1, rfl, rfl, by omega⟩
        · obtain rfl : i = t := by omega
          by_cases h36 : 36 < powW k i
          · repeat' (first | (with_reducible first | apply w1 | apply w2 | apply w3 | apply w4 | apply w5 | apply w6 | apply w7 | apply w8 | apply w9 | apply wa | apply wb | apply wc) | ((with_reducible apply wd); focus decide) | ((with_reducible apply we); focus exact rfl) | ((with_reducible apply wf); focus exact rfl) | ((first | (with_reducible apply SW_run tt_ok hG htb) | ((with_reducible apply SW_draw rfl tt_ok hG htb); (focus kernel_rfl); focus simp only [List.range, List.range.loop, List.size_toArray, List.length_cons, List.length_nil, Nat.reduceAdd])); focus ((repeat' (first | (with_reducible first | exact wg | exact wh) | ((with_reducible first | apply wi | apply wj); focus (simp (discharger := omega) only [go_sem, simprocAttr]; with_reducible rfl)))); done)))
            exact (by simp (discharger := omega) only [go_sem, tErr, simprocAttr])
          · repeat' (first | (with_reducible first | apply w1 | apply w2 | apply w3 | apply w4 | apply w5 | apply w6 | apply w7 | apply w8 | apply w9 | apply wa | apply wb | apply wc) | ((with_reducible apply wd); focus decide) | ((with_reducible apply we); focus exact rfl) | ((with_reducible apply wf); focus exact rfl) | ((first | (with_reducible apply SW_run tt_ok hG htb) | ((with_reducible apply SW_draw rfl tt_ok hG htb); (focus kernel_rfl); focus simp only [List.range, List.range.loop, List.size_toArray, List.length_cons, List.length_nil, Nat.reduceAdd])); focus ((repeat' (first | (with_reducible first | exact wg | exact wh) | ((with_reducible first | apply wi | apply wj); focus (simp (discharger := omega) only [go_sem, simprocAttr]; with_reducible rfl)))); done)))
            exact (by simp (discharger := omega) only [go_sem, tErr, simprocAttr])
set_option maxHeartbeats 4000000 in
theorem Check_snd (a : GAuto) : Snd Tryd.prog G 22 [tAuto a] (tErr (autoFault a)) := by
  have htb := Tab.cons (Many_snd hG a.base a.tracks) Tab.nil
  refine snd_of_body (n := 72) (tm := [(0, .t (tAuto a))]) (rs := [.tmp 2]) tt_ok Tryd.func22 rfl rfl rfl rfl rfl ?_
  unfold autoFault
  by_cases h0 : manyErr a.base a.tracks = 0
  · rw [if_neg (by omega)]
    rw [h0] at htb
    have h36 := (many_ok h0).2.2.2.1
    rw [← (many_ok h0).2.2.2.2] at h36
    generalize hmo : manyOf a.base a.tracks = mo at *
    by_cases h1 : a.next.length = 0
    · repeat' (first | (with_reducible first | apply w1 | apply w2 | apply w3 | apply w4 | apply w5 | apply w6 | apply w7 | apply w8 | apply w9 | apply wa | apply wb | apply wc) | ((with_reducible apply wd); focus decide) | ((with_reducible apply we); focus exact rfl) | ((with_reducible apply wf); focus exact rfl) | ((first | (with_reducible apply SW_run tt_ok hG htb) | ((with_reducible apply SW_draw rfl tt_ok hG htb); (focus kernel_rfl); focus simp only [List.range, List.range.loop, List.size_toArray, List.length_cons, List.length_nil, Nat.reduceAdd])); focus ((repeat' (first | (with_reducible first | exact wg | exact wh) | ((with_reducible first | apply wi | apply wj); focus (simp (discharger := omega) only [go_sem, tAuto, tErr, simprocAttr]; with_reducible rfl)))); done)))
      exact (by simp (discharger := omega) only [go_sem, tErr, simprocAttr])
    · by_cases h2 : 80 < a.next.length
      · repeat' (first | (with_reducible first | apply w1 | apply w2 | apply w3 | apply w4 | apply w5 | apply w6 | apply w7 | apply w8 | apply w9 | apply wa | apply wb | apply wc) | ((with_reducible apply wd); focus decide) | ((with_reducible apply we); focus exact rfl) | ((with_reducible apply wf); focus exact rfl) | ((first | (with_reducible apply SW_run tt_ok hG htb) | ((with_reducible apply SW_draw rfl tt_ok hG htb); (focus kernel_rfl); focus simp only [List.range, List.range.loop, List.size_toArray, List.length_cons, List.length_nil, Nat.reduceAdd])); focus ((repeat' (first | (with_reducible first | exact wg | exact wh) | ((with_reducible first | apply wi | apply wj); focus (simp (discharger := omega) only [go_sem, tAuto, tErr, simprocAttr]; with_reducible rfl)))); done)))
        exact (by simp (discharger := omega) only [go_sem, tErr, simprocAttr])
      · by_cases h3 : a.ends.length = a.next.length
        · rw [if_neg h1, if_neg h2, if_neg (by omega)]
          repeat' (first | (with_reducible first | apply w1 | apply w2 | apply w3 | apply w4 | apply w5 | apply w6 | apply w7 | apply w8 | apply w9 | apply wa | apply wb | apply wc) | ((with_reducible apply wd); focus decide) | ((with_reducible apply we); focus exact rfl) | ((with_reducible apply wf); focus exact rfl) | ((first | (with_reducible apply SW_run tt_ok hG htb) | ((with_reducible apply SW_draw rfl tt_ok hG htb); (focus kernel_rfl); focus simp only [List.range, List.range.loop, List.size_toArray, List.length_cons, List.length_nil, Nat.reduceAdd])); focus ((repeat' (first | (with_reducible first | exact wg | exact wh) | ((with_reducible first | apply wi | apply wj); focus (simp (discharger := omega) only [go_sem, tAuto, tErr, h3, simprocAttr]; with_reducible rfl)))); done)))
          refine SW_loop (fun m s => ∃ i : Nat, m = a.next.length - i ∧ s = ⟨72, [(1, .bptr 0 0), (3, .t (tInt mo)), (43, .t (tIntss a.next)), (44, .t (tInt a.next.length)), (45, .t (tInt i))], [.box [.t (tInt a.base), .t (tInt a.tracks), .t (tIntss a.next), .t (tBools a.ends)]]⟩ ∧ i ≤ a.next.length ∧ ∀ j (hj : j < a.next.length), j < i → (a.next[j].length : Int) = mo ∧ ∀ s ∈ a.next[j], 0 ≤ s ∧ s < (a.next.length : Int)) a.next.length
            ⟨_, Norm.headS (own := []) (keep := [1, 3, 43, 44, 45]) (by refine ⟨?_, ?_⟩; (simp (discharger := omega) only [go_sem, simprocAttr]; with_reducible rfl); refine ⟨?_, ?_, ?_, ?_⟩ <;> (simp only [go_sem, simprocAttr]; with_reducible rfl)), 0, rfl, rfl, Nat.zero_le _, fun j hj h => by omega⟩ ?_
          rintro m s ⟨i, rfl, rfl, hi, hA⟩
          by_cases hlt : i < a.next.length
          · obtain ⟨row, hrow⟩ : ∃ row, a.next[i]! = row := ⟨_, rfl⟩
            have hat := bang_at hrow hlt
            obtain ⟨f1, f2⟩ := rowsFault_at hlt hA
            rw [hat] at f1 f2
            by_cases hrl : (row.length : Int) = mo
            · repeat' (first | (with_reducible first | apply w1 | apply w2 | apply w3 | apply w4 | apply w5 | apply w6 | apply w7 | apply w8 | apply w9 | apply wa | apply wb | apply wc) | ((with_reducible apply wd); focus decide) | ((with_reducible apply we); focus exact rfl) | ((with_reducible apply wf); focus exact rfl) | ((first | (with_reducible apply SW_run tt_ok hG htb) | ((with_reducible apply SW_draw rfl tt_ok hG htb); (focus kernel_rfl); focus simp only [List.range, List.range.loop, List.size_toArray, List.length_cons, List.length_nil, Nat.reduceAdd])); focus ((repeat' (first | (with_reducible first | exact wg | exact wh) | ((with_reducible first | apply wi | apply wj); focus (simp (discharger := omega) only [go_sem, hrow, simprocAttr]; with_reducible rfl)))); done)))
              refine SW_loop (fun m s => ∃ l : Nat, m = row.length - l ∧ s = ⟨72, [(1, .bptr 0 0), (3, .t (tInt mo)), (43, .t (tIntss a.next)), (44, .t (tInt a.next.length)), (45, .t (tInt i)), (54, .t (tInts row)), (55, .t (tInt row.length)), (56, .t (tInt l))], [.box [.t (tInt a.base), .t (tInt a.tracks), .t (tIntss a.next), .t (tBools a.ends)]]⟩ ∧ l ≤ row.length ∧ ∀ x ∈ row.take l, 0 ≤ x ∧ x < (a.next.length : Int)) row.length
                ⟨_, Norm.headS (own := []) (keep := [1, 3, 43, 44, 45, 54, 55, 56]) (by refine ⟨?_, ?_⟩; (simp (discharger := omega) only [go_sem, simprocAttr]; with_reducible rfl); refine ⟨?_, ?_, ?_, ?_⟩ <;> (simp only [go_sem, simprocAttr]; with_reducible rfl)), 0, rfl, rfl, Nat.zero_le _, fun x hx => by simp at hx⟩ ?_
              rintro m s ⟨l, rfl, rfl, hl, hB⟩
              by_cases hlt2 : l < row.length
              · obtain ⟨x, hx⟩ : ∃ x, row[l]! = x := ⟨_, rfl⟩
                have htk := take_next hx hlt2
                have hxm := bang_mem hx hlt2
                by_cases hx0 : 0 ≤ x
                · by_cases hxm2 : x < (a.next.length : Int)
                  · repeat' (first | (with_reducible first | apply w1 | apply w2 | apply w3 | apply w4 | apply w5 | apply w6 | apply w7 | apply w8 | apply w9 | apply wa | apply wb | apply wc) | ((with_reducible apply wd); focus decide) | ((with_reducible apply we); focus exact rfl) | ((with_reducible apply wf); focus exact rfl) | ((first | (with_reducible apply SW_run tt_ok hG htb) | ((with_reducible apply SW_draw rfl tt_ok hG htb); (focus kernel_rfl); focus simp only [List.range, List.range.loop, List.size_toArray, List.length_cons, List.length_nil, Nat.reduceAdd])); focus ((repeat' (first | (with_reducible first | exact wg | exact wh) | ((with_reducible first | apply wi | apply wj); focus (simp (discharger := omega) only [go_sem, hx, simprocAttr]; with_reducible rfl)))); done)))
                    exact ⟨row.length - (l + 1), _, by omega, Norm.headS (own := []) (keep := [1, 3, 43, 44, 45, 54, 55, 56]) (by refine ⟨?_, ?_⟩; (simp (discharger := omega) only [go_sem, simprocAttr]; with_reducible rfl); refine ⟨?_, ?_, ?_, ?_⟩ <;> (simp only [go_sem, simprocAttr]; with_reducible rfl)), l + 1, rfl, rfl, by omega, fun y hy => by
                      rw [htk] at hy
                      rcases List.mem_append.1 hy with h | h
                      · exact hB y h
                      · simp at h; subst h; exact ⟨hx0, hxm2⟩⟩
                  · rw [f2 hrl ⟨x, hxm, by omega⟩]
                    repeat' (first | (with_reducible first | apply w1 | apply w2 | apply w3 | apply w4 | apply w5 | apply w6 | apply w7 | apply w8 | apply w9 | apply wa | apply wb | apply wc) | ((with_reducible apply wd); focus decide) | ((with_reducible apply we); focus exact rfl) | ((with_reducible apply wf); focus exact rfl) | ((first | (with_reducible apply SW_run tt_ok hG htb) | ((with_reducible apply SW_draw rfl tt_ok hG htb); (focus kernel_rfl); focus simp only [List.range, List.range.loop, List.size_toArray, List.length_cons, List.length_nil, Nat.reduceAdd])); focus ((repeat' (first | (with_reducible first | exact wg | exact wh) | ((with_reducible first | apply wi | apply wj); focus (simp (discharger := omega) only [go_sem, hx, simprocAttr]; with_reducible rfl)))); done)))
                    exact (by simp (discharger := omega) only [go_sem, tErr, simprocAttr])
                · rw [f2 hrl ⟨x, hxm, by omega⟩]
                  repeat' (first | (with_reducible first | apply w1 | apply w2 | apply w3 | apply w4 | apply w5 | apply w6 | apply w7 | apply w8 | apply w9 | apply wa | apply wb | apply wc) | ((with_reducible apply wd); focus decide) | ((with_reducible apply we); focus exact rfl) | ((with_reducible apply wf); focus exact rfl) | ((first | (with_reducible apply SW_run tt_ok hG htb) | ((with_reducible apply SW_draw rfl tt_ok hG htb); (focus kernel_rfl); focus simp only [List.range, List.range.loop, List.size_toArray, List.length_cons, List.length_nil, Nat.reduceAdd])); focus ((repeat' (first | (with_reducible first | exact wg | exact wh) | ((with_reducible first | apply wi | apply wj); focus (simp (discharger := omega) only [go_sem, hx, simprocAttr]; with_reducible rfl)))); done)))
                  exact (by simp (discharger := omega) only [go_sem, tErr, simprocAttr])
              · obtain rfl : l = row.length := by omega
                rw [List.take_length] at hB
                repeat' (first | (with_reducible first | apply w1 | apply w2 | apply w3 | apply w4 | apply w5 | apply w6 | apply w7 | apply w8 | apply w9 | apply wa | apply wb | apply wc) | ((with_reducible apply wd); focus decide) | ((with_reducible apply we); focus exact rfl) | ((with_reducible apply wf); focus exact rfl) | ((first | (with_reducible apply SW_run tt_ok hG htb) | ((with_reducible apply SW_draw rfl tt_ok hG htb); (focus kernel_rfl); focus simp only [List.range, List.range.loop, List.size_toArray, List.length_cons, List.length_nil, Nat.reduceAdd])); focus ((repeat' (first | (with_reducible first | exact wg | exact wh) | ((with_reducible first | apply wi | apply wj); focus (simp (discharger := omega) only [go_sem, simprocAttr]; with_reducible rfl)))); done)))
                exact ⟨a.next.length - (i + 1), _, by omega, Norm.headS (own := []) (keep := [1, 3, 43, 44, 45]) (by refine ⟨?_, ?_⟩; (simp (discharger := omega) only [go_sem, simprocAttr]; with_reducible rfl); refine ⟨?_, ?_, ?_, ?_⟩ <;> (simp only [go_sem, simprocAttr]; with_reducible rfl)), i + 1, rfl, rfl, by omega, fun j hj h => by
                  by_cases e : j = i
                  · subst e; rw [hat]; exact ⟨hrl, hB⟩
                  · exact hA j hj (by omega)⟩
            · rw [f1 hrl]
              repeat' (first | (with_reducible first | apply w1 | apply w2 | apply w3 | apply w4 | apply w5 | apply w6 | apply w7 | apply w8 | apply w9 | apply wa | apply wb | apply wc) | ((with_reducible apply wd); focus decide) | ((with_reducible apply we); focus exact rfl) | ((with_reducible apply wf); focus exact rfl) | ((first | (with_reducible apply SW_run tt_ok hG htb) | ((with_reducible apply SW_draw rfl tt_ok hG htb); (focus kernel_rfl); focus simp only [List.range, List.range.loop, List.size_toArray, List.length_cons, List.length_nil, Nat.reduceAdd])); focus ((repeat' (first | (with_reducible first | exact wg | exact wh) | ((with_reducible first | apply wi | apply wj); focus (simp (discharger := omega) only [go_sem, hrow, simprocAttr]; with_reducible rfl)))); done)))
              exact (by simp (discharger := omega) only [go_sem, tErr, simprocAttr])
          · obtain rfl : i = a.next.length := by omega
            rw [rowsFault_zero.2 fun r hr => by obtain ⟨j, hj, rfl⟩ := List.mem_iff_getElem.1 hr; exact hA j hj hj]
            repeat' (first | (with_reducible first | apply w1 | apply w2 | apply w3 | apply w4 | apply w5 | apply w6 | apply w7 | apply w8 | apply w9 | apply wa | apply wb | apply wc) | ((with_reducible apply wd); focus decide) | ((with_reducible apply we); focus exact rfl) | ((with_reducible apply wf); focus exact rfl) | ((first | (with_reducible apply SW_run tt_ok hG htb) | ((with_reducible apply SW_draw rfl tt_ok hG htb); (focus kernel_rfl); focus simp only [List.range, List.range.loop, List.size_toArray, List.length_cons, List.length_nil, Nat.reduceAdd])); focus ((repeat' (first | (with_reducible first | exact wg | exact wh) | ((with_reducible first | apply wi | apply wj); focus (simp (discharger := omega) only [go_sem, simprocAttr]; with_reducible rfl)))); done)))
            exact (by simp (discharger := omega) only [go_sem, tErr, simprocAttr])
        · repeat' (first | (with_reducible first | apply w1 | apply w2 | apply w3 | apply w4 | apply w5 | apply w6 | apply w7 | apply w8 | apply w9 | apply wa | apply wb | apply wc) | ((with_reducible apply wd); focus decide) | ((with_reducible apply we); focus exact rfl) | ((with_reducible apply wf); focus exact rfl) | ((first | (with_reducible apply SW_run tt_ok hG htb) | ((with_reducible apply SW_draw rfl tt_ok hG htb); (focus kernel_rfl); focus simp only [List.range, List.range.loop, List.size_toArray, List.length_cons, List.length_nil, Nat.reduceAdd])); focus ((repeat' (first | (with_reducible first | exact wg | exact wh) | ((with_reducible first | apply wi | apply wj); focus (simp (discharger := omega) only [go_sem, tAuto, tErr, h3, simprocAttr]; with_reducible rfl)))); done)))
          exact (by simp (discharger := omega) only [go_sem, tErr, h3, simprocAttr])
  · generalize manyErr a.base a.tracks = e at *
    repeat' (first | (with_reducible first | apply w1 | apply w2 | apply w3 | apply w4 | apply w5 | apply w6 | apply w7 | apply w8 | apply w9 | apply wa | apply wb | apply wc) | ((with_reducible apply wd); focus decide) | ((with_reducible apply we); focus exact rfl) | ((with_reducible apply wf); focus exact rfl) | ((first | (with_reducible apply SW_run tt_ok hG htb) | ((with_reducible apply SW_draw rfl tt_ok hG htb); (focus kernel_rfl); focus simp only [List.range, List.range.loop, List.size_toArray, List.length_cons, List.length_nil, Nat.reduceAdd])); focus ((repeat' (first | (with_reducible first | exact wg | exact wh) | ((with_reducible first | apply wi | apply wj); focus (simp (discharger := omega) only [go_sem, tAuto, tErr, h0, simprocAttr]; with_reducible rfl)))); done)))
    exact (by simp (discharger := omega) only [go_sem, tErr, h0, simprocAttr])
end
end Go.Proofs.YtjidhaendndokaaDoor
namespace Go.Proofs.YtjidhaendndokaaDoor
open Go.RowKit

section
variable {G : World → Prop} (hG : Lasting G)
include hG
set_option maxHeartbeats 16000000 in
set_option maxRecDepth 100000 in
theorem alive_snd {a : GAuto} {n m : Nat} (g : Good a n m) : Snd Tryd.prog G 25 [tAuto a] (tBools (aliveL a n)) := by
  have hlen := g.rows.len
  have hel := g.ends
  have hm80 := g.m80
  have hn36 := g.n36
  have hrow' := g.rows.row
  have hok := g.rows.ok
  have hallb : ∀ l : List Bool, (l.all fun _ => true) = true := fun l => by simp
  refine snd_of_body (n := 42) (tm := [(0, .t (tAuto a))]) (rs := [.tmp 2]) tt_ok Tryd.func25 rfl rfl rfl rfl rfl ?_
  have htb : Tab.ok Tryd.prog G [] := Tab.nil
  repeat' (first | (with_reducible first | apply w1 | apply w2 | apply w3 | apply w4 | apply w5 | apply w6 | apply w7 | apply w8 | apply w9 | apply wa | apply wb | apply wc) | ((with_reducible apply wd); focus decide) | ((with_reducible apply we); focus exact rfl) | ((with_reducible apply wf); focus exact rfl) | ((first | (with_reducible apply SW_run tt_ok hG htb) | ((with_reducible apply SW_draw rfl tt_ok hG htb); (focus kernel_rfl); focus simp only [List.range, List.range.loop, List.size_toArray, List.length_cons, List.length_nil, Nat.reduceAdd])); focus ((repeat' (first | (with_reducible first | exact wg | exact wh) | ((with_reducible first | apply wi | apply wj); focus (simp (discharger := omega) only [go_sem, tAuto, simprocAttr]; with_reducible rfl)))); done)))
  refine SW_scopeL rfl (fun k st => ∃ E, k = cntF E ∧ st = ⟨42, [(1, .bptr 0 0), (3, .sref 1)], [.box [.t (tInt a.base), .t (tInt a.tracks), .t (tIntss a.next), .t (tBools a.ends)], .row 4 1 true (E.map T.bool)]⟩ ∧ AlInv a n E) ?_ ?_
  · repeat' (first | (with_reducible first | apply w1 | apply w2 | apply w3 | apply w4 | apply w5 | apply w6 | apply w7 | apply w8 | apply w9 | apply wa | apply wb | apply wc) | ((with_reducible apply wd); focus decide) | ((with_reducible apply we); focus exact rfl) | ((with_reducible apply wf); focus exact rfl) | ((first | (with_reducible apply SW_run tt_ok hG htb) | ((with_reducible apply SW_draw rfl tt_ok hG htb); (focus kernel_rfl); focus simp only [List.range, List.range.loop, List.size_toArray, List.length_cons, List.length_nil, Nat.reduceAdd])); focus ((repeat' (first | (with_reducible first | exact wg | exact wh) | ((with_reducible first | apply wi | apply wj); focus (simp (discharger := omega) only [go_sem, Function.comp_def, hallb, simprocAttr]; with_reducible rfl)))); done)))
    exact ⟨_, _, Norm.headS (own := []) (keep := [1, 3]) (by refine ⟨?_, ?_⟩; (simp (discharger := omega) only [go_sem, simprocAttr]; with_reducible rfl); refine ⟨?_, ?_, ?_, ?_⟩ <;> (simp only [go_sem, simprocAttr]; with_reducible rfl)), a.ends, rfl, rfl, AlInv.start g⟩
  · rintro k st ⟨E, rfl, rfl, hE⟩
    have hEl := hE.len
    repeat' (first | (with_reducible first | apply w1 | apply w2 | apply w3 | apply w4 | apply w5 | apply w6 | apply w7 | apply w8 | apply w9 | apply wa | apply wb | apply wc) | ((with_reducible apply wd); focus decide) | ((with_reducible apply we); focus exact rfl) | ((with_reducible apply wf); focus exact rfl) | ((first | (with_reducible apply SW_run tt_ok hG htb) | ((with_reducible apply SW_draw rfl tt_ok hG htb); (focus kernel_rfl); focus simp only [List.range, List.range.loop, List.size_toArray, List.length_cons, List.length_nil, Nat.reduceAdd])); focus ((repeat' (first | (with_reducible first | exact wg | exact wh) | ((with_reducible first | apply wi | apply wj); focus (simp (discharger := omega) only [go_sem, simprocAttr]; with_reducible rfl)))); done)))
    refine SW_loop (fun mm st => ∃ i : Nat, mm = m - i ∧ st = ⟨42, [(1, .bptr 0 0), (3, .sref 1), (12, .t (tIntss a.next)), (13, .t (tInt a.next.length)), (14, .t (tNat i))], [.box [.t (tInt a.base), .t (tInt a.tracks), .t (tIntss a.next), .t (tBools a.ends)], .row 4 1 true (E.map T.bool)]⟩ ∧ i ≤ m ∧ ∀ s l : Nat, s < i → l < n → E.getD (nx a.next s l).toNat false = true → E.getD s false = true) m
      ⟨_, Norm.headS (own := []) (keep := [1, 3, 12, 13, 14]) (by refine ⟨?_, ?_⟩; (simp (discharger := omega) only [go_sem, simprocAttr]; with_reducible rfl); refine ⟨?_, ?_, ?_, ?_⟩ <;> (simp only [go_sem, simprocAttr]; with_reducible rfl)), 0, rfl, rfl, Nat.zero_le _, fun s l hs => by omega⟩ ?_
    rintro mm st ⟨i, rfl, rfl, hi, hcl⟩
    by_cases hlt : i < m
    · obtain ⟨row, hrow⟩ : ∃ row, a.next[i]! = row := ⟨_, rfl⟩
      have hrl := hrow' row (bang_mem hrow (by omega))
      have hrok := hok row (bang_mem hrow (by omega))
      have hnx : ∀ l : Nat, nx a.next i l = row.getD l 0 := fun l => by unfold nx rowOf; rw [Int.toNat_natCast, bang_D hrow (by omega)]
      obtain ⟨es, hes⟩ : ∃ es, E[i]! = es := ⟨_, rfl⟩
      have hesD : E.getD i false = es := bang_D hes (by omega)
      repeat' (first | (with_reducible first | apply w1 | apply w2 | apply w3 | apply w4 | apply w5 | apply w6 | apply w7 | apply w8 | apply w9 | apply wa | apply wb | apply wc) | ((with_reducible apply wd); focus decide) | ((with_reducible apply we); focus exact rfl) | ((with_reducible apply wf); focus exact rfl) | ((first | (with_reducible apply SW_run tt_ok hG htb) | ((with_reducible apply SW_draw rfl tt_ok hG htb); (focus kernel_rfl); focus simp only [List.range, List.range.loop, List.size_toArray, List.length_cons, List.length_nil, Nat.reduceAdd])); focus ((repeat' (first | (with_reducible first | exact wg | exact wh) | ((with_reducible first | apply wi | apply wj); focus (simp (discharger := omega) only [go_sem, hrow, simprocAttr]; with_reducible rfl)))); done)))
      refine SW_loop (fun mm st => ∃ l : Nat, mm = n - l ∧ st = ⟨42, [(1, .bptr 0 0), (3, .sref 1), (4, .t (tNat i)), (12, .t (tIntss a.next)), (13, .t (tInt a.next.length)), (14, .t (tNat i)), (19, .t (tInts row)), (20, .t (tInt row.length)), (21, .t (tNat l))], [.box [.t (tInt a.base), .t (tInt a.tracks), .t (tIntss a.next), .t (tBools a.ends)], .row 4 1 true (E.map T.bool)]⟩ ∧ l ≤ n ∧ ∀ k : Nat, k < l → E.getD (row.getD k 0).toNat false = true → es = true) n
        ⟨_, Norm.headS (own := []) (keep := [1, 3, 4, 12, 13, 14, 19, 20, 21]) (by refine ⟨?_, ?_⟩; (simp (discharger := omega) only [go_sem, simprocAttr]; with_reducible rfl); refine ⟨?_, ?_, ?_, ?_⟩ <;> (simp only [go_sem, simprocAttr]; with_reducible rfl)), 0, rfl, rfl, Nat.zero_le _, fun k hk => by omega⟩ ?_
      rintro mm st ⟨l, rfl, rfl, hl, hcl2⟩
      by_cases hlt2 : l < n
      · obtain ⟨u, hu⟩ : ∃ u, row[l]! = u := ⟨_, rfl⟩
        have hub := hrok u (bang_mem hu (by omega))
        have huD : row.getD l 0 = u := bang_D hu (by omega)
        obtain ⟨eu, heu⟩ : ∃ eu, E[u.toNat]! = eu := ⟨_, rfl⟩
        have heuD : E.getD u.toNat false = eu := bang_D heu (by omega)
        have hnext : (E.getD (row.getD l 0).toNat false = true → es = true) → ∀ k : Nat, k < l + 1 → E.getD (row.getD k 0).toNat false = true → es = true := fun h k hk he => by
          by_cases e : k = l
          · subst e; exact h he
          · exact hcl2 k (by omega) he
        cases eu with
        | false =>
          repeat' (first | (with_reducible first | apply w1 | apply w2 | apply w3 | apply w4 | apply w5 | apply w6 | apply w7 | apply w8 | apply w9 | apply wa | apply wb | apply wc) | ((with_reducible apply wd); focus decide) | ((with_reducible apply we); focus exact rfl) | ((with_reducible apply wf); focus exact rfl) | ((first | (with_reducible apply SW_run tt_ok hG htb) | ((with_reducible apply SW_draw rfl tt_ok hG htb); (focus kernel_rfl); focus simp only [List.range, List.range.loop, List.size_toArray, List.length_cons, List.length_nil, Nat.reduceAdd])); focus ((repeat' (first | (with_reducible first | exact wg | exact wh) | ((with_reducible first | apply wi | apply wj); focus (simp (discharger := omega) only [go_sem, hu, heu, simprocAttr]; with_reducible rfl)))); done)))
          exact ⟨n - (l + 1), _, by omega, Norm.headS (own := []) (keep := [1, 3, 4, 12, 13, 14, 19, 20, 21]) (by refine ⟨?_, ?_⟩; (simp (discharger := omega) only [go_sem, simprocAttr]; with_reducible rfl); refine ⟨?_, ?_, ?_, ?_⟩ <;> (simp only [go_sem, simprocAttr]; with_reducible rfl)), l + 1, rfl, rfl, by omega, hnext fun h => by rw [huD, heuD] at h; cases h⟩
        | true =>
          cases es with
          | true =>
            repeat' (first | (with_reducible first | apply w1 | apply w2 | apply w3 | apply w4 | apply w5 | apply w6 | apply w7 | apply w8 | apply w9 | apply wa | apply wb | apply wc) | ((with_reducible apply wd); focus decide) | ((with_reducible apply we); focus exact rfl) | ((with_reducible apply wf); focus exact rfl) | ((first | (with_reducible apply SW_run tt_ok hG htb) | ((with_reducible apply SW_draw rfl tt_ok hG htb); (focus kernel_rfl); focus simp only [List.range, List.range.loop, List.size_toArray, List.length_cons, List.length_nil, Nat.reduceAdd])); focus ((repeat' (first | (with_reducible first | exact wg | exact wh) | ((with_reducible first | apply wi | apply wj); focus (simp (discharger := omega) only [go_sem, hu, heu, hes, simprocAttr]; with_reducible rfl)))); done)))
            exact ⟨n - (l + 1), _, by omega, Norm.headS (own := []) (keep := [1, 3, 4, 12, 13, 14, 19, 20, 21]) (by refine ⟨?_, ?_⟩; (simp (discharger := omega) only [go_sem, simprocAttr]; with_reducible rfl); refine ⟨?_, ?_, ?_, ?_⟩ <;> (simp only [go_sem, simprocAttr]; with_reducible rfl)), l + 1, rfl, rfl, by omega, hnext fun _ => rfl⟩
          | false =>
            have hst := hE.step g (s := i) (l := l) (by omega) hlt2 (by rw [hnx, huD, heuD])
            have hlt3 := cntF_set (E := E) (s := i) (by rw [List.getElem?_eq_getElem (by omega), bang_at hes (by omega)])
            repeat' (first | (with_reducible first | apply w1 | apply w2 | apply w3 | apply w4 | apply w5 | apply w6 | apply w7 | apply w8 | apply w9 | apply wa | apply wb | apply wc) | ((with_reducible apply wd); focus decide) | ((with_reducible apply we); focus exact rfl) | ((with_reducible apply wf); focus exact rfl) | ((first | (with_reducible apply SW_run tt_ok hG htb) | ((with_reducible apply SW_draw rfl tt_ok hG htb); (focus kernel_rfl); focus simp only [List.range, List.range.loop, List.size_toArray, List.length_cons, List.length_nil, Nat.reduceAdd])); focus ((repeat' (first | (with_reducible first | exact wg | exact wh) | ((with_reducible first | apply wi | apply wj); focus (simp (discharger := omega) only [go_sem, hu, heu, hes, simprocAttr]; with_reducible rfl)))); done)))
            refine SW_goto ?_
            repeat (first | refine SThen_g ?_ | refine SIn_g ?_)
            exact ⟨rfl, _, _, hlt3, Norm.headS (own := []) (keep := [1, 3]) (by refine ⟨?_, ?_⟩; (simp (discharger := omega) only [go_sem, simprocAttr]; with_reducible rfl); refine ⟨?_, ?_, ?_, ?_⟩ <;> (simp only [go_sem, simprocAttr]; with_reducible rfl)), E.set i true, rfl, by rw [List.map_set]; rfl, hst⟩
      · obtain rfl : l = n := by omega
        repeat' (first | (with_reducible first | apply w1 | apply w2 | apply w3 | apply w4 | apply w5 | apply w6 | apply w7 | apply w8 | apply w9 | apply wa | apply wb | apply wc) | ((with_reducible apply wd); focus decide) | ((with_reducible apply we); focus exact rfl) | ((with_reducible apply wf); focus exact rfl) | ((first | (with_reducible apply SW_run tt_ok hG htb) | ((with_reducible apply SW_draw rfl tt_ok hG htb); (focus kernel_rfl); focus simp only [List.range, List.range.loop, List.size_toArray, List.length_cons, List.length_nil, Nat.reduceAdd])); focus ((repeat' (first | (with_reducible first | exact wg | exact wh) | ((with_reducible first | apply wi | apply wj); focus (simp (discharger := omega) only [go_sem, hrl, simprocAttr]; with_reducible rfl)))); done)))
        exact ⟨m - (i + 1), _, by omega, Norm.headS (own := []) (keep := [1, 3, 12, 13, 14]) (by refine ⟨?_, ?_⟩; (simp (discharger := omega) only [go_sem, simprocAttr]; with_reducible rfl); refine ⟨?_, ?_, ?_, ?_⟩ <;> (simp only [go_sem, simprocAttr]; with_reducible rfl)), i + 1, rfl, rfl, by omega, fun s k hs hk he => by
          by_cases e : s = i
          · subst e
            rw [hnx] at he
            rw [hesD]; exact hcl2 k hk he
          · exact hcl s k (by omega) hk he⟩
    · obtain rfl : i = m := by omega
      have hfin := hE.done g fun s l hs hl he => hcl s l (by omega) hl he
      rw [← hfin]
      repeat' (first | (with_reducible first | apply w1 | apply w2 | apply w3 | apply w4 | apply w5 | apply w6 | apply w7 | apply w8 | apply w9 | apply wa | apply wb | apply wc) | ((with_reducible apply wd); focus decide) | ((with_reducible apply we); focus exact rfl) | ((with_reducible apply wf); focus exact rfl) | ((first | (with_reducible apply SW_run tt_ok hG htb) | ((with_reducible apply SW_draw rfl tt_ok hG htb); (focus kernel_rfl); focus simp only [List.range, List.range.loop, List.size_toArray, List.length_cons, List.length_nil, Nat.reduceAdd])); focus ((repeat' (first | (with_reducible first | exact wg | exact wh) | ((with_reducible first | apply wi | apply wj); focus (simp (discharger := omega) only [go_sem, simprocAttr]; with_reducible rfl)))); done)))
      exact SPost_r (by simp (discharger := omega) only [go_sem, simprocAttr])
end
end Go.Proofs.YtjidhaendndokaaDoor
namespace Go.Proofs.YtjidhaendndokaaDoor
open Go.RowKit

def akCap : List SV := [.bptr 0 0, .bptr 1 0, .bptr 2 0, .bptr 3 0]
def akObs (a : GAuto) (U : List Bool) (C : List Int) : List Ob := [.box [.sref 4], .box [.t (tInt a.base), .t (tInt a.tracks), .t (tIntss a.next), .t (tBools a.ends)], .box [.t (tBools U)], .box [.fn 26 akCap], .row 3 1 true (C.map tInt)]
/-- What the closure gives of a state. -/
def AkC (G : World → Prop) (a : GAuto) (U : List Bool) (f : Nat) (s : Int) (C : List Int) : Prop :=
  SndC Tryd.prog G 26 (.t (tInt s) :: akCap) (akObs a U C) (.bool (dfs a.next U f s C).1) (akObs a U (dfs a.next U f s C).2)
theorem ak_pins {a : GAuto} {U : List Bool} {C C' : List Int} (i : Nat) (l : List SV) (h : (akObs a U C)[i]? = some (.box l)) : i ∈ [0, 1, 2, 3] ∧ ∃ l', (akObs a U C')[i]? = some (.box l') := by
  have := (List.getElem?_eq_some_iff.1 h).1
  have hi : i < 5 := this
  have hc : i = 0 ∨ i = 1 ∨ i = 2 ∨ i = 3 ∨ i = 4 := by omega
  rcases hc with rfl | rfl | rfl | rfl | rfl
  · exact ⟨by simp, _, rfl⟩
  · exact ⟨by simp, _, rfl⟩
  · exact ⟨by simp, _, rfl⟩
  · exact ⟨by simp, _, rfl⟩
  · simp [akObs] at h
theorem ak_pins2 {a : GAuto} {U : List Bool} {C : List Int} : ∀ i ∈ [0, 1, 2, 3], ∃ l, (akObs a U C)[i]? = some (.box l) := fun i hi => by
  simp only [List.mem_cons, List.not_mem_nil, or_false] at hi
  rcases hi with rfl | rfl | rfl | rfl <;> exact ⟨_, rfl⟩
theorem ak_ren (a : GAuto) (U : List Bool) (C : List Int) : (akObs a U C).map (Ob.ren (upto (akObs a U C).length)) = akObs a U C := rfl
theorem ak_xren (k : T) : ((SV.t k) :: akCap).map (SV.ren (upto 5)) = (SV.t k) :: akCap := rfl
theorem ak_pins4 {s' : St} {bs : Nat → Nat} (h0 : look s'.tmps 49 = some (.pin 0 (bs 0))) (h1 : look s'.tmps 50 = some (.pin 1 (bs 1))) (h2 : look s'.tmps 51 = some (.pin 2 (bs 2))) (h3 : look s'.tmps 52 = some (.pin 3 (bs 3))) : ∀ i ∈ [0, 1, 2, 3], look s'.tmps (49 + i) = some (.pin i (bs i)) := fun i hi => by
  simp only [List.mem_cons, List.not_mem_nil, or_false] at hi
  rcases hi with rfl | rfl | rfl | rfl
  · exact h0
  · exact h1
  · exact h2
  · exact h3
section
variable {G : World → Prop} (hG : Lasting G)
include hG
set_option maxHeartbeats 16000000 in
set_option maxRecDepth 100000 in
theorem ak_step {a : GAuto} {n m : Nat} (g : Good a n m) {U : List Bool} (hU : U.length = m) {f : Nat} (ih : ∀ (s : Int) (C : List Int), C.length = m → 0 ≤ s → s < (m : Int) → colAt C s = 0 → whites C ≤ f → AkC G a U f s C) {s : Int} {C : List Int} (hC : C.length = m) (s0 : 0 ≤ s) (sm : s < (m : Int)) (hw : colAt C s = 0) (hf : whites C ≤ f + 1) : AkC G a U (f + 1) s C := by
  have hlen := g.rows.len
  have hm80 := g.m80
  have hn36 := g.n36
  obtain ⟨row, hrow⟩ : ∃ row, a.next[s.toNat]! = row := ⟨_, rfl⟩
  have hrl := g.rows.row row (bang_mem hrow (by omega))
  have hrok := g.rows.ok row (bang_mem hrow (by omega))
  have hro : rowOf a.next s = row := by unfold rowOf; exact bang_D hrow (by omega)
  have hC0 : C[s.toNat]? = some 0 := by
    unfold colAt at hw
    rw [getD_lt (by omega)] at hw
    rw [List.getElem?_eq_getElem (by omega), hw]
  have hw1 := whites_less (x := 1) (by decide) hC0
  have hk := fun l => dfold_keeps a.next U f l (false, C.set s.toNat 1)
  have hCl : (C.set s.toNat 1).length = m := by rw [List.length_set]; exact hC
  unfold AkC
  rw [dfs_succ, hro]
  simp only at hk
  refine sndC_of_body tt_ok Tryd.func26 rfl rfl (n := 49) rfl (tm := []) (rs := [.tmp 6]) rfl rfl rfl [0, 1, 2, 3] ak_pins ak_pins2 fun bs => ?_
  show SW Tryd.prog G _ _ ⟨49, [(0, .t (tInt s)), (1, .bptr 0 0), (2, .bptr 1 0), (3, .bptr 2 0), (4, .bptr 3 0), (49, .pin 0 (bs 0)), (50, .pin 1 (bs 1)), (51, .pin 2 (bs 2)), (52, .pin 3 (bs 3))], [.box [.sref 4], .box [.t (tInt a.base), .t (tInt a.tracks), .t (tIntss a.next), .t (tBools a.ends)], .box [.t (tBools U)], .box [.fn 26 [.bptr 0 0, .bptr 1 0, .bptr 2 0, .bptr 3 0]], .row 3 1 true (C.map tInt)]⟩
  have htb : Tab.ok Tryd.prog G [] := Tab.nil
  repeat' (first | (with_reducible first | apply w1 | apply w2 | apply w3 | apply w4 | apply w5 | apply w6 | apply w7 | apply w8 | apply w9 | apply wa | apply wb | apply wc) | ((with_reducible apply wd); focus decide) | ((with_reducible apply we); focus exact rfl) | ((with_reducible apply wf); focus exact rfl) | ((first | (with_reducible apply SW_run tt_ok hG htb) | ((with_reducible apply SW_draw rfl tt_ok hG htb); (focus kernel_rfl); focus simp only [List.range, List.range.loop, List.size_toArray, List.length_cons, List.length_nil, Nat.reduceAdd])); focus ((repeat' (first | (with_reducible first | exact wg | exact wh) | ((with_reducible first | apply wi | apply wj); focus (simp (discharger := omega) only [go_sem, hrow, hrl, simprocAttr]; with_reducible rfl)))); done)))
  refine SW_loop (fun mm st => ∃ (i : Nat) (Ci : List Int) (rt : List T), mm = n - i ∧ st = ⟨49, [(49, .pin 0 (bs 0)), (50, .pin 1 (bs 1)), (51, .pin 2 (bs 2)), (52, .pin 3 (bs 3)), (0, .t (tInt s)), (1, .bptr 0 0), (2, .bptr 1 0), (3, .bptr 2 0), (4, .bptr 3 0), (16, .t (tInts row)), (17, .t (tInt n)), (18, .t (tNat i))], [.box [.sref 4], .box [.t (tInt a.base), .t (tInt a.tracks), .t (tIntss a.next), .t (tBools a.ends)], .box [.t (tBools U)], .box [.fn 26 [.bptr 0 0, .bptr 1 0, .bptr 2 0, .bptr 3 0]], .row 3 1 true rt]⟩ ∧ i ≤ n ∧ rt = Ci.map tInt ∧ (row.take i).foldl (dstep a.next U f) (false, C.set s.toNat 1) = (false, Ci)) n
    ⟨_, Norm.headS (own := []) (keep := [49, 50, 51, 52, 0, 1, 2, 3, 4, 16, 17, 18]) (by refine ⟨?_, ?_⟩; (simp (discharger := omega) only [go_sem, simprocAttr]; with_reducible rfl); refine ⟨?_, ?_, ?_, ?_⟩ <;> (simp only [go_sem, simprocAttr]; with_reducible rfl)), 0, C.set s.toNat 1, _, rfl, rfl, Nat.zero_le _, by rw [List.map_set]; rfl, rfl⟩ ?_
  rintro mm st ⟨i, Ci, rt, rfl, rfl, hi, hrt, hfo⟩
  have hki := hk (row.take i)
  rw [hfo] at hki
  simp only at hki
  have hCi : Ci.length = m := hki.1.trans hCl
  by_cases hlt : i < n
  · obtain ⟨t, ht⟩ : ∃ t, row[i]! = t := ⟨_, rfl⟩
    have htb2 := hrok t (bang_mem ht (by omega))
    have htk := take_next ht (by omega : i < row.length)
    have hnext : ∀ q, dstep a.next U f (false, Ci) t = q → (row.take (i + 1)).foldl (dstep a.next U f) (false, C.set s.toNat 1) = q := fun q hq => by rw [htk, List.foldl_append, hfo]; exact hq
    have hall2 : ∀ Cj, dstep a.next U f (false, Ci) t = (true, Cj) → row.foldl (dstep a.next U f) (false, C.set s.toNat 1) = (true, Cj) := fun Cj hq => by
      have h1 := hnext _ hq
      have h2 : row = row.take (i + 1) ++ row.drop (i + 1) := (List.take_append_drop (i + 1) row).symm
      rw [h2, List.foldl_append, h1]; exact dfold_true _ _ _ _ _
    obtain ⟨ut, hut⟩ : ∃ ut, U[t.toNat]! = ut := ⟨_, rfl⟩
    have hup : upAt U t = ut := by unfold upAt; exact bang_D hut (by omega)
    obtain ⟨c, hc⟩ : ∃ c, Ci[t.toNat]! = c := ⟨_, rfl⟩
    have hcol : colAt Ci t = c := by unfold colAt; exact bang_D hc (by omega)
    have hds : dstep a.next U f (false, Ci) t = if ut = true then (if c = 1 then (true, Ci) else if c = 0 then dfs a.next U f t Ci else (false, Ci)) else (false, Ci) := by
      unfold dstep
      simp only
      rw [if_neg (by decide), hup, hcol]
    subst hrt
    clear hk
    cases ut with
    | false =>
      rw [if_neg (by decide)] at hds
      have hgo := hnext _ hds
      clear hnext hall2 hds hfo
      repeat' (first | (with_reducible first | apply w1 | apply w2 | apply w3 | apply w4 | apply w5 | apply w6 | apply w7 | apply w8 | apply w9 | apply wa | apply wb | apply wc) | ((with_reducible apply wd); focus decide) | ((with_reducible apply we); focus exact rfl) | ((with_reducible apply wf); focus exact rfl) | ((first | (with_reducible apply SW_run tt_ok hG htb) | ((with_reducible apply SW_draw rfl tt_ok hG htb); (focus kernel_rfl); focus simp only [List.range, List.range.loop, List.size_toArray, List.length_cons, List.length_nil, Nat.reduceAdd])); focus ((repeat' (first | (with_reducible first | exact wg | exact wh) | ((with_reducible first | apply wi | apply wj); focus (simp (discharger := omega) only [go_sem, ht, hut, simprocAttr]; with_reducible rfl)))); done)))
      exact ⟨n - (i + 1), _, by omega, Norm.headS (own := []) (keep := [49, 50, 51, 52, 0, 1, 2, 3, 4, 16, 17, 18]) (by refine ⟨?_, ?_⟩; (simp (discharger := omega) only [go_sem, simprocAttr]; with_reducible rfl); refine ⟨?_, ?_, ?_, ?_⟩ <;> (simp only [go_sem, simprocAttr]; with_reducible rfl)), i + 1, Ci, _, rfl, rfl, by omega, rfl, hgo⟩
    | true =>
      rw [if_pos rfl] at hds
      by_cases h1 : c = 1
      · rw [if_pos h1] at hds
        have hfin := hall2 _ hds
        rw [hfin]
        clear hnext hall2 hds hfo hfin
        repeat' (first | (with_reducible first | apply w1 | apply w2 | apply w3 | apply w4 | apply w5 | apply w6 | apply w7 | apply w8 | apply w9 | apply wa | apply wb | apply wc) | ((with_reducible apply wd); focus decide) | ((with_reducible apply we); focus exact rfl) | ((with_reducible apply wf); focus exact rfl) | ((first | (with_reducible apply SW_run tt_ok hG htb) | ((with_reducible apply SW_draw rfl tt_ok hG htb); (focus kernel_rfl); focus simp only [List.range, List.range.loop, List.size_toArray, List.length_cons, List.length_nil, Nat.reduceAdd])); focus ((repeat' (first | (with_reducible first | exact wg | exact wh) | ((with_reducible first | apply wi | apply wj); focus (simp (discharger := omega) only [go_sem, ht, hut, hc, h1, simprocAttr]; with_reducible rfl)))); done)))
        simp only [if_true]
        refine SPostC_r ?_ (Norm.headS (own := []) (keep := [49, 50, 51, 52]) (by refine ⟨?_, ?_⟩; (simp (discharger := omega) only [go_sem, simprocAttr]; with_reducible rfl); refine ⟨?_, ?_, ?_, ?_⟩ <;> (simp only [go_sem, simprocAttr]; with_reducible rfl))) ?_ ?_
        · exact (by simp (discharger := omega) only [go_sem, simprocAttr])
        · rfl
        · exact ak_pins4 rfl rfl rfl rfl
      · rw [if_neg h1] at hds
        by_cases h0 : c = 0
        · rw [if_pos h0] at hds
          have hr := ih t Ci hCi htb2.1 htb2.2 (by rw [hcol]; exact h0) (by omega)
          unfold AkC at hr
          obtain ⟨⟨b2, C2⟩, hD⟩ : ∃ q, dfs a.next U f t Ci = q := ⟨_, rfl⟩
          have hkd := dfs_keeps a.next U f t Ci
          rw [hD] at hr hds hkd
          simp only at hr hkd
          repeat' (first | (with_reducible first | refine SW_seq ?_ | refine SW_block ?_ | refine SThen_n ?_ | refine SThen_r ?_ | refine SThen_e ?_ | refine SIn_n ?_ | refine SIn_r ?_ | refine SIn_eq ?_ | refine SW_skip ?_ | refine SW_exit ?_ | refine SW_ret ?_ | refine SPost_r ?_) | ((with_reducible refine SIn_ne ?_ ?_); focus decide) | ((with_reducible refine SW_true ?_ ?_); focus exact rfl) | ((with_reducible refine SW_false ?_ ?_); focus exact rfl) | ((with_reducible apply SW_run tt_ok hG htb); focus ((repeat' (first | (with_reducible exact runX_nil) | ((with_reducible apply runX_cons); focus (simp (discharger := omega) only [go_sem, ht, simprocAttr]; with_reducible rfl)))); done)))
          refine SW_norm (Norm.headS (own := []) (keep := [49, 50, 51, 52, 0, 1, 2, 3, 4, 8, 16, 17, 18]) (by refine ⟨?_, ?_⟩; (simp (discharger := omega) only [go_sem, simprocAttr]; with_reducible rfl); refine ⟨?_, ?_, ?_, ?_⟩ <;> (simp only [go_sem, simprocAttr]; with_reducible rfl))) ?_
          refine SW_runCk tt_ok hG htb 19 rfl (by simp only [List.take_succ_cons, List.take_zero]; rfl) (by simp only [List.drop_succ_cons, List.drop_zero, Nat.reduceAdd]; rfl) (by (repeat' (first | (with_reducible exact runX_nil) | ((with_reducible apply runX_cons); focus (simp (discharger := omega) only [go_sem, hut, hc, h0, simprocAttr]; with_reducible rfl))))) rfl rfl (g := 26) (cap := akCap) (obs := akObs a U Ci) (obs' := akObs a U C2) (rst := ?zr) (r := ?zt) (s2 := ?zs) (s3 := ?zu) ?q1 ?q2 ?q3 ?q4 ?q5 ?q6 ?q7 ?q8 ?q9 ?q10
          case q1 => rfl
          case q2 => rfl
          case q3 => rfl
          case q4 => rfl
          case q5 => exact hr
          case q6 => exact ak_ren a U Ci
          case q7 => exact ak_xren _
          case q8 =>
            simp only [List.map_cons, List.map_nil, List.append_nil, SV.ren, renL, past, akObs, akCap, List.getElem?_cons_zero, List.getElem?_cons_succ, List.getElem?_nil]
            rfl
          case q9 => (repeat' (first | (with_reducible exact runX_nil) | ((with_reducible apply runX_cons); focus (simp (discharger := omega) only [go_sem, simprocAttr]; with_reducible rfl))))
          cases b2 with
          | true =>
            have hfin := hall2 _ hds
            rw [hfin]
            clear hnext hall2 hds hfo hfin
            repeat' (first | (with_reducible first | apply w1 | apply w2 | apply w3 | apply w4 | apply w5 | apply w6 | apply w7 | apply w8 | apply w9 | apply wa | apply wb | apply wc) | ((with_reducible apply wd); focus decide) | ((with_reducible apply we); focus exact rfl) | ((with_reducible apply wf); focus exact rfl) | ((first | (with_reducible apply SW_run tt_ok hG htb) | ((with_reducible apply SW_draw rfl tt_ok hG htb); (focus kernel_rfl); focus simp only [List.range, List.range.loop, List.size_toArray, List.length_cons, List.length_nil, Nat.reduceAdd])); focus ((repeat' (first | (with_reducible first | exact wg | exact wh) | ((with_reducible first | apply wi | apply wj); focus (simp (discharger := omega) only [go_sem, simprocAttr]; with_reducible rfl)))); done)))
            simp only [if_true]
            refine SPostC_r ?_ (Norm.headS (own := []) (keep := [49, 50, 51, 52]) (by refine ⟨?_, ?_⟩; (simp (discharger := omega) only [go_sem, simprocAttr]; with_reducible rfl); refine ⟨?_, ?_, ?_, ?_⟩ <;> (simp only [go_sem, simprocAttr]; with_reducible rfl))) ?_ ?_
            · exact (by simp (discharger := omega) only [go_sem, simprocAttr])
            · rfl
            · exact ak_pins4 rfl rfl rfl rfl
          | false =>
            have hgo := hnext _ hds
            clear hnext hall2 hds hfo
            repeat' (first | (with_reducible first | apply w1 | apply w2 | apply w3 | apply w4 | apply w5 | apply w6 | apply w7 | apply w8 | apply w9 | apply wa | apply wb | apply wc) | ((with_reducible apply wd); focus decide) | ((with_reducible apply we); focus exact rfl) | ((with_reducible apply wf); focus exact rfl) | ((first | (with_reducible apply SW_run tt_ok hG htb) | ((with_reducible apply SW_draw rfl tt_ok hG htb); (focus kernel_rfl); focus simp only [List.range, List.range.loop, List.size_toArray, List.length_cons, List.length_nil, Nat.reduceAdd])); focus ((repeat' (first | (with_reducible first | exact wg | exact wh) | ((with_reducible first | apply wi | apply wj); focus (simp (discharger := omega) only [go_sem, simprocAttr]; with_reducible rfl)))); done)))
            exact ⟨n - (i + 1), _, by omega, Norm.headS (own := []) (keep := [49, 50, 51, 52, 0, 1, 2, 3, 4, 16, 17, 18]) (by refine ⟨?_, ?_⟩; (simp (discharger := omega) only [go_sem, simprocAttr]; with_reducible rfl); refine ⟨?_, ?_, ?_, ?_⟩ <;> (simp only [go_sem, simprocAttr]; with_reducible rfl)), i + 1, C2, _, rfl, rfl, by omega, rfl, hgo⟩
        · rw [if_neg h0] at hds
          have hgo := hnext _ hds
          clear hnext hall2 hds hfo
          repeat' (first | (with_reducible first | apply w1 | apply w2 | apply w3 | apply w4 | apply w5 | apply w6 | apply w7 | apply w8 | apply w9 | apply wa | apply wb | apply wc) | ((with_reducible apply wd); focus decide) | ((with_reducible apply we); focus exact rfl) | ((with_reducible apply wf); focus exact rfl) | ((first | (with_reducible apply SW_run tt_ok hG htb) | ((with_reducible apply SW_draw rfl tt_ok hG htb); (focus kernel_rfl); focus simp only [List.range, List.range.loop, List.size_toArray, List.length_cons, List.length_nil, Nat.reduceAdd])); focus ((repeat' (first | (with_reducible first | exact wg | exact wh) | ((with_reducible first | apply wi | apply wj); focus (simp (discharger := omega) only [go_sem, ht, hut, hc, h1, h0, simprocAttr]; with_reducible rfl)))); done)))
          exact ⟨n - (i + 1), _, by omega, Norm.headS (own := []) (keep := [49, 50, 51, 52, 0, 1, 2, 3, 4, 16, 17, 18]) (by refine ⟨?_, ?_⟩; (simp (discharger := omega) only [go_sem, simprocAttr]; with_reducible rfl); refine ⟨?_, ?_, ?_, ?_⟩ <;> (simp only [go_sem, simprocAttr]; with_reducible rfl)), i + 1, Ci, _, rfl, rfl, by omega, rfl, hgo⟩
  · obtain rfl : i = n := by omega
    rw [List.take_of_length_le (by omega)] at hfo
    rw [hfo]
    simp only [Bool.false_eq_true, if_false]
    subst hrt
    clear hk hki
    repeat' (first | (with_reducible first | apply w1 | apply w2 | apply w3 | apply w4 | apply w5 | apply w6 | apply w7 | apply w8 | apply w9 | apply wa | apply wb | apply wc) | ((with_reducible apply wd); focus decide) | ((with_reducible apply we); focus exact rfl) | ((with_reducible apply wf); focus exact rfl) | ((first | (with_reducible apply SW_run tt_ok hG htb) | ((with_reducible apply SW_draw rfl tt_ok hG htb); (focus kernel_rfl); focus simp only [List.range, List.range.loop, List.size_toArray, List.length_cons, List.length_nil, Nat.reduceAdd])); focus ((repeat' (first | (with_reducible first | exact wg | exact wh) | ((with_reducible first | apply wi | apply wj); focus (simp (discharger := omega) only [go_sem, simprocAttr]; with_reducible rfl)))); done)))
    refine SPostC_r ?_ (Norm.headS (own := []) (keep := [49, 50, 51, 52]) (by refine ⟨?_, ?_⟩; (simp (discharger := omega) only [go_sem, simprocAttr]; with_reducible rfl); refine ⟨?_, ?_, ?_, ?_⟩ <;> (simp only [go_sem, simprocAttr]; with_reducible rfl))) ?_ ?_
    · exact (by simp (discharger := omega) only [go_sem, simprocAttr])
    · unfold akObs
      rw [List.map_set]; rfl
    · exact ak_pins4 rfl rfl rfl rfl
/-- At every depth that is left. -/
theorem ak_all {a : GAuto} {n m : Nat} (g : Good a n m) {U : List Bool} (hU : U.length = m) : ∀ (f : Nat) (s : Int) (C : List Int), C.length = m → 0 ≤ s → s < (m : Int) → colAt C s = 0 → whites C ≤ f → AkC G a U f s C
  | 0, s, C, hC, s0, sm, hw, hf => by
    exfalso
    have hC0 : C[s.toNat]? = some 0 := by
      unfold colAt at hw
      rw [getD_lt (by omega)] at hw
      rw [List.getElem?_eq_getElem (by omega), hw]
    have := whites_less (x := 1) (by decide) hC0
    omega
  | f + 1, s, C, hC, s0, sm, hw, hf => ak_step hG g hU (fun s C => ak_all g hU f s C) hC s0 sm hw hf
end
end Go.Proofs.YtjidhaendndokaaDoor
namespace Go.Proofs.YtjidhaendndokaaDoor
open Go.RowKit

/-- Over the first letters, from one on. -/
def finGo (next : List (List Int)) (U : List Bool) (f : Nat) : List Int → Nat → List Int → Bool
  | [], _, _ => true
  | t :: r, l, C => if 0 < l ∧ upAt U t = true ∧ colAt C t = 0 then (if (dfs next U f t C).1 = true then false else finGo next U f r (l + 1) (dfs next U f t C).2) else finGo next U f r (l + 1) C
noncomputable def finOf (a : GAuto) : Bool := if autoFault a = 0 then finGo a.next (aliveL a (manyOf a.base a.tracks).toNat) a.next.length (rowOf a.next 0) 0 (List.replicate a.next.length 0) else false
theorem whites_rep (m : Nat) : whites (List.replicate m 0) = m := by
  unfold whites
  rw [List.filter_eq_self.2 (by intro x hx; have := List.eq_of_mem_replicate hx; simp [this]), List.length_replicate]
theorem drop_cons' {l : List Int} {i : Nat} {x : Int} (hi : i < l.length) (h : l[i]! = x) : l.drop i = x :: l.drop (i + 1) := by
  rw [List.drop_eq_getElem_cons hi, ← h, getElem!_pos l i hi]
section
variable {G : World → Prop} (hG : Lasting G)
include hG
set_option maxHeartbeats 16000000 in
set_option maxRecDepth 100000 in
theorem Finite_snd (a : GAuto) : Snd Tryd.prog G 11 [tAuto a] (.tup [.bool (finOf a), tErr (autoFault a)]) := by
  have c1 := Check_snd hG a
  refine snd_of_body (n := 53) (tm := [(0, .t (tAuto a))]) (rs := [.tmp 2, .tmp 3]) tt_ok Tryd.func11 rfl rfl rfl rfl rfl ?_
  unfold finOf
  by_cases h : autoFault a = 0
  rotate_left
  · rw [if_neg h]
    generalize autoFault a = e at *
    have htb := Tab.cons c1 Tab.nil
    repeat' (first | (with_reducible first | apply w1 | apply w2 | apply w3 | apply w4 | apply w5 | apply w6 | apply w7 | apply w8 | apply w9 | apply wa | apply wb | apply wc) | ((with_reducible apply wd); focus decide) | ((with_reducible apply we); focus exact rfl) | ((with_reducible apply wf); focus exact rfl) | ((first | (with_reducible apply SW_run tt_ok hG htb) | ((with_reducible apply SW_draw rfl tt_ok hG htb); (focus kernel_rfl); focus simp only [List.range, List.range.loop, List.size_toArray, List.length_cons, List.length_nil, Nat.reduceAdd])); focus ((repeat' (first | (with_reducible first | exact wg | exact wh) | ((with_reducible first | apply wi | apply wj); focus (simp (discharger := omega) only [go_sem, tAuto, tErr, h, simprocAttr]; with_reducible rfl)))); done)))
    exact (by simp (discharger := omega) only [go_sem, tErr, h, simprocAttr])
  rw [if_pos h, h]
  rw [h] at c1
  have g := good_of h
  generalize (manyOf a.base a.tracks).toNat = n at *
  obtain ⟨m, hm⟩ : ∃ m, a.next.length = m := ⟨_, rfl⟩
  rw [hm] at g ⊢
  have c2 := alive_snd hG g
  have hU : (aliveL a n).length = m := by unfold aliveL; rw [List.length_map, List.length_range]; exact hm
  generalize aliveL a n = U at *
  have hm80 := g.m80
  have hm0 := g.m0
  have hn36 := g.n36
  obtain ⟨row, hrow⟩ : ∃ row, a.next[0]! = row := ⟨_, rfl⟩
  have hrl := g.rows.row row (bang_mem hrow (by omega))
  have hrok := g.rows.ok row (bang_mem hrow (by omega))
  have hro : rowOf a.next 0 = row := by unfold rowOf; exact bang_D hrow (by show 0 < a.next.length; omega)
  rw [hro]
  have hall := ak_all hG g hU m
  have htb := Tab.cons c1 (Tab.cons c2 Tab.nil)
  repeat' (first | (with_reducible first | apply w1 | apply w2 | apply w3 | apply w4 | apply w5 | apply w6 | apply w7 | apply w8 | apply w9 | apply wa | apply wb | apply wc) | ((with_reducible apply wd); focus decide) | ((with_reducible apply we); focus exact rfl) | ((with_reducible apply wf); focus exact rfl) | ((first | (with_reducible apply SW_run tt_ok hG htb) | ((with_reducible apply SW_draw rfl tt_ok hG htb); (focus kernel_rfl); focus simp only [List.range, List.range.loop, List.size_toArray, List.length_cons, List.length_nil, Nat.reduceAdd])); focus ((repeat' (first | (with_reducible first | exact wg | exact wh) | ((with_reducible first | apply wi | apply wj); focus (simp (discharger := omega) only [go_sem, tAuto, tErr0, hm, hrow, hrl, simprocAttr]; with_reducible rfl)))); done)))
  clear htb
  have htb : Tab.ok Tryd.prog G [] := Tab.nil
  refine SW_loop (fun mm st => ∃ (l : Nat) (C : List Int) (rt : List T), mm = n - l ∧ st = ⟨53, [(6, .bptr 0 0), (1, .bptr 1 0), (5, .bptr 2 0), (7, .bptr 3 0), (25, .t (tInts row)), (26, .t (tInt n)), (27, .t (tNat l))], [.box [.sref 4], .box [.t (tInt a.base), .t (tInt a.tracks), .t (tIntss a.next), .t (tBools a.ends)], .box [.t (tBools U)], .box [.fn 26 [.bptr 0 0, .bptr 1 0, .bptr 2 0, .bptr 3 0]], .row 3 1 true rt]⟩ ∧ l ≤ n ∧ rt = C.map tInt ∧ C.length = m ∧ whites C ≤ m ∧ finGo a.next U m (row.drop l) l C = finGo a.next U m row 0 (List.replicate m 0)) n
    ⟨_, Norm.headS (own := []) (keep := [6, 1, 5, 7, 25, 26, 27]) (by refine ⟨?_, ?_⟩; (simp (discharger := omega) only [go_sem, simprocAttr]; with_reducible rfl); refine ⟨?_, ?_, ?_, ?_⟩ <;> (simp only [go_sem, simprocAttr]; with_reducible rfl)), 0, List.replicate m 0, _, rfl, rfl, Nat.zero_le _, by simp [tInt], by simp, by rw [whites_rep]; exact Nat.le_refl _, by rw [List.drop_zero]⟩ ?_
  rintro mm st ⟨l, C, rt, rfl, rfl, hl, hrt, hC, hw, hfg⟩
  by_cases hlt : l < n
  · obtain ⟨t, ht⟩ : ∃ t, row[l]! = t := ⟨_, rfl⟩
    have htb2 := hrok t (bang_mem ht (by omega))
    rw [drop_cons' (by omega : l < row.length) ht, finGo] at hfg
    obtain ⟨ut, hut⟩ : ∃ ut, U[t.toNat]! = ut := ⟨_, rfl⟩
    have hup : upAt U t = ut := by unfold upAt; exact bang_D hut (by omega)
    obtain ⟨c, hc⟩ : ∃ c, C[t.toNat]! = c := ⟨_, rfl⟩
    have hcol : colAt C t = c := by unfold colAt; exact bang_D hc (by omega)
    rw [hup, hcol] at hfg
    subst hrt
    by_cases hl0 : l = 0
    · subst hl0
      rw [if_neg (by simp)] at hfg
      repeat' (first | (with_reducible first | apply w1 | apply w2 | apply w3 | apply w4 | apply w5 | apply w6 | apply w7 | apply w8 | apply w9 | apply wa | apply wb | apply wc) | ((with_reducible apply wd); focus decide) | ((with_reducible apply we); focus exact rfl) | ((with_reducible apply wf); focus exact rfl) | ((first | (with_reducible apply SW_run tt_ok hG htb) | ((with_reducible apply SW_draw rfl tt_ok hG htb); (focus kernel_rfl); focus simp only [List.range, List.range.loop, List.size_toArray, List.length_cons, List.length_nil, Nat.reduceAdd])); focus ((repeat' (first | (with_reducible first | exact wg | exact wh) | ((with_reducible first | apply wi | apply wj); focus (simp (discharger := omega) only [go_sem, ht, simprocAttr]; with_reducible rfl)))); done)))
      exact ⟨n - (0 + 1), _, by omega, Norm.headS (own := []) (keep := [6, 1, 5, 7, 25, 26, 27]) (by refine ⟨?_, ?_⟩; (simp (discharger := omega) only [go_sem, simprocAttr]; with_reducible rfl); refine ⟨?_, ?_, ?_, ?_⟩ <;> (simp only [go_sem, simprocAttr]; with_reducible rfl)), 0 + 1, C, _, rfl, rfl, by omega, rfl, hC, hw, hfg⟩
    have hl1 : ((l : Nat) : Int) > 0 := by omega
    cases ut with
    | false =>
      rw [if_neg (by simp)] at hfg
      repeat' (first | (with_reducible first | apply w1 | apply w2 | apply w3 | apply w4 | apply w5 | apply w6 | apply w7 | apply w8 | apply w9 | apply wa | apply wb | apply wc) | ((with_reducible apply wd); focus decide) | ((with_reducible apply we); focus exact rfl) | ((with_reducible apply wf); focus exact rfl) | ((first | (with_reducible apply SW_run tt_ok hG htb) | ((with_reducible apply SW_draw rfl tt_ok hG htb); (focus kernel_rfl); focus simp only [List.range, List.range.loop, List.size_toArray, List.length_cons, List.length_nil, Nat.reduceAdd])); focus ((repeat' (first | (with_reducible first | exact wg | exact wh) | ((with_reducible first | apply wi | apply wj); focus (simp (discharger := omega) only [go_sem, ht, hut, simprocAttr]; with_reducible rfl)))); done)))
      exact ⟨n - (l + 1), _, by omega, Norm.headS (own := []) (keep := [6, 1, 5, 7, 25, 26, 27]) (by refine ⟨?_, ?_⟩; (simp (discharger := omega) only [go_sem, simprocAttr]; with_reducible rfl); refine ⟨?_, ?_, ?_, ?_⟩ <;> (simp only [go_sem, simprocAttr]; with_reducible rfl)), l + 1, C, _, rfl, rfl, by omega, rfl, hC, hw, hfg⟩
    | true =>
      by_cases h0 : c = 0
      rotate_left
      · rw [if_neg (fun q => h0 q.2.2)] at hfg
        repeat' (first | (with_reducible first | apply w1 | apply w2 | apply w3 | apply w4 | apply w5 | apply w6 | apply w7 | apply w8 | apply w9 | apply wa | apply wb | apply wc) | ((with_reducible apply wd); focus decide) | ((with_reducible apply we); focus exact rfl) | ((with_reducible apply wf); focus exact rfl) | ((first | (with_reducible apply SW_run tt_ok hG htb) | ((with_reducible apply SW_draw rfl tt_ok hG htb); (focus kernel_rfl); focus simp only [List.range, List.range.loop, List.size_toArray, List.length_cons, List.length_nil, Nat.reduceAdd])); focus ((repeat' (first | (with_reducible first | exact wg | exact wh) | ((with_reducible first | apply wi | apply wj); focus (simp (discharger := omega) only [go_sem, ht, hut, hc, h0, simprocAttr]; with_reducible rfl)))); done)))
        exact ⟨n - (l + 1), _, by omega, Norm.headS (own := []) (keep := [6, 1, 5, 7, 25, 26, 27]) (by refine ⟨?_, ?_⟩; (simp (discharger := omega) only [go_sem, simprocAttr]; with_reducible rfl); refine ⟨?_, ?_, ?_, ?_⟩ <;> (simp only [go_sem, simprocAttr]; with_reducible rfl)), l + 1, C, _, rfl, rfl, by omega, rfl, hC, hw, hfg⟩
      rw [if_pos ⟨by omega, rfl, h0⟩] at hfg
      have hr := hall t C hC htb2.1 htb2.2 (by rw [hcol]; exact h0) hw
      unfold AkC at hr
      have hkd := dfs_keeps a.next U m t C
      obtain ⟨⟨b2, C2⟩, hD⟩ : ∃ q, dfs a.next U m t C = q := ⟨_, rfl⟩
      rw [hD] at hr hfg hkd
      simp only at hr hfg hkd
      repeat' (first | (with_reducible first | refine SW_seq ?_ | refine SW_block ?_ | refine SThen_n ?_ | refine SThen_r ?_ | refine SThen_e ?_ | refine SIn_n ?_ | refine SIn_r ?_ | refine SIn_eq ?_ | refine SW_skip ?_ | refine SW_exit ?_ | refine SW_ret ?_ | refine SPost_r ?_) | ((with_reducible refine SIn_ne ?_ ?_); focus decide) | ((with_reducible refine SW_true ?_ ?_); focus exact rfl) | ((with_reducible refine SW_false ?_ ?_); focus exact rfl) | ((with_reducible apply SW_run tt_ok hG htb); focus ((repeat' (first | (with_reducible exact runX_nil) | ((with_reducible apply runX_cons); focus (simp (discharger := omega) only [go_sem, ht, simprocAttr]; with_reducible rfl)))); done)))
      refine SW_norm (Norm.headS (own := []) (keep := [6, 1, 5, 7, 8, 9, 25, 26, 27]) (by refine ⟨?_, ?_⟩; (simp (discharger := omega) only [go_sem, simprocAttr]; with_reducible rfl); refine ⟨?_, ?_, ?_, ?_⟩ <;> (simp only [go_sem, simprocAttr]; with_reducible rfl))) ?_
      refine SW_runCk tt_ok hG htb 18 rfl (by simp only [List.take_succ_cons, List.take_zero]; rfl) (by simp only [List.drop_succ_cons, List.drop_zero, Nat.reduceAdd]; rfl) (by (repeat' (first | (with_reducible exact runX_nil) | ((with_reducible apply runX_cons); focus (simp (discharger := omega) only [go_sem, hut, hc, h0, simprocAttr]; with_reducible rfl))))) rfl rfl (g := 26) (cap := akCap) (obs := akObs a U C) (obs' := akObs a U C2) (rst := ?zr) (r := ?zt) (s2 := ?zs) (s3 := ?zu) ?q1 ?q2 ?q3 ?q4 ?q5 ?q6 ?q7 ?q8 ?q9 ?q10
      case q1 => rfl
      case q2 => rfl
      case q3 => rfl
      case q4 => rfl
      case q5 => exact hr
      case q6 => exact ak_ren a U C
      case q7 => exact ak_xren _
      case q8 =>
        simp only [List.map_cons, List.map_nil, List.append_nil, SV.ren, renL, past, akObs, akCap, List.getElem?_cons_zero, List.getElem?_cons_succ, List.getElem?_nil]
        rfl
      case q9 => (repeat' (first | (with_reducible exact runX_nil) | ((with_reducible apply runX_cons); focus (simp (discharger := omega) only [go_sem, simprocAttr]; with_reducible rfl))))
      cases b2 with
      | true =>
        rw [if_pos rfl] at hfg
        rw [← hfg]
        repeat' (first | (with_reducible first | apply w1 | apply w2 | apply w3 | apply w4 | apply w5 | apply w6 | apply w7 | apply w8 | apply w9 | apply wa | apply wb | apply wc) | ((with_reducible apply wd); focus decide) | ((with_reducible apply we); focus exact rfl) | ((with_reducible apply wf); focus exact rfl) | ((first | (with_reducible apply SW_run tt_ok hG htb) | ((with_reducible apply SW_draw rfl tt_ok hG htb); (focus kernel_rfl); focus simp only [List.range, List.range.loop, List.size_toArray, List.length_cons, List.length_nil, Nat.reduceAdd])); focus ((repeat' (first | (with_reducible first | exact wg | exact wh) | ((with_reducible first | apply wi | apply wj); focus (simp (discharger := omega) only [go_sem, simprocAttr]; with_reducible rfl)))); done)))
        exact (by simp (discharger := omega) only [go_sem, tErr0, simprocAttr])
      | false =>
        rw [if_neg (by decide)] at hfg
        repeat' (first | (with_reducible first | apply w1 | apply w2 | apply w3 | apply w4 | apply w5 | apply w6 | apply w7 | apply w8 | apply w9 | apply wa | apply wb | apply wc) | ((with_reducible apply wd); focus decide) | ((with_reducible apply we); focus exact rfl) | ((with_reducible apply wf); focus exact rfl) | ((first | (with_reducible apply SW_run tt_ok hG htb) | ((with_reducible apply SW_draw rfl tt_ok hG htb); (focus kernel_rfl); focus simp only [List.range, List.range.loop, List.size_toArray, List.length_cons, List.length_nil, Nat.reduceAdd])); focus ((repeat' (first | (with_reducible first | exact wg | exact wh) | ((with_reducible first | apply wi | apply wj); focus (simp (discharger := omega) only [go_sem, simprocAttr]; with_reducible rfl)))); done)))
        exact ⟨n - (l + 1), _, by omega, Norm.headS (own := []) (keep := [6, 1, 5, 7, 25, 26, 27]) (by refine ⟨?_, ?_⟩; (simp (discharger := omega) only [go_sem, simprocAttr]; with_reducible rfl); refine ⟨?_, ?_, ?_, ?_⟩ <;> (simp only [go_sem, simprocAttr]; with_reducible rfl)), l + 1, C2, _, rfl, rfl, by omega, rfl, by omega, by omega, hfg⟩
  · obtain rfl : l = n := by omega
    rw [List.drop_of_length_le (by omega), finGo] at hfg
    rw [← hfg]
    repeat' (first | (with_reducible first | apply w1 | apply w2 | apply w3 | apply w4 | apply w5 | apply w6 | apply w7 | apply w8 | apply w9 | apply wa | apply wb | apply wc) | ((with_reducible apply wd); focus decide) | ((with_reducible apply we); focus exact rfl) | ((with_reducible apply wf); focus exact rfl) | ((first | (with_reducible apply SW_run tt_ok hG htb) | ((with_reducible apply SW_draw rfl tt_ok hG htb); (focus kernel_rfl); focus simp only [List.range, List.range.loop, List.size_toArray, List.length_cons, List.length_nil, Nat.reduceAdd])); focus ((repeat' (first | (with_reducible first | exact wg | exact wh) | ((with_reducible first | apply wi | apply wj); focus (simp (discharger := omega) only [go_sem, simprocAttr]; with_reducible rfl)))); done)))
    exact (by simp (discharger := omega) only [go_sem, tErr0, simprocAttr])
end
end Go.Proofs.YtjidhaendndokaaDoor
namespace Go.Proofs.YtjidhaendndokaaDoor

theorem finGo_left {a : GAuto} {n m : Nat} {U : List Bool} (g : Good a n m) (f : Nat) : ∀ (r : List Int) (l : Nat) (C : List Int) (B : List Nat), (∀ t ∈ r, 0 ≤ t ∧ t < (m : Int)) → OrdB a n m U C B → (∀ t : Nat, t < m → C.getD t 0 ≠ 1) → whites C ≤ f → finGo a.next U f r l C = true →
    ∃ C' B', OrdB a n m U C' (B ++ B') ∧ ∀ (k : Nat) (t : Int), r[k]? = some t → 0 < l + k → upAt U t = true → t.toNat ∈ B ++ B'
  | [], l, C, B, _, hO, _, _, _ => ⟨C, [], by rw [List.append_nil]; exact hO, fun k t h => by simp at h⟩
  | t :: r, l, C, B, hr, hO, hng, hw, hf => by
    have htb := hr t List.mem_cons_self
    have hr' : ∀ t ∈ r, 0 ≤ t ∧ t < (m : Int) := fun x hx => hr x (List.mem_cons_of_mem _ hx)
    rw [finGo] at hf
    by_cases hc : 0 < l ∧ upAt U t = true ∧ colAt C t = 0
    · rw [if_pos hc] at hf
      by_cases hb : (dfs a.next U f t C).1 = true
      · rw [if_pos hb] at hf; cases hf
      · rw [if_neg hb] at hf
        obtain ⟨B1, hO1, hm1, hg1⟩ := dfs_left g f t C B hO htb.1 htb.2 hc.2.2 hw (Bool.eq_false_iff.2 hb)
        have hk := dfs_keeps a.next U f t C
        obtain ⟨C', B', hO2, hm2⟩ := finGo_left g f r (l + 1) _ (B ++ B1) hr' hO1 (fun x hx e => hng x hx ((hg1 x hx).1 e)) (by omega) hf
        refine ⟨C', B1 ++ B', by rw [← List.append_assoc]; exact hO2, fun k x hx hk0 hu => ?_⟩
        rw [← List.append_assoc]
        cases k with
        | zero =>
          obtain rfl : t = x := by simpa using hx
          exact List.mem_append_left _ hm1
        | succ k => exact hm2 k x (by simpa using hx) (by omega) hu
    · rw [if_neg hc] at hf
      obtain ⟨C', B', hO2, hm2⟩ := finGo_left g f r (l + 1) C B hr' hO hng hw hf
      refine ⟨C', B', hO2, fun k x hx hk0 hu => ?_⟩
      cases k with
      | zero =>
        obtain rfl : t = x := by simpa using hx
        have h2 : C.getD t.toNat 0 = 2 := by
          have h3 := hO.rng t.toNat (by omega)
          have h4 := hng t.toNat (by omega)
          have h5 : ¬ C.getD t.toNat 0 = 0 := fun e => hc ⟨by omega, hu, e⟩
          omega
        exact List.mem_append_left _ ((hO.col _ (by omega)).2 h2)
      | succ k => exact hm2 k x (by simpa using hx) (by omega) hu
theorem fin_short {a : GAuto} (hf : autoFault a = 0) (h : finOf a = true) {x : Nat} {u : List Nat} (hw : Ltr (manyOf a.base a.tracks).toNat (x :: u)) (hx : 0 < x) (hL : lang a.next a.ends 0 (x :: u) = true) : (x :: u).length ≤ a.next.length := by
  have g := good_of hf
  unfold finOf at h
  rw [if_pos hf] at h
  generalize (manyOf a.base a.tracks).toNat = n at *
  have hm0 := g.m0
  have hz : ∀ t : Nat, (List.replicate a.next.length (0 : Int)).getD t 0 = 0 := fun t => by
    rw [List.getD_eq_getElem?_getD, List.getElem?_replicate]; split <;> rfl
  have hO : OrdB a n a.next.length (aliveL a n) (List.replicate a.next.length 0) [] := ⟨by simp, by simp, fun s hs => by simp at hs, fun s _ => by rw [hz]; simp, fun s _ => .inl (hz s), fun i s hi => by simp at hi⟩
  have hrow : rowOf a.next 0 ∈ a.next := by
    unfold rowOf
    rw [getD_lt (by show 0 < a.next.length; exact hm0)]
    exact List.getElem_mem _
  obtain ⟨C', B', hO2, hm2⟩ := finGo_left g a.next.length (rowOf a.next 0) 0 _ [] (g.rows.ok _ hrow) hO (fun t _ => by rw [hz]; decide) (by rw [whites_rep]; exact Nat.le_refl _) h
  have hxn := hw x List.mem_cons_self
  have hrl := g.rows.row _ hrow
  have h1 := nx_ok g.rows (s := 0) ⟨by omega, by omega⟩ hxn
  have hu : Ltr n u := fun y hy => hw y (List.mem_cons_of_mem _ hy)
  have hat : (rowOf a.next 0)[x]? = some (nx a.next 0 x) := by
    unfold nx
    rw [getD_lt (by omega), List.getElem?_eq_getElem (by omega)]
  have hup : upAt (aliveL a n) (nx a.next 0 x) = true := by
    unfold upAt aliveL
    rw [getD_lt (by simp; omega), List.getElem_map, List.getElem_range, aliveB_iff, show (((nx a.next 0 x).toNat : Nat) : Int) = nx a.next 0 x by omega]
    exact ⟨u, hu, hL⟩
  have hmem := hm2 x _ hat (by omega) hup
  rw [List.nil_append] at hO2 hmem
  obtain ⟨i, hi⟩ := List.mem_iff_getElem?.1 hmem
  have hil := (List.getElem?_eq_some_iff.1 hi).1
  have h2 := hO2.word g u _ i hi hu (by rw [show (((nx a.next 0 x).toNat : Nat) : Int) = nx a.next 0 x by omega]; exact hL)
  have h3 := nodup_boundN a.next.length B' hO2.nd hO2.lt
  simp only [List.length_cons]; omega
end Go.Proofs.YtjidhaendndokaaDoor
namespace Go.Proofs.YtjidhaendndokaaDoor

/-- Some letters lead from one to the other. -/
def StarS (next : List (List Int)) (n : Nat) (s x : Int) : Prop := ∃ u, Ltr n u ∧ runS next s u = x
def PlusS (next : List (List Int)) (n : Nat) (s x : Int) : Prop := ∃ u, u ≠ [] ∧ Ltr n u ∧ runS next s u = x
theorem runS_app (next : List (List Int)) (s : Int) (u v : List Nat) : runS next s (u ++ v) = runS next (runS next s u) v := by unfold runS; rw [List.foldl_append]
theorem ltr_app {n : Nat} {u v : List Nat} (h1 : Ltr n u) (h2 : Ltr n v) : Ltr n (u ++ v) := fun x hx => by
  rcases List.mem_append.1 hx with h | h
  · exact h1 x h
  · exact h2 x h
theorem ltr_one {n l : Nat} (h : l < n) : Ltr n [l] := fun x hx => by rw [List.mem_singleton.1 hx]; exact h
theorem colAt_set {C : List Int} {s t : Int} {x : Int} (hs : s.toNat < C.length) : colAt (C.set s.toNat x) t = if s.toNat = t.toNat then x else colAt C t := by
  unfold colAt; exact setI_getD hs
section
variable {next : List (List Int)} {U : List Bool}
theorem dstep_true (f : Nat) : ∀ (l : List Int) (C : List Int), l.foldl (dstep next U f) (true, C) = (true, C)
  | [], _ => rfl
  | t :: l, C => by
    rw [List.foldl_cons]
    have : dstep next U f (true, C) t = (true, C) := by unfold dstep; rw [if_pos rfl]
    rw [this]; exact dstep_true f l C
theorem dstep_false (f : Nat) (C : List Int) (t : Int) : dstep next U f (false, C) t = if upAt U t = true then (if colAt C t = 1 then (true, C) else if colAt C t = 0 then dfs next U f t C else (false, C)) else (false, C) := by
  unfold dstep; simp only; rw [if_neg (by decide)]
/-- What is grey behind a walk that does not come back was so before. -/
theorem dfs_gray {n m : Nat} (h : Rows0 n m next) : ∀ (f : Nat) (s : Int) (C : List Int), C.length = m → 0 ≤ s → s < (m : Int) → (dfs next U f s C).1 = false → ∀ t : Int, colAt (dfs next U f s C).2 t = 1 → colAt C t = 1
  | 0, s, C, _, _, _, _, t, ht => ht
  | f + 1, s, C, hC, s0, sm, hd, t, ht => by
    have hsl : s.toNat < C.length := by omega
    rw [dfs_succ] at hd ht
    have key : ∀ (l : List Int) (D : List Int), (∀ t ∈ l, 0 ≤ t ∧ t < (m : Int)) → D.length = m → (l.foldl (dstep next U f) (false, D)).1 = false → (l.foldl (dstep next U f) (false, D)).2.length = m ∧ ∀ t : Int, colAt (l.foldl (dstep next U f) (false, D)).2 t = 1 → colAt D t = 1 := fun l => by
      induction l with
      | nil => intro D _ hD _; exact ⟨hD, fun t ht => ht⟩
      | cons y l ih =>
        intro D hl hD hf
        have hy := hl y List.mem_cons_self
        have hl' : ∀ t ∈ l, 0 ≤ t ∧ t < (m : Int) := fun x hx => hl x (List.mem_cons_of_mem _ hx)
        rw [List.foldl_cons, dstep_false] at hf ⊢
        by_cases hu : upAt U y = true
        · rw [if_pos hu] at hf ⊢
          by_cases h1 : colAt D y = 1
          · rw [if_pos h1, dstep_true] at hf; cases hf
          · rw [if_neg h1] at hf ⊢
            by_cases h0 : colAt D y = 0
            · rw [if_pos h0] at hf ⊢
              have hk := dfs_keeps next U f y D
              have hg := dfs_gray h f y D hD hy.1 hy.2
              obtain ⟨⟨b2, D2⟩, hD2⟩ : ∃ q, dfs next U f y D = q := ⟨_, rfl⟩
              rw [hD2] at hf hk hg ⊢
              cases b2 with
              | true => rw [dstep_true] at hf; cases hf
              | false =>
                obtain ⟨i1, i2⟩ := ih D2 hl' (by rw [← hD]; exact hk.1) hf
                exact ⟨i1, fun t ht => hg rfl t (i2 t ht)⟩
            · rw [if_neg h0] at hf ⊢; exact ih D hl' hD hf
        · rw [if_neg hu] at hf ⊢; exact ih D hl' hD hf
    have hrow : ∀ t ∈ rowOf next s, 0 ≤ t ∧ t < (m : Int) := fun t ht => by
      unfold rowOf at ht
      have hl := h.len
      rw [getD_lt (by omega)] at ht
      exact h.ok _ (List.getElem_mem _) t ht
    by_cases hb : ((rowOf next s).foldl (dstep next U f) (false, C.set s.toNat 1)).1 = true
    · rw [if_pos hb] at hd; rw [hd] at hb; cases hb
    · rw [if_neg hb] at ht
      obtain ⟨k1, k2⟩ := key _ _ hrow (by rw [List.length_set]; exact hC) (Bool.eq_false_iff.2 hb)
      rw [colAt_set (by omega)] at ht
      by_cases e : s.toNat = t.toNat
      · rw [if_pos e] at ht; exact absurd ht (by decide)
      · rw [if_neg e] at ht
        have := k2 t ht
        rw [colAt_set hsl, if_neg e] at this
        exact this
/-- A walk that comes back has met a state that leads to itself. -/
theorem dfs_true {n m : Nat} (h : Rows0 n m next) : ∀ (f : Nat) (s : Int) (C : List Int), C.length = m → 0 ≤ s → s < (m : Int) → (∀ y : Int, 0 ≤ y → y < (m : Int) → colAt C y = 1 → PlusS next n y s) → (dfs next U f s C).1 = true →
    ∃ x : Int, StarS next n s x ∧ PlusS next n x x ∧ upAt U x = true
  | 0, s, C, _, _, _, _, hd => by cases hd
  | f + 1, s, C, hC, s0, sm, hg, hd => by
    have hsl : s.toNat < C.length := by omega
    have hl0 := h.len
    have hrw : (rowOf next s).length = n := by unfold rowOf; rw [getD_lt (by omega)]; exact h.row _ (List.getElem_mem _)
    have hrow : ∀ t ∈ rowOf next s, ∃ l, l < n ∧ nx next s l = t := fun t ht => by
      obtain ⟨i, hi, rfl⟩ := List.getElem_of_mem ht
      exact ⟨i, by omega, by unfold nx; rw [getD_lt hi]⟩
    rw [dfs_succ] at hd
    by_cases hb : ((rowOf next s).foldl (dstep next U f) (false, C.set s.toNat 1)).1 = true
    rotate_left
    · rw [if_neg hb] at hd; cases hd
    have key : ∀ (l : List Int) (D : List Int), (∀ t ∈ l, ∃ k, k < n ∧ nx next s k = t) → D.length = m → (∀ y : Int, 0 ≤ y → y < (m : Int) → colAt D y = 1 → y = s ∨ colAt C y = 1) → (l.foldl (dstep next U f) (false, D)).1 = true → ∃ x : Int, StarS next n s x ∧ PlusS next n x x ∧ upAt U x = true := fun l => by
      induction l with
      | nil => intro D _ _ _ hf; cases hf
      | cons y l ih =>
        intro D hl hD hgD hf
        obtain ⟨k, hk, hky⟩ := hl y List.mem_cons_self
        have hl' : ∀ t ∈ l, ∃ k, k < n ∧ nx next s k = t := fun x hx => hl x (List.mem_cons_of_mem _ hx)
        have hyb := nx_ok h ⟨s0, sm⟩ hk
        rw [hky] at hyb
        have hto : ∀ z : Int, 0 ≤ z → z < (m : Int) → colAt D z = 1 → PlusS next n z y := fun z z0 zm hz => by
          rcases hgD z z0 zm hz with rfl | hz
          · exact ⟨[k], by simp, ltr_one hk, hky⟩
          · obtain ⟨u, hu0, hu, hr⟩ := hg z z0 zm hz
            exact ⟨u ++ [k], by simp, ltr_app hu (ltr_one hk), by rw [runS_app, hr]; exact hky⟩
        rw [List.foldl_cons, dstep_false] at hf
        by_cases hu : upAt U y = true
        · rw [if_pos hu] at hf
          by_cases h1 : colAt D y = 1
          · exact ⟨y, ⟨[k], ltr_one hk, hky⟩, hto y hyb.1 hyb.2 h1, hu⟩
          · rw [if_neg h1] at hf
            by_cases h0 : colAt D y = 0
            · rw [if_pos h0] at hf
              have hkp := dfs_keeps next U f y D
              have hgr := dfs_gray (U := U) h f y D hD hyb.1 hyb.2
              have hdt := dfs_true h f y D hD hyb.1 hyb.2 hto
              obtain ⟨⟨b2, D2⟩, hD2⟩ : ∃ q, dfs next U f y D = q := ⟨_, rfl⟩
              rw [hD2] at hf hkp hgr hdt
              cases b2 with
              | true =>
                obtain ⟨x, ⟨u, hu1, hu2⟩, hx2, hx3⟩ := hdt rfl
                exact ⟨x, ⟨k :: u, fun z hz => by
                  rcases List.mem_cons.1 hz with rfl | hz
                  · exact hk
                  · exact hu1 z hz, by show runS next (nx next s k) u = x; rw [hky]; exact hu2⟩, hx2, hx3⟩
              | false => exact ih D2 hl' (by rw [← hD]; exact hkp.1) (fun z z0 zm hz => hgD z z0 zm (hgr rfl z hz)) hf
            · rw [if_neg h0] at hf; exact ih D hl' hD hgD hf
        · rw [if_neg hu] at hf; exact ih D hl' hD hgD hf
    refine key _ _ hrow (by rw [List.length_set]; exact hC) (fun y y0 ym hy => ?_) hb
    rw [colAt_set hsl] at hy
    by_cases e : s.toNat = y.toNat
    · exact .inl (by omega)
    · rw [if_neg e] at hy; exact .inr hy
end
theorem finGo_true {next : List (List Int)} {U : List Bool} {n m : Nat} (h : Rows0 n m next) (f : Nat) : ∀ (r : List Int) (l : Nat) (C : List Int), (∀ (k : Nat) (t : Int), r[k]? = some t → l + k < n ∧ nx next 0 (l + k) = t ∧ 0 ≤ t ∧ t < (m : Int)) → C.length = m → (∀ t : Int, colAt C t ≠ 1) → finGo next U f r l C = false →
    ∃ (k : Nat) (x : Int), 0 < k ∧ k < n ∧ StarS next n (nx next 0 k) x ∧ PlusS next n x x ∧ upAt U x = true
  | [], l, C, _, _, _, hf => by cases hf
  | t :: r, l, C, hr, hC, hg, hf => by
    obtain ⟨hl, hnx, t0, tm⟩ := hr 0 t rfl
    have hr' : ∀ (k : Nat) (y : Int), r[k]? = some y → l + 1 + k < n ∧ nx next 0 (l + 1 + k) = y ∧ 0 ≤ y ∧ y < (m : Int) := fun k y hy => by
      have := hr (k + 1) y (by simpa using hy)
      rw [show l + (k + 1) = l + 1 + k by omega] at this
      exact this
    rw [finGo] at hf
    by_cases hc : 0 < l ∧ upAt U t = true ∧ colAt C t = 0
    · rw [if_pos hc] at hf
      by_cases hb : (dfs next U f t C).1 = true
      · obtain ⟨x, hx1, hx2, hx3⟩ := dfs_true h f t C hC t0 tm (fun y _ _ hy => absurd hy (hg y)) hb
        rw [Nat.add_zero] at hnx hl
        exact ⟨l, x, hc.1, hl, by rw [hnx]; exact hx1, hx2, hx3⟩
      · rw [if_neg hb] at hf
        have hk := dfs_keeps next U f t C
        exact finGo_true h f r (l + 1) _ hr' (by rw [hk.1]; exact hC) (fun y hy => hg y (dfs_gray h f t C hC t0 tm (Bool.eq_false_iff.2 hb) y hy)) hf
    · rw [if_neg hc] at hf
      exact finGo_true h f r (l + 1) C hr' hC hg hf
/-- A clean word that is taken, of some length beyond the number of states, but not far. -/
def LongW (a : GAuto) (n : Nat) : Prop := ∃ (x : Nat) (u : List Nat), 0 < x ∧ Ltr n (x :: u) ∧ lang a.next a.ends 0 (x :: u) = true ∧ a.next.length + 1 ≤ (x :: u).length ∧ (x :: u).length ≤ 2 * a.next.length + 1
theorem run_pow (next : List (List Int)) (x : Int) {v : List Nat} (h : runS next x v = x) : ∀ K, runS next x (List.replicate K v).flatten = x
  | 0 => rfl
  | K + 1 => by rw [List.replicate_succ, List.flatten_cons, runS_app, h]; exact run_pow next x h K
theorem len_pow {v : List Nat} (h : v ≠ []) : ∀ K, K ≤ (List.replicate K v).flatten.length
  | 0 => Nat.zero_le _
  | K + 1 => by
    have := len_pow h K
    have hv : 0 < v.length := List.length_pos_iff.2 h
    rw [List.replicate_succ, List.flatten_cons, List.length_append]; omega
theorem ltr_pow {n : Nat} {v : List Nat} (h : Ltr n v) (K : Nat) : Ltr n (List.replicate K v).flatten := fun x hx => by
  obtain ⟨l, hl, hx⟩ := List.mem_flatten.1 hx
  rw [(List.mem_replicate.1 hl).2] at hx
  exact h x hx
theorem long_some {a : GAuto} {n m : Nat} (g : Good a n m) : ∀ (N : Nat) (x : Nat) (u : List Nat), (x :: u).length = N → m + 1 ≤ N → 0 < x → Ltr n (x :: u) → lang a.next a.ends 0 (x :: u) = true → LongW a n := fun N => by
  have hm : a.next.length = m := g.rows.len
  have hm0 := g.m0
  induction N using Nat.strongRecOn with
  | _ N ih =>
    intro x u hN hmN hx hw hL
    by_cases hs : N ≤ 2 * m + 1
    · exact ⟨x, u, hx, hw, hL, by omega, by omega⟩
    have hst : ∀ i, 0 ≤ runS a.next 0 ((x :: u).take (i + 1)) ∧ runS a.next 0 ((x :: u).take (i + 1)) < (m : Int) := fun i => by
      have := runFrom_ok g.rows (((x :: u).take (i + 1)).map fun k : Nat => ((k : Nat) : Int)) 0 ⟨Int.le_refl _, by omega⟩ fun y hy => by
        obtain ⟨k, hk, rfl⟩ := List.mem_map.1 hy
        have := hw k (List.mem_of_mem_take hk)
        omega
      rw [runFrom_runS] at this
      simpa [List.map_map, Function.comp_def] using this
    have hne : ¬ ((List.range (m + 1)).map fun i => runS a.next 0 ((x :: u).take (i + 1))).Nodup := fun hn => by
      have := nodup_bound m _ hn fun s hs => by
        obtain ⟨i, _, rfl⟩ := List.mem_map.1 hs
        exact hst i
      rw [List.length_map, List.length_range] at this; omega
    have hij : ∃ i j, i < j ∧ j < m + 1 ∧ runS a.next 0 ((x :: u).take (i + 1)) = runS a.next 0 ((x :: u).take (j + 1)) := by
      by_cases hc : ∃ i j, i < j ∧ j < m + 1 ∧ runS a.next 0 ((x :: u).take (i + 1)) = runS a.next 0 ((x :: u).take (j + 1))
      · exact hc
      · exfalso
        refine hne ?_
        unfold List.Nodup
        rw [List.pairwise_map, List.pairwise_iff_getElem]
        intro i j hi hj hlt e
        rw [List.length_range] at hi hj
        rw [List.getElem_range, List.getElem_range] at e
        exact hc ⟨i, j, hlt, hj, e⟩
    obtain ⟨i, j, hlt, hj, e⟩ := hij
    have hr : runS a.next 0 ((x :: u).take (i + 1) ++ (x :: u).drop (j + 1)) = runS a.next 0 (x :: u) := by
      rw [runS_app, e, ← runS_app, List.take_append_drop]
    have hcons : (x :: u).take (i + 1) ++ (x :: u).drop (j + 1) = x :: (u.take i ++ u.drop j) := rfl
    have hlen : (x :: (u.take i ++ u.drop j)).length = N - (j - i) := by
      rw [List.length_cons] at hN ⊢
      rw [List.length_append, List.length_take, List.length_drop]; omega
    refine ih (N - (j - i)) (by omega) x (u.take i ++ u.drop j) hlen (by omega) hx (fun y hy => ?_) ?_
    · rw [← hcons] at hy
      rcases List.mem_append.1 hy with hy | hy
      · exact hw y (List.mem_of_mem_take hy)
      · exact hw y (List.mem_of_mem_drop hy)
    · unfold lang at hL ⊢
      rw [← hcons, hr]; exact hL
theorem fin_iff {a : GAuto} (hf : autoFault a = 0) : finOf a = true ↔ ¬ LongW a (manyOf a.base a.tracks).toNat := by
  have g := good_of hf
  constructor
  · rintro h ⟨x, u, hx, hw, hL, h1, h2⟩
    have := fin_short hf h hw hx hL
    omega
  · intro h
    by_cases hfin : finOf a = true
    · exact hfin
    · exfalso
      apply h
      unfold finOf at hfin
      rw [if_pos hf] at hfin
      generalize (manyOf a.base a.tracks).toNat = n at *
      have hm0 := g.m0
      have hrow : rowOf a.next 0 ∈ a.next := by
        unfold rowOf
        rw [getD_lt (by show 0 < a.next.length; exact hm0)]
        exact List.getElem_mem _
      have hrl := g.rows.row _ hrow
      obtain ⟨k, x, hk0, hk, ⟨u, hu, hux⟩, ⟨v, hv0, hv, hvx⟩, hup⟩ := finGo_true g.rows a.next.length (rowOf a.next 0) 0 (List.replicate a.next.length 0) (fun k t ht => by
        obtain ⟨h1, h2⟩ := List.getElem?_eq_some_iff.1 ht
        have h3 := g.rows.ok _ hrow t (List.mem_of_getElem? ht)
        rw [Nat.zero_add]
        exact ⟨by omega, by unfold nx; rw [getD_lt h1, h2], h3⟩) (by simp) (fun t => by
        unfold colAt
        rw [List.getD_eq_getElem?_getD, List.getElem?_replicate]
        split <;> decide) (Bool.eq_false_iff.2 hfin)
      have hxb : 0 ≤ x ∧ x < (a.next.length : Int) := by
        have hnx := nx_ok g.rows (s := 0) ⟨by omega, by omega⟩ hk
        have := runFrom_ok g.rows (u.map fun k : Nat => ((k : Nat) : Int)) _ hnx fun y hy => by
          obtain ⟨k, hk, rfl⟩ := List.mem_map.1 hy
          have := hu k hk
          omega
        rw [runFrom_runS] at this
        have e : (u.map fun k : Nat => ((k : Nat) : Int)).map Int.toNat = u := by simp [List.map_map, Function.comp_def]
        rw [e, hux] at this
        exact this
      have hal : aliveP a n x := by
        unfold upAt aliveL at hup
        rw [getD_lt (by simp; omega), List.getElem_map, List.getElem_range, aliveB_iff, show ((x.toNat : Nat) : Int) = x by omega] at hup
        exact hup
      obtain ⟨q, hq, hqL⟩ := hal
      refine long_some g _ k (u ++ (List.replicate (a.next.length + 1) v).flatten ++ q) rfl ?_ hk0 ?_ ?_
      · have := len_pow hv0 (a.next.length + 1)
        simp only [List.length_cons, List.length_append]; omega
      · intro y hy
        rcases List.mem_cons.1 hy with rfl | hy
        · exact hk
        · exact ltr_app (ltr_app hu (ltr_pow hv _)) hq y hy
      · unfold lang at hqL ⊢
        show endOf a.ends (runS a.next (nx a.next 0 k) _) = true
        rw [runS_app, runS_app, hux, run_pow a.next x hvx]
        exact hqL
end Go.Proofs.YtjidhaendndokaaDoor
namespace Go.Proofs.YtjidhaendndokaaDoor

/-- All words of so many letters that lead from a state to an end, in order. -/
def wds (a : GAuto) : Nat → Int → List (List Int)
  | 0, s => if endOf a.ends s = true then [[]] else []
  | k + 1, s => (List.range (rowOf a.next s).length).flatMap fun l => (wds a k ((rowOf a.next s).getD l 0)).map (((l : Nat) : Int) :: ·)
/-- The same, at a word's begin without a 0. -/
def cwd (a : GAuto) : Nat → Int → List (List Int)
  | 0, s => wds a 0 s
  | k + 1, s => (List.range (rowOf a.next s).length).flatMap fun l => if l = 0 then [] else (wds a k ((rowOf a.next s).getD l 0)).map (((l : Nat) : Int) :: ·)
def wdC (a : GAuto) (b : Bool) (k : Nat) (s : Int) : List (List Int) := if b = true then cwd a k s else wds a k s
theorem take_take_app {α : Type} (A B : List α) (n : Nat) : ((A.take n) ++ B).take n = (A ++ B).take n := by
  rcases Nat.le_total n A.length with h | h
  · rw [List.take_append_of_le_length (by rw [List.length_take]; omega), List.take_take, Nat.min_self, List.take_append_of_le_length h]
  · rw [List.take_of_length_le h]
theorem fold_take {f : List (List Int) → Nat → List (List Int)} {X : Nat → List (List Int)} {most : Int} (h0 : 0 ≤ most) : ∀ (r : List Nat) (o : List (List Int)), (∀ l ∈ r, ∀ o, ((o.length : Nat) : Int) ≤ most → f o l = (o ++ X l).take most.toNat) → ((o.length : Nat) : Int) ≤ most → r.foldl f o = (o ++ r.flatMap X).take most.toNat
  | [], o, _, h => by rw [List.flatMap_nil, List.append_nil, List.take_of_length_le (by omega)]; rfl
  | l :: r, o, hf, h => by
    have h1 := hf l List.mem_cons_self o h
    rw [List.foldl_cons, h1, fold_take h0 r _ (fun l hl => hf l (List.mem_cons_of_mem _ hl)) (by rw [List.length_take]; omega), take_take_app, List.flatMap_cons, List.append_assoc]
theorem cwd_sub {a : GAuto} : ∀ (k : Nat) (s : Int) (w : List Int), w ∈ cwd a k s → w ∈ wds a k s
  | 0, s, w, h => h
  | k + 1, s, w, h => by
    unfold cwd at h
    obtain ⟨l, hl, h2⟩ := List.mem_flatMap.1 h
    split at h2
    · simp at h2
    · exact List.mem_flatMap.2 ⟨l, hl, h2⟩
theorem flatMap_cong {α β : Type} {l : List α} {f g : α → List β} (h : ∀ x ∈ l, f x = g x) : l.flatMap f = l.flatMap g := by
  induction l with
  | nil => rfl
  | cons x l ih => rw [List.flatMap_cons, List.flatMap_cons, h x List.mem_cons_self, ih fun y hy => h y (List.mem_cons_of_mem _ hy)]
theorem row_at {a : GAuto} {n m : Nat} (g : Good a n m) {s : Int} (s0 : 0 ≤ s) (sm : s < (m : Int)) : (rowOf a.next s).length = n ∧ ∀ t ∈ rowOf a.next s, 0 ≤ t ∧ t < (m : Int) := by
  have hm := g.rows.len
  have : rowOf a.next s ∈ a.next := by
    unfold rowOf
    rw [getD_lt (by omega)]
    exact List.getElem_mem _
  exact ⟨g.rows.row _ this, g.rows.ok _ this⟩
theorem row_get {a : GAuto} {n m : Nat} (g : Good a n m) {s : Int} (s0 : 0 ≤ s) (sm : s < (m : Int)) {l : Nat} (hl : l < n) : 0 ≤ (rowOf a.next s).getD l 0 ∧ (rowOf a.next s).getD l 0 < (m : Int) := by
  obtain ⟨h1, h2⟩ := row_at g s0 sm
  rw [getD_lt (by omega)]
  exact h2 _ (List.getElem_mem _)
theorem canAt_iff {a : GAuto} {n m : Nat} (g : Good a n m) : ∀ (k : Nat) (s : Int), 0 ≤ s → s < (m : Int) → (canAt a k s = true ↔ wds a k s ≠ [])
  | 0, s, s0, sm => by
    have e : canAt a 0 s = endOf a.ends s := rfl
    rw [e]
    unfold wds
    split <;> simp_all
  | k + 1, s, s0, sm => by
    have hm := g.rows.len
    have e : canAt a (k + 1) s = (rowOf a.next s).any fun t => canAt a k t := by
      unfold canAt
      show ((List.range a.next.length).map fun s => (rowOf a.next ((s : Nat) : Int)).any fun t => (canL a k).getD t.toNat false).getD s.toNat false = _
      rw [getD_lt (by rw [List.length_map, List.length_range]; omega), List.getElem_map, List.getElem_range, show ((s.toNat : Nat) : Int) = s by omega]
    obtain ⟨h1, h2⟩ := row_at g s0 sm
    rw [e, List.any_eq_true]
    constructor
    · rintro ⟨t, ht, hc⟩ hn
      obtain ⟨l, hl, rfl⟩ := List.mem_iff_getElem.1 ht
      have h3 := (canAt_iff g k _ (h2 _ ht).1 (h2 _ ht).2).1 hc
      unfold wds at hn
      have h4 := List.flatMap_eq_nil_iff.1 hn l (List.mem_range.2 hl)
      rw [getD_lt hl] at h4
      exact h3 (List.map_eq_nil_iff.1 h4)
    · intro hn
      obtain ⟨w, hw⟩ := List.exists_mem_of_ne_nil _ hn
      unfold wds at hw
      obtain ⟨l, hl, hw⟩ := List.mem_flatMap.1 hw
      have hl := List.mem_range.1 hl
      obtain ⟨u, hu, _⟩ := List.mem_map.1 hw
      have ht : (rowOf a.next s).getD l 0 ∈ rowOf a.next s := by rw [getD_lt hl]; exact List.getElem_mem _
      exact ⟨_, ht, (canAt_iff g k _ (h2 _ ht).1 (h2 _ ht).2).2 (List.ne_nil_of_mem hu)⟩
theorem walkL_spec {a : GAuto} {n m : Nat} (g : Good a n m) {most : Int} (h0 : 0 ≤ most) : ∀ (k : Nat) (s : Int) (w : List Int) (out : List (List Int)), 0 ≤ s → s < (m : Int) → ((out.length : Nat) : Int) ≤ most →
    walkL a most k s w out = (out ++ (wdC a (decide (w = [])) k s).map (w ++ ·)).take most.toNat
  | k, s, w, out, s0, sm, ho => by
    by_cases hf : ((out.length : Nat) : Int) = most
    · rw [walkL_full hf, List.take_append_of_le_length (by omega), List.take_of_length_le (by omega)]
    by_cases hc : canAt a k s = true
    rotate_left
    · have hn : wds a k s = [] := Decidable.by_contra fun q => hc ((canAt_iff g k s s0 sm).2 q)
      have hn2 : wdC a (decide (w = [])) k s = [] := by
        unfold wdC
        split
        · exact List.eq_nil_iff_forall_not_mem.2 fun x hx => by
            have := cwd_sub k s x hx
            rw [hn] at this; simp at this
        · exact hn
      have hw : walkL a most k s w out = out := by
        cases k with
        | zero => unfold walkL; rw [if_neg hf, if_neg hc]
        | succ k => rw [walkL_succ, if_neg hf, if_neg hc]
      rw [hw, hn2, List.map_nil, List.append_nil, List.take_of_length_le (by omega)]
    cases k with
    | zero =>
      have he : wdC a (decide (w = [])) 0 s = [[]] := by
        have h1 : wds a 0 s = [[]] := if_pos hc
        unfold wdC
        split
        · exact h1
        · exact h1
      unfold walkL
      rw [if_neg hf, if_pos hc, he, List.map_singleton, List.append_nil, List.take_of_length_le (by rw [List.length_append, List.length_singleton]; omega)]
    | succ k =>
      obtain ⟨h1, h2⟩ := row_at g s0 sm
      rw [walkL_succ, if_neg hf, if_pos hc]
      rw [fold_take (X := fun l => if l = 0 ∧ w = [] then [] else (wds a k ((rowOf a.next s).getD l 0)).map fun u => w ++ (((l : Nat) : Int) :: u)) h0 _ _ (fun l hl o ho => ?_) ho]
      · congr 2
        unfold wdC
        by_cases hw : w = []
        · rw [if_pos (by simpa using hw)]
          unfold cwd
          rw [List.map_flatMap]
          refine flatMap_cong fun l hl => ?_
          by_cases hl0 : l = 0
          · rw [if_pos ⟨hl0, hw⟩, if_pos hl0]; rfl
          · rw [if_neg (fun q => hl0 q.1), if_neg hl0, List.map_map]; rfl
        · have hwd : wds a (k + 1) s = (List.range (rowOf a.next s).length).flatMap fun l => (wds a k ((rowOf a.next s).getD l 0)).map (((l : Nat) : Int) :: ·) := rfl
          rw [if_neg (by simpa using hw), hwd]
          rw [List.map_flatMap]
          refine flatMap_cong fun l hl => ?_
          rw [if_neg (fun q => hw q.2), List.map_map]; rfl
      · have hl := List.mem_range.1 hl
        have ht := row_get g s0 sm (l := l) (by omega)
        unfold stepL
        split
        · rw [List.append_nil, List.take_of_length_le (by omega)]
        · rw [walkL_spec g h0 k _ _ o ht.1 ht.2 ho]
          congr 2
          unfold wdC
          rw [if_neg (by simp)]
          refine List.map_congr_left fun u _ => ?_
          simp
  termination_by k => k
def allW (a : GAuto) (L : Nat) : List (List Int) := (List.range L).flatMap fun k => cwd a k 0
theorem outL_spec {a : GAuto} {n m : Nat} (g : Good a n m) {most : Int} (h0 : 0 ≤ most) : ∀ L, outL a most L = (allW a L).take most.toNat
  | 0 => by simp [outL, allW]
  | L + 1 => by
    have hm0 := g.m0
    show walkL a most L 0 [] (outL a most L) = _
    rw [walkL_spec g h0 L 0 [] _ (by omega) (by omega) (outL_le a h0 L), outL_spec g h0 L, take_take_app]
    unfold allW
    rw [List.range_succ, List.flatMap_append]
    congr 2
    simp [wdC]
/-- The words that are found are those that are taken. -/
theorem wds_iff {a : GAuto} {n m : Nat} (g : Good a n m) : ∀ (k : Nat) (s : Int) (w : List Int), 0 ≤ s → s < (m : Int) → (w ∈ wds a k s ↔ w.length = k ∧ (∀ l ∈ w, 0 ≤ l ∧ l < (n : Int)) ∧ endOf a.ends (runFrom a.next s w) = true)
  | 0, s, w, s0, sm => by
    unfold wds
    constructor
    · intro h
      split at h
      · simp at h
        subst h
        exact ⟨rfl, fun l hl => by simp at hl, ‹_›⟩
      · simp at h
    · rintro ⟨h1, _, h3⟩
      obtain rfl := List.eq_nil_of_length_eq_zero h1
      have h3 : endOf a.ends s = true := h3
      rw [if_pos h3]; simp
  | k + 1, s, w, s0, sm => by
    obtain ⟨h1, h2⟩ := row_at g s0 sm
    unfold wds
    rw [List.mem_flatMap]
    have hnx : ∀ l : Nat, nextOf a.next s ((l : Nat) : Int) = (rowOf a.next s).getD l 0 := fun l => rfl
    constructor
    · rintro ⟨l, hl, h⟩
      have hl := List.mem_range.1 hl
      obtain ⟨u, hu, rfl⟩ := List.mem_map.1 h
      have ht := row_get g s0 sm (l := l) (by omega)
      obtain ⟨e1, e2, e3⟩ := (wds_iff g k _ u ht.1 ht.2).1 hu
      refine ⟨by rw [List.length_cons, e1], fun x hx => ?_, ?_⟩
      · rcases List.mem_cons.1 hx with rfl | hx
        · omega
        · exact e2 x hx
      · unfold runFrom
        rw [List.foldl_cons, hnx]
        exact e3
    · rintro ⟨e1, e2, e3⟩
      cases w with
      | nil => simp at e1
      | cons x u =>
        have hx := e2 x List.mem_cons_self
        have ht := row_get g s0 sm (l := x.toNat) (by omega)
        have hxx : ((x.toNat : Nat) : Int) = x := by omega
        refine ⟨x.toNat, List.mem_range.2 (by omega), List.mem_map.2 ⟨u, (wds_iff g k _ u ht.1 ht.2).2 ⟨by simpa using e1, fun y hy => e2 y (List.mem_cons_of_mem _ hy), ?_⟩, by rw [hxx]⟩⟩
        unfold runFrom at e3 ⊢
        rw [List.foldl_cons, ← hxx, hnx] at e3
        exact e3
def cleanW : List Int → Bool
  | [] => true
  | x :: _ => decide (x ≠ 0)
theorem cwd_iff {a : GAuto} (k : Nat) (s : Int) (w : List Int) : w ∈ cwd a k s ↔ w ∈ wds a k s ∧ cleanW w = true := by
  cases k with
  | zero =>
    show w ∈ wds a 0 s ↔ _
    refine ⟨fun h => ⟨h, ?_⟩, fun h => h.1⟩
    unfold wds at h
    split at h
    · simp at h; subst h; rfl
    · simp at h
  | succ k =>
    constructor
    · intro h
      refine ⟨cwd_sub _ _ _ h, ?_⟩
      unfold cwd at h
      obtain ⟨l, hl, h2⟩ := List.mem_flatMap.1 h
      split at h2
      · simp at h2
      · obtain ⟨u, _, rfl⟩ := List.mem_map.1 h2
        simp [cleanW]; omega
    · rintro ⟨h, hc⟩
      unfold wds at h
      obtain ⟨l, hl, h2⟩ := List.mem_flatMap.1 h
      obtain ⟨u, hu, rfl⟩ := List.mem_map.1 h2
      unfold cwd
      refine List.mem_flatMap.2 ⟨l, hl, ?_⟩
      simp [cleanW] at hc
      rw [if_neg (by omega)]
      exact List.mem_map.2 ⟨u, hu, rfl⟩
theorem allW_iff {a : GAuto} {n m : Nat} (g : Good a n m) (L : Nat) (w : List Int) : w ∈ allW a L ↔ w.length < L ∧ (∀ l ∈ w, 0 ≤ l ∧ l < (n : Int)) ∧ endOf a.ends (runFrom a.next 0 w) = true ∧ cleanW w = true := by
  have hm0 := g.m0
  unfold allW
  rw [List.mem_flatMap]
  constructor
  · rintro ⟨k, hk, h⟩
    have hk := List.mem_range.1 hk
    obtain ⟨h1, h2⟩ := (cwd_iff k 0 w).1 h
    obtain ⟨e1, e2, e3⟩ := (wds_iff g k 0 w (by omega) (by omega)).1 h1
    exact ⟨by omega, e2, e3, h2⟩
  · rintro ⟨h1, h2, h3, h4⟩
    exact ⟨w.length, List.mem_range.2 h1, (cwd_iff _ _ _).2 ⟨(wds_iff g _ 0 w (by omega) (by omega)).2 ⟨rfl, h2, h3⟩, h4⟩⟩
/-- Their order. -/
def lexB : List Int → List Int → Bool
  | x :: a, y :: b => if x ≠ y then decide (x < y) else lexB a b
  | _, _ => false
theorem wds_sorted (a : GAuto) : ∀ (k : Nat) (s : Int), (wds a k s).Pairwise fun x y => lexB x y = true
  | 0, s => by
    unfold wds
    split <;> simp
  | k + 1, s => by
    unfold wds
    rw [List.pairwise_flatMap]
    refine ⟨fun l _ => ?_, ?_⟩
    · rw [List.pairwise_map]
      exact (wds_sorted a k _).imp fun h => by simp [lexB, h]
    · refine (List.pairwise_lt_range (n := (rowOf a.next s).length)).imp fun {i j} hij x hx y hy => ?_
      obtain ⟨u, _, rfl⟩ := List.mem_map.1 hx
      obtain ⟨v, _, rfl⟩ := List.mem_map.1 hy
      simp only [lexB]
      rw [if_pos (by omega)]
      simpa using hij
theorem cwd_sorted (a : GAuto) (k : Nat) (s : Int) : (cwd a k s).Pairwise fun x y => lexB x y = true := by
  cases k with
  | zero => exact wds_sorted a 0 s
  | succ k =>
    unfold cwd
    rw [List.pairwise_flatMap]
    refine ⟨fun l _ => ?_, ?_⟩
    · split
      · exact List.Pairwise.nil
      · rw [List.pairwise_map]
        exact (wds_sorted a k _).imp fun h => by simp [lexB, h]
    · refine (List.pairwise_lt_range (n := (rowOf a.next s).length)).imp fun {i j} hij x hx y hy => ?_
      split at hx
      · simp at hx
      split at hy
      · simp at hy
      obtain ⟨u, _, rfl⟩ := List.mem_map.1 hx
      obtain ⟨v, _, rfl⟩ := List.mem_map.1 hy
      simp only [lexB]
      rw [if_pos (by omega)]
      simpa using hij
/-- Parts of AskFinds. -/
theorem finds_mem {a : GAuto} {n m : Nat} (g : Good a n m) {most : Int} (h0 : 0 ≤ most) {u : List Int} (h : u ∈ listOf a most) : u.length ≤ 400 ∧ (∀ l ∈ u, 0 ≤ l ∧ l < (n : Int)) ∧ endOf a.ends (runFrom a.next 0 u) = true ∧ cleanW u = true := by
  unfold listOf at h
  rw [outL_spec g h0] at h
  have := (allW_iff g 401 u).1 (List.mem_of_mem_take h)
  exact ⟨by omega, this.2⟩
end Go.Proofs.YtjidhaendndokaaDoor
namespace Go.Proofs.YtjidhaendndokaaDoor

/-- The first letter from one on behind which there is a word of so many letters. -/
def scanL (a : GAuto) (k : Nat) (s : Int) (N : Nat) : Nat → Nat → Nat
  | 0, l => l
  | f + 1, l => if l < N ∧ canAt a k ((rowOf a.next s).getD l 0) = false then scanL a k s N f (l + 1) else l
/-- A word of so many letters, its first one from one on. -/
def goL (a : GAuto) (N : Nat) : Nat → Int → Nat → Option (List Int)
  | 0, _, _ => some []
  | k + 1, s, l => if scanL a k s N N l < N then (goL a N k ((rowOf a.next s).getD (scanL a k s N N l) 0) 0).map ((((scanL a k s N N l : Nat) : Nat) : Int) :: ·) else none
def wdsFrom (a : GAuto) (N : Nat) (k : Nat) (s : Int) (l : Nat) : List (List Int) := (List.range' l (N - l)).flatMap fun x => (wds a k ((rowOf a.next s).getD x 0)).map (((x : Nat) : Int) :: ·)
theorem wds_succ (a : GAuto) (k : Nat) (s : Int) : wds a (k + 1) s = (List.range (rowOf a.next s).length).flatMap fun l => (wds a k ((rowOf a.next s).getD l 0)).map (((l : Nat) : Int) :: ·) := rfl
theorem cwd_succ (a : GAuto) (k : Nat) (s : Int) : cwd a (k + 1) s = (List.range (rowOf a.next s).length).flatMap fun l => if l = 0 then [] else (wds a k ((rowOf a.next s).getD l 0)).map (((l : Nat) : Int) :: ·) := rfl
section
variable {a : GAuto} {n m : Nat} (g : Good a n m)
include g
theorem scanL_spec {k : Nat} {s : Int} : ∀ (f l : Nat), l ≤ n → n - l ≤ f → l ≤ scanL a k s n f l ∧ scanL a k s n f l ≤ n ∧ (∀ x, l ≤ x → x < scanL a k s n f l → canAt a k ((rowOf a.next s).getD x 0) = false) ∧ (scanL a k s n f l < n → canAt a k ((rowOf a.next s).getD (scanL a k s n f l) 0) = true)
  | 0, l, h1, h2 => by
    have : l = n := by omega
    subst this
    exact ⟨Nat.le_refl _, Nat.le_refl _, fun x h3 h4 => by unfold scanL at h4; omega, fun h3 => by unfold scanL at h3; omega⟩
  | f + 1, l, h1, h2 => by
    unfold scanL
    by_cases h : l < n ∧ canAt a k ((rowOf a.next s).getD l 0) = false
    · rw [if_pos h]
      obtain ⟨p1, p2, p3, p4⟩ := scanL_spec (k := k) (s := s) f (l + 1) (by omega) (by omega)
      refine ⟨by omega, p2, fun x h3 h4 => ?_, p4⟩
      by_cases e : x = l
      · subst e; exact h.2
      · exact p3 x (by omega) h4
    · rw [if_neg h]
      refine ⟨Nat.le_refl _, h1, fun x h3 h4 => by omega, fun h3 => ?_⟩
      cases hc : canAt a k ((rowOf a.next s).getD l 0) with
      | true => rfl
      | false => exact absurd ⟨h3, hc⟩ h
theorem wdsFrom_zero {k : Nat} {s : Int} (s0 : 0 ≤ s) (sm : s < (m : Int)) : wdsFrom a n k s 0 = wds a (k + 1) s := by
  unfold wdsFrom
  rw [wds_succ, (row_at g s0 sm).1, Nat.sub_zero, ← List.range_eq_range']
theorem cwd_from {k : Nat} {s : Int} (s0 : 0 ≤ s) (sm : s < (m : Int)) : wdsFrom a n k s 1 = cwd a (k + 1) s := by
  unfold wdsFrom
  have h0 := g.n0
  obtain ⟨j, rfl⟩ : ∃ j, n = j + 1 := ⟨n - 1, by omega⟩
  rw [cwd_succ, (row_at g s0 sm).1, List.range_eq_range', List.range'_succ, List.flatMap_cons, if_pos rfl, List.nil_append, Nat.add_sub_cancel]
  refine congrArg List.flatten (List.map_congr_left fun x hx => ?_)
  have := (List.mem_range'_1.1 hx).1
  rw [if_neg (by omega)]
omit g in
theorem wdsFrom_skip {k : Nat} {s : Int} : ∀ (d l : Nat), l + d ≤ n → (∀ x, l ≤ x → x < l + d → wds a k ((rowOf a.next s).getD x 0) = []) → wdsFrom a n k s l = wdsFrom a n k s (l + d)
  | 0, l, _, _ => rfl
  | d + 1, l, h, hx => by
    have e : wdsFrom a n k s l = wdsFrom a n k s (l + 1) := by
      unfold wdsFrom
      obtain ⟨j, hj⟩ : ∃ j, n - l = j + 1 := ⟨n - l - 1, by omega⟩
      rw [hj, List.range'_succ, List.flatMap_cons, hx l (Nat.le_refl _) (by omega), List.map_nil, List.nil_append, show n - (l + 1) = j by omega]
    rw [e, wdsFrom_skip d (l + 1) (by omega) fun x h1 h2 => hx x (by omega) (by omega)]
    congr 1; omega
omit g in
theorem wdsFrom_cons {k : Nat} {s : Int} {l : Nat} (h : l < n) : wdsFrom a n k s l = (wds a k ((rowOf a.next s).getD l 0)).map (((l : Nat) : Int) :: ·) ++ wdsFrom a n k s (l + 1) := by
  unfold wdsFrom
  obtain ⟨j, hj⟩ : ∃ j, n - l = j + 1 := ⟨n - l - 1, by omega⟩
  rw [hj, List.range'_succ, List.flatMap_cons, show n - (l + 1) = j by omega]
theorem goL_spec : ∀ (k : Nat) (s : Int) (l : Nat), 0 ≤ s → s < (m : Int) → l ≤ n → goL a n (k + 1) s l = (wdsFrom a n k s l).head?
  | k, s, l, s0, sm, hl => by
    obtain ⟨p1, p2, p3, p4⟩ := scanL_spec g (k := k) (s := s) n l hl (by omega)
    obtain ⟨x, hx⟩ : ∃ x, scanL a k s n n l = x := ⟨_, rfl⟩
    rw [hx] at p1 p2 p3 p4
    have hz : ∀ y, l ≤ y → y < x → wds a k ((rowOf a.next s).getD y 0) = [] := fun y h1 h2 => by
      obtain ⟨q0, q1⟩ := row_get g s0 sm (l := y) (by omega)
      have := (canAt_iff g k _ q0 q1)
      rw [p3 y h1 h2] at this
      by_cases e : wds a k ((rowOf a.next s).getD y 0) = []
      · exact e
      · exact absurd (this.2 e) (by decide)
    have hskip := wdsFrom_skip (a := a) (n := n) (k := k) (s := s) (x - l) l (by omega) fun y h1 h2 => hz y h1 (by omega)
    rw [show l + (x - l) = x by omega] at hskip
    rw [hskip]
    unfold goL
    rw [hx]
    by_cases hn : x < n
    · rw [if_pos hn, wdsFrom_cons hn]
      obtain ⟨q0, q1⟩ := row_get g s0 sm hn
      have hne := (canAt_iff g k _ q0 q1).1 (p4 hn)
      have hgo : goL a n k ((rowOf a.next s).getD x 0) 0 = (wds a k ((rowOf a.next s).getD x 0)).head? := by
        cases k with
        | zero =>
          unfold wds at hne ⊢
          split at hne
          · rename_i h; rw [if_pos h]; rfl
          · exact absurd rfl hne
        | succ k => rw [goL_spec k _ 0 q0 q1 (Nat.zero_le _), wdsFrom_zero g q0 q1]
      rw [hgo]
      cases hw : wds a k ((rowOf a.next s).getD x 0) with
      | nil => exact absurd hw hne
      | cons u t => rfl
    · rw [if_neg hn]
      have : x = n := by omega
      unfold wdsFrom
      rw [this, Nat.sub_self]; rfl
/-- The words behind one, of as many letters. -/
def afterW (a : GAuto) (N : Nat) : Int → List Int → List (List Int)
  | _, [] => []
  | s, x :: t => (afterW a N ((rowOf a.next s).getD x.toNat 0) t).map (x :: ·) ++ wdsFrom a N t.length s (x.toNat + 1)
theorem after_split : ∀ (w : List Int) (s : Int), 0 ≤ s → s < (m : Int) → w ∈ wds a w.length s → ∃ B, wds a w.length s = B ++ w :: afterW a n s w
  | [], s, _, _, h => ⟨[], by
    unfold wds at h ⊢
    show (if endOf a.ends s = true then [[]] else []) = [[]]
    change [] ∈ (if endOf a.ends s = true then [[]] else []) at h
    split at h
    · rename_i e; rw [if_pos e]
    · cases h⟩
  | x :: t, s, s0, sm, h => by
    rw [List.length_cons, ← wdsFrom_zero g s0 sm] at h ⊢
    have hmem : ∃ y : Nat, y < n ∧ x = ((y : Nat) : Int) ∧ t ∈ wds a t.length ((rowOf a.next s).getD y 0) := by
      unfold wdsFrom at h
      obtain ⟨y, hy, hm⟩ := List.mem_flatMap.1 h
      obtain ⟨u, hu, e⟩ := List.mem_map.1 hm
      cases e
      exact ⟨y, by have := List.mem_range'_1.1 hy; omega, rfl, hu⟩
    obtain ⟨y, hy, rfl, ht⟩ := hmem
    obtain ⟨q0, q1⟩ := row_get g s0 sm hy
    obtain ⟨B, hB⟩ := after_split t _ q0 q1 ht
    have key : ∀ d l, l + d = y → ∃ B', wdsFrom a n t.length s l = B' ++ wdsFrom a n t.length s y := fun d => by
      induction d with
      | zero => intro l e; obtain rfl : l = y := by omega
                exact ⟨[], rfl⟩
      | succ d ih =>
        intro l e
        obtain ⟨B', hB'⟩ := ih (l + 1) (by omega)
        exact ⟨_, by rw [wdsFrom_cons (show l < n by omega), hB', ← List.append_assoc]⟩
    obtain ⟨B', hB'⟩ := key y 0 (by omega)
    refine ⟨B' ++ B.map (((y : Nat) : Int) :: ·), ?_⟩
    show _ = _ ++ (((y : Nat) : Int) :: t) :: ((afterW a n ((rowOf a.next s).getD (((y : Nat) : Int)).toNat 0) t).map (((y : Nat) : Int) :: ·) ++ wdsFrom a n t.length s ((((y : Nat) : Int)).toNat + 1))
    rw [hB', wdsFrom_cons hy, hB, Int.toNat_natCast, List.map_append, List.map_cons]
    simp only [List.append_assoc, List.cons_append]
omit g in
theorem head_app {α : Type} (A B : List α) : (A ++ B).head? = A.head?.or B.head? := by cases A <;> rfl
omit g in
theorem head_map {α β : Type} (f : α → β) (A : List α) : (A.map f).head? = A.head?.map f := by cases A <;> rfl
omit g in
theorem or_map {α β : Type} (f : α → β) (x y : Option α) : (x.or y).map f = (x.map f).or (y.map f) := by cases x <;> rfl
omit g in
/-- The next word: kept as long as can be. -/
def keepNext (a : GAuto) (N : Nat) (was : List Int) : Nat → Option (List Int)
  | 0 => none
  | d + 1 => match goL a N (was.length - d) (runFrom a.next 0 (was.take d)) ((was.getD d 0).toNat + 1) with
    | some u => some (was.take d ++ u)
    | none => keepNext a N was d
omit g in
theorem keepNext_succ (was : List Int) (d : Nat) : keepNext a n was (d + 1) = ((goL a n (was.length - d) (runFrom a.next 0 (was.take d)) ((was.getD d 0).toNat + 1)).map (was.take d ++ ·)).or (keepNext a n was d) := by
  show (match goL a n (was.length - d) (runFrom a.next 0 (was.take d)) ((was.getD d 0).toNat + 1) with
    | some u => some (was.take d ++ u)
    | none => keepNext a n was d) = _
  cases goL a n (was.length - d) (runFrom a.next 0 (was.take d)) ((was.getD d 0).toNat + 1) <;> rfl
theorem keep_spec {was : List Int} (hw : ∀ x ∈ was, 0 ≤ x ∧ x < (n : Int)) : keepNext a n was was.length = (afterW a n 0 was).head? := by
  have hs : ∀ d, 0 ≤ runFrom a.next 0 (was.take d) ∧ runFrom a.next 0 (was.take d) < (m : Int) := fun d => runFrom_ok g.rows _ 0 ⟨Int.le_refl _, by have := g.m0; omega⟩ fun x hx => hw x (List.mem_of_mem_take hx)
  have key : ∀ d, d ≤ was.length → (afterW a n 0 was).head? = ((afterW a n (runFrom a.next 0 (was.take d)) (was.drop d)).head?.map (was.take d ++ ·)).or (keepNext a n was d) := fun d => by
    induction d with
    | zero =>
      intro _
      rw [List.take_zero, List.drop_zero]
      show _ = ((afterW a n 0 was).head?.map ([] ++ ·)).or none
      cases (afterW a n 0 was).head? <;> rfl
    | succ d ih =>
      intro hd
      rw [ih (by omega), keepNext_succ, ← Option.or_assoc]
      congr 1
      have hdl : d < was.length := by omega
      obtain ⟨h0, h1⟩ := hs d
      have hx := hw was[d] (List.getElem_mem hdl)
      have ed : was.drop d = was[d] :: was.drop (d + 1) := List.drop_eq_getElem_cons hdl
      have et : was.take (d + 1) = was.take d ++ [was[d]] := List.take_succ_eq_append_getElem hdl
      have er : runFrom a.next 0 (was.take (d + 1)) = (rowOf a.next (runFrom a.next 0 (was.take d))).getD (was[d]).toNat 0 := by rw [et, runFrom_append]; rfl
      have el : (was.drop (d + 1)).length = was.length - d - 1 := by rw [List.length_drop]; omega
      rw [ed]
      show ((((afterW a n _ (was.drop (d + 1))).map (was[d] :: ·)) ++ wdsFrom a n (was.drop (d + 1)).length _ ((was[d]).toNat + 1)).head?).map _ = _
      rw [head_app, head_map, or_map, ← er, el, getD_lt hdl, show was.length - d = (was.length - d - 1) + 1 by omega, goL_spec g _ _ _ h0 h1 (by omega), Option.map_map]
      congr 1
      rw [et]
      congr 1
      funext u
      show was.take d ++ (was[d] :: u) = _
      rw [List.append_assoc]; rfl
  rw [key was.length (Nat.le_refl _), List.drop_length]
  have e : afterW a n (runFrom a.next 0 (was.take was.length)) [] = [] := rfl
  rw [e]; rfl
omit g in
theorem lexB_self : ∀ w : List Int, lexB w w = false
  | [] => rfl
  | x :: t => by unfold lexB; simp [lexB_self t]
/-- All words of a length, without a 0 ahead: the first one, and the next. -/
theorem cwd_first (k : Nat) : (cwd a (k + 1) 0)[0]? = goL a n (k + 1) 0 1 := by
  have h0 := g.n0
  have hm := g.m0
  rw [goL_spec g k 0 1 (Int.le_refl _) (by omega) (by omega), cwd_from g (Int.le_refl _) (by omega), List.head?_eq_getElem?]
theorem cwd_next (k : Nat) {i : Nat} {w : List Int} (h : (cwd a (k + 1) 0)[i]? = some w) : (cwd a (k + 1) 0)[i + 1]? = keepNext a n w w.length := by
  have hn0 := g.n0
  have hm := g.m0
  have hz : (0 : Int) < (m : Int) := by omega
  have hmem := List.mem_of_getElem? h
  have hw := (wds_iff g (k + 1) 0 w (Int.le_refl _) hz).1 (cwd_sub _ _ _ hmem)
  rw [keep_spec g hw.2.1]
  have hsplit : ∃ B, cwd a (k + 1) 0 = B ++ w :: afterW a n 0 w := by
    cases w with
    | nil => exact absurd hw.1 (by simp)
    | cons x t =>
      have hk : t.length = k := by have := hw.1; simpa using this
      rw [← cwd_from g (Int.le_refl _) hz] at hmem ⊢
      obtain ⟨y, hy1, hy, e, ht⟩ : ∃ y : Nat, 1 ≤ y ∧ y < n ∧ x = ((y : Nat) : Int) ∧ t ∈ wds a k ((rowOf a.next 0).getD y 0) := by
        unfold wdsFrom at hmem
        obtain ⟨y, hy, hm⟩ := List.mem_flatMap.1 hmem
        obtain ⟨u, hu, e⟩ := List.mem_map.1 hm
        cases e
        have := List.mem_range'_1.1 hy
        exact ⟨y, by omega, by omega, rfl, hu⟩
      subst e
      obtain ⟨q0, q1⟩ := row_get g (Int.le_refl _) hz hy
      rw [← hk] at ht ⊢
      obtain ⟨B, hB⟩ := after_split g t _ q0 q1 ht
      have key : ∀ d l, l + d = y → ∃ B', wdsFrom a n t.length 0 l = B' ++ wdsFrom a n t.length 0 y := fun d => by
        induction d with
        | zero => intro l e; obtain rfl : l = y := by omega
                  exact ⟨[], rfl⟩
        | succ d ih =>
          intro l e
          obtain ⟨B', hB'⟩ := ih (l + 1) (by omega)
          exact ⟨_, by rw [wdsFrom_cons (show l < n by omega), hB', ← List.append_assoc]⟩
      obtain ⟨B', hB'⟩ := key (y - 1) 1 (by omega)
      refine ⟨B' ++ B.map (((y : Nat) : Int) :: ·), ?_⟩
      show _ = _ ++ (((y : Nat) : Int) :: t) :: ((afterW a n ((rowOf a.next 0).getD (((y : Nat) : Int)).toNat 0) t).map (((y : Nat) : Int) :: ·) ++ wdsFrom a n t.length 0 ((((y : Nat) : Int)).toNat + 1))
      rw [hB', wdsFrom_cons hy, hB, Int.toNat_natCast, List.map_append, List.map_cons]
      simp only [List.append_assoc, List.cons_append]
  obtain ⟨B, hB⟩ := hsplit
  have hs := cwd_sorted a (k + 1) 0
  obtain ⟨hi, hiw⟩ := List.getElem?_eq_some_iff.1 h
  have hbl : B.length < (cwd a (k + 1) 0).length := by rw [hB]; simp
  have hbw : (cwd a (k + 1) 0)[B.length] = w := by simp only [hB]; simp
  have e : i = B.length := by
    rw [List.pairwise_iff_getElem] at hs
    rcases Nat.lt_trichotomy i B.length with c | c | c
    · have := hs i B.length hi hbl c
      rw [hiw, hbw, lexB_self] at this; cases this
    · exact c
    · have := hs B.length i hbl hi c
      rw [hiw, hbw, lexB_self] at this; cases this
  rw [e, hB, List.getElem?_append_right (by omega), show B.length + 1 - B.length = 1 by omega, List.head?_eq_getElem?]
  rfl
end
end Go.Proofs.YtjidhaendndokaaDoor
namespace Go.Proofs.YtjidhaendndokaaDoor
open Go.RowKit

def fl (H : List Bool) (x : Nat) : Bool := H.getD x false
theorem fl_at {H : List Bool} {x : Nat} {b : Bool} (h : H[x]! = b) (hx : x < H.length) : fl H x = b := bang_D h hx
theorem fl_set {H : List Bool} {x : Nat} (hx : x < H.length) (y : Nat) : fl (H.set x true) y = true ↔ y = x ∨ fl H y = true := by
  unfold fl
  rw [List.getD_eq_getElem?_getD, List.getElem?_set, List.getD_eq_getElem?_getD]
  by_cases e : x = y
  · subst e
    rw [if_pos rfl, if_pos hx]
    simp
  · rw [if_neg e]
    constructor
    · exact .inr
    · rintro (q | q)
      · exact absurd q.symm e
      · exact q
theorem fl_rep (m x : Nat) : ¬ fl (List.replicate m false) x = true := by
  unfold fl
  rw [List.getD_eq_getElem?_getD, List.getElem?_replicate]
  split <;> decide
/-- Behind a word of so many letters, the first of them no 0. -/
def Rk (a : GAuto) (N k x : Nat) : Prop := ∃ w : List Nat, w.length = k ∧ 0 < w.headD 0 ∧ Ltr N w ∧ runS a.next 0 w = ((x : Nat) : Int)
section
variable {a : GAuto} {N m : Nat} (g : Good a N m)
include g
theorem runS_in : ∀ (w : List Nat) (s : Int), Ltr N w → 0 ≤ s → s < (m : Int) → 0 ≤ runS a.next s w ∧ runS a.next s w < (m : Int)
  | [], s, _, h0, h1 => ⟨h0, h1⟩
  | x :: w, s, hw, h0, h1 => by
    have hx := nx_ok g.rows ⟨h0, h1⟩ (hw x List.mem_cons_self)
    exact runS_in w _ (fun y hy => hw y (List.mem_cons_of_mem _ hy)) hx.1 hx.2
theorem Rk_one (x : Nat) : Rk a N 1 x ↔ ∃ j, 1 ≤ j ∧ j < N ∧ nx a.next 0 j = ((x : Nat) : Int) := by
  constructor
  · rintro ⟨w, hl, h0, hw, hr⟩
    match w, hl with
    | [j], _ => exact ⟨j, h0, hw j List.mem_cons_self, hr⟩
  · rintro ⟨j, h1, hj, hr⟩
    exact ⟨[j], rfl, h1, ltr_one hj, hr⟩
theorem Rk_lt {k x : Nat} (h : Rk a N k x) : x < m := by
  obtain ⟨w, _, _, hw, hr⟩ := h
  have := runS_in g w 0 hw (Int.le_refl _) (by have := g.m0; omega)
  omega
theorem Rk_succ {k : Nat} (hk : 0 < k) (x : Nat) : Rk a N (k + 1) x ↔ ∃ s j : Nat, Rk a N k s ∧ j < N ∧ nx a.next ((s : Nat) : Int) j = ((x : Nat) : Int) := by
  constructor
  · rintro ⟨w, hl, h0, hw, hr⟩
    have hne : w ≠ [] := fun e => by rw [e] at hl; simp at hl
    obtain ⟨v, j, rfl⟩ : ∃ v j, w = v ++ [j] := ⟨w.dropLast, w.getLast hne, (List.dropLast_concat_getLast hne).symm⟩
    have hvl : v.length = k := by simpa using hl
    have hv : Ltr N v := fun y hy => hw y (List.mem_append_left _ hy)
    have hs := runS_in g v 0 hv (Int.le_refl _) (by have := g.m0; omega)
    rw [runS_app] at hr
    refine ⟨(runS a.next 0 v).toNat, j, ⟨v, hvl, ?_, hv, by omega⟩, hw j (by simp), ?_⟩
    · cases v with
      | nil => simp at hvl; omega
      | cons y t => exact h0
    · rw [Int.toNat_of_nonneg hs.1]; exact hr
  · rintro ⟨s, j, ⟨v, hvl, h0, hv, hr⟩, hj, hx⟩
    refine ⟨v ++ [j], by rw [List.length_append, hvl]; rfl, ?_, ltr_app hv (ltr_one hj), ?_⟩
    · cases v with
      | nil => simp at hvl; omega
      | cons y t => exact h0
    · rw [runS_app, hr]; exact hx
theorem long_iff : LongW a N ↔ ∃ k s : Nat, m + 1 ≤ k ∧ k ≤ 2 * m + 1 ∧ Rk a N k s ∧ endOf a.ends ((s : Nat) : Int) = true := by
  have hl := g.rows.len
  constructor
  · rintro ⟨x, u, hx, hw, hL, h1, h2⟩
    have hs := runS_in g (x :: u) 0 hw (Int.le_refl _) (by have := g.m0; omega)
    exact ⟨(x :: u).length, (runS a.next 0 (x :: u)).toNat, by omega, by omega, ⟨x :: u, rfl, hx, hw, by omega⟩, by rw [Int.toNat_of_nonneg hs.1]; exact hL⟩
  · rintro ⟨k, s, h1, h2, ⟨w, hlk, h0, hw, hr⟩, he⟩
    cases w with
    | nil => simp at h0
    | cons x u => exact ⟨x, u, h0, hw, by unfold lang; rw [hr]; exact he, by omega, by omega⟩
end
/-- What is flagged behind the first letters, and behind some states' letters. -/
def A1 (a : GAuto) (m : Nat) (H : List Bool) (l : Nat) : Prop := H.length = m ∧ ∀ x, fl H x = true ↔ ∃ j, 1 ≤ j ∧ j < l ∧ nx a.next 0 j = ((x : Nat) : Int)
def A2 (a : GAuto) (N m : Nat) (H K : List Bool) (s l : Nat) : Prop := K.length = m ∧ ∀ x, fl K x = true ↔ ∃ s' j, fl H s' = true ∧ j < N ∧ (s' < s ∨ s' = s ∧ j < l) ∧ nx a.next ((s' : Nat) : Int) j = ((x : Nat) : Int)
theorem A1.start (a : GAuto) (m : Nat) : A1 a m (List.replicate m false) 1 := ⟨by simp, fun x => ⟨fun h => absurd h (fl_rep m x), fun ⟨j, h1, h2, _⟩ => by omega⟩⟩
theorem A1.step {a : GAuto} {m : Nat} {H : List Bool} {l : Nat} (h : A1 a m H l) (hl : 1 ≤ l) {t : Int} (ht : nx a.next 0 l = t) (t0 : 0 ≤ t) (tm : t < (m : Int)) : A1 a m (H.set t.toNat true) (l + 1) := by
  have h1 := h.1
  refine ⟨by rw [List.length_set]; exact h.1, fun x => ?_⟩
  rw [fl_set (by omega), h.2]
  constructor
  · rintro (rfl | ⟨j, a1, a2, a3⟩)
    · exact ⟨l, hl, Nat.lt_succ_self _, by rw [ht]; omega⟩
    · exact ⟨j, a1, by omega, a3⟩
  · rintro ⟨j, a1, a2, a3⟩
    by_cases e : j = l
    · subst e; left; rw [ht] at a3; omega
    · exact .inr ⟨j, a1, by omega, a3⟩
theorem A2.start (a : GAuto) (N m : Nat) (H : List Bool) : A2 a N m H (List.replicate m false) 0 0 := ⟨by simp, fun x => ⟨fun h => absurd h (fl_rep m x), fun ⟨s, j, _, _, h2, _⟩ => by omega⟩⟩
theorem A2.step {a : GAuto} {N m : Nat} {H K : List Bool} {s l : Nat} (h : A2 a N m H K s l) (hs : fl H s = true) (hl : l < N) {t : Int} (ht : nx a.next ((s : Nat) : Int) l = t) (t0 : 0 ≤ t) (tm : t < (m : Int)) : A2 a N m H (K.set t.toNat true) s (l + 1) := by
  have h1 := h.1
  refine ⟨by rw [List.length_set]; exact h.1, fun x => ?_⟩
  rw [fl_set (by omega), h.2]
  constructor
  · rintro (rfl | ⟨s', j, a1, a2, a3, a4⟩)
    · exact ⟨s, l, hs, hl, .inr ⟨rfl, Nat.lt_succ_self _⟩, by rw [ht]; omega⟩
    · exact ⟨s', j, a1, a2, by omega, a4⟩
  · rintro ⟨s', j, a1, a2, a3, a4⟩
    by_cases e : s' = s ∧ j = l
    · obtain ⟨rfl, rfl⟩ := e
      left; rw [ht] at a4; omega
    · exact .inr ⟨s', j, a1, a2, by omega, a4⟩
theorem A2.next {a : GAuto} {N m : Nat} {H K : List Bool} {s l : Nat} (h : A2 a N m H K s l) (he : fl H s = false ∨ l = N) : A2 a N m H K (s + 1) 0 := by
  refine ⟨h.1, fun x => ?_⟩
  rw [h.2]
  constructor
  · rintro ⟨s', j, a1, a2, a3, a4⟩
    exact ⟨s', j, a1, a2, by omega, a4⟩
  · rintro ⟨s', j, a1, a2, a3, a4⟩
    refine ⟨s', j, a1, a2, ?_, a4⟩
    by_cases e : s' = s
    · subst e
      rcases he with q | q
      · rw [q] at a1; cases a1
      · right; exact ⟨rfl, by omega⟩
    · left; omega
theorem A2.done {a : GAuto} {N m : Nat} (g : Good a N m) {H K : List Bool} {k : Nat} (h : A2 a N m H K m 0) (hk : 0 < k) (hH : H.length = m) (hR : ∀ x, fl H x = true ↔ Rk a N k x) (x : Nat) : fl K x = true ↔ Rk a N (k + 1) x := by
  rw [h.2, Rk_succ g hk]
  constructor
  · rintro ⟨s', j, a1, a2, _, a4⟩
    exact ⟨s', j, (hR s').1 a1, a2, a4⟩
  · rintro ⟨s', j, a1, a2, a4⟩
    exact ⟨s', j, (hR s').2 a1, a2, .inl (Rk_lt g a1), a4⟩
section
variable {G : World → Prop} (hG : Lasting G)
include hG
set_option maxHeartbeats 16000000 in
set_option maxRecDepth 100000 in
theorem FiniteOf_ref {a : GAuto} (hf : autoFault a = 0) : Snd Tryd.prog G 10 [tAuto a] (.bool (finOf a)) := by
  have g := good_of hf
  have hfin := fin_iff hf
  obtain ⟨N, hN⟩ : ∃ N, (manyOf a.base a.tracks).toNat = N := ⟨_, rfl⟩
  rw [hN] at g hfin
  obtain ⟨m, hm⟩ : ∃ m, a.next.length = m := ⟨_, rfl⟩
  rw [hm] at g
  rw [long_iff g] at hfin
  obtain ⟨r, hr⟩ : ∃ r, finOf a = r := ⟨_, rfl⟩
  rw [hr] at hfin ⊢
  have hm0 := g.m0
  have hN0 := g.n0
  have hm80 := g.m80
  have hN36 := g.n36
  have hmE := g.ends
  refine snd_of_body (n := 97) (tm := [(0, .t (tAuto a))]) (rs := [.tmp 2]) tt_ok Tryd.func10 rfl rfl rfl rfl rfl ?_
  have htb : Tab.ok Tryd.prog G [] := Tab.nil
  obtain ⟨row, hrow⟩ : ∃ row, a.next[0]! = row := ⟨_, rfl⟩
  have hrowl := g.rows.row row (bang_mem hrow (by omega))
  have hro : rowOf a.next 0 = row := by unfold rowOf; exact bang_D hrow (by show 0 < _; omega)
  repeat' (first | (with_reducible first | apply w1 | apply w2 | apply w3 | apply w4 | apply w5 | apply w6 | apply w7 | apply w8 | apply w9 | apply wa | apply wb | apply wc) | ((with_reducible apply wd); focus decide) | ((with_reducible apply we); focus exact rfl) | ((with_reducible apply wf); focus exact rfl) | ((first | (with_reducible apply SW_run tt_ok hG htb) | ((with_reducible apply SW_draw rfl tt_ok hG htb); (focus kernel_rfl); focus simp only [List.range, List.range.loop, List.size_toArray, List.length_cons, List.length_nil, Nat.reduceAdd])); focus ((repeat' (first | (with_reducible first | exact wg | exact wh) | ((with_reducible first | apply wi | apply wj); focus (simp (discharger := omega) only [go_sem, tAuto, hm, simprocAttr]; with_reducible rfl)))); done)))
  refine SW_loop (fun mm st => ∃ (l : Nat) (H : List Bool) (rh : List T), mm = N - l ∧ st = ⟨97, [(1, .bptr 0 0), (3, .t (tNat m)), (4, .sref 1), (5, .t (tNat l))], [.box [.t (tInt a.base), .t (tInt a.tracks), .t (tIntss a.next), .t (tBools a.ends)], .row 4 1 true rh]⟩ ∧ rh = H.map T.bool ∧ 1 ≤ l ∧ l ≤ N ∧ A1 a m H l) (N - 1)
    ⟨_, Norm.headS (own := []) (keep := [1, 3, 4, 5]) (by refine ⟨?_, ?_⟩; (simp (discharger := omega) only [go_sem, simprocAttr]; with_reducible rfl); refine ⟨?_, ?_, ?_, ?_⟩ <;> (simp only [go_sem, simprocAttr]; with_reducible rfl)), 1, List.replicate m false, _, rfl, rfl, by simp, Nat.le_refl _, hN0, A1.start a m⟩ ?_
  rintro mm st ⟨l, H, rh, rfl, rfl, hrh, hl1, hl, hA⟩
  have hHl := hA.1
  by_cases hlN : l < N
  · obtain ⟨t, ht⟩ : ∃ t, row[l]! = t := ⟨_, rfl⟩
    have htD : nx a.next 0 l = t := by unfold nx; rw [hro]; exact bang_D ht (by omega)
    have hts := nx_ok g.rows (s := 0) ⟨Int.le_refl _, by omega⟩ hlN
    rw [htD] at hts
    obtain ⟨u, hu⟩ : ∃ u, H[t.toNat]! = u := ⟨_, rfl⟩
    subst hrh
    repeat' (first | (with_reducible first | apply w1 | apply w2 | apply w3 | apply w4 | apply w5 | apply w6 | apply w7 | apply w8 | apply w9 | apply wa | apply wb | apply wc) | ((with_reducible apply wd); focus decide) | ((with_reducible apply we); focus exact rfl) | ((with_reducible apply wf); focus exact rfl) | ((first | (with_reducible apply SW_run tt_ok hG htb) | ((with_reducible apply SW_draw rfl tt_ok hG htb); (focus kernel_rfl); focus simp only [List.range, List.range.loop, List.size_toArray, List.length_cons, List.length_nil, Nat.reduceAdd])); focus ((repeat' (first | (with_reducible first | exact wg | exact wh) | ((with_reducible first | apply wi | apply wj); focus (simp (discharger := omega) only [go_sem, hrow, ht, hu, List.length_set, simprocAttr]; with_reducible rfl)))); done)))
    exact ⟨N - (l + 1), _, by omega, Norm.headS (own := []) (keep := [1, 3, 4, 5]) (by refine ⟨?_, ?_⟩; (simp (discharger := omega) only [go_sem, simprocAttr]; with_reducible rfl); refine ⟨?_, ?_, ?_, ?_⟩ <;> (simp only [go_sem, simprocAttr]; with_reducible rfl)), l + 1, H.set t.toNat true, _, rfl, rfl, by rw [List.map_set], by omega, by omega, hA.step hl1 htD hts.1 hts.2⟩
  have hlen : l = N := by omega
  rw [hlen] at hA
  have hR1 : ∀ x, fl H x = true ↔ Rk a N 1 x := fun x => by rw [hA.2, Rk_one g]
  repeat' (first | (with_reducible first | apply w1 | apply w2 | apply w3 | apply w4 | apply w5 | apply w6 | apply w7 | apply w8 | apply w9 | apply wa | apply wb | apply wc) | ((with_reducible apply wd); focus decide) | ((with_reducible apply we); focus exact rfl) | ((with_reducible apply wf); focus exact rfl) | ((first | (with_reducible apply SW_run tt_ok hG htb) | ((with_reducible apply SW_draw rfl tt_ok hG htb); (focus kernel_rfl); focus simp only [List.range, List.range.loop, List.size_toArray, List.length_cons, List.length_nil, Nat.reduceAdd])); focus ((repeat' (first | (with_reducible first | exact wg | exact wh) | ((with_reducible first | apply wi | apply wj); focus (simp (discharger := omega) only [go_sem, hrow, simprocAttr]; with_reducible rfl)))); done)))
  refine SW_loop (fun mm st => ∃ (k : Nat) (H : List Bool) (rh : List T), mm = 2 * m + 2 - k ∧ st = ⟨97, [(1, .bptr 0 0), (3, .t (tNat m)), (4, .sref 1), (6, .t (tNat k))], [.box [.t (tInt a.base), .t (tInt a.tracks), .t (tIntss a.next), .t (tBools a.ends)], .row 4 1 true rh]⟩ ∧ rh = H.map T.bool ∧ 1 ≤ k ∧ k ≤ 2 * m + 2 ∧ H.length = m ∧ (∀ x, fl H x = true ↔ Rk a N k x) ∧ ∀ k' s : Nat, m + 1 ≤ k' → k' < k → Rk a N k' s → endOf a.ends ((s : Nat) : Int) = false) (2 * m + 1)
    ⟨_, Norm.headS (own := []) (keep := [1, 3, 4, 6]) (by refine ⟨?_, ?_⟩; (simp (discharger := omega) only [go_sem, simprocAttr]; with_reducible rfl); refine ⟨?_, ?_, ?_, ?_⟩ <;> (simp only [go_sem, simprocAttr]; with_reducible rfl)), 1, H, rh, by omega, rfl, hrh, Nat.le_refl _, by omega, hHl, hR1, fun k' s h1 h2 => by omega⟩ ?_
  clear hR1 hA hHl hrh hl1 hl hlN hlen H rh l
  rintro mm st ⟨k, H, rh, rfl, rfl, hrh, hk1, hk, hHl, hR, hno⟩
  by_cases hkm : k < 2 * m + 2
  rotate_left
  · have hrT : r = true := hfin.2 (by
      rintro ⟨k', s, h1, h2, h3, h4⟩
      rw [hno k' s h1 (by omega) h3] at h4; cases h4)
    rw [hrT]
    repeat' (first | (with_reducible first | apply w1 | apply w2 | apply w3 | apply w4 | apply w5 | apply w6 | apply w7 | apply w8 | apply w9 | apply wa | apply wb | apply wc) | ((with_reducible apply wd); focus decide) | ((with_reducible apply we); focus exact rfl) | ((with_reducible apply wf); focus exact rfl) | ((first | (with_reducible apply SW_run tt_ok hG htb) | ((with_reducible apply SW_draw rfl tt_ok hG htb); (focus kernel_rfl); focus simp only [List.range, List.range.loop, List.size_toArray, List.length_cons, List.length_nil, Nat.reduceAdd])); focus ((repeat' (first | (with_reducible first | exact wg | exact wh) | ((with_reducible first | apply wi | apply wj); focus (simp (discharger := omega) only [go_sem, simprocAttr]; with_reducible rfl)))); done)))
    exact (by simp (discharger := omega) only [go_sem, simprocAttr])
  repeat' (first | (with_reducible first | apply w1 | apply w2 | apply w3 | apply w4 | apply w5 | apply w6 | apply w7 | apply w8 | apply w9 | apply wa | apply wb | apply wc) | ((with_reducible apply wd); focus decide) | ((with_reducible apply we); focus exact rfl) | ((with_reducible apply wf); focus exact rfl) | ((first | (with_reducible apply SW_run tt_ok hG htb) | ((with_reducible apply SW_draw rfl tt_ok hG htb); (focus kernel_rfl); focus simp only [List.range, List.range.loop, List.size_toArray, List.length_cons, List.length_nil, Nat.reduceAdd])); focus ((repeat' (first | (with_reducible first | exact wg | exact wh) | ((with_reducible first | apply wi | apply wj); focus (simp (discharger := omega) only [go_sem, simprocAttr]; with_reducible rfl)))); done)))
  refine SW_loop (fun mm st => ∃ s : Nat, mm = m - s ∧ st = ⟨97, [(1, .bptr 0 0), (3, .t (tNat m)), (4, .sref 1), (6, .t (tNat k)), (7, .t (tNat s))], [.box [.t (tInt a.base), .t (tInt a.tracks), .t (tIntss a.next), .t (tBools a.ends)], .row 4 1 true rh]⟩ ∧ s ≤ m ∧ (m + 1 ≤ k → ∀ s' : Nat, s' < s → Rk a N k s' → endOf a.ends ((s' : Nat) : Int) = false)) m
    ⟨_, Norm.headS (own := []) (keep := [1, 3, 4, 6, 7]) (by refine ⟨?_, ?_⟩; (simp (discharger := omega) only [go_sem, simprocAttr]; with_reducible rfl); refine ⟨?_, ?_, ?_, ?_⟩ <;> (simp only [go_sem, simprocAttr]; with_reducible rfl)), 0, rfl, rfl, Nat.zero_le _, fun _ s' h => by omega⟩ ?_
  rintro mm st ⟨s, rfl, rfl, hs, hchk⟩
  by_cases hsm : s < m
  · obtain ⟨q, hq⟩ : ∃ q, H[s]! = q := ⟨_, rfl⟩
    obtain ⟨e, he⟩ : ∃ e, a.ends[s]! = e := ⟨_, rfl⟩
    have hqf : fl H s = q := fl_at hq (by omega)
    have hee : endOf a.ends ((s : Nat) : Int) = e := by unfold endOf; exact bang_D he (by show s < _; omega)
    have hgo : ((m + 1 ≤ k → q = true → e = false)) → (m + 1 ≤ k → ∀ s' : Nat, s' < s + 1 → Rk a N k s' → endOf a.ends ((s' : Nat) : Int) = false) := fun h hk s' hs' hr' => by
      by_cases e1 : s' = s
      · subst e1
        rw [hee]; exact h hk (by rw [← hqf]; exact (hR _).2 hr')
      · exact hchk hk s' (by omega) hr'
    subst hrh
    by_cases hkb : m + 1 ≤ k
    · cases q with
      | false =>
        repeat' (first | (with_reducible first | apply w1 | apply w2 | apply w3 | apply w4 | apply w5 | apply w6 | apply w7 | apply w8 | apply w9 | apply wa | apply wb | apply wc) | ((with_reducible apply wd); focus decide) | ((with_reducible apply we); focus exact rfl) | ((with_reducible apply wf); focus exact rfl) | ((first | (with_reducible apply SW_run tt_ok hG htb) | ((with_reducible apply SW_draw rfl tt_ok hG htb); (focus kernel_rfl); focus simp only [List.range, List.range.loop, List.size_toArray, List.length_cons, List.length_nil, Nat.reduceAdd])); focus ((repeat' (first | (with_reducible first | exact wg | exact wh) | ((with_reducible first | apply wi | apply wj); focus (simp (discharger := omega) only [go_sem, hq, simprocAttr]; with_reducible rfl)))); done)))
        exact ⟨m - (s + 1), _, by omega, Norm.headS (own := []) (keep := [1, 3, 4, 6, 7]) (by refine ⟨?_, ?_⟩; (simp (discharger := omega) only [go_sem, simprocAttr]; with_reducible rfl); refine ⟨?_, ?_, ?_, ?_⟩ <;> (simp only [go_sem, simprocAttr]; with_reducible rfl)), s + 1, rfl, rfl, by omega, hgo fun _ h => by cases h⟩
      | true =>
        cases e with
        | false =>
          repeat' (first | (with_reducible first | apply w1 | apply w2 | apply w3 | apply w4 | apply w5 | apply w6 | apply w7 | apply w8 | apply w9 | apply wa | apply wb | apply wc) | ((with_reducible apply wd); focus decide) | ((with_reducible apply we); focus exact rfl) | ((with_reducible apply wf); focus exact rfl) | ((first | (with_reducible apply SW_run tt_ok hG htb) | ((with_reducible apply SW_draw rfl tt_ok hG htb); (focus kernel_rfl); focus simp only [List.range, List.range.loop, List.size_toArray, List.length_cons, List.length_nil, Nat.reduceAdd])); focus ((repeat' (first | (with_reducible first | exact wg | exact wh) | ((with_reducible first | apply wi | apply wj); focus (simp (discharger := omega) only [go_sem, hq, he, simprocAttr]; with_reducible rfl)))); done)))
          exact ⟨m - (s + 1), _, by omega, Norm.headS (own := []) (keep := [1, 3, 4, 6, 7]) (by refine ⟨?_, ?_⟩; (simp (discharger := omega) only [go_sem, simprocAttr]; with_reducible rfl); refine ⟨?_, ?_, ?_, ?_⟩ <;> (simp only [go_sem, simprocAttr]; with_reducible rfl)), s + 1, rfl, rfl, by omega, hgo fun _ _ => rfl⟩
        | true =>
          have hrF : r = false := by
            rw [Bool.eq_false_iff]
            intro h
            exact hfin.1 h ⟨k, s, hkb, by omega, (hR s).1 hqf, hee⟩
          rw [hrF]
          repeat' (first | (with_reducible first | apply w1 | apply w2 | apply w3 | apply w4 | apply w5 | apply w6 | apply w7 | apply w8 | apply w9 | apply wa | apply wb | apply wc) | ((with_reducible apply wd); focus decide) | ((with_reducible apply we); focus exact rfl) | ((with_reducible apply wf); focus exact rfl) | ((first | (with_reducible apply SW_run tt_ok hG htb) | ((with_reducible apply SW_draw rfl tt_ok hG htb); (focus kernel_rfl); focus simp only [List.range, List.range.loop, List.size_toArray, List.length_cons, List.length_nil, Nat.reduceAdd])); focus ((repeat' (first | (with_reducible first | exact wg | exact wh) | ((with_reducible first | apply wi | apply wj); focus (simp (discharger := omega) only [go_sem, hq, he, simprocAttr]; with_reducible rfl)))); done)))
          exact (by simp (discharger := omega) only [go_sem, simprocAttr])
    · repeat' (first | (with_reducible first | apply w1 | apply w2 | apply w3 | apply w4 | apply w5 | apply w6 | apply w7 | apply w8 | apply w9 | apply wa | apply wb | apply wc) | ((with_reducible apply wd); focus decide) | ((with_reducible apply we); focus exact rfl) | ((with_reducible apply wf); focus exact rfl) | ((first | (with_reducible apply SW_run tt_ok hG htb) | ((with_reducible apply SW_draw rfl tt_ok hG htb); (focus kernel_rfl); focus simp only [List.range, List.range.loop, List.size_toArray, List.length_cons, List.length_nil, Nat.reduceAdd])); focus ((repeat' (first | (with_reducible first | exact wg | exact wh) | ((with_reducible first | apply wi | apply wj); focus (simp (discharger := omega) only [go_sem, simprocAttr]; with_reducible rfl)))); done)))
      exact ⟨m - (s + 1), _, by omega, Norm.headS (own := []) (keep := [1, 3, 4, 6, 7]) (by refine ⟨?_, ?_⟩; (simp (discharger := omega) only [go_sem, simprocAttr]; with_reducible rfl); refine ⟨?_, ?_, ?_, ?_⟩ <;> (simp only [go_sem, simprocAttr]; with_reducible rfl)), s + 1, rfl, rfl, by omega, hgo fun h => absurd h hkb⟩
  have hno2 : ∀ k' s : Nat, m + 1 ≤ k' → k' < k + 1 → Rk a N k' s → endOf a.ends ((s : Nat) : Int) = false := fun k' s' h1 h2 h3 => by
    by_cases e : k' = k
    · subst e
      exact hchk h1 s' (by have := Rk_lt g h3; omega) h3
    · exact hno k' s' h1 (by omega) h3
  clear hchk hno
  repeat' (first | (with_reducible first | apply w1 | apply w2 | apply w3 | apply w4 | apply w5 | apply w6 | apply w7 | apply w8 | apply w9 | apply wa | apply wb | apply wc) | ((with_reducible apply wd); focus decide) | ((with_reducible apply we); focus exact rfl) | ((with_reducible apply wf); focus exact rfl) | ((first | (with_reducible apply SW_run tt_ok hG htb) | ((with_reducible apply SW_draw rfl tt_ok hG htb); (focus kernel_rfl); focus simp only [List.range, List.range.loop, List.size_toArray, List.length_cons, List.length_nil, Nat.reduceAdd])); focus ((repeat' (first | (with_reducible first | exact wg | exact wh) | ((with_reducible first | apply wi | apply wj); focus (simp (discharger := omega) only [go_sem, simprocAttr]; with_reducible rfl)))); done)))
  refine SW_loop (fun mm st => ∃ (s : Nat) (K : List Bool) (rk : List T), mm = m - s ∧ st = ⟨97, [(1, .bptr 0 0), (3, .t (tNat m)), (4, .sref 1), (6, .t (tNat k)), (8, .sref 2), (9, .t (tNat s))], [.box [.t (tInt a.base), .t (tInt a.tracks), .t (tIntss a.next), .t (tBools a.ends)], .row 4 1 true rh, .row 4 1 true rk]⟩ ∧ rk = K.map T.bool ∧ s ≤ m ∧ A2 a N m H K s 0) m
    ⟨_, Norm.headS (own := []) (keep := [1, 3, 4, 6, 8, 9]) (by refine ⟨?_, ?_⟩; (simp (discharger := omega) only [go_sem, simprocAttr]; with_reducible rfl); refine ⟨?_, ?_, ?_, ?_⟩ <;> (simp only [go_sem, simprocAttr]; with_reducible rfl)), 0, List.replicate m false, _, rfl, rfl, by simp, Nat.zero_le _, A2.start a N m H⟩ ?_
  clear hs hsm s
  rintro mm st ⟨s, K, rk, rfl, rfl, hrk, hs, hA⟩
  by_cases hsm : s < m
  · obtain ⟨q, hq⟩ : ∃ q, H[s]! = q := ⟨_, rfl⟩
    have hqf : fl H s = q := fl_at hq (by omega)
    obtain ⟨rw1, hrw⟩ : ∃ r, a.next[s]! = r := ⟨_, rfl⟩
    have hrwl := g.rows.row rw1 (bang_mem hrw (by omega))
    have hrwo : rowOf a.next ((s : Nat) : Int) = rw1 := by unfold rowOf; exact bang_D hrw (by show s < _; omega)
    repeat' (first | (with_reducible first | apply w1 | apply w2 | apply w3 | apply w4 | apply w5 | apply w6 | apply w7 | apply w8 | apply w9 | apply wa | apply wb | apply wc) | ((with_reducible apply wd); focus decide) | ((with_reducible apply we); focus exact rfl) | ((with_reducible apply wf); focus exact rfl) | ((first | (with_reducible apply SW_run tt_ok hG htb) | ((with_reducible apply SW_draw rfl tt_ok hG htb); (focus kernel_rfl); focus simp only [List.range, List.range.loop, List.size_toArray, List.length_cons, List.length_nil, Nat.reduceAdd])); focus ((repeat' (first | (with_reducible first | exact wg | exact wh) | ((with_reducible first | apply wi | apply wj); focus (simp (discharger := omega) only [go_sem, simprocAttr]; with_reducible rfl)))); done)))
    refine SW_loop (fun mm st => ∃ (l : Nat) (K : List Bool) (rk : List T), mm = N - l ∧ st = ⟨97, [(1, .bptr 0 0), (3, .t (tNat m)), (4, .sref 1), (6, .t (tNat k)), (8, .sref 2), (9, .t (tNat s)), (10, .t (tNat l))], [.box [.t (tInt a.base), .t (tInt a.tracks), .t (tIntss a.next), .t (tBools a.ends)], .row 4 1 true rh, .row 4 1 true rk]⟩ ∧ rk = K.map T.bool ∧ l ≤ N ∧ A2 a N m H K s l) N
      ⟨_, Norm.headS (own := []) (keep := [1, 3, 4, 6, 8, 9, 10]) (by refine ⟨?_, ?_⟩; (simp (discharger := omega) only [go_sem, simprocAttr]; with_reducible rfl); refine ⟨?_, ?_, ?_, ?_⟩ <;> (simp only [go_sem, simprocAttr]; with_reducible rfl)), 0, K, rk, rfl, rfl, hrk, Nat.zero_le _, hA⟩ ?_
    clear hA hrk K rk
    rintro mm st ⟨l, K, rk, rfl, rfl, hrk, hl, hA⟩
    have hKl := hA.1
    cases q with
    | false =>
      subst hrh
      repeat' (first | (with_reducible first | apply w1 | apply w2 | apply w3 | apply w4 | apply w5 | apply w6 | apply w7 | apply w8 | apply w9 | apply wa | apply wb | apply wc) | ((with_reducible apply wd); focus decide) | ((with_reducible apply we); focus exact rfl) | ((with_reducible apply wf); focus exact rfl) | ((first | (with_reducible apply SW_run tt_ok hG htb) | ((with_reducible apply SW_draw rfl tt_ok hG htb); (focus kernel_rfl); focus simp only [List.range, List.range.loop, List.size_toArray, List.length_cons, List.length_nil, Nat.reduceAdd])); focus ((repeat' (first | (with_reducible first | exact wg | exact wh) | ((with_reducible first | apply wi | apply wj); focus (simp (discharger := omega) only [go_sem, hq, simprocAttr]; with_reducible rfl)))); done)))
      exact ⟨m - (s + 1), _, by omega, Norm.headS (own := []) (keep := [1, 3, 4, 6, 8, 9]) (by refine ⟨?_, ?_⟩; (simp (discharger := omega) only [go_sem, simprocAttr]; with_reducible rfl); refine ⟨?_, ?_, ?_, ?_⟩ <;> (simp only [go_sem, simprocAttr]; with_reducible rfl)), s + 1, K, rk, rfl, rfl, hrk, by omega, hA.next (.inl hqf)⟩
    | true =>
      by_cases hlN : l < N
      · obtain ⟨t, ht⟩ : ∃ t, rw1[l]! = t := ⟨_, rfl⟩
        have htD : nx a.next ((s : Nat) : Int) l = t := by unfold nx; rw [hrwo]; exact bang_D ht (by omega)
        have hts := nx_ok g.rows (s := ((s : Nat) : Int)) ⟨by omega, by omega⟩ hlN
        rw [htD] at hts
        obtain ⟨u, hu⟩ : ∃ u, K[t.toNat]! = u := ⟨_, rfl⟩
        subst hrk hrh
        repeat' (first | (with_reducible first | apply w1 | apply w2 | apply w3 | apply w4 | apply w5 | apply w6 | apply w7 | apply w8 | apply w9 | apply wa | apply wb | apply wc) | ((with_reducible apply wd); focus decide) | ((with_reducible apply we); focus exact rfl) | ((with_reducible apply wf); focus exact rfl) | ((first | (with_reducible apply SW_run tt_ok hG htb) | ((with_reducible apply SW_draw rfl tt_ok hG htb); (focus kernel_rfl); focus simp only [List.range, List.range.loop, List.size_toArray, List.length_cons, List.length_nil, Nat.reduceAdd])); focus ((repeat' (first | (with_reducible first | exact wg | exact wh) | ((with_reducible first | apply wi | apply wj); focus (simp (discharger := omega) only [go_sem, hq, hrw, ht, hu, List.length_set, simprocAttr]; with_reducible rfl)))); done)))
        exact ⟨N - (l + 1), _, by omega, Norm.headS (own := []) (keep := [1, 3, 4, 6, 8, 9, 10]) (by refine ⟨?_, ?_⟩; (simp (discharger := omega) only [go_sem, simprocAttr]; with_reducible rfl); refine ⟨?_, ?_, ?_, ?_⟩ <;> (simp only [go_sem, simprocAttr]; with_reducible rfl)), l + 1, K.set t.toNat true, _, rfl, rfl, by rw [List.map_set], by omega, hA.step hqf hlN htD hts.1 hts.2⟩
      · subst hrh
        repeat' (first | (with_reducible first | apply w1 | apply w2 | apply w3 | apply w4 | apply w5 | apply w6 | apply w7 | apply w8 | apply w9 | apply wa | apply wb | apply wc) | ((with_reducible apply wd); focus decide) | ((with_reducible apply we); focus exact rfl) | ((with_reducible apply wf); focus exact rfl) | ((first | (with_reducible apply SW_run tt_ok hG htb) | ((with_reducible apply SW_draw rfl tt_ok hG htb); (focus kernel_rfl); focus simp only [List.range, List.range.loop, List.size_toArray, List.length_cons, List.length_nil, Nat.reduceAdd])); focus ((repeat' (first | (with_reducible first | exact wg | exact wh) | ((with_reducible first | apply wi | apply wj); focus (simp (discharger := omega) only [go_sem, hq, hrw, simprocAttr]; with_reducible rfl)))); done)))
        exact ⟨m - (s + 1), _, by omega, Norm.headS (own := []) (keep := [1, 3, 4, 6, 8, 9]) (by refine ⟨?_, ?_⟩; (simp (discharger := omega) only [go_sem, simprocAttr]; with_reducible rfl); refine ⟨?_, ?_, ?_, ?_⟩ <;> (simp only [go_sem, simprocAttr]; with_reducible rfl)), s + 1, K, rk, rfl, rfl, hrk, by omega, hA.next (.inr (by omega))⟩
  have hsm2 : s = m := by omega
  rw [hsm2] at hA
  repeat' (first | (with_reducible first | apply w1 | apply w2 | apply w3 | apply w4 | apply w5 | apply w6 | apply w7 | apply w8 | apply w9 | apply wa | apply wb | apply wc) | ((with_reducible apply wd); focus decide) | ((with_reducible apply we); focus exact rfl) | ((with_reducible apply wf); focus exact rfl) | ((first | (with_reducible apply SW_run tt_ok hG htb) | ((with_reducible apply SW_draw rfl tt_ok hG htb); (focus kernel_rfl); focus simp only [List.range, List.range.loop, List.size_toArray, List.length_cons, List.length_nil, Nat.reduceAdd])); focus ((repeat' (first | (with_reducible first | exact wg | exact wh) | ((with_reducible first | apply wi | apply wj); focus (simp (discharger := omega) only [go_sem, simprocAttr]; with_reducible rfl)))); done)))
  exact ⟨2 * m + 2 - (k + 1), _, by omega, Norm.headS (own := []) (keep := [1, 3, 4, 6]) (by refine ⟨?_, ?_⟩; (simp (discharger := omega) only [go_sem, simprocAttr]; with_reducible rfl); refine ⟨?_, ?_, ?_, ?_⟩ <;> (simp only [go_sem, simprocAttr]; with_reducible rfl)), k + 1, K, rk, rfl, rfl, hrk, by omega, by omega, hA.1, hA.done g (by omega) hHl hR, hno2⟩
end
end Go.Proofs.YtjidhaendndokaaDoor
namespace Go.Proofs.YtjidhaendndokaaDoor
open Go.RowKit

section
variable {G : World → Prop} (hG : Lasting G)
include hG
theorem RRadix_snd (base : Int) : Snd Tryd.prog G 36 [tInt base] (tInt (radix base)) := by
  have htb : Tab.ok Tryd.prog G [] := Tab.nil
  refine snd_of_body (n := 12) (tm := [(0, .t (tInt base))]) (rs := [.tmp 2]) tt_ok Tryd.func36 rfl rfl rfl rfl rfl ?_
  unfold radix
  by_cases h1 : base = 1
  · repeat' (first | (with_reducible first | apply w1 | apply w2 | apply w3 | apply w4 | apply w5 | apply w6 | apply w7 | apply w8 | apply w9 | apply wa | apply wb | apply wc) | ((with_reducible apply wd); focus decide) | ((with_reducible apply we); focus exact rfl) | ((with_reducible apply wf); focus exact rfl) | ((first | (with_reducible apply SW_run tt_ok hG htb) | ((with_reducible apply SW_draw rfl tt_ok hG htb); (focus kernel_rfl); focus simp only [List.range, List.range.loop, List.size_toArray, List.length_cons, List.length_nil, Nat.reduceAdd])); focus ((repeat' (first | (with_reducible first | exact wg | exact wh) | ((with_reducible first | apply wi | apply wj); focus (simp (discharger := omega) only [go_sem, h1, simprocAttr]; with_reducible rfl)))); done)))
    exact (by simp (discharger := omega) only [go_sem, h1, simprocAttr])
  · by_cases h2 : 2 ≤ base
    · by_cases h3 : base ≤ 6
      · repeat' (first | (with_reducible first | apply w1 | apply w2 | apply w3 | apply w4 | apply w5 | apply w6 | apply w7 | apply w8 | apply w9 | apply wa | apply wb | apply wc) | ((with_reducible apply wd); focus decide) | ((with_reducible apply we); focus exact rfl) | ((with_reducible apply wf); focus exact rfl) | ((first | (with_reducible apply SW_run tt_ok hG htb) | ((with_reducible apply SW_draw rfl tt_ok hG htb); (focus kernel_rfl); focus simp only [List.range, List.range.loop, List.size_toArray, List.length_cons, List.length_nil, Nat.reduceAdd])); focus ((repeat' (first | (with_reducible first | exact wg | exact wh) | ((with_reducible first | apply wi | apply wj); focus (simp (discharger := omega) only [go_sem, simprocAttr]; with_reducible rfl)))); done)))
        exact (by simp (discharger := omega) only [go_sem, simprocAttr])
      · repeat' (first | (with_reducible first | apply w1 | apply w2 | apply w3 | apply w4 | apply w5 | apply w6 | apply w7 | apply w8 | apply w9 | apply wa | apply wb | apply wc) | ((with_reducible apply wd); focus decide) | ((with_reducible apply we); focus exact rfl) | ((with_reducible apply wf); focus exact rfl) | ((first | (with_reducible apply SW_run tt_ok hG htb) | ((with_reducible apply SW_draw rfl tt_ok hG htb); (focus kernel_rfl); focus simp only [List.range, List.range.loop, List.size_toArray, List.length_cons, List.length_nil, Nat.reduceAdd])); focus ((repeat' (first | (with_reducible first | exact wg | exact wh) | ((with_reducible first | apply wi | apply wj); focus (simp (discharger := omega) only [go_sem, simprocAttr]; with_reducible rfl)))); done)))
        exact (by simp (discharger := omega) only [go_sem, simprocAttr])
    · repeat' (first | (with_reducible first | apply w1 | apply w2 | apply w3 | apply w4 | apply w5 | apply w6 | apply w7 | apply w8 | apply w9 | apply wa | apply wb | apply wc) | ((with_reducible apply wd); focus decide) | ((with_reducible apply we); focus exact rfl) | ((with_reducible apply wf); focus exact rfl) | ((first | (with_reducible apply SW_run tt_ok hG htb) | ((with_reducible apply SW_draw rfl tt_ok hG htb); (focus kernel_rfl); focus simp only [List.range, List.range.loop, List.size_toArray, List.length_cons, List.length_nil, Nat.reduceAdd])); focus ((repeat' (first | (with_reducible first | exact wg | exact wh) | ((with_reducible first | apply wi | apply wj); focus (simp (discharger := omega) only [go_sem, simprocAttr]; with_reducible rfl)))); done)))
      exact (by simp (discharger := omega) only [go_sem, simprocAttr])
theorem RDigitOf_snd (base : Int) (t : Nat) (l : Int) (i : Nat) (hr : radix base ≠ 0) (ht : t ≤ 5) (hl0 : 0 ≤ l) (hl1 : l ≤ 7776) (hi : i < t) :
    Snd Tryd.prog G 41 [tInt base, tInt t, tInt l, tInt i] (tInt (digitAt (radix base) t l i)) := by
  have htb := Tab.cons (RRadix_snd hG base) Tab.nil
  refine snd_of_body (n := 26) (tm := [(0, .t (tInt base)), (1, .t (tInt t)), (2, .t (tInt l)), (3, .t (tInt i))]) (rs := [.tmp 8]) tt_ok Tryd.func41 rfl rfl rfl rfl rfl ?_
  obtain ⟨r2, r6⟩ := radix_two hr
  unfold digitAt
  generalize radix base = k at *
  repeat' (first | (with_reducible first | apply w1 | apply w2 | apply w3 | apply w4 | apply w5 | apply w6 | apply w7 | apply w8 | apply w9 | apply wa | apply wb | apply wc) | ((with_reducible apply wd); focus decide) | ((with_reducible apply we); focus exact rfl) | ((with_reducible apply wf); focus exact rfl) | ((first | (with_reducible apply SW_run tt_ok hG htb) | ((with_reducible apply SW_draw rfl tt_ok hG htb); (focus kernel_rfl); focus simp only [List.range, List.range.loop, List.size_toArray, List.length_cons, List.length_nil, Nat.reduceAdd])); focus ((repeat' (first | (with_reducible first | exact wg | exact wh) | ((with_reducible first | apply wi | apply wj); focus (simp (discharger := omega) only [go_sem, simprocAttr]; with_reducible rfl)))); done)))
  refine SW_loop (fun m s => ∃ (j : Nat) (q : Int), m = j ∧ s = ⟨26, [(2, .t (tInt q)), (3, .t (tInt i)), (9, .t (tInt k)), (10, .t (tInt (i + j : Nat)))], []⟩ ∧ i + j < t ∧ 0 ≤ q ∧ q ≤ 7776 ∧ (unpack k t l).getD i 0 = (unpack k (i + j + 1) q).getD i 0) (t - 1 - i) ⟨_, Norm.headS (own := []) (keep := [2, 3, 9, 10]) (by refine ⟨?_, ?_⟩; (simp (discharger := omega) only [go_sem, simprocAttr]; with_reducible rfl); refine ⟨?_, ?_, ?_, ?_⟩ <;> (simp only [go_sem, simprocAttr]; with_reducible rfl)), t - 1 - i, l, rfl, by rw [show i + (t - 1 - i) = t - 1 by omega, show ((t - 1 : Nat) : Int) = (t : Int) - 1 by omega]; rfl, by omega, hl0, hl1, by rw [show i + (t - 1 - i) + 1 = t by omega]⟩ ?_
  rintro m s ⟨j, q, rfl, rfl, hj, q0, q1, hU⟩
  have e1 : q.tmod k = q % k := Int.tmod_eq_emod_of_nonneg q0
  have e2 : q.tdiv k = q / k := Int.tdiv_eq_ediv_of_nonneg q0
  have q2 : 0 ≤ q % k := Int.emod_nonneg _ (by omega)
  have q3 : 0 ≤ q / k := Int.ediv_nonneg q0 (by omega)
  have q4 : q / k ≤ q := Int.ediv_le_self _ q0
  by_cases hlt : 0 < m
  · obtain ⟨j, rfl⟩ : ∃ j, m = j + 1 := ⟨m - 1, by omega⟩
    have e3 : ((i + (j + 1) : Nat) : Int) - 1 = ((i + j : Nat) : Int) := by omega
    repeat' (first | (with_reducible first | apply w1 | apply w2 | apply w3 | apply w4 | apply w5 | apply w6 | apply w7 | apply w8 | apply w9 | apply wa | apply wb | apply wc) | ((with_reducible apply wd); focus decide) | ((with_reducible apply we); focus exact rfl) | ((with_reducible apply wf); focus exact rfl) | ((first | (with_reducible apply SW_run tt_ok hG htb) | ((with_reducible apply SW_draw rfl tt_ok hG htb); (focus kernel_rfl); focus simp only [List.range, List.range.loop, List.size_toArray, List.length_cons, List.length_nil, Nat.reduceAdd])); focus ((repeat' (first | (with_reducible first | exact wg | exact wh) | ((with_reducible first | apply wi | apply wj); focus (simp (discharger := omega) only [go_sem, e2, e3, simprocAttr]; with_reducible rfl)))); done)))
    exact ⟨j, _, by omega, Norm.headS (own := []) (keep := [2, 3, 9, 10]) (by refine ⟨?_, ?_⟩; (simp (discharger := omega) only [go_sem, simprocAttr]; with_reducible rfl); refine ⟨?_, ?_, ?_, ?_⟩ <;> (simp only [go_sem, simprocAttr]; with_reducible rfl)), j, q / k, rfl, rfl, by omega, q3, by omega, by rw [hU]; exact unpack_pre k (i + j + 1) q i (by omega)⟩
  · obtain rfl : m = 0 := by omega
    rw [hU, Nat.add_zero, unpack_last]
    repeat' (first | (with_reducible first | apply w1 | apply w2 | apply w3 | apply w4 | apply w5 | apply w6 | apply w7 | apply w8 | apply w9 | apply wa | apply wb | apply wc) | ((with_reducible apply wd); focus decide) | ((with_reducible apply we); focus exact rfl) | ((with_reducible apply wf); focus exact rfl) | ((first | (with_reducible apply SW_run tt_ok hG htb) | ((with_reducible apply SW_draw rfl tt_ok hG htb); (focus kernel_rfl); focus simp only [List.range, List.range.loop, List.size_toArray, List.length_cons, List.length_nil, Nat.reduceAdd])); focus ((repeat' (first | (with_reducible first | exact wg | exact wh) | ((with_reducible first | apply wi | apply wj); focus (simp (discharger := omega) only [go_sem, e1, simprocAttr]; with_reducible rfl)))); done)))
    exact (by simp (discharger := omega) only [go_sem, simprocAttr])
end
end Go.Proofs.YtjidhaendndokaaDoor
namespace Go.Proofs.YtjidhaendndokaaDoor
open Go.RowKit

section
variable {G : World → Prop} (hG : Lasting G)
include hG
set_option maxHeartbeats 4000000 in
theorem RLetters_snd (base t : Int) : Snd Tryd.prog G 20 [tInt base, tInt t] (.tup [tInt (manyOf base t), tInt (manyErr base t)]) := by
  have htb := Tab.cons (RRadix_snd hG base) Tab.nil
  refine snd_of_body (n := 32) (tm := [(0, .t (tInt base)), (1, .t (tInt t))]) (rs := [.tmp 4, .tmp 5]) tt_ok Tryd.func20 rfl rfl rfl rfl rfl ?_
  unfold manyOf manyErr
  generalize hk : radix base = k at htb ⊢
  by_cases h1 : k = 0
  · subst h1
    repeat' (first | (with_reducible first | apply w1 | apply w2 | apply w3 | apply w4 | apply w5 | apply w6 | apply w7 | apply w8 | apply w9 | apply wa | apply wb | apply wc) | ((with_reducible apply wd); focus decide) | ((with_reducible apply we); focus exact rfl) | ((with_reducible apply wf); focus exact rfl) | ((first | (with_reducible apply SW_run tt_ok hG htb) | ((with_reducible apply SW_draw rfl tt_ok hG htb); (focus kernel_rfl); focus simp only [List.range, List.range.loop, List.size_toArray, List.length_cons, List.length_nil, Nat.reduceAdd])); focus ((repeat' (first | (with_reducible first | exact wg | exact wh) | ((with_reducible first | apply wi | apply wj); focus (simp (discharger := omega) only [go_sem, simprocAttr]; with_reducible rfl)))); done)))
    exact (by simp (discharger := omega) only [go_sem, simprocAttr])
  · by_cases h2 : t < 0
    · repeat' (first | (with_reducible first | apply w1 | apply w2 | apply w3 | apply w4 | apply w5 | apply w6 | apply w7 | apply w8 | apply w9 | apply wa | apply wb | apply wc) | ((with_reducible apply wd); focus decide) | ((with_reducible apply we); focus exact rfl) | ((with_reducible apply wf); focus exact rfl) | ((first | (with_reducible apply SW_run tt_ok hG htb) | ((with_reducible apply SW_draw rfl tt_ok hG htb); (focus kernel_rfl); focus simp only [List.range, List.range.loop, List.size_toArray, List.length_cons, List.length_nil, Nat.reduceAdd])); focus ((repeat' (first | (with_reducible first | exact wg | exact wh) | ((with_reducible first | apply wi | apply wj); focus (simp (discharger := omega) only [go_sem, simprocAttr]; with_reducible rfl)))); done)))
      exact (by simp (discharger := omega) only [go_sem, simprocAttr])
    · by_cases h3 : 5 < t
      · repeat' (first | (with_reducible first | apply w1 | apply w2 | apply w3 | apply w4 | apply w5 | apply w6 | apply w7 | apply w8 | apply w9 | apply wa | apply wb | apply wc) | ((with_reducible apply wd); focus decide) | ((with_reducible apply we); focus exact rfl) | ((with_reducible apply wf); focus exact rfl) | ((first | (with_reducible apply SW_run tt_ok hG htb) | ((with_reducible apply SW_draw rfl tt_ok hG htb); (focus kernel_rfl); focus simp only [List.range, List.range.loop, List.size_toArray, List.length_cons, List.length_nil, Nat.reduceAdd])); focus ((repeat' (first | (with_reducible first | exact wg | exact wh) | ((with_reducible first | apply wi | apply wj); focus (simp (discharger := omega) only [go_sem, simprocAttr]; with_reducible rfl)))); done)))
        exact (by simp (discharger := omega) only [go_sem, simprocAttr])
      · obtain ⟨r2, r6⟩ := radix_two (b := base) (by omega)
        rw [hk] at r2 r6
        obtain ⟨t, rfl⟩ := Int.eq_ofNat_of_zero_le (show 0 ≤ t by omega)
        rw [show (if k = 0 ∨ (t : Int) < 0 ∨ 5 < (t : Int) then (1 : Int) else if 36 < powW k (t : Int).toNat then 3 else 0) = if 36 < powW k t then 3 else 0 by rw [if_neg (by omega)]; rfl]
        repeat' (first | (with_reducible first | apply w1 | apply w2 | apply w3 | apply w4 | apply w5 | apply w6 | apply w7 | apply w8 | apply w9 | apply wa | apply wb | apply wc) | ((with_reducible apply wd); focus decide) | ((with_reducible apply we); focus exact rfl) | ((with_reducible apply wf); focus exact rfl) | ((first | (with_reducible apply SW_run tt_ok hG htb) | ((with_reducible apply SW_draw rfl tt_ok hG htb); (focus kernel_rfl); focus simp only [List.range, List.range.loop, List.size_toArray, List.length_cons, List.length_nil, Nat.reduceAdd])); focus ((repeat' (first | (with_reducible first | exact wg | exact wh) | ((with_reducible first | apply wi | apply wj); focus (simp (discharger := omega) only [go_sem, simprocAttr]; with_reducible rfl)))); done)))
        refine SW_loop (fun m s => ∃ i : Nat, m = t - i ∧ s = ⟨32, [(1, .t (tInt t)), (6, .t (tInt k)), (7, .t (tInt (powW k i))), (8, .t (tInt i))], []⟩ ∧ i ≤ t) t ⟨_, Norm.headS (own := []) (keep := [1, 6, 7, 8]) (by refine ⟨?_, ?_⟩; (simp (discharger := omega) only [go_sem, simprocAttr]; with_reducible rfl); refine ⟨?_, ?_, ?_, ?_⟩ <;> (simp only [go_sem, simprocAttr]; with_reducible rfl)), 0, rfl, rfl, Nat.zero_le _⟩ ?_
        rintro m s ⟨i, rfl, rfl, hi⟩
        have hb := powW_bd r2 r6 (j := i) (by omega)
        by_cases hlt : i < t
        · have hb1 : 1 ≤ powW k i * k ∧ powW k i * k ≤ 7776 := powW_bd r2 r6 (j := i + 1) (by omega)
          repeat' (first | (with_reducible first | apply w1 | apply w2 | apply w3 | apply w4 | apply w5 | apply w6 | apply w7 | apply w8 | apply w9 | apply wa | apply wb | apply wc) | ((with_reducible apply wd); focus decide) | ((with_reducible apply we); focus exact rfl) | ((with_reducible apply wf); focus exact rfl) | ((first | (with_reducible apply SW_run tt_ok hG htb) | ((with_reducible apply SW_draw rfl tt_ok hG htb); (focus kernel_rfl); focus simp only [List.range, List.range.loop, List.size_toArray, List.length_cons, List.length_nil, Nat.reduceAdd])); focus ((repeat' (first | (with_reducible first | exact wg | exact wh) | ((with_reducible first | apply wi | apply wj); focus (simp (discharger := omega) only [go_sem, simprocAttr]; with_reducible rfl)))); done)))
          exact ⟨t - (i + 1), _, by omega, Norm.headS (own := []) (keep := [1, 6, 7, 8]) (by refine ⟨?_, ?_⟩; (simp (discharger := omega) only [go_sem, simprocAttr]; with_reducible rfl); refine ⟨?_, ?_, ?_, ?_⟩ <;> (simp only [go_sem, simprocAttr]; with_reducible rfl)), i + 1, rfl, rfl, by omega⟩
        · obtain rfl : i = t := by omega
          by_cases h36 : 36 < powW k i
          · repeat' (first | (with_reducible first | apply w1 | apply w2 | apply w3 | apply w4 | apply w5 | apply w6 | apply w7 | apply w8 | apply w9 | apply wa | apply wb | apply wc) | ((with_reducible apply wd); focus decide) | ((with_reducible apply we); focus exact rfl) | ((with_reducible apply wf); focus exact rfl) | ((first | (with_reducible apply SW_run tt_ok hG htb) | ((with_reducible apply SW_draw rfl tt_ok hG htb); (focus kernel_rfl); focus simp only [List.range, List.range.loop, List.size_toArray, List.length_cons, List.length_nil, Nat.reduceAdd])); focus ((repeat' (first | (with_reducible first | exact wg | exact wh) | ((with_reducible first | apply wi | apply wj); focus (simp (discharger := omega) only [go_sem, simprocAttr]; with_reducible rfl)))); done)))
            exact (by simp (discharger := omega) only [go_sem, simprocAttr])
          · repeat' (first | (with_reducible first | apply w1 | apply w2 | apply w3 | apply w4 | apply w5 | apply w6 | apply w7 | apply w8 | apply w9 | apply wa | apply wb | apply wc) | ((with_reducible apply wd); focus decide) | ((with_reducible apply we); focus exact rfl) | ((with_reducible apply wf); focus exact rfl) | ((first | (with_reducible apply SW_run tt_ok hG htb) | ((with_reducible apply SW_draw rfl tt_ok hG htb); (focus kernel_rfl); focus simp only [List.range, List.range.loop, List.size_toArray, List.length_cons, List.length_nil, Nat.reduceAdd])); focus ((repeat' (first | (with_reducible first | exact wg | exact wh) | ((with_reducible first | apply wi | apply wj); focus (simp (discharger := omega) only [go_sem, simprocAttr]; with_reducible rfl)))); done)))
            exact (by simp (discharger := omega) only [go_sem, simprocAttr])
end
end Go.Proofs.YtjidhaendndokaaDoor
namespace Go.Proofs.YtjidhaendndokaaDoor
open Go.RowKit

section
variable {G : World → Prop} (hG : Lasting G)
include hG
end
end Go.Proofs.YtjidhaendndokaaDoor
namespace Go.Proofs.YtjidhaendndokaaDoor
open Go.RowKit
section
variable {G : World → Prop} (hG : Lasting G)
include hG
set_option maxHeartbeats 4000000 in
theorem Fault_snd (a : GAuto) : Snd Tryd.prog G 5 [tAuto a] (tInt (autoFault a)) := by
  have htb := Tab.cons (RLetters_snd hG a.base a.tracks) Tab.nil
  refine snd_of_body (n := 76) (tm := [(0, .t (tAuto a))]) (rs := [.tmp 2]) tt_ok Tryd.func5 rfl rfl rfl rfl rfl ?_
  unfold autoFault
  by_cases h0 : manyErr a.base a.tracks = 0
  · rw [if_neg (by omega)]
    rw [h0] at htb
    have h36 := (many_ok h0).2.2.2.1
    rw [← (many_ok h0).2.2.2.2] at h36
    generalize hmo : manyOf a.base a.tracks = mo at *
    by_cases h1 : a.next.length = 0
    · repeat' (first | (with_reducible first | apply w1 | apply w2 | apply w3 | apply w4 | apply w5 | apply w6 | apply w7 | apply w8 | apply w9 | apply wa | apply wb | apply wc) | ((with_reducible apply wd); focus decide) | ((with_reducible apply we); focus exact rfl) | ((with_reducible apply wf); focus exact rfl) | ((first | (with_reducible apply SW_run tt_ok hG htb) | ((with_reducible apply SW_draw rfl tt_ok hG htb); (focus kernel_rfl); focus simp only [List.range, List.range.loop, List.size_toArray, List.length_cons, List.length_nil, Nat.reduceAdd])); focus ((repeat' (first | (with_reducible first | exact wg | exact wh) | ((with_reducible first | apply wi | apply wj); focus (simp (discharger := omega) only [go_sem, tAuto, simprocAttr]; with_reducible rfl)))); done)))
      exact (by simp (discharger := omega) only [go_sem, simprocAttr])
    · by_cases h2 : 80 < a.next.length
      · repeat' (first | (with_reducible first | apply w1 | apply w2 | apply w3 | apply w4 | apply w5 | apply w6 | apply w7 | apply w8 | apply w9 | apply wa | apply wb | apply wc) | ((with_reducible apply wd); focus decide) | ((with_reducible apply we); focus exact rfl) | ((with_reducible apply wf); focus exact rfl) | ((first | (with_reducible apply SW_run tt_ok hG htb) | ((with_reducible apply SW_draw rfl tt_ok hG htb); (focus kernel_rfl); focus simp only [List.range, List.range.loop, List.size_toArray, List.length_cons, List.length_nil, Nat.reduceAdd])); focus ((repeat' (first | (with_reducible first | exact wg | exact wh) | ((with_reducible first | apply wi | apply wj); focus (simp (discharger := omega) only [go_sem, tAuto, simprocAttr]; with_reducible rfl)))); done)))
        exact (by simp (discharger := omega) only [go_sem, simprocAttr])
      · by_cases h3 : a.ends.length = a.next.length
        · rw [if_neg h1, if_neg h2, if_neg (by omega)]
          repeat' (first | (with_reducible first | apply w1 | apply w2 | apply w3 | apply w4 | apply w5 | apply w6 | apply w7 | apply w8 | apply w9 | apply wa | apply wb | apply wc) | ((with_reducible apply wd); focus decide) | ((with_reducible apply we); focus exact rfl) | ((with_reducible apply wf); focus exact rfl) | ((first | (with_reducible apply SW_run tt_ok hG htb) | ((with_reducible apply SW_draw rfl tt_ok hG htb); (focus kernel_rfl); focus simp only [List.range, List.range.loop, List.size_toArray, List.length_cons, List.length_nil, Nat.reduceAdd])); focus ((repeat' (first | (with_reducible first | exact wg | exact wh) | ((with_reducible first | apply wi | apply wj); focus (simp (discharger := omega) only [go_sem, tAuto, h3, simprocAttr]; with_reducible rfl)))); done)))
          refine SW_loop (fun m s => ∃ i : Nat, m = a.next.length - i ∧ s = ⟨76, [(1, .bptr 0 0), (3, .t (tInt mo)), (5, .t (tInt i))], [.box [.t (tInt a.base), .t (tInt a.tracks), .t (tIntss a.next), .t (tBools a.ends)]]⟩ ∧ i ≤ a.next.length ∧ ∀ j (hj : j < a.next.length), j < i → (a.next[j].length : Int) = mo ∧ ∀ s ∈ a.next[j], 0 ≤ s ∧ s < (a.next.length : Int)) a.next.length
            ⟨_, Norm.headS (own := []) (keep := [1, 3, 5]) (by refine ⟨?_, ?_⟩; (simp (discharger := omega) only [go_sem, simprocAttr]; with_reducible rfl); refine ⟨?_, ?_, ?_, ?_⟩ <;> (simp only [go_sem, simprocAttr]; with_reducible rfl)), 0, rfl, rfl, Nat.zero_le _, fun j hj h => by omega⟩ ?_
          rintro m s ⟨i, rfl, rfl, hi, hA⟩
          by_cases hlt : i < a.next.length
          · obtain ⟨row, hrow⟩ : ∃ row, a.next[i]! = row := ⟨_, rfl⟩
            have hat := bang_at hrow hlt
            obtain ⟨f1, f2⟩ := rowsFault_at hlt hA
            rw [hat] at f1 f2
            by_cases hrl : (row.length : Int) = mo
            · repeat' (first | (with_reducible first | apply w1 | apply w2 | apply w3 | apply w4 | apply w5 | apply w6 | apply w7 | apply w8 | apply w9 | apply wa | apply wb | apply wc) | ((with_reducible apply wd); focus decide) | ((with_reducible apply we); focus exact rfl) | ((with_reducible apply wf); focus exact rfl) | ((first | (with_reducible apply SW_run tt_ok hG htb) | ((with_reducible apply SW_draw rfl tt_ok hG htb); (focus kernel_rfl); focus simp only [List.range, List.range.loop, List.size_toArray, List.length_cons, List.length_nil, Nat.reduceAdd])); focus ((repeat' (first | (with_reducible first | exact wg | exact wh) | ((with_reducible first | apply wi | apply wj); focus (simp (discharger := omega) only [go_sem, hrow, simprocAttr]; with_reducible rfl)))); done)))
              refine SW_loop (fun m s => ∃ l : Nat, m = row.length - l ∧ s = ⟨76, [(1, .bptr 0 0), (3, .t (tInt mo)), (5, .t (tInt i)), (6, .t (tInt l))], [.box [.t (tInt a.base), .t (tInt a.tracks), .t (tIntss a.next), .t (tBools a.ends)]]⟩ ∧ l ≤ row.length ∧ ∀ x ∈ row.take l, 0 ≤ x ∧ x < (a.next.length : Int)) row.length
                ⟨_, Norm.headS (own := []) (keep := [1, 3, 5, 6]) (by refine ⟨?_, ?_⟩; (simp (discharger := omega) only [go_sem, simprocAttr]; with_reducible rfl); refine ⟨?_, ?_, ?_, ?_⟩ <;> (simp only [go_sem, simprocAttr]; with_reducible rfl)), 0, rfl, rfl, Nat.zero_le _, fun x hx => by simp at hx⟩ ?_
              rintro m s ⟨l, rfl, rfl, hl, hB⟩
              by_cases hlt2 : l < row.length
              · obtain ⟨x, hx⟩ : ∃ x, row[l]! = x := ⟨_, rfl⟩
                have htk := take_next hx hlt2
                have hxm := bang_mem hx hlt2
                by_cases hx0 : 0 ≤ x
                · by_cases hxm2 : x < (a.next.length : Int)
                  · repeat' (first | (with_reducible first | apply w1 | apply w2 | apply w3 | apply w4 | apply w5 | apply w6 | apply w7 | apply w8 | apply w9 | apply wa | apply wb | apply wc) | ((with_reducible apply wd); focus decide) | ((with_reducible apply we); focus exact rfl) | ((with_reducible apply wf); focus exact rfl) | ((first | (with_reducible apply SW_run tt_ok hG htb) | ((with_reducible apply SW_draw rfl tt_ok hG htb); (focus kernel_rfl); focus simp only [List.range, List.range.loop, List.size_toArray, List.length_cons, List.length_nil, Nat.reduceAdd])); focus ((repeat' (first | (with_reducible first | exact wg | exact wh) | ((with_reducible first | apply wi | apply wj); focus (simp (discharger := omega) only [go_sem, hrow, hx, simprocAttr]; with_reducible rfl)))); done)))
                    exact ⟨row.length - (l + 1), _, by omega, Norm.headS (own := []) (keep := [1, 3, 5, 6]) (by refine ⟨?_, ?_⟩; (simp (discharger := omega) only [go_sem, simprocAttr]; with_reducible rfl); refine ⟨?_, ?_, ?_, ?_⟩ <;> (simp only [go_sem, simprocAttr]; with_reducible rfl)), l + 1, rfl, rfl, by omega, fun y hy => by
                      rw [htk] at hy
                      rcases List.mem_append.1 hy with h | h
                      · exact hB y h
                      · simp at h; subst h; exact ⟨hx0, hxm2⟩⟩
                  · rw [f2 hrl ⟨x, hxm, by omega⟩]
                    repeat' (first | (with_reducible first | apply w1 | apply w2 | apply w3 | apply w4 | apply w5 | apply w6 | apply w7 | apply w8 | apply w9 | apply wa | apply wb | apply wc) | ((with_reducible apply wd); focus decide) | ((with_reducible apply we); focus exact rfl) | ((with_reducible apply wf); focus exact rfl) | ((first | (with_reducible apply SW_run tt_ok hG htb) | ((with_reducible apply SW_draw rfl tt_ok hG htb); (focus kernel_rfl); focus simp only [List.range, List.range.loop, List.size_toArray, List.length_cons, List.length_nil, Nat.reduceAdd])); focus ((repeat' (first | (with_reducible first | exact wg | exact wh) | ((with_reducible first | apply wi | apply wj); focus (simp (discharger := omega) only [go_sem, hrow, hx, simprocAttr]; with_reducible rfl)))); done)))
                    exact (by simp (discharger := omega) only [go_sem, simprocAttr])
                · rw [f2 hrl ⟨x, hxm, by omega⟩]
                  repeat' (first | (with_reducible first | apply w1 | apply w2 | apply w3 | apply w4 | apply w5 | apply w6 | apply w7 | apply w8 | apply w9 | apply wa | apply wb | apply wc) | ((with_reducible apply wd); focus decide) | ((with_reducible apply we); focus exact rfl) | ((with_reducible apply wf); focus exact rfl) | ((first | (with_reducible apply SW_run tt_ok hG htb) | ((with_reducible apply SW_draw rfl tt_ok hG htb); (focus kernel_rfl); focus simp only [List.range, List.range.loop, List.size_toArray, List.length_cons, List.length_nil, Nat.reduceAdd])); focus ((repeat' (first | (with_reducible first | exact wg | exact wh) | ((with_reducible first | apply wi | apply wj); focus (simp (discharger := omega) only [go_sem, hrow, hx, simprocAttr]; with_reducible rfl)))); done)))
                  exact (by simp (discharger := omega) only [go_sem, simprocAttr])
              · obtain rfl : l = row.length := by omega
                rw [List.take_length] at hB
                repeat' (first | (with_reducible first | apply w1 | apply w2 | apply w3 | apply w4 | apply w5 | apply w6 | apply w7 | apply w8 | apply w9 | apply wa | apply wb | apply wc) | ((with_reducible apply wd); focus decide) | ((with_reducible apply we); focus exact rfl) | ((with_reducible apply wf); focus exact rfl) | ((first | (with_reducible apply SW_run tt_ok hG htb) | ((with_reducible apply SW_draw rfl tt_ok hG htb); (focus kernel_rfl); focus simp only [List.range, List.range.loop, List.size_toArray, List.length_cons, List.length_nil, Nat.reduceAdd])); focus ((repeat' (first | (with_reducible first | exact wg | exact wh) | ((with_reducible first | apply wi | apply wj); focus (simp (discharger := omega) only [go_sem, simprocAttr]; with_reducible rfl)))); done)))
                exact ⟨a.next.length - (i + 1), _, by omega, Norm.headS (own := []) (keep := [1, 3, 5]) (by refine ⟨?_, ?_⟩; (simp (discharger := omega) only [go_sem, simprocAttr]; with_reducible rfl); refine ⟨?_, ?_, ?_, ?_⟩ <;> (simp only [go_sem, simprocAttr]; with_reducible rfl)), i + 1, rfl, rfl, by omega, fun j hj h => by
                  by_cases e : j = i
                  · subst e; rw [hat]; exact ⟨hrl, hB⟩
                  · exact hA j hj (by omega)⟩
            · rw [f1 hrl]
              repeat' (first | (with_reducible first | apply w1 | apply w2 | apply w3 | apply w4 | apply w5 | apply w6 | apply w7 | apply w8 | apply w9 | apply wa | apply wb | apply wc) | ((with_reducible apply wd); focus decide) | ((with_reducible apply we); focus exact rfl) | ((with_reducible apply wf); focus exact rfl) | ((first | (with_reducible apply SW_run tt_ok hG htb) | ((with_reducible apply SW_draw rfl tt_ok hG htb); (focus kernel_rfl); focus simp only [List.range, List.range.loop, List.size_toArray, List.length_cons, List.length_nil, Nat.reduceAdd])); focus ((repeat' (first | (with_reducible first | exact wg | exact wh) | ((with_reducible first | apply wi | apply wj); focus (simp (discharger := omega) only [go_sem, hrow, simprocAttr]; with_reducible rfl)))); done)))
              exact (by simp (discharger := omega) only [go_sem, simprocAttr])
          · obtain rfl : i = a.next.length := by omega
            rw [rowsFault_zero.2 fun r hr => by obtain ⟨j, hj, rfl⟩ := List.mem_iff_getElem.1 hr; exact hA j hj hj]
            repeat' (first | (with_reducible first | apply w1 | apply w2 | apply w3 | apply w4 | apply w5 | apply w6 | apply w7 | apply w8 | apply w9 | apply wa | apply wb | apply wc) | ((with_reducible apply wd); focus decide) | ((with_reducible apply we); focus exact rfl) | ((with_reducible apply wf); focus exact rfl) | ((first | (with_reducible apply SW_run tt_ok hG htb) | ((with_reducible apply SW_draw rfl tt_ok hG htb); (focus kernel_rfl); focus simp only [List.range, List.range.loop, List.size_toArray, List.length_cons, List.length_nil, Nat.reduceAdd])); focus ((repeat' (first | (with_reducible first | exact wg | exact wh) | ((with_reducible first | apply wi | apply wj); focus (simp (discharger := omega) only [go_sem, simprocAttr]; with_reducible rfl)))); done)))
            exact (by simp (discharger := omega) only [go_sem, simprocAttr])
        · repeat' (first | (with_reducible first | apply w1 | apply w2 | apply w3 | apply w4 | apply w5 | apply w6 | apply w7 | apply w8 | apply w9 | apply wa | apply wb | apply wc) | ((with_reducible apply wd); focus decide) | ((with_reducible apply we); focus exact rfl) | ((with_reducible apply wf); focus exact rfl) | ((first | (with_reducible apply SW_run tt_ok hG htb) | ((with_reducible apply SW_draw rfl tt_ok hG htb); (focus kernel_rfl); focus simp only [List.range, List.range.loop, List.size_toArray, List.length_cons, List.length_nil, Nat.reduceAdd])); focus ((repeat' (first | (with_reducible first | exact wg | exact wh) | ((with_reducible first | apply wi | apply wj); focus (simp (discharger := omega) only [go_sem, tAuto, h3, simprocAttr]; with_reducible rfl)))); done)))
          exact (by simp (discharger := omega) only [go_sem, h3, simprocAttr])
  · generalize manyErr a.base a.tracks = e at *
    repeat' (first | (with_reducible first | apply w1 | apply w2 | apply w3 | apply w4 | apply w5 | apply w6 | apply w7 | apply w8 | apply w9 | apply wa | apply wb | apply wc) | ((with_reducible apply wd); focus decide) | ((with_reducible apply we); focus exact rfl) | ((with_reducible apply wf); focus exact rfl) | ((first | (with_reducible apply SW_run tt_ok hG htb) | ((with_reducible apply SW_draw rfl tt_ok hG htb); (focus kernel_rfl); focus simp only [List.range, List.range.loop, List.size_toArray, List.length_cons, List.length_nil, Nat.reduceAdd])); focus ((repeat' (first | (with_reducible first | exact wg | exact wh) | ((with_reducible first | apply wi | apply wj); focus (simp (discharger := omega) only [go_sem, tAuto, h0, simprocAttr]; with_reducible rfl)))); done)))
    exact (by simp (discharger := omega) only [go_sem, h0, simprocAttr])
theorem Behind_snd (a : GAuto) (w : List Int) {n m : Nat} (g : Good a n m) (hw : ∀ x ∈ w, 0 ≤ x ∧ x < (n : Int)) : Snd Tryd.prog G 37 [tAuto a, tInts w] (tInt (runFrom a.next 0 w)) := by
  have htb : Tab.ok Tryd.prog G [] := Tab.nil
  refine snd_of_body (n := 25) (tm := [(0, .t (tAuto a)), (1, .t (tInts w))]) (rs := [.tmp 4]) tt_ok Tryd.func37 rfl rfl rfl rfl rfl ?_
  have hm0 := g.m0
  have hm80 := g.m80
  have hn36 := g.n36
  have hlen := g.rows.len
  refine SW_len (t := 1) (l := w.map tInt) rfl fun hwl => ?_
  simp only [List.length_map] at hwl
  repeat' (first | (with_reducible first | apply w1 | apply w2 | apply w3 | apply w4 | apply w5 | apply w6 | apply w7 | apply w8 | apply w9 | apply wa | apply wb | apply wc) | ((with_reducible apply wd); focus decide) | ((with_reducible apply we); focus exact rfl) | ((with_reducible apply wf); focus exact rfl) | ((first | (with_reducible apply SW_run tt_ok hG htb) | ((with_reducible apply SW_draw rfl tt_ok hG htb); (focus kernel_rfl); focus simp only [List.range, List.range.loop, List.size_toArray, List.length_cons, List.length_nil, Nat.reduceAdd])); focus ((repeat' (first | (with_reducible first | exact wg | exact wh) | ((with_reducible first | apply wi | apply wj); focus (simp (discharger := omega) only [go_sem, tAuto, simprocAttr]; with_reducible rfl)))); done)))
  refine SW_loop (fun k s => ∃ (i : Nat) (q : Int), k = w.length - i ∧ s = ⟨25, [(1, .t (tInts w)), (2, .bptr 0 0), (5, .t (tInt q)), (6, .t (tInt i))], [.box [.t (tInt a.base), .t (tInt a.tracks), .t (tIntss a.next), .t (tBools a.ends)]]⟩ ∧ i ≤ w.length ∧ q = runFrom a.next 0 (w.take i)) w.length
    ⟨_, Norm.headS (own := []) (keep := [1, 2, 5, 6]) (by refine ⟨?_, ?_⟩; (simp (discharger := omega) only [go_sem, simprocAttr]; with_reducible rfl); refine ⟨?_, ?_, ?_, ?_⟩ <;> (simp only [go_sem, simprocAttr]; with_reducible rfl)), 0, 0, rfl, rfl, Nat.zero_le _, rfl⟩ ?_
  rintro k s ⟨i, q, rfl, rfl, hi, hq⟩
  have hqm : 0 ≤ q ∧ q < (m : Int) := by rw [hq]; exact runFrom_ok g.rows _ 0 (by omega) fun x hx => hw x (List.mem_of_mem_take hx)
  by_cases hlt : i < w.length
  · obtain ⟨x, hx⟩ : ∃ x, w[i]! = x := ⟨_, rfl⟩
    have hxn := hw x (bang_mem hx hlt)
    obtain ⟨row, hrow⟩ : ∃ row, a.next[q.toNat]! = row := ⟨_, rfl⟩
    have hrl : row.length = n := g.rows.row _ (bang_mem hrow (by omega))
    obtain ⟨u, hu⟩ : ∃ u, row[x.toNat]! = u := ⟨_, rfl⟩
    have hstep := runFrom_take a.next hx hlt 0
    rw [← hq, nextOf_bang hrow (by omega) hu (by omega)] at hstep
    repeat' (first | (with_reducible first | apply w1 | apply w2 | apply w3 | apply w4 | apply w5 | apply w6 | apply w7 | apply w8 | apply w9 | apply wa | apply wb | apply wc) | ((with_reducible apply wd); focus decide) | ((with_reducible apply we); focus exact rfl) | ((with_reducible apply wf); focus exact rfl) | ((first | (with_reducible apply SW_run tt_ok hG htb) | ((with_reducible apply SW_draw rfl tt_ok hG htb); (focus kernel_rfl); focus simp only [List.range, List.range.loop, List.size_toArray, List.length_cons, List.length_nil, Nat.reduceAdd])); focus ((repeat' (first | (with_reducible first | exact wg | exact wh) | ((with_reducible first | apply wi | apply wj); focus (simp (discharger := omega) only [go_sem, hx, hrow, hu, simprocAttr]; with_reducible rfl)))); done)))
    exact ⟨w.length - (i + 1), _, by omega, Norm.headS (own := []) (keep := [1, 2, 5, 6]) (by refine ⟨?_, ?_⟩; (simp (discharger := omega) only [go_sem, simprocAttr]; with_reducible rfl); refine ⟨?_, ?_, ?_, ?_⟩ <;> (simp only [go_sem, simprocAttr]; with_reducible rfl)), i + 1, u, rfl, rfl, by omega, hstep.symm⟩
  · obtain rfl : i = w.length := by omega
    rw [List.take_length] at hq
    rw [← hq]
    repeat' (first | (with_reducible first | apply w1 | apply w2 | apply w3 | apply w4 | apply w5 | apply w6 | apply w7 | apply w8 | apply w9 | apply wa | apply wb | apply wc) | ((with_reducible apply wd); focus decide) | ((with_reducible apply we); focus exact rfl) | ((with_reducible apply wf); focus exact rfl) | ((first | (with_reducible apply SW_run tt_ok hG htb) | ((with_reducible apply SW_draw rfl tt_ok hG htb); (focus kernel_rfl); focus simp only [List.range, List.range.loop, List.size_toArray, List.length_cons, List.length_nil, Nat.reduceAdd])); focus ((repeat' (first | (with_reducible first | exact wg | exact wh) | ((with_reducible first | apply wi | apply wj); focus (simp (discharger := omega) only [go_sem, simprocAttr]; with_reducible rfl)))); done)))
    exact (by simp (discharger := omega) only [go_sem, simprocAttr])
end
end Go.Proofs.YtjidhaendndokaaDoor
namespace Go.Proofs.YtjidhaendndokaaDoor
open Go.RowKit

def nwT : Option (List Int) → T
  | some u => .tup [tInts u, .bool true]
  | none => .tup [tInts [], .bool false]
theorem goL_succ (a : GAuto) (N k : Nat) (s : Int) (l : Nat) : goL a N (k + 1) s l = if scanL a k s N N l < N then (goL a N k ((rowOf a.next s).getD (scanL a k s N N l) 0) 0).map ((((scanL a k s N N l : Nat) : Nat) : Int) :: ·) else none := rfl
theorem flat_ints : ∀ w : List Int, flatAll (w.map (T.int .i64)) = true
  | [] => rfl
  | x :: t => by
    show (true && flatAll (t.map (T.int .i64))) = true
    rw [flat_ints t]; rfl
section
variable {G : World → Prop} (hG : Lasting G)
include hG
set_option maxHeartbeats 16000000 in
set_option maxRecDepth 100000 in
theorem NextZero_no (a : GAuto) (lv : List (List Bool)) (h : endOf a.ends 0 = false) {n m : Nat} (g : Good a n m) : SndV Tryd.prog G 21 [tAuto a, .list (lv.map tBools), .raw none 0 0, tInt 0] (fun _ : Unit => nwT none) := by
  have hmE := g.ends
  have hm0 := g.m0
  have hb : a.ends[0]! = false := by
    have := bang_D (l := a.ends) (i := 0) (d := false) rfl (by omega)
    rw [← h]; unfold endOf; exact this.symm
  refine sndV_of_body (n := 127) (tm := [(0, .t (tAuto a)), (1, .t (.list (lv.map tBools))), (2, .t (.raw none 0 0)), (3, .t (tInt 0))]) (rs := [.tmp 8, .tmp 9]) tt_ok Tryd.func21 rfl rfl rfl rfl rfl ?_
  have htb : Tab.ok Tryd.prog G [] := Tab.nil
  repeat' (first | (with_reducible first | apply w1 | apply w2 | apply w3 | apply w4 | apply w5 | apply w6 | apply w7 | apply w8 | apply w9 | apply wa | apply wb | apply wc) | ((with_reducible apply wd); focus decide) | ((with_reducible apply we); focus exact rfl) | ((with_reducible apply wf); focus exact rfl) | ((first | (with_reducible apply SW_run tt_ok hG htb) | ((with_reducible apply SW_draw rfl tt_ok hG htb); (focus kernel_rfl); focus simp only [List.range, List.range.loop, List.size_toArray, List.length_cons, List.length_nil, Nat.reduceAdd])); focus ((repeat' (first | (with_reducible first | exact wg | exact wh) | ((with_reducible first | apply wi | apply wj); focus (simp (discharger := omega) only [go_sem, tAuto, hb, simprocAttr]; with_reducible rfl)))); done)))
  exact SPostV_r () (by simp only [go_sem, St.resV, St.svL, St.sv1, frVL, St.frV, nwT, simprocAttr])
set_option maxHeartbeats 16000000 in
set_option maxRecDepth 100000 in
theorem NextZero_again (a : GAuto) (lv : List (List Bool)) (ad : Addr) {n m : Nat} (g : Good a n m) : SndV Tryd.prog G 21 [tAuto a, .list (lv.map tBools), .raw (some ad) 0 0, tInt 0] (fun _ : Unit => nwT none) := by
  have hmE := g.ends
  have hm0 := g.m0
  refine sndV_of_body (n := 127) (tm := [(0, .t (tAuto a)), (1, .t (.list (lv.map tBools))), (2, .t (.raw (some ad) 0 0)), (3, .t (tInt 0))]) (rs := [.tmp 8, .tmp 9]) tt_ok Tryd.func21 rfl rfl rfl rfl rfl ?_
  have htb : Tab.ok Tryd.prog G [] := Tab.nil
  repeat' (first | (with_reducible first | apply w1 | apply w2 | apply w3 | apply w4 | apply w5 | apply w6 | apply w7 | apply w8 | apply w9 | apply wa | apply wb | apply wc) | ((with_reducible apply wd); focus decide) | ((with_reducible apply we); focus exact rfl) | ((with_reducible apply wf); focus exact rfl) | ((first | (with_reducible apply SW_run tt_ok hG htb) | ((with_reducible apply SW_draw rfl tt_ok hG htb); (focus kernel_rfl); focus simp only [List.range, List.range.loop, List.size_toArray, List.length_cons, List.length_nil, Nat.reduceAdd])); focus ((repeat' (first | (with_reducible first | exact wg | exact wh) | ((with_reducible first | apply wi | apply wj); focus (simp (discharger := omega) only [go_sem, tAuto, simprocAttr]; with_reducible rfl)))); done)))
  exact SPostV_r () (by simp only [go_sem, St.resV, St.svL, St.sv1, frVL, St.frV, nwT, simprocAttr])
set_option maxHeartbeats 16000000 in
set_option maxRecDepth 100000 in
theorem NextZero_first (a : GAuto) (lv : List (List Bool)) (h : endOf a.ends 0 = true) {n m : Nat} (g : Good a n m) : SndV Tryd.prog G 21 [tAuto a, .list (lv.map tBools), .raw none 0 0, tInt 0] (fun ad : Addr => .tup [.raw (some ad) 0 0, .bool true]) := by
  have hmE := g.ends
  have hm0 := g.m0
  have hb : a.ends[0]! = true := by
    have := bang_D (l := a.ends) (i := 0) (d := false) rfl (by omega)
    rw [← h]; unfold endOf; exact this.symm
  refine sndV_of_body (n := 127) (tm := [(0, .t (tAuto a)), (1, .t (.list (lv.map tBools))), (2, .t (.raw none 0 0)), (3, .t (tInt 0))]) (rs := [.tmp 8, .tmp 9]) tt_ok Tryd.func21 rfl rfl rfl rfl rfl ?_
  have htb : Tab.ok Tryd.prog G [] := Tab.nil
  repeat' (first | (with_reducible first | apply w1 | apply w2 | apply w3 | apply w4 | apply w5 | apply w6 | apply w7 | apply w8 | apply w9 | apply wa | apply wb | apply wc) | ((with_reducible apply wd); focus decide) | ((with_reducible apply we); focus exact rfl) | ((with_reducible apply wf); focus exact rfl) | ((first | (with_reducible apply SW_run tt_ok hG htb) | ((with_reducible apply SW_draw rfl tt_ok hG htb); (focus kernel_rfl); focus simp only [List.range, List.range.loop, List.size_toArray, List.length_cons, List.length_nil, Nat.reduceAdd])); focus ((repeat' (first | (with_reducible first | exact wg | exact wh) | ((with_reducible first | apply wi | apply wj); focus (simp (discharger := omega) only [go_sem, tAuto, hb, simprocAttr]; with_reducible rfl)))); done)))
  exact SPostV_lit (d := 8) rfl fun ad => by simp only [go_sem, St.resV, St.svL, St.sv1, frVL, St.frV, simprocAttr]
set_option maxHeartbeats 16000000 in
set_option maxRecDepth 100000 in
theorem NextFirst_ref {a : GAuto} {N m : Nat} (g : Good a N m) {n : Nat} (hn : 0 < n) (hn4 : n ≤ 400) {lv : List (List Bool)} (hlv : lv.length = n + 1) (hlv2 : ∀ j, j < n + 1 → lv[j]! = canL a j) : SndV Tryd.prog G 21 [tAuto a, .list (lv.map tBools), .raw none 0 0, tNat n] (fun _ : Unit => nwT (goL a N n 0 1)) := by
  have hm0 := g.m0
  have hN0 := g.n0
  have hnl := g.rows.len
  have hm80 := g.m80
  have hN36 := g.n36
  refine sndV_of_body (n := 127) (tm := [(0, .t (tAuto a)), (1, .t (.list (lv.map tBools))), (2, .t (.raw none 0 0)), (3, .t (tNat n))]) (rs := [.tmp 8, .tmp 9]) tt_ok Tryd.func21 rfl rfl rfl rfl rfl ?_
  have htb : Tab.ok Tryd.prog G [] := Tab.nil
  obtain ⟨o, ho⟩ : ∃ o, goL a N n 0 1 = o := ⟨_, rfl⟩
  rw [ho]
  repeat' (first | (with_reducible first | apply w1 | apply w2 | apply w3 | apply w4 | apply w5 | apply w6 | apply w7 | apply w8 | apply w9 | apply wa | apply wb | apply wc) | ((with_reducible apply wd); focus decide) | ((with_reducible apply we); focus exact rfl) | ((with_reducible apply wf); focus exact rfl) | ((first | (with_reducible apply SW_run tt_ok hG htb) | ((with_reducible apply SW_draw rfl tt_ok hG htb); (focus kernel_rfl); focus simp only [List.range, List.range.loop, List.size_toArray, List.length_cons, List.length_nil, Nat.reduceAdd])); focus ((repeat' (first | (with_reducible first | exact wg | exact wh) | ((with_reducible first | apply wi | apply wj); focus (simp (discharger := omega) only [go_sem, tAuto, simprocAttr]; with_reducible rfl)))); done)))
  refine SW_loop (fun mm st => mm = 0 ∧ st = ⟨127, [(1, .t (.list (lv.map tBools))), (2, .t (.raw none 0 0)), (3, .t (tNat n)), (4, .bptr 0 0), (10, .t (tInt (-1)))], [.box [.t (tInt a.base), .t (tInt a.tracks), .t (tIntss a.next), .t (tBools a.ends)]]⟩) 0
    ⟨_, Norm.headS (own := []) (keep := [1, 2, 3, 4, 10]) (by refine ⟨?_, ?_⟩; (simp (discharger := omega) only [go_sem, simprocAttr]; with_reducible rfl); refine ⟨?_, ?_, ?_, ?_⟩ <;> (simp only [go_sem, simprocAttr]; with_reducible rfl)), rfl, rfl⟩ ?_
  rintro mm st ⟨rfl, rfl⟩
  repeat' (first | (with_reducible first | apply w1 | apply w2 | apply w3 | apply w4 | apply w5 | apply w6 | apply w7 | apply w8 | apply w9 | apply wa | apply wb | apply wc) | ((with_reducible apply wd); focus decide) | ((with_reducible apply we); focus exact rfl) | ((with_reducible apply wf); focus exact rfl) | ((first | (with_reducible apply SW_run tt_ok hG htb) | ((with_reducible apply SW_draw rfl tt_ok hG htb); (focus kernel_rfl); focus simp only [List.range, List.range.loop, List.size_toArray, List.length_cons, List.length_nil, Nat.reduceAdd])); focus ((repeat' (first | (with_reducible first | exact wg | exact wh) | ((with_reducible first | apply wi | apply wj); focus (simp (discharger := omega) only [go_sem, simprocAttr]; with_reducible rfl)))); done)))
  refine SW_loop (fun mm st => ∃ (rt : List T) (w : List Int) (s : Int) (l : Nat) (q : Bool), mm = (if q = true then 0 else n - w.length) ∧ st = ⟨127, [(1, .t (.list (lv.map tBools))), (2, .t (.raw none 0 0)), (3, .t (tNat n)), (4, .bptr 0 0), (10, .t (tInt (-1))), (11, .sref 1), (12, .t (tInt s)), (13, .t (tNat l)), (14, .t (.bool q))], [.box [.t (tInt a.base), .t (tInt a.tracks), .t (tIntss a.next), .t (tBools a.ends)], .row 3 1 true rt]⟩ ∧ rt = w.map (T.int .i64) ∧ w.length ≤ n ∧ 0 ≤ s ∧ s < (m : Int) ∧ l ≤ N ∧ ((q = false ∧ (goL a N (n - w.length) s l).map (w ++ ·) = o) ∨ (q = true ∧ o = none ∧ w.length < n))) (n - ([] : List Int).length)
    ⟨_, Norm.headS (own := [(11, 3, 1, true)]) (keep := [1, 2, 3, 4, 10, 11, 12, 13, 14]) (by refine ⟨?_, ?_⟩; (simp (discharger := omega) only [go_sem, simprocAttr]; with_reducible rfl); refine ⟨?_, ?_, ?_, ?_⟩ <;> (simp only [go_sem, simprocAttr]; with_reducible rfl)), _, ([] : List Int), 0, 1, false, rfl, rfl, rfl, Nat.zero_le _, Int.le_refl _, by omega, hN0, .inl ⟨rfl, by rw [List.length_nil, Nat.sub_zero, ho]; cases o <;> rfl⟩⟩ ?_
  rintro mm st ⟨rt, w, s, l, q, rfl, rfl, hrt, hwn, hs0, hsm, hlN, hq⟩
  have hrl : rt.length = w.length := by rw [hrt, List.length_map]
  rcases hq with ⟨rfl, hq⟩ | ⟨rfl, hq, hlt⟩
  · by_cases hlt : w.length < n
    · obtain ⟨k, hk⟩ : ∃ k, n - w.length = k + 1 := ⟨n - w.length - 1, by omega⟩
      have hk1 : ((n : Nat) : Int) - ((rt.length : Nat) : Int) - 1 = ((k : Nat) : Int) := by omega
      obtain ⟨row, hrow⟩ : ∃ row, a.next[s.toNat]! = row := ⟨_, rfl⟩
      have hrowl := g.rows.row row (bang_mem hrow (by omega))
      have hro : rowOf a.next s = row := by unfold rowOf; exact bang_D hrow (by omega)
      obtain ⟨x, hx⟩ : ∃ x, scanL a k s N N l = x := ⟨_, rfl⟩
      obtain ⟨col, hcol⟩ : ∃ col, lv[k]! = col := ⟨_, rfl⟩
      have hcc : canL a k = col := by rw [← hlv2 k (by omega)]; exact hcol
      have hcl : col.length = m := by rw [← hcc]; exact canL_len g k
      rw [hk, goL_succ, hx] at hq
      repeat' (first | (with_reducible first | apply w1 | apply w2 | apply w3 | apply w4 | apply w5 | apply w6 | apply w7 | apply w8 | apply w9 | apply wa | apply wb | apply wc) | ((with_reducible apply wd); focus decide) | ((with_reducible apply we); focus exact rfl) | ((with_reducible apply wf); focus exact rfl) | ((first | (with_reducible apply SW_run tt_ok hG htb) | ((with_reducible apply SW_draw rfl tt_ok hG htb); (focus kernel_rfl); focus simp only [List.range, List.range.loop, List.size_toArray, List.length_cons, List.length_nil, Nat.reduceAdd])); focus ((repeat' (first | (with_reducible first | exact wg | exact wh) | ((with_reducible first | apply wi | apply wj); focus (simp (discharger := omega) only [go_sem, simprocAttr]; with_reducible rfl)))); done)))
      refine SW_loop (fun mm st => ∃ (y f : Nat), mm = N - y ∧ st = ⟨127, [(1, .t (.list (lv.map tBools))), (2, .t (.raw none 0 0)), (3, .t (tNat n)), (4, .bptr 0 0), (10, .t (tInt (-1))), (11, .sref 1), (12, .t (tInt s)), (13, .t (tNat l)), (14, .t (.bool false)), (15, .t (tNat y))], [.box [.t (tInt a.base), .t (tInt a.tracks), .t (tIntss a.next), .t (tBools a.ends)], .row 3 1 true rt]⟩ ∧ y ≤ N ∧ N - y ≤ f ∧ scanL a k s N f y = x) (N - l)
        ⟨_, Norm.headS (own := []) (keep := [1, 2, 3, 4, 10, 11, 12, 13, 14, 15]) (by refine ⟨?_, ?_⟩; (simp (discharger := omega) only [go_sem, simprocAttr]; with_reducible rfl); refine ⟨?_, ?_, ?_, ?_⟩ <;> (simp only [go_sem, simprocAttr]; with_reducible rfl)), l, N, rfl, rfl, hlN, by omega, hx⟩ ?_
      clear hx
      rintro mm st ⟨y, f, rfl, rfl, hy, hf, hx⟩
      by_cases hyN : y < N
      · obtain ⟨f', rfl⟩ : ∃ f', f = f' + 1 := ⟨f - 1, by omega⟩
        obtain ⟨t, ht⟩ : ∃ t, row[y]! = t := ⟨_, rfl⟩
        have htD : (rowOf a.next s).getD y 0 = t := by rw [hro]; exact bang_D ht (by omega)
        have hts := row_get g hs0 hsm hyN
        rw [htD] at hts
        obtain ⟨u, hu⟩ : ∃ u, col[t.toNat]! = u := ⟨_, rfl⟩
        have hcu : canAt a k t = u := by unfold canAt; rw [hcc]; exact bang_D hu (by omega)
        unfold scanL at hx
        rw [htD, hcu] at hx
        cases u with
        | false =>
          rw [if_pos ⟨hyN, rfl⟩] at hx
          repeat' (first | (with_reducible first | apply w1 | apply w2 | apply w3 | apply w4 | apply w5 | apply w6 | apply w7 | apply w8 | apply w9 | apply wa | apply wb | apply wc) | ((with_reducible apply wd); focus decide) | ((with_reducible apply we); focus exact rfl) | ((with_reducible apply wf); focus exact rfl) | ((first | (with_reducible apply SW_run tt_ok hG htb) | ((with_reducible apply SW_draw rfl tt_ok hG htb); (focus kernel_rfl); focus simp only [List.range, List.range.loop, List.size_toArray, List.length_cons, List.length_nil, Nat.reduceAdd])); focus ((repeat' (first | (with_reducible first | exact wg | exact wh) | ((with_reducible first | apply wi | apply wj); focus (simp (discharger := omega) only [go_sem, hrow, ht, hk1, hcol, hu, simprocAttr]; with_reducible rfl)))); done)))
          exact ⟨N - (y + 1), _, by omega, Norm.headS (own := []) (keep := [1, 2, 3, 4, 10, 11, 12, 13, 14, 15]) (by refine ⟨?_, ?_⟩; (simp (discharger := omega) only [go_sem, simprocAttr]; with_reducible rfl); refine ⟨?_, ?_, ?_, ?_⟩ <;> (simp only [go_sem, simprocAttr]; with_reducible rfl)), y + 1, f', rfl, rfl, by omega, by omega, hx⟩
        | true =>
          rw [if_neg (fun z => by cases z.2)] at hx
          subst hx
          rw [if_pos hyN, htD] at hq
          have hyl : ¬ ((y : Nat) : Int) = ((row.length : Nat) : Int) := by omega
          repeat' (first | (with_reducible first | apply w1 | apply w2 | apply w3 | apply w4 | apply w5 | apply w6 | apply w7 | apply w8 | apply w9 | apply wa | apply wb | apply wc) | ((with_reducible apply wd); focus decide) | ((with_reducible apply we); focus exact rfl) | ((with_reducible apply wf); focus exact rfl) | ((first | (with_reducible apply SW_run tt_ok hG htb) | ((with_reducible apply SW_draw rfl tt_ok hG htb); (focus kernel_rfl); focus simp only [List.range, List.range.loop, List.size_toArray, List.length_cons, List.length_nil, Nat.reduceAdd])); focus ((repeat' (first | (with_reducible first | exact wg | exact wh) | ((with_reducible first | apply wi | apply wj); focus (simp (discharger := omega) only [go_sem, hrow, ht, hk1, hcol, hu, hyl, simprocAttr]; with_reducible rfl)))); done)))
          exact ⟨n - (w.length + 1), _, by rw [if_neg (by decide)]; omega, Norm.headS (own := []) (keep := [1, 2, 3, 4, 10, 11, 12, 13, 14]) (by refine ⟨?_, ?_⟩; (simp (discharger := omega) only [go_sem, simprocAttr]; with_reducible rfl); refine ⟨?_, ?_, ?_, ?_⟩ <;> (simp only [go_sem, simprocAttr]; with_reducible rfl)), _, w ++ [((y : Nat) : Int)], t, 0, false, by rw [if_neg (by decide), List.length_append]; rfl, rfl, by rw [hrt, List.map_append]; rfl, by rw [List.length_append]; exact hlt, hts.1, hts.2, Nat.zero_le _, .inl ⟨rfl, by rw [List.length_append, show n - (w.length + [((y : Nat) : Int)].length) = k by simp only [List.length_cons, List.length_nil]; omega, ← hq, Option.map_map]; congr 1; funext z; show w ++ [_] ++ z = w ++ (_ :: z); rw [List.append_assoc]; rfl⟩⟩
      · obtain rfl : y = N := by omega
        have hxN : x = y := by
          cases f with
          | zero => exact hx.symm
          | succ f => unfold scanL at hx; rw [if_neg (fun z => hyN z.1)] at hx; exact hx.symm
        rw [hxN, if_neg (Nat.lt_irrefl _)] at hq
        have hyl := eq_true (show ((y : Nat) : Int) = ((row.length : Nat) : Int) by omega)
        repeat' (first | (with_reducible first | apply w1 | apply w2 | apply w3 | apply w4 | apply w5 | apply w6 | apply w7 | apply w8 | apply w9 | apply wa | apply wb | apply wc) | ((with_reducible apply wd); focus decide) | ((with_reducible apply we); focus exact rfl) | ((with_reducible apply wf); focus exact rfl) | ((first | (with_reducible apply SW_run tt_ok hG htb) | ((with_reducible apply SW_draw rfl tt_ok hG htb); (focus kernel_rfl); focus simp only [List.range, List.range.loop, List.size_toArray, List.length_cons, List.length_nil, Nat.reduceAdd])); focus ((repeat' (first | (with_reducible first | exact wg | exact wh) | ((with_reducible first | apply wi | apply wj); focus (simp (discharger := omega) only [go_sem, hrow, hyl, simprocAttr]; with_reducible rfl)))); done)))
        exact ⟨0, _, by rw [if_neg (by decide)]; omega, Norm.headS (own := []) (keep := [1, 2, 3, 4, 10, 11, 12, 13, 14]) (by refine ⟨?_, ?_⟩; (simp (discharger := omega) only [go_sem, simprocAttr]; with_reducible rfl); refine ⟨?_, ?_, ?_, ?_⟩ <;> (simp only [go_sem, simprocAttr]; with_reducible rfl)), _, w, s, l, true, rfl, rfl, hrt, hwn, hs0, hsm, hlN, .inr ⟨rfl, hq.symm, hlt⟩⟩
    · obtain rfl : o = some w := by
        rw [← hq, show n - w.length = 0 by omega]
        show some (w ++ []) = _
        rw [List.append_nil]
      repeat' (first | (with_reducible first | apply w1 | apply w2 | apply w3 | apply w4 | apply w5 | apply w6 | apply w7 | apply w8 | apply w9 | apply wa | apply wb | apply wc) | ((with_reducible apply wd); focus decide) | ((with_reducible apply we); focus exact rfl) | ((with_reducible apply wf); focus exact rfl) | ((first | (with_reducible apply SW_run tt_ok hG htb) | ((with_reducible apply SW_draw rfl tt_ok hG htb); (focus kernel_rfl); focus simp only [List.range, List.range.loop, List.size_toArray, List.length_cons, List.length_nil, Nat.reduceAdd])); focus ((repeat' (first | (with_reducible first | exact wg | exact wh) | ((with_reducible first | apply wi | apply wj); focus (simp (discharger := omega) only [go_sem, simprocAttr]; with_reducible rfl)))); done)))
      have hfl := flat_ints w
      exact SPostV_r () (by simp only [go_sem, St.resV, St.svL, St.sv1, frVL, St.frV, nwT, hfl, hrt, simprocAttr]; rfl)
  · subst hq
    repeat' (first | (with_reducible first | apply w1 | apply w2 | apply w3 | apply w4 | apply w5 | apply w6 | apply w7 | apply w8 | apply w9 | apply wa | apply wb | apply wc) | ((with_reducible apply wd); focus decide) | ((with_reducible apply we); focus exact rfl) | ((with_reducible apply wf); focus exact rfl) | ((first | (with_reducible apply SW_run tt_ok hG htb) | ((with_reducible apply SW_draw rfl tt_ok hG htb); (focus kernel_rfl); focus simp only [List.range, List.range.loop, List.size_toArray, List.length_cons, List.length_nil, Nat.reduceAdd])); focus ((repeat' (first | (with_reducible first | exact wg | exact wh) | ((with_reducible first | apply wi | apply wj); focus (simp (discharger := omega) only [go_sem, simprocAttr]; with_reducible rfl)))); done)))
    exact SPostV_r () (by simp only [go_sem, St.resV, St.svL, St.sv1, frVL, St.frV, nwT, simprocAttr])
set_option maxHeartbeats 16000000 in
set_option maxRecDepth 100000 in
theorem NextAfter_ref {a : GAuto} {N m : Nat} (g : Good a N m) {n : Nat} (hn : 0 < n) (hn4 : n ≤ 400) {lv : List (List Bool)} (hlv : lv.length = n + 1) (hlv2 : ∀ j, j < n + 1 → lv[j]! = canL a j) {was : List Int} (hwas : was.length = n) (hwok : ∀ x ∈ was, 0 ≤ x ∧ x < (N : Int)) : SndV Tryd.prog G 21 [tAuto a, .list (lv.map tBools), tInts was, tNat n] (fun _ : Unit => nwT (keepNext a N was was.length)) := by
  have hm0 := g.m0
  have hN0 := g.n0
  have hnl := g.rows.len
  have hm80 := g.m80
  have hN36 := g.n36
  refine sndV_of_body (n := 127) (tm := [(0, .t (tAuto a)), (1, .t (.list (lv.map tBools))), (2, .t (tInts was)), (3, .t (tNat n))]) (rs := [.tmp 8, .tmp 9]) tt_ok Tryd.func21 rfl rfl rfl rfl rfl ?_
  have htb : Tab.ok Tryd.prog G [] := Tab.nil
  obtain ⟨o2, ho⟩ : ∃ o, keepNext a N was was.length = o := ⟨_, rfl⟩
  rw [ho]
  have hwne : ¬ was.length = 0 := by omega
  repeat' (first | (with_reducible first | apply w1 | apply w2 | apply w3 | apply w4 | apply w5 | apply w6 | apply w7 | apply w8 | apply w9 | apply wa | apply wb | apply wc) | ((with_reducible apply wd); focus decide) | ((with_reducible apply we); focus exact rfl) | ((with_reducible apply wf); focus exact rfl) | ((first | (with_reducible apply SW_run tt_ok hG htb) | ((with_reducible apply SW_draw rfl tt_ok hG htb); (focus kernel_rfl); focus simp only [List.range, List.range.loop, List.size_toArray, List.length_cons, List.length_nil, Nat.reduceAdd])); focus ((repeat' (first | (with_reducible first | exact wg | exact wh) | ((with_reducible first | apply wi | apply wj); focus (simp (discharger := omega) only [go_sem, tAuto, simprocAttr]; with_reducible rfl)))); done)))
  refine SW_loop (fun mm st => ∃ D : Nat, mm = D ∧ st = ⟨127, [(1, .t (.list (lv.map tBools))), (2, .t (tInts was)), (3, .t (tNat n)), (4, .bptr 0 0), (10, .t (tInt (((D : Nat) : Int) - 1)))], [.box [.t (tInt a.base), .t (tInt a.tracks), .t (tIntss a.next), .t (tBools a.ends)]]⟩ ∧ D ≤ n ∧ keepNext a N was D = o2) was.length
    ⟨_, Norm.headS (own := []) (keep := [1, 2, 3, 4, 10]) (by refine ⟨?_, ?_⟩; (simp (discharger := omega) only [go_sem, simprocAttr]; with_reducible rfl); refine ⟨?_, ?_, ?_, ?_⟩ <;> (simp only [go_sem, simprocAttr]; with_reducible rfl)), was.length, rfl, rfl, by omega, ho⟩ ?_
  clear ho
  rintro D st ⟨_, rfl, rfl, hD, ho⟩
  cases D with
  | zero =>
    obtain rfl : none = o2 := ho
    repeat' (first | (with_reducible first | apply w1 | apply w2 | apply w3 | apply w4 | apply w5 | apply w6 | apply w7 | apply w8 | apply w9 | apply wa | apply wb | apply wc) | ((with_reducible apply wd); focus decide) | ((with_reducible apply we); focus exact rfl) | ((with_reducible apply wf); focus exact rfl) | ((first | (with_reducible apply SW_run tt_ok hG htb) | ((with_reducible apply SW_draw rfl tt_ok hG htb); (focus kernel_rfl); focus simp only [List.range, List.range.loop, List.size_toArray, List.length_cons, List.length_nil, Nat.reduceAdd])); focus ((repeat' (first | (with_reducible first | exact wg | exact wh) | ((with_reducible first | apply wi | apply wj); focus (simp (discharger := omega) only [go_sem, hwne, simprocAttr]; with_reducible rfl)))); done)))
    exact SPostV_r () (by simp only [go_sem, St.resV, St.svL, St.sv1, frVL, St.frV, nwT, simprocAttr])
  | succ d =>
    rw [keepNext_succ] at ho
    obtain ⟨o, hgo⟩ : ∃ o, (goL a N (was.length - d) (runFrom a.next 0 (was.take d)) ((was.getD d 0).toNat + 1)).map (was.take d ++ ·) = o := ⟨_, rfl⟩
    rw [hgo] at ho
    obtain ⟨y, hy, hyb⟩ : ∃ y : Nat, was[d]! = ((y : Nat) : Int) ∧ y < N := by
      have h1 := hwok was[d] (List.getElem_mem (by omega))
      refine ⟨was[d].toNat, ?_, by omega⟩
      rw [getElem!_pos was d (by omega)]; omega
    have hyD : (was.getD d 0).toNat = y := by rw [bang_D hy (by omega)]; rfl
    have htk : (was.take d).length = d := by rw [List.length_take]; omega
    have cB := Behind_snd hG a (was.take d) g fun x hx => hwok x (List.mem_of_mem_take hx)
    have hsd := runFrom_ok g.rows (was.take d) 0 ⟨Int.le_refl _, by omega⟩ fun x hx => hwok x (List.mem_of_mem_take hx)
    obtain ⟨s1, hs1⟩ : ∃ s1, runFrom a.next 0 (was.take d) = s1 := ⟨_, rfl⟩
    rw [hs1] at cB hsd hgo
    rw [hyD, hwas] at hgo
    obtain ⟨wd, hwd⟩ : ∃ wd, was.take d = wd := ⟨_, rfl⟩
    have hmt : (was.map tInt).take d = wd.map (T.int .i64) := by rw [← hwd, List.map_take]; rfl
    rw [hwd] at cB htk
    have hkd : (((d + 1 : Nat) : Nat) : Int) - 1 = ((d : Nat) : Int) := by omega
    rw [hkd]
    clear htb
    have hall : ∀ l : List Int, (l.all fun _ => true) = true := fun l => by induction l with | nil => rfl | cons x t ih => rw [List.all_cons, ih]; rfl
    have cB : Snd Tryd.prog G 37 [tAuto a, .list (wd.map (T.int .i64))] (tInt s1) := cB
    have htb := Tab.cons cB Tab.nil
    repeat' (first | (with_reducible first | apply w1 | apply w2 | apply w3 | apply w4 | apply w5 | apply w6 | apply w7 | apply w8 | apply w9 | apply wa | apply wb | apply wc) | ((with_reducible apply wd); focus decide) | ((with_reducible apply we); focus exact rfl) | ((with_reducible apply wf); focus exact rfl) | ((first | (with_reducible apply SW_run tt_ok hG htb) | ((with_reducible apply SW_draw rfl tt_ok hG htb); (focus kernel_rfl); focus simp only [List.range, List.range.loop, List.size_toArray, List.length_cons, List.length_nil, Nat.reduceAdd])); focus ((repeat' (first | (with_reducible first | exact wg | exact wh) | ((with_reducible first | apply wi | apply wj); focus (simp (discharger := omega) only [go_sem, tAuto, hwne, hy, Function.comp_def, hall, hkd, hmt, simprocAttr]; with_reducible rfl)))); done)))
    rw [hwd, ← htk] at hgo
    clear htb cB
    have htb : Tab.ok Tryd.prog G [] := Tab.nil
    refine SW_loop (fun mm st => ∃ (rt : List T) (w : List Int) (s : Int) (l : Nat) (q : Bool), mm = (if q = true then 0 else n - w.length) ∧ st = ⟨127, [(1, .t (.list (lv.map tBools))), (2, .t (tInts was)), (3, .t (tNat n)), (4, .bptr 0 0), (10, .t (tInt ((d : Nat) : Int))), (11, .sref 1), (12, .t (tInt s)), (13, .t (tNat l)), (14, .t (.bool q))], [.box [.t (tInt a.base), .t (tInt a.tracks), .t (tIntss a.next), .t (tBools a.ends)], .row 3 1 true rt]⟩ ∧ rt = w.map (T.int .i64) ∧ w.length ≤ n ∧ 0 ≤ s ∧ s < (m : Int) ∧ l ≤ N ∧ ((q = false ∧ (goL a N (n - w.length) s l).map (w ++ ·) = o) ∨ (q = true ∧ o = none ∧ w.length < n))) (n - wd.length)
      ⟨_, Norm.headS (own := []) (keep := [1, 2, 3, 4, 10, 11, 12, 13, 14]) (by refine ⟨?_, ?_⟩; (simp (discharger := omega) only [go_sem, simprocAttr]; with_reducible rfl); refine ⟨?_, ?_, ?_, ?_⟩ <;> (simp only [go_sem, simprocAttr]; with_reducible rfl)), _, wd, s1, y + 1, false, rfl, rfl, rfl, by omega, hsd.1, hsd.2, by omega, .inl ⟨rfl, hgo⟩⟩ ?_
    rintro mm st ⟨rt, w, s, l, q, rfl, rfl, hrt, hwn, hs0, hsm, hlN, hq⟩
    have hrl : rt.length = w.length := by rw [hrt, List.length_map]
    rcases hq with ⟨rfl, hq⟩ | ⟨rfl, hq, hlt⟩
    · by_cases hlt : w.length < n
      · obtain ⟨k, hk⟩ : ∃ k, n - w.length = k + 1 := ⟨n - w.length - 1, by omega⟩
        have hk1 : ((n : Nat) : Int) - ((rt.length : Nat) : Int) - 1 = ((k : Nat) : Int) := by omega
        obtain ⟨row, hrow⟩ : ∃ row, a.next[s.toNat]! = row := ⟨_, rfl⟩
        have hrowl := g.rows.row row (bang_mem hrow (by omega))
        have hro : rowOf a.next s = row := by unfold rowOf; exact bang_D hrow (by omega)
        obtain ⟨x, hx⟩ : ∃ x, scanL a k s N N l = x := ⟨_, rfl⟩
        obtain ⟨col, hcol⟩ : ∃ col, lv[k]! = col := ⟨_, rfl⟩
        have hcc : canL a k = col := by rw [← hlv2 k (by omega)]; exact hcol
        have hcl : col.length = m := by rw [← hcc]; exact canL_len g k
        rw [hk, goL_succ, hx] at hq
        repeat' (first | (with_reducible first | apply w1 | apply w2 | apply w3 | apply w4 | apply w5 | apply w6 | apply w7 | apply w8 | apply w9 | apply wa | apply wb | apply wc) | ((with_reducible apply wd); focus decide) | ((with_reducible apply we); focus exact rfl) | ((with_reducible apply wf); focus exact rfl) | ((first | (with_reducible apply SW_run tt_ok hG htb) | ((with_reducible apply SW_draw rfl tt_ok hG htb); (focus kernel_rfl); focus simp only [List.range, List.range.loop, List.size_toArray, List.length_cons, List.length_nil, Nat.reduceAdd])); focus ((repeat' (first | (with_reducible first | exact wg | exact wh) | ((with_reducible first | apply wi | apply wj); focus (simp (discharger := omega) only [go_sem, simprocAttr]; with_reducible rfl)))); done)))
        refine SW_loop (fun mm st => ∃ (y f : Nat), mm = N - y ∧ st = ⟨127, [(1, .t (.list (lv.map tBools))), (2, .t (tInts was)), (3, .t (tNat n)), (4, .bptr 0 0), (10, .t (tInt ((d : Nat) : Int))), (11, .sref 1), (12, .t (tInt s)), (13, .t (tNat l)), (14, .t (.bool false)), (15, .t (tNat y))], [.box [.t (tInt a.base), .t (tInt a.tracks), .t (tIntss a.next), .t (tBools a.ends)], .row 3 1 true rt]⟩ ∧ y ≤ N ∧ N - y ≤ f ∧ scanL a k s N f y = x) (N - l)
          ⟨_, Norm.headS (own := []) (keep := [1, 2, 3, 4, 10, 11, 12, 13, 14, 15]) (by refine ⟨?_, ?_⟩; (simp (discharger := omega) only [go_sem, simprocAttr]; with_reducible rfl); refine ⟨?_, ?_, ?_, ?_⟩ <;> (simp only [go_sem, simprocAttr]; with_reducible rfl)), l, N, rfl, rfl, hlN, by omega, hx⟩ ?_
        clear hx
        rintro mm st ⟨y, f, rfl, rfl, hy, hf, hx⟩
        by_cases hyN : y < N
        · obtain ⟨f', rfl⟩ : ∃ f', f = f' + 1 := ⟨f - 1, by omega⟩
          obtain ⟨t, ht⟩ : ∃ t, row[y]! = t := ⟨_, rfl⟩
          have htD : (rowOf a.next s).getD y 0 = t := by rw [hro]; exact bang_D ht (by omega)
          have hts := row_get g hs0 hsm hyN
          rw [htD] at hts
          obtain ⟨u, hu⟩ : ∃ u, col[t.toNat]! = u := ⟨_, rfl⟩
          have hcu : canAt a k t = u := by unfold canAt; rw [hcc]; exact bang_D hu (by omega)
          unfold scanL at hx
          rw [htD, hcu] at hx
          cases u with
          | false =>
            rw [if_pos ⟨hyN, rfl⟩] at hx
            repeat' (first | (with_reducible first | apply w1 | apply w2 | apply w3 | apply w4 | apply w5 | apply w6 | apply w7 | apply w8 | apply w9 | apply wa | apply wb | apply wc) | ((with_reducible apply wd); focus decide) | ((with_reducible apply we); focus exact rfl) | ((with_reducible apply wf); focus exact rfl) | ((first | (with_reducible apply SW_run tt_ok hG htb) | ((with_reducible apply SW_draw rfl tt_ok hG htb); (focus kernel_rfl); focus simp only [List.range, List.range.loop, List.size_toArray, List.length_cons, List.length_nil, Nat.reduceAdd])); focus ((repeat' (first | (with_reducible first | exact wg | exact wh) | ((with_reducible first | apply wi | apply wj); focus (simp (discharger := omega) only [go_sem, hrow, ht, hk1, hcol, hu, simprocAttr]; with_reducible rfl)))); done)))
            exact ⟨N - (y + 1), _, by omega, Norm.headS (own := []) (keep := [1, 2, 3, 4, 10, 11, 12, 13, 14, 15]) (by refine ⟨?_, ?_⟩; (simp (discharger := omega) only [go_sem, simprocAttr]; with_reducible rfl); refine ⟨?_, ?_, ?_, ?_⟩ <;> (simp only [go_sem, simprocAttr]; with_reducible rfl)), y + 1, f', rfl, rfl, by omega, by omega, hx⟩
          | true =>
            rw [if_neg (fun z => by cases z.2)] at hx
            subst hx
            rw [if_pos hyN, htD] at hq
            have hyl : ¬ ((y : Nat) : Int) = ((row.length : Nat) : Int) := by omega
            repeat' (first | (with_reducible first | apply w1 | apply w2 | apply w3 | apply w4 | apply w5 | apply w6 | apply w7 | apply w8 | apply w9 | apply wa | apply wb | apply wc) | ((with_reducible apply wd); focus decide) | ((with_reducible apply we); focus exact rfl) | ((with_reducible apply wf); focus exact rfl) | ((first | (with_reducible apply SW_run tt_ok hG htb) | ((with_reducible apply SW_draw rfl tt_ok hG htb); (focus kernel_rfl); focus simp only [List.range, List.range.loop, List.size_toArray, List.length_cons, List.length_nil, Nat.reduceAdd])); focus ((repeat' (first | (with_reducible first | exact wg | exact wh) | ((with_reducible first | apply wi | apply wj); focus (simp (discharger := omega) only [go_sem, hrow, ht, hk1, hcol, hu, hyl, simprocAttr]; with_reducible rfl)))); done)))
            exact ⟨n - (w.length + 1), _, by rw [if_neg (by decide)]; omega, Norm.headS (own := []) (keep := [1, 2, 3, 4, 10, 11, 12, 13, 14]) (by refine ⟨?_, ?_⟩; (simp (discharger := omega) only [go_sem, simprocAttr]; with_reducible rfl); refine ⟨?_, ?_, ?_, ?_⟩ <;> (simp only [go_sem, simprocAttr]; with_reducible rfl)), _, w ++ [((y : Nat) : Int)], t, 0, false, by rw [if_neg (by decide), List.length_append]; rfl, rfl, by rw [hrt, List.map_append]; rfl, by rw [List.length_append]; exact hlt, hts.1, hts.2, Nat.zero_le _, .inl ⟨rfl, by rw [List.length_append, show n - (w.length + [((y : Nat) : Int)].length) = k by simp only [List.length_cons, List.length_nil]; omega, ← hq, Option.map_map]; congr 1; funext z; show w ++ [_] ++ z = w ++ (_ :: z); rw [List.append_assoc]; rfl⟩⟩
        · obtain rfl : y = N := by omega
          have hxN : x = y := by
            cases f with
            | zero => exact hx.symm
            | succ f => unfold scanL at hx; rw [if_neg (fun z => hyN z.1)] at hx; exact hx.symm
          rw [hxN, if_neg (Nat.lt_irrefl _)] at hq
          have hyl := eq_true (show ((y : Nat) : Int) = ((row.length : Nat) : Int) by omega)
          repeat' (first | (with_reducible first | apply w1 | apply w2 | apply w3 | apply w4 | apply w5 | apply w6 | apply w7 | apply w8 | apply w9 | apply wa | apply wb | apply wc) | ((with_reducible apply wd); focus decide) | ((with_reducible apply we); focus exact rfl) | ((with_reducible apply wf); focus exact rfl) | ((first | (with_reducible apply SW_run tt_ok hG htb) | ((with_reducible apply SW_draw rfl tt_ok hG htb); (focus kernel_rfl); focus simp only [List.range, List.range.loop, List.size_toArray, List.length_cons, List.length_nil, Nat.reduceAdd])); focus ((repeat' (first | (with_reducible first | exact wg | exact wh) | ((with_reducible first | apply wi | apply wj); focus (simp (discharger := omega) only [go_sem, hrow, hyl, simprocAttr]; with_reducible rfl)))); done)))
          exact ⟨0, _, by rw [if_neg (by decide)]; omega, Norm.headS (own := []) (keep := [1, 2, 3, 4, 10, 11, 12, 13, 14]) (by refine ⟨?_, ?_⟩; (simp (discharger := omega) only [go_sem, simprocAttr]; with_reducible rfl); refine ⟨?_, ?_, ?_, ?_⟩ <;> (simp only [go_sem, simprocAttr]; with_reducible rfl)), _, w, s, l, true, rfl, rfl, hrt, hwn, hs0, hsm, hlN, .inr ⟨rfl, hq.symm, hlt⟩⟩
      · obtain rfl : o = some w := by
          rw [← hq, show n - w.length = 0 by omega]
          show some (w ++ []) = _
          rw [List.append_nil]
        obtain rfl : some w = o2 := ho
        repeat' (first | (with_reducible first | apply w1 | apply w2 | apply w3 | apply w4 | apply w5 | apply w6 | apply w7 | apply w8 | apply w9 | apply wa | apply wb | apply wc) | ((with_reducible apply wd); focus decide) | ((with_reducible apply we); focus exact rfl) | ((with_reducible apply wf); focus exact rfl) | ((first | (with_reducible apply SW_run tt_ok hG htb) | ((with_reducible apply SW_draw rfl tt_ok hG htb); (focus kernel_rfl); focus simp only [List.range, List.range.loop, List.size_toArray, List.length_cons, List.length_nil, Nat.reduceAdd])); focus ((repeat' (first | (with_reducible first | exact wg | exact wh) | ((with_reducible first | apply wi | apply wj); focus (simp (discharger := omega) only [go_sem, simprocAttr]; with_reducible rfl)))); done)))
        have hfl := flat_ints w
        exact SPostV_r () (by simp only [go_sem, St.resV, St.svL, St.sv1, frVL, St.frV, nwT, hfl, hrt, simprocAttr]; rfl)
    · subst hq
      have hkn : keepNext a N was d = o2 := ho
      repeat' (first | (with_reducible first | apply w1 | apply w2 | apply w3 | apply w4 | apply w5 | apply w6 | apply w7 | apply w8 | apply w9 | apply wa | apply wb | apply wc) | ((with_reducible apply wd); focus decide) | ((with_reducible apply we); focus exact rfl) | ((with_reducible apply wf); focus exact rfl) | ((first | (with_reducible apply SW_run tt_ok hG htb) | ((with_reducible apply SW_draw rfl tt_ok hG htb); (focus kernel_rfl); focus simp only [List.range, List.range.loop, List.size_toArray, List.length_cons, List.length_nil, Nat.reduceAdd])); focus ((repeat' (first | (with_reducible first | exact wg | exact wh) | ((with_reducible first | apply wi | apply wj); focus (simp (discharger := omega) only [go_sem, hwne, simprocAttr]; with_reducible rfl)))); done)))
      exact ⟨d, _, by omega, Norm.headS (own := []) (keep := [1, 2, 3, 4, 10]) (by refine ⟨?_, ?_⟩; (simp (discharger := omega) only [go_sem, simprocAttr]; with_reducible rfl); refine ⟨?_, ?_, ?_, ?_⟩ <;> (simp only [go_sem, simprocAttr]; with_reducible rfl)), d, rfl, rfl, by omega, hkn⟩
end
end Go.Proofs.YtjidhaendndokaaDoor
