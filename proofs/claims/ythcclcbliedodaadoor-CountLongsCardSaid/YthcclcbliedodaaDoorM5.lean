/- Plain laws, data behind worlds, and contracts of functions, for the last text. No conditions. -/
import Derived.Test.YthcclcbliedodaaDoorLay
import Derived.Test.YthcclcbliedodaaDoorM4
import Derived.Test.YthcclcbliedodaaDoorChecked
import Derived.Shelf.SortM.Plain
import Derived.Shelf.SortM.SortNone
import Derived.Sort.OwnSortedInts
import Derived.Ground.SlgmProg
import Derived.Shelf.SlicesG.CompactI
import Derived.Ground.SlgnProg
import Derived.Lib.OwnBridge
import Derived.Shelf.Slices.Clone
import Derived.Shelf.Spec.SlicesInsert
import Derived.Shelf.Spec.SlicesInsertGrow
import Derived.Ground.Names2Prog
import Derived.Lib.SmallJoins
set_option linter.unusedSimpArgs false
set_option linter.unusedVariables false
set_option linter.unnecessarySimpa false
set_option linter.unusedSectionVars false
namespace Go.Proofs.YthcclcbliedodaaDoor
open Go.RowKit

def tt0 : Nat → Option TI
  | 1 => some ⟨.plain, 1, 8, [.t .undef], false⟩
  | 2 => some ⟨.int .i64, 1, 8, [.t (.int .i64 0)], false⟩
  | 3 => some ⟨.int .i64, 1, 8, [.t (.int .i64 0)], false⟩
  | 4 => some ⟨.bool, 1, 1, [.t (.bool false)], false⟩
  | 5 => some ⟨.int .u8, 1, 1, [.t (.int .u8 0)], false⟩
  | 6 => some ⟨.int .u8, 1, 1, [.t (.int .u8 0)], false⟩
  | 7 => some ⟨.struct [(0, 1), (1, 1), (2, 1), (3, 1)], 4, 24, [.t (.int .i64 0), .t (.int .i64 0), .t (.bool false), .t (.int .u8 0)], false⟩
  | _ => none
def tt1 : Nat → Option TI
  | 8 => some ⟨.struct [(0, 1), (1, 1), (2, 1), (3, 1)], 4, 24, [.t (.int .i64 0), .t (.int .i64 0), .t (.bool false), .t (.int .u8 0)], false⟩
  | 9 => some ⟨.str, 1, 16, [.t (.str ByteArray.empty)], false⟩
  | 10 => some ⟨.str, 1, 16, [.t (.str ByteArray.empty)], false⟩
  | 11 => some ⟨.str, 1, 16, [.t (.str ByteArray.empty)], false⟩
  | 12 => some ⟨.int .u64, 1, 8, [.t (.int .u64 0)], false⟩
  | 13 => some ⟨.struct [(0, 1), (1, 1)], 2, 24, [.t (.str ByteArray.empty), .t (.int .u64 0)], false⟩
  | 14 => some ⟨.struct [(0, 1), (1, 1)], 2, 24, [.t (.str ByteArray.empty), .t (.int .u64 0)], false⟩
  | 15 => some ⟨.plain, 1, 8, [.t .undef], false⟩
  | _ => none
def tt2 : Nat → Option TI
  | 16 => some ⟨.plain, 1, 8, [.t .undef], false⟩
  | 17 => some ⟨.plain, 1, 8, [.t .undef], false⟩
  | 18 => some ⟨.struct [(0, 1)], 1, 8, [.t .undef], false⟩
  | 19 => some ⟨.struct [(0, 1)], 1, 8, [.t .undef], false⟩
  | 20 => some ⟨.iface, 1, 16, [.t .nilI], false⟩
  | 21 => some ⟨.int .i32, 1, 4, [.t (.int .i32 0)], false⟩
  | 22 => some ⟨.slice 35, 1, 24, [.nil], false⟩
  | 23 => some ⟨.slice 4, 1, 24, [.nil], false⟩
  | _ => none
def tt3 : Nat → Option TI
  | 24 => some ⟨.struct [(0, 1), (1, 1), (2, 1), (3, 1)], 4, 64, [.t (.int .i64 0), .t (.int .i64 0), .nil, .nil], false⟩
  | 25 => some ⟨.struct [(0, 1), (1, 1), (2, 1), (3, 1)], 4, 64, [.t (.int .i64 0), .t (.int .i64 0), .nil, .nil], false⟩
  | 26 => some ⟨.int .i64, 1, 8, [.t (.int .i64 0)], false⟩
  | 27 => some ⟨.plain, 1, 8, [.t .undef], false⟩
  | 29 => some ⟨.plain, 1, 8, [.t .undef], false⟩
  | 30 => some ⟨.iface, 1, 16, [.t .nilI], false⟩
  | 31 => some ⟨.iface, 1, 16, [.t .nilI], false⟩
  | _ => none
def tt4 : Nat → Option TI
  | 33 => some ⟨.plain, 1, 8, [.t .undef], false⟩
  | 34 => some ⟨.plain, 1, 8, [.t .undef], false⟩
  | 35 => some ⟨.slice 3, 1, 24, [.nil], false⟩
  | 36 => some ⟨.slice 22, 1, 24, [.nil], false⟩
  | 37 => some ⟨.struct [(0, 1), (1, 1), (2, 1), (3, 1), (4, 1)], 5, 88, [.t (.int .i64 0), .t (.int .i64 0), .nil, .nil, .nil], false⟩
  | 38 => some ⟨.struct [(0, 1), (1, 1), (2, 1), (3, 1), (4, 1)], 5, 88, [.t (.int .i64 0), .t (.int .i64 0), .nil, .nil, .nil], false⟩
  | 39 => some ⟨.plain, 1, 8, [.t .undef], false⟩
  | _ => none
def tt5 : Nat → Option TI
  | 41 => some ⟨.plain, 1, 8, [.t .undef], false⟩
  | 42 => some ⟨.plain, 1, 8, [.t .undef], false⟩
  | 43 => some ⟨.plain, 1, 8, [.t .undef], false⟩
  | 45 => some ⟨.plain, 1, 8, [.t .undef], false⟩
  | 47 => some ⟨.plain, 1, 8, [.t .undef], false⟩
  | _ => none
def tt6 : Nat → Option TI
  | 48 => some ⟨.plain, 1, 8, [.t .undef], false⟩
  | 49 => some ⟨.plain, 1, 8, [.t .undef], false⟩
  | 50 => some ⟨.plain, 1, 8, [.t .undef], false⟩
  | 52 => some ⟨.plain, 1, 8, [.t .undef], false⟩
  | 53 => some ⟨.plain, 1, 8, [.t .undef], false⟩
  | 55 => some ⟨.plain, 1, 8, [.t .undef], false⟩
  | _ => none
def tt7 : Nat → Option TI
  | 56 => some ⟨.plain, 1, 8, [.t .undef], false⟩
  | 57 => some ⟨.plain, 1, 8, [.t .undef], false⟩
  | 58 => some ⟨.plain, 1, 8, [.t .undef], false⟩
  | 60 => some ⟨.plain, 1, 8, [.t .undef], false⟩
  | 61 => some ⟨.plain, 1, 8, [.t .undef], false⟩
  | 62 => some ⟨.plain, 1, 8, [.t .undef], false⟩
  | 63 => some ⟨.plain, 1, 8, [.t .undef], false⟩
  | _ => none
def tt8 : Nat → Option TI
  | 64 => some ⟨.plain, 1, 8, [.t .undef], false⟩
  | 66 => some ⟨.plain, 1, 8, [.t .undef], false⟩
  | 67 => some ⟨.plain, 1, 8, [.t .undef], false⟩
  | 68 => some ⟨.plain, 1, 8, [.t .undef], false⟩
  | 69 => some ⟨.plain, 1, 8, [.t .undef], false⟩
  | 70 => some ⟨.struct [(0, 1), (1, 1)], 2, 16, [.t (.int .i64 0), .t (.int .i64 0)], true⟩
  | 71 => some ⟨.struct [(0, 1), (1, 1)], 2, 16, [.t (.int .i64 0), .t (.int .i64 0)], true⟩
  | _ => none
def tt9 : Nat → Option TI
  | 72 => some ⟨.plain, 1, 8, [.t .undef], false⟩
  | 73 => some ⟨.slice 71, 1, 24, [.nil], false⟩
  | 75 => some ⟨.plain, 1, 8, [.t .undef], false⟩
  | 76 => some ⟨.plain, 1, 8, [.t .undef], false⟩
  | 77 => some ⟨.plain, 1, 8, [.t .undef], false⟩
  | 79 => some ⟨.plain, 1, 8, [.t .undef], false⟩
  | _ => none
def tt10 : Nat → Option TI
  | 81 => some ⟨.plain, 1, 8, [.t .undef], false⟩
  | 82 => some ⟨.plain, 1, 8, [.t .undef], false⟩
  | 83 => some ⟨.plain, 1, 8, [.t .undef], false⟩
  | 84 => some ⟨.plain, 1, 8, [.t .undef], false⟩
  | 85 => some ⟨.plain, 1, 8, [.t .undef], false⟩
  | 87 => some ⟨.plain, 1, 8, [.t .undef], false⟩
  | _ => none
def tt11 : Nat → Option TI
  | 88 => some ⟨.plain, 1, 8, [.t .undef], false⟩
  | 89 => some ⟨.plain, 1, 8, [.t .undef], false⟩
  | 91 => some ⟨.plain, 1, 8, [.t .undef], false⟩
  | 92 => some ⟨.plain, 1, 8, [.t .undef], false⟩
  | 93 => some ⟨.plain, 1, 8, [.t .undef], false⟩
  | 94 => some ⟨.plain, 1, 8, [.t .undef], false⟩
  | 95 => some ⟨.plain, 1, 8, [.t .undef], false⟩
  | _ => none
def tt12 : Nat → Option TI
  | 96 => some ⟨.plain, 1, 8, [.t .undef], false⟩
  | 97 => some ⟨.int .u64, 1, 8, [.t (.int .u64 0)], false⟩
  | 98 => some ⟨.plain, 1, 8, [.t .undef], false⟩
  | 99 => some ⟨.plain, 1, 8, [.t .undef], false⟩
  | 100 => some ⟨.plain, 1, 8, [.t .undef], false⟩
  | 101 => some ⟨.map (.ints 2) 102 35, 1, 8, [.t .undef], false⟩
  | 102 => some ⟨.array 2 3, 2, 16, [.t (.int .i64 0), .t (.int .i64 0)], false⟩
  | 103 => some ⟨.map (.str) 9 3, 1, 8, [.t .undef], false⟩
  | _ => none
def tt13 : Nat → Option TI
  | 104 => some ⟨.slice 5, 1, 24, [.nil], false⟩
  | 105 => some ⟨.plain, 1, 8, [.t .undef], false⟩
  | 106 => some ⟨.plain, 1, 8, [.t .undef], false⟩
  | 107 => some ⟨.plain, 1, 8, [.t .undef], false⟩
  | 108 => some ⟨.plain, 1, 8, [.t .undef], false⟩
  | 109 => some ⟨.plain, 1, 8, [.t .undef], false⟩
  | 110 => some ⟨.plain, 1, 8, [.t .undef], false⟩
  | _ => none
def tt14 : Nat → Option TI
  | 112 => some ⟨.int .u64, 1, 8, [.t (.int .u64 0)], false⟩
  | 113 => some ⟨.struct [(0, 1), (1, 1), (2, 1)], 3, 24, [.t .undef, .t .undef, .t (.int .u64 0)], false⟩
  | 114 => some ⟨.struct [(0, 1), (1, 1), (2, 1)], 3, 24, [.t .undef, .t .undef, .t (.int .u64 0)], false⟩
  | 115 => some ⟨.plain, 1, 8, [.t .undef], false⟩
  | 116 => some ⟨.iface, 1, 16, [.t .nilI], false⟩
  | 117 => some ⟨.iface, 1, 16, [.t .nilI], false⟩
  | 118 => some ⟨.plain, 1, 8, [.t .undef], false⟩
  | 119 => some ⟨.int .u8, 1, 1, [.t (.int .u8 0)], false⟩
  | _ => none
def tt15 : Nat → Option TI
  | 120 => some ⟨.plain, 1, 8, [.t .undef], false⟩
  | 121 => some ⟨.plain, 1, 8, [.t .undef], false⟩
  | 122 => some ⟨.plain, 1, 8, [.t .undef], false⟩
  | 123 => some ⟨.plain, 1, 8, [.t .undef], false⟩
  | 124 => some ⟨.plain, 1, 8, [.t .undef], false⟩
  | 125 => some ⟨.plain, 1, 8, [.t .undef], false⟩
  | 126 => some ⟨.plain, 1, 8, [.t .undef], false⟩
  | 127 => some ⟨.plain, 1, 8, [.t .undef], false⟩
  | _ => none
def tt16 : Nat → Option TI
  | 128 => some ⟨.plain, 1, 8, [.t .undef], false⟩
  | 129 => some ⟨.struct [(0, 1)], 1, 8, [.t .undef], false⟩
  | 130 => some ⟨.struct [(0, 1)], 1, 8, [.t .undef], false⟩
  | 131 => some ⟨.plain, 1, 8, [.t .undef], false⟩
  | 132 => some ⟨.plain, 1, 8, [.t .undef], false⟩
  | 133 => some ⟨.plain, 1, 8, [.t .undef], false⟩
  | 134 => some ⟨.plain, 1, 8, [.t .undef], false⟩
  | 135 => some ⟨.iface, 1, 16, [.t .nilI], false⟩
  | _ => none
def tt17 : Nat → Option TI
  | 137 => some ⟨.plain, 1, 8, [.t .undef], false⟩
  | 138 => some ⟨.iface, 1, 16, [.t .nilI], false⟩
  | 139 => some ⟨.plain, 1, 8, [.t .undef], false⟩
  | 140 => some ⟨.iface, 1, 16, [.t .nilI], false⟩
  | 141 => some ⟨.slice 31, 1, 24, [.nil], false⟩
  | 142 => some ⟨.plain, 1, 8, [.t .undef], false⟩
  | 143 => some ⟨.plain, 1, 8, [.t .undef], false⟩
  | _ => none
def tt18 : Nat → Option TI
  | 144 => some ⟨.int .i64, 1, 8, [.t (.int .i64 0)], false⟩
  | 146 => some ⟨.plain, 1, 8, [.t .undef], false⟩
  | 147 => some ⟨.plain, 1, 8, [.t .undef], false⟩
  | 148 => some ⟨.plain, 1, 8, [.t .undef], false⟩
  | 149 => some ⟨.plain, 1, 8, [.t .undef], false⟩
  | 150 => some ⟨.plain, 1, 8, [.t .undef], false⟩
  | 151 => some ⟨.plain, 1, 8, [.t .undef], false⟩
  | _ => none
def tt19 : Nat → Option TI
  | 152 => some ⟨.int .u32, 1, 4, [.t (.int .u32 0)], false⟩
  | 153 => some ⟨.plain, 1, 8, [.t .undef], false⟩
  | 154 => some ⟨.int .u64, 1, 8, [.t (.int .u64 0)], false⟩
  | 155 => some ⟨.int .u64, 1, 8, [.t (.int .u64 0)], false⟩
  | 156 => some ⟨.plain, 1, 8, [.t .undef], false⟩
  | 157 => some ⟨.plain, 1, 8, [.t .undef], false⟩
  | 158 => some ⟨.plain, 1, 8, [.t .undef], false⟩
  | 159 => some ⟨.plain, 1, 8, [.t .undef], false⟩
  | _ => none
def tt20 : Nat → Option TI
  | 160 => some ⟨.plain, 1, 8, [.t .undef], false⟩
  | 161 => some ⟨.plain, 1, 8, [.t .undef], false⟩
  | 163 => some ⟨.plain, 1, 8, [.t .undef], false⟩
  | 164 => some ⟨.plain, 1, 8, [.t .undef], false⟩
  | 165 => some ⟨.struct [(0, 1), (1, 1), (2, 1), (3, 1)], 4, 40, [.t .undef, .t .undef, .t .undef, .t (.str ByteArray.empty)], false⟩
  | 166 => some ⟨.struct [(0, 1), (1, 1), (2, 1), (3, 1)], 4, 40, [.t .undef, .t .undef, .t .undef, .t (.str ByteArray.empty)], false⟩
  | _ => none
def tt21 : Nat → Option TI
  | 170 => some ⟨.plain, 1, 8, [.t .undef], false⟩
  | 171 => some ⟨.plain, 1, 8, [.t .undef], false⟩
  | 172 => some ⟨.int .u8, 1, 1, [.t (.int .u8 0)], false⟩
  | 173 => some ⟨.plain, 1, 8, [.t .undef], false⟩
  | 174 => some ⟨.plain, 1, 8, [.t .undef], false⟩
  | 175 => some ⟨.int .i32, 1, 4, [.t (.int .i32 0)], false⟩
  | _ => none
def tt22 : Nat → Option TI
  | 176 => some ⟨.int .i32, 1, 4, [.t (.int .i32 0)], false⟩
  | 177 => some ⟨.struct [(0, 1), (1, 1), (2, 1), (3, 1), (4, 1), (5, 1), (6, 1), (7, 1), (8, 1), (9, 1), (10, 1)], 11, 48, [.t (.int .u64 0), .t (.int .u64 0), .t (.int .u32 0), .t (.int .u8 0), .t (.int .u8 0), .t (.int .u8 0), .t (.int .u8 0), .t .undef, .t .undef, .t (.int .i32 0), .t (.int .i32 0)], false⟩
  | 178 => some ⟨.struct [(0, 1), (1, 1), (2, 1), (3, 1), (4, 1), (5, 1), (6, 1), (7, 1), (8, 1), (9, 1), (10, 1)], 11, 48, [.t (.int .u64 0), .t (.int .u64 0), .t (.int .u32 0), .t (.int .u8 0), .t (.int .u8 0), .t (.int .u8 0), .t (.int .u8 0), .t .undef, .t .undef, .t (.int .i32 0), .t (.int .i32 0)], false⟩
  | 179 => some ⟨.plain, 1, 8, [.t .undef], false⟩
  | 180 => some ⟨.plain, 1, 8, [.t .undef], false⟩
  | 181 => some ⟨.struct [(0, 1), (1, 1)], 2, 24, [.t (.str ByteArray.empty), .t (.int .u8 0)], false⟩
  | 182 => some ⟨.struct [(0, 1), (1, 1)], 2, 24, [.t (.str ByteArray.empty), .t (.int .u8 0)], false⟩
  | 183 => some ⟨.plain, 1, 8, [.t .undef], false⟩
  | _ => none
def tt23 : Nat → Option TI
  | 184 => some ⟨.plain, 1, 8, [.t .undef], false⟩
  | 185 => some ⟨.int .u16, 1, 2, [.t (.int .u16 0)], false⟩
  | 186 => some ⟨.struct [(0, 1), (1, 1), (2, 1), (3, 1), (4, 1)], 5, 16, [.t (.int .i32 0), .t (.int .u16 0), .t (.int .u16 0), .t (.int .u32 0), .t (.int .u32 0)], false⟩
  | 187 => some ⟨.struct [(0, 1), (1, 1), (2, 1), (3, 1), (4, 1)], 5, 16, [.t (.int .i32 0), .t (.int .u16 0), .t (.int .u16 0), .t (.int .u32 0), .t (.int .u32 0)], false⟩
  | 188 => some ⟨.slice 191, 1, 24, [.nil], false⟩
  | 189 => some ⟨.int .i32, 1, 4, [.t (.int .i32 0)], false⟩
  | 190 => some ⟨.struct [(0, 1), (1, 1), (2, 1), (3, 1)], 4, 16, [.t (.int .i32 0), .t (.int .i32 0), .t (.int .i32 0), .t (.int .i32 0)], false⟩
  | 191 => some ⟨.struct [(0, 1), (1, 1), (2, 1), (3, 1)], 4, 16, [.t (.int .i32 0), .t (.int .i32 0), .t (.int .i32 0), .t (.int .i32 0)], false⟩
  | _ => none
def tt24 : Nat → Option TI
  | 192 => some ⟨.plain, 1, 8, [.t .undef], false⟩
  | _ => none
def tts0 (n : Nat) : Nat → Option TI
  | 0 => tt0 n
  | 1 => tt1 n
  | 2 => tt2 n
  | 3 => tt3 n
  | 4 => tt4 n
  | 5 => tt5 n
  | 6 => tt6 n
  | 7 => tt7 n
  | _ => none
def tts1 (n : Nat) : Nat → Option TI
  | 8 => tt8 n
  | 9 => tt9 n
  | 10 => tt10 n
  | 11 => tt11 n
  | 12 => tt12 n
  | 13 => tt13 n
  | 14 => tt14 n
  | 15 => tt15 n
  | _ => none
def tts2 (n : Nat) : Nat → Option TI
  | 16 => tt16 n
  | 17 => tt17 n
  | 18 => tt18 n
  | 19 => tt19 n
  | 20 => tt20 n
  | 21 => tt21 n
  | 22 => tt22 n
  | 23 => tt23 n
  | _ => none
def tts3 (n : Nat) : Nat → Option TI
  | 24 => tt24 n
  | _ => none
def tt (n : Nat) : Option TI := match n / 64 with
  | 0 => tts0 n (n / 8)
  | 1 => tts1 n (n / 8)
  | 2 => tts2 n (n / 8)
  | 3 => tts3 n (n / 8)
  | _ => none
set_option maxRecDepth 100000
theorem laid : laidOutB Tryd.prog = true := by kernel_rfl
theorem small : Tryd.prog.types.size + 2 ≤ 10000 := of_decide_eq_true (by kernel_rfl)
theorem tt0_ok : TTok Tryd.prog tt0 := by
  intro t i h
  unfold tt0 at h
  split at h <;> first
    | (cases h; exact chkTI_ok laid small (by kernel_rfl))
    | cases h
theorem tt1_ok : TTok Tryd.prog tt1 := by
  intro t i h
  unfold tt1 at h
  split at h <;> first
    | (cases h; exact chkTI_ok laid small (by kernel_rfl))
    | cases h
theorem tt2_ok : TTok Tryd.prog tt2 := by
  intro t i h
  unfold tt2 at h
  split at h <;> first
    | (cases h; exact chkTI_ok laid small (by kernel_rfl))
    | cases h
theorem tt3_ok : TTok Tryd.prog tt3 := by
  intro t i h
  unfold tt3 at h
  split at h <;> first
    | (cases h; exact chkTI_ok laid small (by kernel_rfl))
    | cases h
theorem tt4_ok : TTok Tryd.prog tt4 := by
  intro t i h
  unfold tt4 at h
  split at h <;> first
    | (cases h; exact chkTI_ok laid small (by kernel_rfl))
    | cases h
theorem tt5_ok : TTok Tryd.prog tt5 := by
  intro t i h
  unfold tt5 at h
  split at h <;> first
    | (cases h; exact chkTI_ok laid small (by kernel_rfl))
    | cases h
theorem tt6_ok : TTok Tryd.prog tt6 := by
  intro t i h
  unfold tt6 at h
  split at h <;> first
    | (cases h; exact chkTI_ok laid small (by kernel_rfl))
    | cases h
theorem tt7_ok : TTok Tryd.prog tt7 := by
  intro t i h
  unfold tt7 at h
  split at h <;> first
    | (cases h; exact chkTI_ok laid small (by kernel_rfl))
    | cases h
theorem tt8_ok : TTok Tryd.prog tt8 := by
  intro t i h
  unfold tt8 at h
  split at h <;> first
    | (cases h; exact chkTI_ok laid small (by kernel_rfl))
    | cases h
theorem tt9_ok : TTok Tryd.prog tt9 := by
  intro t i h
  unfold tt9 at h
  split at h <;> first
    | (cases h; exact chkTI_ok laid small (by kernel_rfl))
    | cases h
theorem tt10_ok : TTok Tryd.prog tt10 := by
  intro t i h
  unfold tt10 at h
  split at h <;> first
    | (cases h; exact chkTI_ok laid small (by kernel_rfl))
    | cases h
theorem tt11_ok : TTok Tryd.prog tt11 := by
  intro t i h
  unfold tt11 at h
  split at h <;> first
    | (cases h; exact chkTI_ok laid small (by kernel_rfl))
    | cases h
theorem tt12_ok : TTok Tryd.prog tt12 := by
  intro t i h
  unfold tt12 at h
  split at h <;> first
    | (cases h; exact chkTI_ok laid small (by kernel_rfl))
    | cases h
theorem tt13_ok : TTok Tryd.prog tt13 := by
  intro t i h
  unfold tt13 at h
  split at h <;> first
    | (cases h; exact chkTI_ok laid small (by kernel_rfl))
    | cases h
theorem tt14_ok : TTok Tryd.prog tt14 := by
  intro t i h
  unfold tt14 at h
  split at h <;> first
    | (cases h; exact chkTI_ok laid small (by kernel_rfl))
    | cases h
theorem tt15_ok : TTok Tryd.prog tt15 := by
  intro t i h
  unfold tt15 at h
  split at h <;> first
    | (cases h; exact chkTI_ok laid small (by kernel_rfl))
    | cases h
theorem tt16_ok : TTok Tryd.prog tt16 := by
  intro t i h
  unfold tt16 at h
  split at h <;> first
    | (cases h; exact chkTI_ok laid small (by kernel_rfl))
    | cases h
theorem tt17_ok : TTok Tryd.prog tt17 := by
  intro t i h
  unfold tt17 at h
  split at h <;> first
    | (cases h; exact chkTI_ok laid small (by kernel_rfl))
    | cases h
theorem tt18_ok : TTok Tryd.prog tt18 := by
  intro t i h
  unfold tt18 at h
  split at h <;> first
    | (cases h; exact chkTI_ok laid small (by kernel_rfl))
    | cases h
theorem tt19_ok : TTok Tryd.prog tt19 := by
  intro t i h
  unfold tt19 at h
  split at h <;> first
    | (cases h; exact chkTI_ok laid small (by kernel_rfl))
    | cases h
theorem tt20_ok : TTok Tryd.prog tt20 := by
  intro t i h
  unfold tt20 at h
  split at h <;> first
    | (cases h; exact chkTI_ok laid small (by kernel_rfl))
    | cases h
theorem tt21_ok : TTok Tryd.prog tt21 := by
  intro t i h
  unfold tt21 at h
  split at h <;> first
    | (cases h; exact chkTI_ok laid small (by kernel_rfl))
    | cases h
theorem tt22_ok : TTok Tryd.prog tt22 := by
  intro t i h
  unfold tt22 at h
  split at h <;> first
    | (cases h; exact chkTI_ok laid small (by kernel_rfl))
    | cases h
theorem tt23_ok : TTok Tryd.prog tt23 := by
  intro t i h
  unfold tt23 at h
  split at h <;> first
    | (cases h; exact chkTI_ok laid small (by kernel_rfl))
    | cases h
theorem tt24_ok : TTok Tryd.prog tt24 := by
  intro t i h
  unfold tt24 at h
  split at h <;> first
    | (cases h; exact chkTI_ok laid small (by kernel_rfl))
    | cases h
theorem tts0_ok (k : Nat) : TTok Tryd.prog (fun n => tts0 n k) := by
  intro t i h
  unfold tts0 at h
  split at h <;> first
    | exact tt0_ok _ _ h
    | exact tt1_ok _ _ h
    | exact tt2_ok _ _ h
    | exact tt3_ok _ _ h
    | exact tt4_ok _ _ h
    | exact tt5_ok _ _ h
    | exact tt6_ok _ _ h
    | exact tt7_ok _ _ h
    | cases h
theorem tts1_ok (k : Nat) : TTok Tryd.prog (fun n => tts1 n k) := by
  intro t i h
  unfold tts1 at h
  split at h <;> first
    | exact tt8_ok _ _ h
    | exact tt9_ok _ _ h
    | exact tt10_ok _ _ h
    | exact tt11_ok _ _ h
    | exact tt12_ok _ _ h
    | exact tt13_ok _ _ h
    | exact tt14_ok _ _ h
    | exact tt15_ok _ _ h
    | cases h
theorem tts2_ok (k : Nat) : TTok Tryd.prog (fun n => tts2 n k) := by
  intro t i h
  unfold tts2 at h
  split at h <;> first
    | exact tt16_ok _ _ h
    | exact tt17_ok _ _ h
    | exact tt18_ok _ _ h
    | exact tt19_ok _ _ h
    | exact tt20_ok _ _ h
    | exact tt21_ok _ _ h
    | exact tt22_ok _ _ h
    | exact tt23_ok _ _ h
    | cases h
theorem tts3_ok (k : Nat) : TTok Tryd.prog (fun n => tts3 n k) := by
  intro t i h
  unfold tts3 at h
  split at h <;> first
    | exact tt24_ok _ _ h
    | cases h
theorem tt_ok : TTok Tryd.prog tt := by
  intro t i h
  unfold tt at h
  split at h <;> first
    | exact tts0_ok _ _ _ h
    | exact tts1_ok _ _ _ h
    | exact tts2_ok _ _ _ h
    | exact tts3_ok _ _ _ h
    | cases h
end Go.Proofs.YthcclcbliedodaaDoor
namespace Go.Proofs.YthcclcbliedodaaDoor
open Go.RowKit

attribute [go_sem] nLe nNle nLt nNlt nEq nNe iLe iNle iLt iNlt iEq iNe
attribute [go_sem] runOps stepOp stepOp0 stepOp1 evalOp dstOk St.ev.eq_1 St.ev.eq_2 St.ev.eq_3 St.ev.eq_4 ofConst St.get
attribute [go_sem] St.put look T.bin isConst mkFn allT St.len St.lst St.obj St.load loadT loadS
attribute [go_sem] mkAgg TK.isAgg St.index treeIndex SV.plus T.cells T.max2 T.min2 fillS SV.storable T.storable SV.cells
attribute [go_sem] St.litS idxOk zipFrz frz frzC frzL St.append St.appLen scrub St.bd SV.ren renL
attribute [go_sem] Ob.ren St.store T.put TI.zT SV.toT0 List.length_replicate List.getElem?_replicate Nat.one_mul Nat.mul_one List.isEmpty_cons List.isEmpty_nil or_self
attribute [go_sem] true_or or_true false_or or_false and_self decide_eq_true_eq if_true if_false ite_true ite_false Option.getD_some Option.getD_none
attribute [go_sem] Option.map_some Option.map_none Option.bind_some Option.bind_none decide_true decide_false Bool.true_and Bool.and_true Bool.false_and Bool.and_false Bool.not_true Bool.not_false
attribute [go_sem] beq_self_eq_true List.getElem?_cons_zero List.getElem?_cons_succ List.map_cons List.map_nil List.cons_append List.nil_append List.length_cons List.length_nil List.toList_toArray true_and and_true
attribute [go_sem] false_and and_false List.all_cons List.all_nil List.drop_zero List.drop_succ_cons List.take_succ_cons List.take_zero List.head?_cons List.set_cons_zero List.set_cons_succ Bool.or_true
attribute [go_sem] Bool.true_or Bool.or_false Bool.false_or ne_eq not_true_eq_false not_false_eq_true Nat.zero_add List.getElem?_toArray tInt tNat tInts tBools
attribute [go_sem] tIntss wrap_i64 List.getElem?_map List.length_map Int.toNat_natCast List.all_map stepX stepX0 evalX St.callR findCo
attribute [go_sem] St.litQ St.sliceQ St.rdL St.rd St.trL St.tr T.flatData flatAll lookR St.mapUp St.slice strSlice
attribute [go_sem] T.okKey T.inR bytesOf eq_self stepI quietOp St.ownAll St.own setSlot true_implies implies_true false_implies
attribute [go_sem] keepL reach addNew refsL SV.refs Ob.refs List.append_nil List.mem_cons List.not_mem_nil List.getElem?_nil posIn St.resL
attribute [go_sem] St.res1 St.gc St.head
theorem gb_a (l : List Int) (k : Nat) (h : k < l.length) : l[k]? = some l[k]! := get_bang l k h
theorem gb_b (l : List Bool) (k : Nat) (h : k < l.length) : l[k]? = some l[k]! := get_bang l k h
theorem gb_c (l : List (List Int)) (k : Nat) (h : k < l.length) : l[k]? = some l[k]! := get_bang l k h
theorem gb_d (l : List Nat) (k : Nat) (h : k < l.length) : l[k]? = some l[k]! := get_bang l k h
theorem gb_e (l : List T) (k : Nat) (h : k < l.length) : l[k]? = some l[k]! := get_bang l k h
theorem gb_f (l : List (List (List Int))) (k : Nat) (h : k < l.length) : l[k]? = some l[k]! := get_bang l k h
theorem gb_g (l : List (List Bool)) (k : Nat) (h : k < l.length) : l[k]? = some l[k]! := get_bang l k h
theorem gb_h (l : List (List Nat)) (k : Nat) (h : k < l.length) : l[k]? = some l[k]! := get_bang l k h
theorem gb_i (l : List (List (List (List Int)))) (k : Nat) (h : k < l.length) : l[k]? = some l[k]! := get_bang l k h
theorem gb_j (l : List (Int × Int)) (k : Nat) (h : k < l.length) : l[k]? = some l[k]! := get_bang l k h
theorem gb_k (l : List (Nat × Nat)) (k : Nat) (h : k < l.length) : l[k]? = some l[k]! := get_bang l k h
theorem gb_l (l : List UInt8) (k : Nat) (h : k < l.length) : l[k]? = some l[k]! := get_bang l k h
theorem gb_m (l : List (List T)) (k : Nat) (h : k < l.length) : l[k]? = some l[k]! := get_bang l k h
theorem gb_n (l : List String) (k : Nat) (h : k < l.length) : l[k]? = some l[k]! := get_bang l k h
theorem gb_o (l : List (Int × Int × Int)) (k : Nat) (h : k < l.length) : l[k]? = some l[k]! := get_bang l k h
theorem gb_p (l : List (T × T)) (k : Nat) (h : k < l.length) : l[k]? = some l[k]! := get_bang l k h
theorem gb_q (l : List (List (Int × Int))) (k : Nat) (h : k < l.length) : l[k]? = some l[k]! := get_bang l k h
theorem gb_r (l : List (Nat × Nat × Nat)) (k : Nat) (h : k < l.length) : l[k]? = some l[k]! := get_bang l k h
theorem gb_s (l : List (List UInt8)) (k : Nat) (h : k < l.length) : l[k]? = some l[k]! := get_bang l k h
theorem gb_t (l : List (List (T × T))) (k : Nat) (h : k < l.length) : l[k]? = some l[k]! := get_bang l k h
theorem gb_u (l : List (List (Int × Int))) (k : Nat) (h : k < l.length) : l[k]? = some l[k]! := get_bang l k h
attribute [go_sem] gb_a gb_b gb_c gb_d gb_e gb_f gb_g gb_h gb_i gb_j gb_k gb_l gb_m gb_n gb_o gb_p gb_q gb_r gb_s gb_t gb_u
attribute [go_sem] T.beqA eqIs SV.gd Option.some.injEq
attribute [go_sem] St.sliceA T.isCell stepA allocAt List.lookup
attribute [go_sem] St.res tt tts0 tts1 tts2 tts3 tt0 tt1 tt2 tt3 tt4 tt5 tt6 tt7 tt8 tt9 tt10 tt11 tt12 tt13 tt14 tt15 tt16 tt17 tt18 tt19 tt20 tt21 tt22 tt23 tt24
theorem w1 : type_of% @SW_seq := @SW_seq
theorem w2 : type_of% @SW_block := @SW_block
theorem w3 : type_of% @SThen_n := @SThen_n
theorem w4 : type_of% @SThen_r := @SThen_r
theorem w5 : type_of% @SThen_e := @SThen_e
theorem w6 : type_of% @SIn_n := @SIn_n
theorem w7 : type_of% @SIn_r := @SIn_r
theorem w8 : type_of% @SIn_eq := @SIn_eq
theorem w9 : type_of% @SW_skip := @SW_skip
theorem wa : type_of% @SW_exit := @SW_exit
theorem wb : type_of% @SW_ret := @SW_ret
theorem wc : type_of% @SPost_r := @SPost_r
theorem wd : type_of% @SIn_ne := @SIn_ne
theorem we : type_of% @SW_true := @SW_true
theorem wf : type_of% @SW_false := @SW_false
theorem wg : type_of% @runX_nil := @runX_nil
theorem wh : type_of% @runI_nil := @runI_nil
theorem wi : type_of% @runX_cons := @runX_cons
theorem wj : type_of% @runI_cons := @runI_cons
end Go.Proofs.YthcclcbliedodaaDoor
namespace Go.Proofs.YthcclcbliedodaaDoor
open Go.RowKit

def tErr (e : Int) : T := if e = 0 then .nilI else .iface 26 (.int .i64 e)
theorem tErr0 : tErr 0 = .nilI := rfl
def tAuto (a : GAuto) : T := .agg [tInt a.base, tInt a.tracks, tIntss a.next, tBools a.ends]
def I64s (l : List Int) : Prop := ∀ x ∈ l, I64 x
structure I64A (a : GAuto) : Prop where
  base : I64 a.base
  tracks : I64 a.tracks
  next : ∀ r ∈ a.next, I64s r
section
variable {P : Program} {G : World → Prop}
theorem enter_of {f : Nat} {fn : Func} {c : Code} (hf : P.funcs[f]? = some fn) (hb : fn.body = some c) (hn : (fn.name == "runtime.NumGoroutine") = false) (vs : Array Value) (w : World) : (callFunc f vs).run P w = .ok (.enter f vs) w := by
  unfold callFunc
  rw [Sem.run_bind, run_program, Result.andThen_ok]
  simp only [hf, hn, hb, Option.isNone_some, Bool.false_eq_true, if_false]
  rfl
theorem snd2 {f : Nat} {fn : Func} {c : Code} {x y r : T} (hf : P.funcs[f]? = some fn) (hb : fn.body = some c) (hn : (fn.name == "runtime.NumGoroutine") = false)
    (h : ∀ (S : Nat → Prop) (w : World) (v u : Value), G w → (∀ b, S b → b < w.heap.size) → RepT S w x v → RepT S w y u → ∃ V, Calls P f #[v, u] w (fun e w' => e = .returned V ∧ Below w.heap.size w w') ∧ ∀ S w, RepT S w r V) : Snd P G f [x, y] r := by
  refine ⟨enter_of hf hb hn, fun S w vs hG hs hr => ?_⟩
  obtain ⟨l⟩ := vs
  match l, hs with
  | [v0, v1], _ =>
    obtain ⟨V, h1, h2⟩ := h (fun b => S b ∧ b < w.heap.size) w v0 v1 hG (fun b hb => hb.2) ((hr 0 _ v0 rfl rfl).keep ⟨Nat.le_refl _, fun b hb hlt => ⟨rfl, hb, hlt⟩⟩) ((hr 1 _ v1 rfl rfl).keep ⟨Nat.le_refl _, fun b hb hlt => ⟨rfl, hb, hlt⟩⟩)
    exact h1.mono fun e w' hq => ⟨V, hq.1, h2 _ _, hq.2⟩
end
theorem intInv {S : Nat → Prop} {w : World} {n : Int} {v : Value} (h : RepT S w (tInt n) v) : v = .int .i64 n := by cases h; rfl
theorem bang_get {α : Type} [Inhabited α] {l : List α} {i : Nat} {x : α} (h : l[i]! = x) (hi : i < l.length) : l[i]? = some x := by rw [← h, getElem!_pos l i hi]; exact List.getElem?_eq_getElem hi
theorem bang_mem {α : Type} [Inhabited α] {l : List α} {i : Nat} {x : α} (h : l[i]! = x) (hi : i < l.length) : x ∈ l := List.mem_of_getElem? (bang_get h hi)
theorem bang_D {α : Type} [Inhabited α] {l : List α} {i : Nat} {x d : α} (h : l[i]! = x) (hi : i < l.length) : l.getD i d = x := by rw [getD_lt hi, ← h, getElem!_pos l i hi]
theorem bang_at {α : Type} [Inhabited α] {l : List α} {i : Nat} {x : α} (h : l[i]! = x) (hi : i < l.length) : l[i] = x := by rw [← h, getElem!_pos l i hi]
theorem take_next {α : Type} [Inhabited α] {l : List α} {i : Nat} {x : α} (h : l[i]! = x) (hi : i < l.length) : l.take (i + 1) = l.take i ++ [x] := by
  rw [List.take_succ_eq_append_getElem hi, bang_at h hi]
section
variable {G : World → Prop} (hG : Lasting G)
include hG
theorem Radix_snd (base : Int) : Snd Tryd.prog G 56 [tInt base] (tInt (radix base)) := by
  have htb : Tab.ok Tryd.prog G [] := Tab.nil
  refine snd_of_body (n := 12) (tm := [(0, .t (tInt base))]) (rs := [.tmp 2]) tt_ok Tryd.func56 rfl rfl rfl rfl rfl ?_
  unfold radix
  by_cases h1 : base = 1
  · repeat' (first | (with_reducible first | apply w1 | apply w2 | apply w3 | apply w4 | apply w5 | apply w6 | apply w7 | apply w8 | apply w9 | apply wa | apply wb | apply wc) | ((with_reducible apply wd); focus decide) | ((with_reducible apply we); focus exact rfl) | ((with_reducible apply wf); focus exact rfl) | ((first | (with_reducible apply SW_run tt_ok hG htb) | ((with_reducible apply SW_draw rfl tt_ok hG htb); (focus kernel_rfl); focus simp only [List.range, List.range.loop, List.size_toArray, List.length_cons, List.length_nil, Nat.reduceAdd])); focus ((repeat' (first | (with_reducible first | exact wg | exact wh) | ((with_reducible first | apply wi | apply wj); focus (simp (discharger := omega) only [go_sem, h1, simprocAttr]; with_reducible rfl)))); done)))
    exact (by simp (discharger := omega) only [go_sem, h1, simprocAttr])
  · by_cases h2 : 2 ≤ base
    · by_cases h3 : base ≤ 6
      · repeat' (first | (with_reducible first | apply w1 | apply w2 | apply w3 | apply w4 | apply w5 | apply w6 | apply w7 | apply w8 | apply w9 | apply wa | apply wb | apply wc) | ((with_reducible apply wd); focus decide) | ((with_reducible apply we); focus exact rfl) | ((with_reducible apply wf); focus exact rfl) | ((first | (with_reducible apply SW_run tt_ok hG htb) | ((with_reducible apply SW_draw rfl tt_ok hG htb); (focus kernel_rfl); focus simp only [List.range, List.range.loop, List.size_toArray, List.length_cons, List.length_nil, Nat.reduceAdd])); focus ((repeat' (first | (with_reducible first | exact wg | exact wh) | ((with_reducible first | apply wi | apply wj); focus (simp (discharger := omega) only [go_sem, simprocAttr]; with_reducible rfl)))); done)))
        exact (by simp (discharger := omega) only [go_sem, simprocAttr])
      · repeat' (first | (with_reducible first | apply w1 | apply w2 | apply w3 | apply w4 | apply w5 | apply w6 | apply w7 | apply w8 | apply w9 | apply wa | apply wb | apply wc) | ((with_reducible apply wd); focus decide) | ((with_reducible apply we); focus exact rfl) | ((with_reducible apply wf); focus exact rfl) | ((first | (with_reducible apply SW_run tt_ok hG htb) | ((with_reducible apply SW_draw rfl tt_ok hG htb); (focus kernel_rfl); focus simp only [List.range, List.range.loop, List.size_toArray, List.length_cons, List.length_nil, Nat.reduceAdd])); focus ((repeat' (first | (with_reducible first | exact wg | exact wh) | ((with_reducible first | apply wi | apply wj); focus (simp (discharger := omega) only [go_sem, simprocAttr]; with_reducible rfl)))); done)))
        exact (by simp (discharger := omega) only [go_sem, simprocAttr])
    · repeat' (first | (with_reducible first | apply w1 | apply w2 | apply w3 | apply w4 | apply w5 | apply w6 | apply w7 | apply w8 | apply w9 | apply wa | apply wb | apply wc) | ((with_reducible apply wd); focus decide) | ((with_reducible apply we); focus exact rfl) | ((with_reducible apply wf); focus exact rfl) | ((first | (with_reducible apply SW_run tt_ok hG htb) | ((with_reducible apply SW_draw rfl tt_ok hG htb); (focus kernel_rfl); focus simp only [List.range, List.range.loop, List.size_toArray, List.length_cons, List.length_nil, Nat.reduceAdd])); focus ((repeat' (first | (with_reducible first | exact wg | exact wh) | ((with_reducible first | apply wi | apply wj); focus (simp (discharger := omega) only [go_sem, simprocAttr]; with_reducible rfl)))); done)))
      exact (by simp (discharger := omega) only [go_sem, simprocAttr])
set_option maxHeartbeats 4000000 in
theorem Many_snd (base t : Int) : Snd Tryd.prog G 29 [tInt base, tInt t] (.tup [tInt (manyOf base t), tErr (manyErr base t)]) := by
  have htb := Tab.cons (Radix_snd hG base) Tab.nil
  refine snd_of_body (n := 32) (tm := [(0, .t (tInt base)), (1, .t (tInt t))]) (rs := [.tmp 4, .tmp 5]) tt_ok Tryd.func29 rfl rfl rfl rfl rfl ?_
  unfold manyOf manyErr
  generalize hk : radix base = k at htb ⊢
  by_cases h1 : k = 0
  · subst h1
    repeat' (first | (with_reducible first | apply w1 | apply w2 | apply w3 | apply w4 | apply w5 | apply w6 | apply w7 | apply w8 | apply w9 | apply wa | apply wb | apply wc) | ((with_reducible apply wd); focus decide) | ((with_reducible apply we); focus exact rfl) | ((with_reducible apply wf); focus exact rfl) | ((first | (with_reducible apply SW_run tt_ok hG htb) | ((with_reducible apply SW_draw rfl tt_ok hG htb); (focus kernel_rfl); focus simp only [List.range, List.range.loop, List.size_toArray, List.length_cons, List.length_nil, Nat.reduceAdd])); focus ((repeat' (first | (with_reducible first | exact wg | exact wh) | ((with_reducible first | apply wi | apply wj); focus (simp (discharger := omega) only [go_sem, simprocAttr]; with_reducible rfl)))); done)))
    exact (by simp (discharger := omega) only [go_sem, tErr, simprocAttr])
  · by_cases h2 : t < 0
    · repeat' (first | (with_reducible first | apply w1 | apply w2 | apply w3 | apply w4 | apply w5 | apply w6 | apply w7 | apply w8 | apply w9 | apply wa | apply wb | apply wc) | ((with_reducible apply wd); focus decide) | ((with_reducible apply we); focus exact rfl) | ((with_reducible apply wf); focus exact rfl) | ((first | (with_reducible apply SW_run tt_ok hG htb) | ((with_reducible apply SW_draw rfl tt_ok hG htb); (focus kernel_rfl); focus simp only [List.range, List.range.loop, List.size_toArray, List.length_cons, List.length_nil, Nat.reduceAdd])); focus ((repeat' (first | (with_reducible first | exact wg | exact wh) | ((with_reducible first | apply wi | apply wj); focus (simp (discharger := omega) only [go_sem, simprocAttr]; with_reducible rfl)))); done)))
      exact (by simp (discharger := omega) only [go_sem, tErr, simprocAttr])
    · by_cases h3 : 5 < t
      · repeat' (first | (with_reducible first | apply w1 | apply w2 | apply w3 | apply w4 | apply w5 | apply w6 | apply w7 | apply w8 | apply w9 | apply wa | apply wb | apply wc) | ((with_reducible apply wd); focus decide) | ((with_reducible apply we); focus exact rfl) | ((with_reducible apply wf); focus exact rfl) | ((first | (with_reducible apply SW_run tt_ok hG htb) | ((with_reducible apply SW_draw rfl tt_ok hG htb); (focus kernel_rfl); focus simp only [List.range, List.range.loop, List.size_toArray, List.length_cons, List.length_nil, Nat.reduceAdd])); focus ((repeat' (first | (with_reducible first | exact wg | exact wh) | ((with_reducible first | apply wi | apply wj); focus (simp (discharger := omega) only [go_sem, simprocAttr]; with_reducible rfl)))); done)))
        exact (by simp (discharger := omega) only [go_sem, tErr, simprocAttr])
      · obtain ⟨r2, r6⟩ := radix_two (b := base) (by omega)
        rw [hk] at r2 r6
        obtain ⟨t, rfl⟩ := Int.eq_ofNat_of_zero_le (show 0 ≤ t by omega)
        rw [show (if k = 0 ∨ (t : Int) < 0 ∨ 5 < (t : Int) then (1 : Int) else if 36 < powW k (t : Int).toNat then 3 else 0) = if 36 < powW k t then 3 else 0 by rw [if_neg (by omega)]; rfl]
        repeat' (first | (with_reducible first | apply w1 | apply w2 | apply w3 | apply w4 | apply w5 | apply w6 | apply w7 | apply w8 | apply w9 | apply wa | apply wb | apply wc) | ((with_reducible apply wd); focus decide) | ((with_reducible apply we); focus exact rfl) | ((with_reducible apply wf); focus exact rfl) | ((first | (with_reducible apply SW_run tt_ok hG htb) | ((with_reducible apply SW_draw rfl tt_ok hG htb); (focus kernel_rfl); focus simp only [List.range, List.range.loop, List.size_toArray, List.length_cons, List.length_nil, Nat.reduceAdd])); focus ((repeat' (first | (with_reducible first | exact wg | exact wh) | ((with_reducible first | apply wi | apply wj); focus (simp (discharger := omega) only [go_sem, simprocAttr]; with_reducible rfl)))); done)))
        refine SW_loop (fun m s => ∃ i : Nat, m = t - i ∧ s = ⟨32, [(6, .t (tInt k)), (7, .t (tInt (powW k i))), (21, .t (tInt t)), (22, .t (tInt i))], []⟩ ∧ i ≤ t) t ⟨_, Norm.headS (own := []) (keep := [6, 7, 21, 22]) (by refine ⟨?_, ?_⟩; (simp (discharger := omega) only [go_sem, simprocAttr]; with_reducible rfl); refine ⟨?_, ?_, ?_, ?_⟩ <;> (simp only [go_sem, simprocAttr]; with_reducible rfl)), 0, rfl, rfl, Nat.zero_le _⟩ ?_
        rintro m s ⟨i, rfl, rfl, hi⟩
        have hb := powW_bd r2 r6 (j := i) (by omega)
        by_cases hlt : i < t
        · have hb1 : 1 ≤ powW k i * k ∧ powW k i * k ≤ 7776 := powW_bd r2 r6 (j := i + 1) (by omega)
          repeat' (first | (with_reducible first | apply w1 | apply w2 | apply w3 | apply w4 | apply w5 | apply w6 | apply w7 | apply w8 | apply w9 | apply wa | apply wb | apply wc) | ((with_reducible apply wd); focus decide) | ((with_reducible apply we); focus exact rfl) | ((with_reducible apply wf); focus exact rfl) | ((first | (with_reducible apply SW_run tt_ok hG htb) | ((with_reducible apply SW_draw rfl tt_ok hG htb); (focus kernel_rfl); focus simp only [List.range, List.range.loop, List.size_toArray, List.length_cons, List.length_nil, Nat.reduceAdd])); focus ((repeat' (first | (with_reducible first | exact wg | exact wh) | ((with_reducible first | apply wi | apply wj); focus (simp (discharger := omega) only [go_sem, simprocAttr]; with_reducible rfl)))); done)))
          exact ⟨t - (i + 1), _, by omega, Norm.headS (own := []) (keep := [6, 7, 21, 22]) (by refine ⟨?_, ?_⟩; (simp (discharger := omega) only [go_sem, simprocAttr]; with_reducible rfl); refine ⟨?_, ?_, ?_, ?_⟩ <;> (simp only [go_sem, simprocAttr]; with_reducible rfl)), i + 1, rfl, rfl, by omega⟩
        · obtain rfl : i = t := by omega
          by_cases h36 : 36 < powW k i
          · repeat' (first | (with_reducible first | apply w1 | apply w2 | apply w3 | apply w4 | apply w5 | apply w6 | apply w7 | apply w8 | apply w9 | apply wa | apply wb | apply wc) | ((with_reducible apply wd); focus decide) | ((with_reducible apply we); focus exact rfl) | ((with_reducible apply wf); focus exact rfl) | ((first | (with_reducible apply SW_run tt_ok hG htb) | ((with_reducible apply SW_draw rfl tt_ok hG htb); (focus kernel_rfl); focus simp only [List.range, List.range.loop, List.size_toArray, List.length_cons, List.length_nil, Nat.reduceAdd])); focus ((repeat' (first | (with_reducible first | exact wg | exact wh) | ((with_reducible first | apply wi | apply wj); focus (simp (discharger := omega) only [go_sem, simprocAttr]; with_reducible rfl)))); done)))
            exact (by simp (discharger := omega) only [go_sem, tErr, simprocAttr])
          · repeat' (first | (with_reducible first | apply w1 | apply w2 | apply w3 | apply w4 | apply w5 | apply w6 | apply w7 | apply w8 | apply w9 | apply wa | apply wb | apply wc) | ((with_reducible apply wd); focus decide) | ((with_reducible apply we); focus exact rfl) | ((with_reducible apply wf); focus exact rfl) | ((first | (with_reducible apply SW_run tt_ok hG htb) | ((with_reducible apply SW_draw rfl tt_ok hG htb); (focus kernel_rfl); focus simp only [List.range, List.range.loop, List.size_toArray, List.length_cons, List.length_nil, Nat.reduceAdd])); focus ((repeat' (first | (with_reducible first | exact wg | exact wh) | ((with_reducible first | apply wi | apply wj); focus (simp (discharger := omega) only [go_sem, simprocAttr]; with_reducible rfl)))); done)))
            exact (by simp (discharger := omega) only [go_sem, tErr, simprocAttr])
set_option maxHeartbeats 4000000 in
theorem Check_snd (a : GAuto) : Snd Tryd.prog G 26 [tAuto a] (tErr (autoFault a)) := by
  have htb := Tab.cons (Many_snd hG a.base a.tracks) Tab.nil
  refine snd_of_body (n := 72) (tm := [(0, .t (tAuto a))]) (rs := [.tmp 2]) tt_ok Tryd.func26 rfl rfl rfl rfl rfl ?_
  unfold autoFault
  by_cases h0 : manyErr a.base a.tracks = 0
  · rw [if_neg (by omega)]
    rw [h0] at htb
    have h36 := (many_ok h0).2.2.2.1
    rw [← (many_ok h0).2.2.2.2] at h36
    generalize hmo : manyOf a.base a.tracks = mo at *
    by_cases h1 : a.next.length = 0
    · repeat' (first | (with_reducible first | apply w1 | apply w2 | apply w3 | apply w4 | apply w5 | apply w6 | apply w7 | apply w8 | apply w9 | apply wa | apply wb | apply wc) | ((with_reducible apply wd); focus decide) | ((with_reducible apply we); focus exact rfl) | ((with_reducible apply wf); focus exact rfl) | ((first | (with_reducible apply SW_run tt_ok hG htb) | ((with_reducible apply SW_draw rfl tt_ok hG htb); (focus kernel_rfl); focus simp only [List.range, List.range.loop, List.size_toArray, List.length_cons, List.length_nil, Nat.reduceAdd])); focus ((repeat' (first | (with_reducible first | exact wg | exact wh) | ((with_reducible first | apply wi | apply wj); focus (simp (discharger := omega) only [go_sem, tAuto, tErr, simprocAttr]; with_reducible rfl)))); done)))
      exact (by simp (discharger := omega) only [go_sem, tErr, simprocAttr])
    · by_cases h2 : 80 < a.next.length
      · repeat' (first | (with_reducible first | apply w1 | apply w2 | apply w3 | apply w4 | apply w5 | apply w6 | apply w7 | apply w8 | apply w9 | apply wa | apply wb | apply wc) | ((with_reducible apply wd); focus decide) | ((with_reducible apply we); focus exact rfl) | ((with_reducible apply wf); focus exact rfl) | ((first | (with_reducible apply SW_run tt_ok hG htb) | ((with_reducible apply SW_draw rfl tt_ok hG htb); (focus kernel_rfl); focus simp only [List.range, List.range.loop, List.size_toArray, List.length_cons, List.length_nil, Nat.reduceAdd])); focus ((repeat' (first | (with_reducible first | exact wg | exact wh) | ((with_reducible first | apply wi | apply wj); focus (simp (discharger := omega) only [go_sem, tAuto, tErr, simprocAttr]; with_reducible rfl)))); done)))
        exact (by simp (discharger := omega) only [go_sem, tErr, simprocAttr])
      · by_cases h3 : a.ends.length = a.next.length
        · rw [if_neg h1, if_neg h2, if_neg (by omega)]
          repeat' (first | (with_reducible first | apply w1 | apply w2 | apply w3 | apply w4 | apply w5 | apply w6 | apply w7 | apply w8 | apply w9 | apply wa | apply wb | apply wc) | ((with_reducible apply wd); focus decide) | ((with_reducible apply we); focus exact rfl) | ((with_reducible apply wf); focus exact rfl) | ((first | (with_reducible apply SW_run tt_ok hG htb) | ((with_reducible apply SW_draw rfl tt_ok hG htb); (focus kernel_rfl); focus simp only [List.range, List.range.loop, List.size_toArray, List.length_cons, List.length_nil, Nat.reduceAdd])); focus ((repeat' (first | (with_reducible first | exact wg | exact wh) | ((with_reducible first | apply wi | apply wj); focus (simp (discharger := omega) only [go_sem, tAuto, tErr, h3, simprocAttr]; with_reducible rfl)))); done)))
          refine SW_loop (fun m s => ∃ i : Nat, m = a.next.length - i ∧ s = ⟨72, [(1, .bptr 0 0), (3, .t (tInt mo)), (43, .t (tIntss a.next)), (44, .t (tInt a.next.length)), (45, .t (tInt i))], [.box [.t (tInt a.base), .t (tInt a.tracks), .t (tIntss a.next), .t (tBools a.ends)]]⟩ ∧ i ≤ a.next.length ∧ ∀ j (hj : j < a.next.length), j < i → (a.next[j].length : Int) = mo ∧ ∀ s ∈ a.next[j], 0 ≤ s ∧ s < (a.next.length : Int)) a.next.length
            ⟨_, Norm.headS (own := []) (keep := [1, 3, 43, 44, 45]) (by refine ⟨?_, ?_⟩; (simp (discharger := omega) only [go_sem, simprocAttr]; with_reducible rfl); refine ⟨?_, ?_, ?_, ?_⟩ <;> (simp only [go_sem, simprocAttr]; with_reducible rfl)), 0, rfl, rfl, Nat.zero_le _, fun j hj h => by omega⟩ ?_
          rintro m s ⟨i, rfl, rfl, hi, hA⟩
          by_cases hlt : i < a.next.length
          · obtain ⟨row, hrow⟩ : ∃ row, a.next[i]! = row := ⟨_, rfl⟩
            have hat := bang_at hrow hlt
            obtain ⟨f1, f2⟩ := rowsFault_at hlt hA
            rw [hat] at f1 f2
            by_cases hrl : (row.length : Int) = mo
            · repeat' (first | (with_reducible first | apply w1 | apply w2 | apply w3 | apply w4 | apply w5 | apply w6 | apply w7 | apply w8 | apply w9 | apply wa | apply wb | apply wc) | ((with_reducible apply wd); focus decide) | ((with_reducible apply we); focus exact rfl) | ((with_reducible apply wf); focus exact rfl) | ((first | (with_reducible apply SW_run tt_ok hG htb) | ((with_reducible apply SW_draw rfl tt_ok hG htb); (focus kernel_rfl); focus simp only [List.range, List.range.loop, List.size_toArray, List.length_cons, List.length_nil, Nat.reduceAdd])); focus ((repeat' (first | (with_reducible first | exact wg | exact wh) | ((with_reducible first | apply wi | apply wj); focus (simp (discharger := omega) only [go_sem, hrow, simprocAttr]; with_reducible rfl)))); done)))
              refine SW_loop (fun m s => ∃ l : Nat, m = row.length - l ∧ s = ⟨72, [(1, .bptr 0 0), (3, .t (tInt mo)), (43, .t (tIntss a.next)), (44, .t (tInt a.next.length)), (45, .t (tInt i)), (54, .t (tInts row)), (55, .t (tInt row.length)), (56, .t (tInt l))], [.box [.t (tInt a.base), .t (tInt a.tracks), .t (tIntss a.next), .t (tBools a.ends)]]⟩ ∧ l ≤ row.length ∧ ∀ x ∈ row.take l, 0 ≤ x ∧ x < (a.next.length : Int)) row.length
                ⟨_, Norm.headS (own := []) (keep := [1, 3, 43, 44, 45, 54, 55, 56]) (by refine ⟨?_, ?_⟩; (simp (discharger := omega) only [go_sem, simprocAttr]; with_reducible rfl); refine ⟨?_, ?_, ?_, ?_⟩ <;> (simp only [go_sem, simprocAttr]; with_reducible rfl)), 0, rfl, rfl, Nat.zero_le _, fun x hx => by simp at hx⟩ ?_
              rintro m s ⟨l, rfl, rfl, hl, hB⟩
              by_cases hlt2 : l < row.length
              · obtain ⟨x, hx⟩ : ∃ x, row[l]! = x := ⟨_, rfl⟩
                have htk := take_next hx hlt2
                have hxm := bang_mem hx hlt2
                by_cases hx0 : 0 ≤ x
                · by_cases hxm2 : x < (a.next.length : Int)
                  · repeat' (first | (with_reducible first | apply w1 | apply w2 | apply w3 | apply w4 | apply w5 | apply w6 | apply w7 | apply w8 | apply w9 | apply wa | apply wb | apply wc) | ((with_reducible apply wd); focus decide) | ((with_reducible apply we); focus exact rfl) | ((with_reducible apply wf); focus exact rfl) | ((first | (with_reducible apply SW_run tt_ok hG htb) | ((with_reducible apply SW_draw rfl tt_ok hG htb); (focus kernel_rfl); focus simp only [List.range, List.range.loop, List.size_toArray, List.length_cons, List.length_nil, Nat.reduceAdd])); focus ((repeat' (first | (with_reducible first | exact wg | exact wh) | ((with_reducible first | apply wi | apply wj); focus (simp (discharger := omega) only [go_sem, hx, simprocAttr]; with_reducible rfl)))); done)))
                    exact ⟨row.length - (l + 1), _, by omega, Norm.headS (own := []) (keep := [1, 3, 43, 44, 45, 54, 55, 56]) (by refine ⟨?_, ?_⟩; (simp (discharger := omega) only [go_sem, simprocAttr]; with_reducible rfl); refine ⟨?_, ?_, ?_, ?_⟩ <;> (simp only [go_sem, simprocAttr]; with_reducible rfl)), l + 1, rfl, rfl, by omega, fun y hy => by
                      rw [htk] at hy
                      rcases List.mem_append.1 hy with h | h
                      · exact hB y h
                      · simp at h; subst h; exact ⟨hx0, hxm2⟩⟩
                  · rw [f2 hrl ⟨x, hxm, by omega⟩]
                    repeat' (first | (with_reducible first | apply w1 | apply w2 | apply w3 | apply w4 | apply w5 | apply w6 | apply w7 | apply w8 | apply w9 | apply wa | apply wb | apply wc) | ((with_reducible apply wd); focus decide) | ((with_reducible apply we); focus exact rfl) | ((with_reducible apply wf); focus exact rfl) | ((first | (with_reducible apply SW_run tt_ok hG htb) | ((with_reducible apply SW_draw rfl tt_ok hG htb); (focus kernel_rfl); focus simp only [List.range, List.range.loop, List.size_toArray, List.length_cons, List.length_nil, Nat.reduceAdd])); focus ((repeat' (first | (with_reducible first | exact wg | exact wh) | ((with_reducible first | apply wi | apply wj); focus (simp (discharger := omega) only [go_sem, hx, simprocAttr]; with_reducible rfl)))); done)))
                    exact (by simp (discharger := omega) only [go_sem, tErr, simprocAttr])
                · rw [f2 hrl ⟨x, hxm, by omega⟩]
                  repeat' (first | (with_reducible first | apply w1 | apply w2 | apply w3 | apply w4 | apply w5 | apply w6 | apply w7 | apply w8 | apply w9 | apply wa | apply wb | apply wc) | ((with_reducible apply wd); focus decide) | ((with_reducible apply we); focus exact rfl) | ((with_reducible apply wf); focus exact rfl) | ((first | (with_reducible apply SW_run tt_ok hG htb) | ((with_reducible apply SW_draw rfl tt_ok hG htb); (focus kernel_rfl); focus simp only [List.range, List.range.loop, List.size_toArray, List.length_cons, List.length_nil, Nat.reduceAdd])); focus ((repeat' (first | (with_reducible first | exact wg | exact wh) | ((with_reducible first | apply wi | apply wj); focus (simp (discharger := omega) only [go_sem, hx, simprocAttr]; with_reducible rfl)))); done)))
                  exact (by simp (discharger := omega) only [go_sem, tErr, simprocAttr])
              · obtain rfl : l = row.length := by omega
                rw [List.take_length] at hB
                repeat' (first | (with_reducible first | apply w1 | apply w2 | apply w3 | apply w4 | apply w5 | apply w6 | apply w7 | apply w8 | apply w9 | apply wa | apply wb | apply wc) | ((with_reducible apply wd); focus decide) | ((with_reducible apply we); focus exact rfl) | ((with_reducible apply wf); focus exact rfl) | ((first | (with_reducible apply SW_run tt_ok hG htb) | ((with_reducible apply SW_draw rfl tt_ok hG htb); (focus kernel_rfl); focus simp only [List.range, List.range.loop, List.size_toArray, List.length_cons, List.length_nil, Nat.reduceAdd])); focus ((repeat' (first | (with_reducible first | exact wg | exact wh) | ((with_reducible first | apply wi | apply wj); focus (simp (discharger := omega) only [go_sem, simprocAttr]; with_reducible rfl)))); done)))
                exact ⟨a.next.length - (i + 1), _, by omega, Norm.headS (own := []) (keep := [1, 3, 43, 44, 45]) (by refine ⟨?_, ?_⟩; (simp (discharger := omega) only [go_sem, simprocAttr]; with_reducible rfl); refine ⟨?_, ?_, ?_, ?_⟩ <;> (simp only [go_sem, simprocAttr]; with_reducible rfl)), i + 1, rfl, rfl, by omega, fun j hj h => by
                  by_cases e : j = i
                  · subst e; rw [hat]; exact ⟨hrl, hB⟩
                  · exact hA j hj (by omega)⟩
            · rw [f1 hrl]
              repeat' (first | (with_reducible first | apply w1 | apply w2 | apply w3 | apply w4 | apply w5 | apply w6 | apply w7 | apply w8 | apply w9 | apply wa | apply wb | apply wc) | ((with_reducible apply wd); focus decide) | ((with_reducible apply we); focus exact rfl) | ((with_reducible apply wf); focus exact rfl) | ((first | (with_reducible apply SW_run tt_ok hG htb) | ((with_reducible apply SW_draw rfl tt_ok hG htb); (focus kernel_rfl); focus simp only [List.range, List.range.loop, List.size_toArray, List.length_cons, List.length_nil, Nat.reduceAdd])); focus ((repeat' (first | (with_reducible first | exact wg | exact wh) | ((with_reducible first | apply wi | apply wj); focus (simp (discharger := omega) only [go_sem, hrow, simprocAttr]; with_reducible rfl)))); done)))
              exact (by simp (discharger := omega) only [go_sem, tErr, simprocAttr])
          · obtain rfl : i = a.next.length := by omega
            rw [rowsFault_zero.2 fun r hr => by obtain ⟨j, hj, rfl⟩ := List.mem_iff_getElem.1 hr; exact hA j hj hj]
            repeat' (first | (with_reducible first | apply w1 | apply w2 | apply w3 | apply w4 | apply w5 | apply w6 | apply w7 | apply w8 | apply w9 | apply wa | apply wb | apply wc) | ((with_reducible apply wd); focus decide) | ((with_reducible apply we); focus exact rfl) | ((with_reducible apply wf); focus exact rfl) | ((first | (with_reducible apply SW_run tt_ok hG htb) | ((with_reducible apply SW_draw rfl tt_ok hG htb); (focus kernel_rfl); focus simp only [List.range, List.range.loop, List.size_toArray, List.length_cons, List.length_nil, Nat.reduceAdd])); focus ((repeat' (first | (with_reducible first | exact wg | exact wh) | ((with_reducible first | apply wi | apply wj); focus (simp (discharger := omega) only [go_sem, simprocAttr]; with_reducible rfl)))); done)))
            exact (by simp (discharger := omega) only [go_sem, tErr, simprocAttr])
        · repeat' (first | (with_reducible first | apply w1 | apply w2 | apply w3 | apply w4 | apply w5 | apply w6 | apply w7 | apply w8 | apply w9 | apply wa | apply wb | apply wc) | ((with_reducible apply wd); focus decide) | ((with_reducible apply we); focus exact rfl) | ((with_reducible apply wf); focus exact rfl) | ((first | (with_reducible apply SW_run tt_ok hG htb) | ((with_reducible apply SW_draw rfl tt_ok hG htb); (focus kernel_rfl); focus simp only [List.range, List.range.loop, List.size_toArray, List.length_cons, List.length_nil, Nat.reduceAdd])); focus ((repeat' (first | (with_reducible first | exact wg | exact wh) | ((with_reducible first | apply wi | apply wj); focus (simp (discharger := omega) only [go_sem, tAuto, tErr, h3, simprocAttr]; with_reducible rfl)))); done)))
          exact (by simp (discharger := omega) only [go_sem, tErr, h3, simprocAttr])
  · generalize manyErr a.base a.tracks = e at *
    repeat' (first | (with_reducible first | apply w1 | apply w2 | apply w3 | apply w4 | apply w5 | apply w6 | apply w7 | apply w8 | apply w9 | apply wa | apply wb | apply wc) | ((with_reducible apply wd); focus decide) | ((with_reducible apply we); focus exact rfl) | ((with_reducible apply wf); focus exact rfl) | ((first | (with_reducible apply SW_run tt_ok hG htb) | ((with_reducible apply SW_draw rfl tt_ok hG htb); (focus kernel_rfl); focus simp only [List.range, List.range.loop, List.size_toArray, List.length_cons, List.length_nil, Nat.reduceAdd])); focus ((repeat' (first | (with_reducible first | exact wg | exact wh) | ((with_reducible first | apply wi | apply wj); focus (simp (discharger := omega) only [go_sem, tAuto, tErr, h0, simprocAttr]; with_reducible rfl)))); done)))
    exact (by simp (discharger := omega) only [go_sem, tErr, h0, simprocAttr])
end
end Go.Proofs.YthcclcbliedodaaDoor
namespace Go.Proofs.YthcclcbliedodaaDoor
open Go.RowKit

section
variable {G : World → Prop} (hG : Lasting G)
include hG
end
end Go.Proofs.YthcclcbliedodaaDoor
namespace Go.Proofs.YthcclcbliedodaaDoor
open Go.RowKit

/-- What a map from looks to classes holds. -/
def entries (κ : Int → ByteArray) (R : List Int) : List (T × T) := R.zipIdx.map fun p => (.str (κ p.1), tNat p.2)
section
variable {G : World → Prop} (hG : Lasting G)
include hG
end
end Go.Proofs.YthcclcbliedodaaDoor
namespace Go.Proofs.YthcclcbliedodaaDoor
open Go.RowKit

/-- The least automaton of one without fault. -/
noncomputable def leastA (a : GAuto) : GAuto := ⟨a.base, a.tracks, (leastRE (manyOf a.base a.tracks).toNat a.next a.ends).1, (leastRE (manyOf a.base a.tracks).toNat a.next a.ends).2⟩
section
variable {G : World → Prop} (hG : Lasting G)
include hG
end
end Go.Proofs.YthcclcbliedodaaDoor
namespace Go.Proofs.YthcclcbliedodaaDoor
open Go.RowKit

section
variable {G : World → Prop} (hG : Lasting G)
include hG
end
end Go.Proofs.YthcclcbliedodaaDoor
namespace Go.Proofs.YthcclcbliedodaaDoor
open Go.RowKit

section
variable {G : World → Prop} (hG : Lasting G)
include hG
end
end Go.Proofs.YthcclcbliedodaaDoor
namespace Go.Proofs.YthcclcbliedodaaDoor

/-- It is the least automaton of a language. -/
structure IsLeast (a : GAuto) (n : Nat) (base tracks : Int) (L : List Nat → Bool) : Prop where
  base : a.base = base
  tracks : a.tracks = tracks
  least : Least n a.next a.ends L
theorem IsLeast.unique {a b : GAuto} {n : Nat} {base tracks : Int} {L L' : List Nat → Bool} (h : IsLeast a n base tracks L) (h' : IsLeast b n base tracks L') (hL : ∀ w, Ltr n w → L w = L' w) : a = b := by
  have := (h.least.lang_congr hL).unique h'.least
  cases a; cases b
  simp only [GAuto.mk.injEq]
  exact ⟨h.base.trans h'.base.symm, h.tracks.trans h'.tracks.symm, this.1, this.2⟩
theorem Least.length_pos {n : Nat} {N : List (List Int)} {E : List Bool} {L : List Nat → Bool} (h : Least n N E L) : 0 < N.length := h.canon.m0
theorem IsLeast.good {a a0 : GAuto} {n m : Nat} {L : List Nat → Bool} (g : Good a0 n m) (h : IsLeast a n a0.base a0.tracks L) (h80 : a.next.length ≤ 80) : Good a n a.next.length :=
  ⟨by rw [h.base, h.tracks]; exact g.many, by rw [h.base, h.tracks]; exact g.n_eq, g.n0, g.n36, h.least.length_pos, h80, h.least.len, h.least.rows⟩
theorem Least.not {n : Nat} {N : List (List Int)} {E : List Bool} {L : List Nat → Bool} (h : Least n N E L) : Least n N (E.map (!·)) fun w => !L w := by
  have key : ∀ k, k < N.length → (E.map (!·)).getD k false = !E.getD k false := fun k hk => by
    have := h.len
    rw [getD_lt (by simp; omega), getD_lt (by omega)]; simp
  have hrun : ∀ (w : List Nat) (s : Nat), s < N.length → Ltr n w → runN (fun k l => ((N.getD k []).getD l 0).toNat) s w < N.length := by
    intro w
    induction w with
    | nil => intro s hs _; exact hs
    | cons l w ih => intro s hs hw; exact ih _ (h.canon.lt s l hs (hw l List.mem_cons_self)) fun x hx => hw x (List.mem_cons_of_mem _ hx)
  refine ⟨by simp [h.len], h.row, h.pos, h.canon.m0, h.canon.lt, fun w hw => ?_, h.canon.rg, h.canon.reach, fun s t hs ht hh => h.canon.red s t hs ht fun w hw => ?_⟩
  · rw [key _ (hrun w 0 h.canon.m0 hw)]; exact congrArg _ (h.canon.lang w hw)
  · have := hh w hw
    rw [key _ (hrun w s hs hw), key _ (hrun w t ht hw)] at this
    simpa using this
end Go.Proofs.YthcclcbliedodaaDoor
namespace Go.Proofs.YthcclcbliedodaaDoor

def addC (row : List Int) (acc t : Int) : Int := if 1152921504606846977 < acc + row.getD t.toNat 0 then 1152921504606846977 else acc + row.getD t.toNat 0
def longStep (next : List (List Int)) (row : List Int) : List Int := next.map fun q => q.foldl (addC row) 0
def longRow (a : GAuto) : Nat → List Int
  | 0 => a.ends.map fun b => if b = true then 1 else 0
  | k + 1 => longStep a.next (longRow a k)
def CapOk (row : List Int) : Prop := ∀ x ∈ row, 0 ≤ x ∧ x ≤ 1152921504606846977
theorem CapOk.at {row : List Int} (h : CapOk row) (i : Nat) : 0 ≤ row.getD i 0 ∧ row.getD i 0 ≤ 1152921504606846977 := by
  by_cases hi : i < row.length
  · rw [getD_lt hi]; exact h _ (List.getElem_mem hi)
  · rw [List.getD_eq_getElem?_getD, List.getElem?_eq_none (by omega)]; simp
theorem addC_ok {row : List Int} (h : CapOk row) {acc : Int} (ha : 0 ≤ acc) (t : Int) : 0 ≤ addC row acc t ∧ addC row acc t ≤ 1152921504606846977 := by
  have := h.at t.toNat
  unfold addC
  split <;> omega
theorem foldC_ok {row : List Int} (h : CapOk row) : ∀ (q : List Int) {acc : Int}, 0 ≤ acc ∧ acc ≤ 1152921504606846977 → 0 ≤ q.foldl (addC row) acc ∧ q.foldl (addC row) acc ≤ 1152921504606846977
  | [], _, ha => ha
  | t :: q, _, ha => foldC_ok h q (addC_ok h ha.1 t)
theorem longRow_ok {a : GAuto} : ∀ k, CapOk (longRow a k)
  | 0 => fun x hx => by
    obtain ⟨b, _, rfl⟩ := List.mem_map.1 hx
    split <;> omega
  | k + 1 => fun x hx => by
    obtain ⟨q, _, rfl⟩ := List.mem_map.1 hx
    exact foldC_ok (longRow_ok k) q ⟨Int.le_refl _, by omega⟩
theorem longRow_len {a : GAuto} {n m : Nat} (g : Good a n m) : ∀ k, (longRow a k).length = m
  | 0 => by show (a.ends.map _).length = m; rw [List.length_map, g.ends]
  | k + 1 => by show (a.next.map _).length = m; rw [List.length_map, g.rows.len]
/-- A row that is being filled: states s and beyond are 0, at s so much. -/
def partC (N : List Int) (s : Nat) (acc : Int) : List Int := (fillB N s).set s acc
theorem partC_zero {N : List Int} {s : Nat} (h : s < N.length) : partC N s 0 = fillB N s := by
  unfold partC fillB
  apply List.ext_getElem?
  intro i
  rw [List.getElem?_set]
  split
  · rename_i e
    subst e
    split
    · rw [List.getElem?_append_right (by simp; omega), List.getElem?_replicate, List.length_take, Nat.min_eq_left (by omega), Nat.sub_self, if_pos (by omega)]
    · rename_i hl; exact absurd (show s < (N.take s ++ List.replicate (N.length - s) (0 : Int)).length by simp; omega) hl
  · rfl
theorem partC_set {N : List Int} {s : Nat} (acc acc' : Int) : (partC N s acc).set s acc' = partC N s acc' := by unfold partC; rw [List.set_set]
theorem partC_len {N : List Int} {s : Nat} (h : s ≤ N.length) (acc : Int) : (partC N s acc).length = N.length := by
  unfold partC; rw [List.length_set, fillB_len h]
theorem partC_at {N : List Int} {s : Nat} (h : s < N.length) (acc : Int) : (partC N s acc)[s]! = acc := by
  have hl : s < (partC N s acc).length := by rw [partC_len (by omega)]; exact h
  rw [getElem!_pos (partC N s acc) s hl]
  unfold partC
  exact List.getElem_set_self _
theorem partC_full {N : List Int} {s : Nat} {acc : Int} (h : N[s]? = some acc) : partC N s acc = fillB N (s + 1) := by
  unfold partC
  exact fillB_set h
theorem fill_skip {N : List Int} {s : Nat} (h : N[s]? = some 0) : fillB N s = fillB N (s + 1) := by
  have hl := (List.getElem?_eq_some_iff.1 h).1
  rw [← partC_full h, partC_zero hl]
end Go.Proofs.YthcclcbliedodaaDoor
namespace Go.Proofs.YthcclcbliedodaaDoor
open Go.RowKit

noncomputable def longV (a : GAuto) (n : Int) : Int := (longRow a n.toNat).getD 0 0
open Classical in
noncomputable def longErr (a : GAuto) (n : Int) : Int := if autoFault a ≠ 0 then autoFault a else if n < 0 ∨ 400 < n then 1 else if 1152921504606846976 < longV a n then 3 else 0
noncomputable def longOf (a : GAuto) (n : Int) : Int := if longErr a n = 0 then longV a n else 0
section
variable {G : World → Prop} (hG : Lasting G)
include hG
set_option maxHeartbeats 16000000 in
set_option maxRecDepth 100000 in
theorem Long_snd (a : GAuto) (n : Int) : Snd Tryd.prog G 9 [tAuto a, tInt n] (.tup [tInt (longOf a n), tErr (longErr a n)]) := by
  have c1 := Check_snd hG a
  refine snd_of_body (n := 90) (tm := [(0, .t (tAuto a)), (1, .t (tInt n))]) (rs := [.tmp 4, .tmp 5]) tt_ok Tryd.func9 rfl rfl rfl rfl rfl ?_
  have hbad : longErr a n ≠ 0 → longOf a n = 0 := fun h => if_neg h
  by_cases hf : autoFault a = 0
  rotate_left
  · have he : longErr a n = autoFault a := if_pos hf
    rw [hbad (by rw [he]; exact hf), he]
    generalize autoFault a = e at *
    have htb := Tab.cons c1 Tab.nil
    repeat' (first | (with_reducible first | apply w1 | apply w2 | apply w3 | apply w4 | apply w5 | apply w6 | apply w7 | apply w8 | apply w9 | apply wa | apply wb | apply wc) | ((with_reducible apply wd); focus decide) | ((with_reducible apply we); focus exact rfl) | ((with_reducible apply wf); focus exact rfl) | ((first | (with_reducible apply SW_run tt_ok hG htb) | ((with_reducible apply SW_draw rfl tt_ok hG htb); (focus kernel_rfl); focus simp only [List.range, List.range.loop, List.size_toArray, List.length_cons, List.length_nil, Nat.reduceAdd])); focus ((repeat' (first | (with_reducible first | exact wg | exact wh) | ((with_reducible first | apply wi | apply wj); focus (simp (discharger := omega) only [go_sem, tAuto, tErr, hf, simprocAttr]; with_reducible rfl)))); done)))
    exact (by simp (discharger := omega) only [go_sem, tErr, hf, simprocAttr])
  rw [hf] at c1
  have htb := Tab.cons c1 Tab.nil
  by_cases hn0 : n < 0
  · have he : longErr a n = 1 := by unfold longErr; rw [if_neg (fun q => q hf), if_pos (.inl hn0)]
    rw [hbad (by rw [he]; decide), he]
    have h1 := eq_true hn0
    repeat' (first | (with_reducible first | apply w1 | apply w2 | apply w3 | apply w4 | apply w5 | apply w6 | apply w7 | apply w8 | apply w9 | apply wa | apply wb | apply wc) | ((with_reducible apply wd); focus decide) | ((with_reducible apply we); focus exact rfl) | ((with_reducible apply wf); focus exact rfl) | ((first | (with_reducible apply SW_run tt_ok hG htb) | ((with_reducible apply SW_draw rfl tt_ok hG htb); (focus kernel_rfl); focus simp only [List.range, List.range.loop, List.size_toArray, List.length_cons, List.length_nil, Nat.reduceAdd])); focus ((repeat' (first | (with_reducible first | exact wg | exact wh) | ((with_reducible first | apply wi | apply wj); focus (simp (discharger := omega) only [go_sem, tAuto, tErr0, h1, simprocAttr]; with_reducible rfl)))); done)))
    exact (by simp (discharger := omega) only [go_sem, tErr, simprocAttr])
  by_cases hn4 : n > 400
  · have he : longErr a n = 1 := by unfold longErr; rw [if_neg (fun q => q hf), if_pos (.inr hn4)]
    rw [hbad (by rw [he]; decide), he]
    have h1 := eq_true hn4
    repeat' (first | (with_reducible first | apply w1 | apply w2 | apply w3 | apply w4 | apply w5 | apply w6 | apply w7 | apply w8 | apply w9 | apply wa | apply wb | apply wc) | ((with_reducible apply wd); focus decide) | ((with_reducible apply we); focus exact rfl) | ((with_reducible apply wf); focus exact rfl) | ((first | (with_reducible apply SW_run tt_ok hG htb) | ((with_reducible apply SW_draw rfl tt_ok hG htb); (focus kernel_rfl); focus simp only [List.range, List.range.loop, List.size_toArray, List.length_cons, List.length_nil, Nat.reduceAdd])); focus ((repeat' (first | (with_reducible first | exact wg | exact wh) | ((with_reducible first | apply wi | apply wj); focus (simp (discharger := omega) only [go_sem, tAuto, tErr0, hn0, h1, simprocAttr]; with_reducible rfl)))); done)))
    exact (by simp (discharger := omega) only [go_sem, tErr, simprocAttr])
  obtain ⟨k, rfl⟩ : ∃ k : Nat, n = (k : Int) := ⟨n.toNat, by omega⟩
  have hErr : longErr a (k : Int) = if 1152921504606846976 < longV a (k : Int) then 3 else 0 := by unfold longErr; rw [if_neg (fun q => q hf), if_neg (by omega)]
  have hVal : longV a (k : Int) = (longRow a k).getD 0 0 := by unfold longV; rw [Int.toNat_natCast]
  have g := good_of hf
  obtain ⟨N, hN⟩ : ∃ N, (manyOf a.base a.tracks).toNat = N := ⟨_, rfl⟩
  obtain ⟨m, hm⟩ : ∃ m, a.next.length = m := ⟨_, rfl⟩
  rw [hN, hm] at g
  have gR := g.rows
  have hm0 := g.m0
  have hm80 := g.m80
  have hn36 := g.n36
  have hmE := g.ends
  have hlen := longRow_len g
  have hok : ∀ i, CapOk (longRow a i) := fun i => longRow_ok i
  repeat' (first | (with_reducible first | apply w1 | apply w2 | apply w3 | apply w4 | apply w5 | apply w6 | apply w7 | apply w8 | apply w9 | apply wa | apply wb | apply wc) | ((with_reducible apply wd); focus decide) | ((with_reducible apply we); focus exact rfl) | ((with_reducible apply wf); focus exact rfl) | ((first | (with_reducible apply SW_run tt_ok hG htb) | ((with_reducible apply SW_draw rfl tt_ok hG htb); (focus kernel_rfl); focus simp only [List.range, List.range.loop, List.size_toArray, List.length_cons, List.length_nil, Nat.reduceAdd])); focus ((repeat' (first | (with_reducible first | exact wg | exact wh) | ((with_reducible first | apply wi | apply wj); focus (simp (discharger := omega) only [go_sem, tAuto, tErr0, hn0, hn4, hm, simprocAttr]; with_reducible rfl)))); done)))
  clear htb
  have htb : Tab.ok Tryd.prog G [] := Tab.nil
  obtain ⟨E0, hE0⟩ : ∃ E0, longRow a 0 = E0 := ⟨_, rfl⟩
  have hE0l : E0.length = m := by rw [← hE0]; exact hlen 0
  have hE0at : ∀ i (b : Bool), a.ends[i]! = b → i < m → E0[i]? = some (if b = true then 1 else 0) := fun i b hb hi => by
    rw [← hE0]
    show (a.ends.map _)[i]? = _
    rw [List.getElem?_map, bang_get hb (by omega)]; rfl
  refine SW_loop (fun mm st => ∃ (i : Nat), mm = m - i ∧ st = ⟨90, [(1, .t (tNat k)), (2, .bptr 0 0), (7, .sref 1), (31, .t (tBools a.ends)), (32, .t (tNat m)), (33, .t (tNat i))], [.box [.t (tInt a.base), .t (tInt a.tracks), .t (tIntss a.next), .t (tBools a.ends)], .row 3 1 true ((fillB E0 i).map (T.int .i64))]⟩ ∧ i ≤ m) m
    ⟨_, Norm.headS (own := []) (keep := [1, 2, 7, 31, 32, 33]) (by refine ⟨?_, ?_⟩; (simp (discharger := omega) only [go_sem, simprocAttr]; with_reducible rfl); refine ⟨?_, ?_, ?_, ?_⟩ <;> (simp only [go_sem, simprocAttr]; with_reducible rfl)), 0, rfl, by rw [fillB_zero, List.map_replicate, hE0l, hmE]; rfl, Nat.zero_le _⟩ ?_
  rintro mm st ⟨i, rfl, rfl, hi⟩
  have hfl : (fillB E0 i).length = m := by rw [fillB_len (by omega), hE0l]
  by_cases hlt : i < m
  · obtain ⟨b, hb⟩ : ∃ b, a.ends[i]! = b := ⟨_, rfl⟩
    have hE := hE0at i b hb hlt
    cases b with
    | false =>
      repeat' (first | (with_reducible first | apply w1 | apply w2 | apply w3 | apply w4 | apply w5 | apply w6 | apply w7 | apply w8 | apply w9 | apply wa | apply wb | apply wc) | ((with_reducible apply wd); focus decide) | ((with_reducible apply we); focus exact rfl) | ((with_reducible apply wf); focus exact rfl) | ((first | (with_reducible apply SW_run tt_ok hG htb) | ((with_reducible apply SW_draw rfl tt_ok hG htb); (focus kernel_rfl); focus simp only [List.range, List.range.loop, List.size_toArray, List.length_cons, List.length_nil, Nat.reduceAdd])); focus ((repeat' (first | (with_reducible first | exact wg | exact wh) | ((with_reducible first | apply wi | apply wj); focus (simp (discharger := omega) only [go_sem, hb, simprocAttr]; with_reducible rfl)))); done)))
      exact ⟨m - (i + 1), _, by omega, Norm.headS (own := []) (keep := [1, 2, 7, 31, 32, 33]) (by refine ⟨?_, ?_⟩; (simp (discharger := omega) only [go_sem, simprocAttr]; with_reducible rfl); refine ⟨?_, ?_, ?_, ?_⟩ <;> (simp only [go_sem, simprocAttr]; with_reducible rfl)), i + 1, rfl, by rw [← fill_skip (N := E0) (s := i) hE]; rfl, by omega⟩
    | true =>
      repeat' (first | (with_reducible first | apply w1 | apply w2 | apply w3 | apply w4 | apply w5 | apply w6 | apply w7 | apply w8 | apply w9 | apply wa | apply wb | apply wc) | ((with_reducible apply wd); focus decide) | ((with_reducible apply we); focus exact rfl) | ((with_reducible apply wf); focus exact rfl) | ((first | (with_reducible apply SW_run tt_ok hG htb) | ((with_reducible apply SW_draw rfl tt_ok hG htb); (focus kernel_rfl); focus simp only [List.range, List.range.loop, List.size_toArray, List.length_cons, List.length_nil, Nat.reduceAdd])); focus ((repeat' (first | (with_reducible first | exact wg | exact wh) | ((with_reducible first | apply wi | apply wj); focus (simp (discharger := omega) only [go_sem, hb, simprocAttr]; with_reducible rfl)))); done)))
      exact ⟨m - (i + 1), _, by omega, Norm.headS (own := []) (keep := [1, 2, 7, 31, 32, 33]) (by refine ⟨?_, ?_⟩; (simp (discharger := omega) only [go_sem, simprocAttr]; with_reducible rfl); refine ⟨?_, ?_, ?_, ?_⟩ <;> (simp only [go_sem, simprocAttr]; with_reducible rfl)), i + 1, rfl, by rw [← fillB_set (s := E0) (i := i) hE, List.map_set]; rfl, by omega⟩
  obtain rfl : i = m := by omega
  have hfull : fillB E0 i = E0 := by rw [← hE0l]; exact fillB_all E0
  rw [hfull, ← hE0]
  repeat' (first | (with_reducible first | apply w1 | apply w2 | apply w3 | apply w4 | apply w5 | apply w6 | apply w7 | apply w8 | apply w9 | apply wa | apply wb | apply wc) | ((with_reducible apply wd); focus decide) | ((with_reducible apply we); focus exact rfl) | ((with_reducible apply wf); focus exact rfl) | ((first | (with_reducible apply SW_run tt_ok hG htb) | ((with_reducible apply SW_draw rfl tt_ok hG htb); (focus kernel_rfl); focus simp only [List.range, List.range.loop, List.size_toArray, List.length_cons, List.length_nil, Nat.reduceAdd])); focus ((repeat' (first | (with_reducible first | exact wg | exact wh) | ((with_reducible first | apply wi | apply wj); focus (simp (discharger := omega) only [go_sem, simprocAttr]; with_reducible rfl)))); done)))
  refine SW_loop (fun mm st => ∃ (q : Nat), mm = k - q ∧ st = ⟨90, [(2, .bptr 0 0), (7, .sref 1), (43, .t (tNat k)), (44, .t (tNat q))], [.box [.t (tInt a.base), .t (tInt a.tracks), .t (tIntss a.next), .t (tBools a.ends)], .row 3 1 true ((longRow a q).map (T.int .i64))]⟩ ∧ q ≤ k) k
    ⟨_, Norm.headS (own := []) (keep := [2, 7, 43, 44]) (by refine ⟨?_, ?_⟩; (simp (discharger := omega) only [go_sem, simprocAttr]; with_reducible rfl); refine ⟨?_, ?_, ?_, ?_⟩ <;> (simp only [go_sem, simprocAttr]; with_reducible rfl)), 0, rfl, rfl, Nat.zero_le _⟩ ?_
  rintro mm st ⟨q, rfl, rfl, hq⟩
  have hRl := hlen q
  have hRok := hok q
  by_cases hqk : q < k
  · obtain ⟨R, hR⟩ : ∃ R, longRow a q = R := ⟨_, rfl⟩
    obtain ⟨X, hX⟩ : ∃ X, longRow a (q + 1) = X := ⟨_, rfl⟩
    have hXl : X.length = i := by rw [← hX]; exact hlen (q + 1)
    have hXat : ∀ s row, a.next[s]! = row → s < i → X[s]? = some (row.foldl (addC R) 0) := fun s row hrow hs => by
      rw [← hX, ← hR]
      show (a.next.map _)[s]? = _
      rw [List.getElem?_map, bang_get hrow (by omega)]; rfl
    rw [hR] at hRl hRok ⊢
    repeat' (first | (with_reducible first | apply w1 | apply w2 | apply w3 | apply w4 | apply w5 | apply w6 | apply w7 | apply w8 | apply w9 | apply wa | apply wb | apply wc) | ((with_reducible apply wd); focus decide) | ((with_reducible apply we); focus exact rfl) | ((with_reducible apply wf); focus exact rfl) | ((first | (with_reducible apply SW_run tt_ok hG htb) | ((with_reducible apply SW_draw rfl tt_ok hG htb); (focus kernel_rfl); focus simp only [List.range, List.range.loop, List.size_toArray, List.length_cons, List.length_nil, Nat.reduceAdd])); focus ((repeat' (first | (with_reducible first | exact wg | exact wh) | ((with_reducible first | apply wi | apply wj); focus (simp (discharger := omega) only [go_sem, hRl, hm, simprocAttr]; with_reducible rfl)))); done)))
    refine SW_loop (fun mm st => ∃ (s : Nat), mm = i - s ∧ st = ⟨90, [(2, .bptr 0 0), (7, .sref 1), (10, .sref 2), (43, .t (tNat k)), (44, .t (tNat q)), (51, .t (tNat i)), (52, .t (tNat s))], [.box [.t (tInt a.base), .t (tInt a.tracks), .t (tIntss a.next), .t (tBools a.ends)], .row 3 1 true (R.map (T.int .i64)), .row 3 1 true ((fillB X s).map (T.int .i64))]⟩ ∧ s ≤ i) i
      ⟨_, Norm.headS (own := []) (keep := [2, 7, 10, 43, 44, 51, 52]) (by refine ⟨?_, ?_⟩; (simp (discharger := omega) only [go_sem, simprocAttr]; with_reducible rfl); refine ⟨?_, ?_, ?_, ?_⟩ <;> (simp only [go_sem, simprocAttr]; with_reducible rfl)), 0, rfl, by rw [fillB_zero, List.map_replicate, hXl]; rfl, Nat.zero_le _⟩ ?_
    rintro mm st ⟨s, rfl, rfl, hs⟩
    by_cases hsm : s < i
    · obtain ⟨row, hrow⟩ : ∃ row, a.next[s]! = row := ⟨_, rfl⟩
      have hrl := gR.row row (bang_mem hrow (by omega))
      repeat' (first | (with_reducible first | apply w1 | apply w2 | apply w3 | apply w4 | apply w5 | apply w6 | apply w7 | apply w8 | apply w9 | apply wa | apply wb | apply wc) | ((with_reducible apply wd); focus decide) | ((with_reducible apply we); focus exact rfl) | ((with_reducible apply wf); focus exact rfl) | ((first | (with_reducible apply SW_run tt_ok hG htb) | ((with_reducible apply SW_draw rfl tt_ok hG htb); (focus kernel_rfl); focus simp only [List.range, List.range.loop, List.size_toArray, List.length_cons, List.length_nil, Nat.reduceAdd])); focus ((repeat' (first | (with_reducible first | exact wg | exact wh) | ((with_reducible first | apply wi | apply wj); focus (simp (discharger := omega) only [go_sem, hrow, hm, simprocAttr]; with_reducible rfl)))); done)))
      refine SW_loop (fun mm st => ∃ (j : Nat) (acc : Int), mm = N - j ∧ st = ⟨90, [(2, .bptr 0 0), (7, .sref 1), (10, .sref 2), (11, .t (tNat s)), (43, .t (tNat k)), (44, .t (tNat q)), (51, .t (tNat i)), (52, .t (tNat s)), (59, .t (tInts row)), (60, .t (tInt row.length)), (61, .t (tNat j))], [.box [.t (tInt a.base), .t (tInt a.tracks), .t (tIntss a.next), .t (tBools a.ends)], .row 3 1 true (R.map (T.int .i64)), .row 3 1 true ((partC X s acc).map (T.int .i64))]⟩ ∧ j ≤ N ∧ acc = (row.take j).foldl (addC R) 0) N
        ⟨_, Norm.headS (own := []) (keep := [2, 7, 10, 11, 43, 44, 51, 52, 59, 60, 61]) (by refine ⟨?_, ?_⟩; (simp (discharger := omega) only [go_sem, simprocAttr]; with_reducible rfl); refine ⟨?_, ?_, ?_, ?_⟩ <;> (simp only [go_sem, simprocAttr]; with_reducible rfl)), 0, 0, rfl, by rw [partC_zero (by omega)]; rfl, Nat.zero_le _, rfl⟩ ?_
      rintro mm st ⟨j, acc, rfl, rfl, hj, hacc⟩
      have haccb : 0 ≤ acc ∧ acc ≤ 1152921504606846977 := by rw [hacc]; exact foldC_ok hRok _ ⟨Int.le_refl _, by omega⟩
      have hpl := partC_len (N := X) (s := s) (by omega) acc
      have hpat := partC_at (N := X) (s := s) (by omega) acc
      by_cases hjN : j < N
      · obtain ⟨t, ht⟩ : ∃ t, row[j]! = t := ⟨_, rfl⟩
        have htb2 := gR.ok row (bang_mem hrow (by omega)) t (bang_mem ht (by omega))
        obtain ⟨x, hx⟩ : ∃ x, R[t.toNat]! = x := ⟨_, rfl⟩
        have hxb := hRok x (bang_mem hx (by omega))
        have hxD : R.getD t.toNat 0 = x := bang_D hx (by omega)
        have htk : (row.take (j + 1)).foldl (addC R) 0 = addC R acc t := by
          rw [take_next ht (by omega), List.foldl_append, ← hacc]; rfl
        have hwr : IntKind.i64.wrap (acc + x) = acc + x := wrap_i64 _ (by omega)
        have hjl : j < row.length := by omega
        have hadd : addC R acc t = if 1152921504606846977 < acc + x then 1152921504606846977 else acc + x := by unfold addC; rw [hxD]
        obtain ⟨acc', hacc'⟩ : ∃ acc', addC R acc t = acc' := ⟨_, rfl⟩
        rw [hacc'] at hadd htk
        repeat' (first | (with_reducible first | apply w1 | apply w2 | apply w3 | apply w4 | apply w5 | apply w6 | apply w7 | apply w8 | apply w9 | apply wa | apply wb | apply wc) | ((with_reducible apply wd); focus decide) | ((with_reducible apply we); focus exact rfl) | ((with_reducible apply wf); focus exact rfl) | ((first | (with_reducible apply SW_run tt_ok hG htb) | ((with_reducible apply SW_draw rfl tt_ok hG htb); (focus kernel_rfl); focus simp only [List.range, List.range.loop, List.size_toArray, List.length_cons, List.length_nil, Nat.reduceAdd])); focus ((repeat' (first | (with_reducible first | exact wg | exact wh) | ((with_reducible first | apply wi | apply wj); focus (simp (discharger := omega) only [go_sem, ht, hx, hpat, hwr, ← hadd, simprocAttr]; with_reducible rfl)))); done)))
        exact ⟨N - (j + 1), _, by omega, Norm.headS (own := []) (keep := [2, 7, 10, 11, 43, 44, 51, 52, 59, 60, 61]) (by refine ⟨?_, ?_⟩; (simp (discharger := omega) only [go_sem, simprocAttr]; with_reducible rfl); refine ⟨?_, ?_, ?_, ?_⟩ <;> (simp only [go_sem, simprocAttr]; with_reducible rfl)), j + 1, acc', rfl, by rw [← partC_set (N := X) (s := s) acc acc', List.map_set]; rfl, by omega, htk.symm⟩
      · obtain rfl : j = N := by omega
        rw [List.take_of_length_le (by omega)] at hacc
        have hXs := hXat s row hrow hsm
        rw [← hacc] at hXs
        rw [partC_full hXs]
        have hjl : ¬ j < row.length := by omega
        repeat' (first | (with_reducible first | apply w1 | apply w2 | apply w3 | apply w4 | apply w5 | apply w6 | apply w7 | apply w8 | apply w9 | apply wa | apply wb | apply wc) | ((with_reducible apply wd); focus decide) | ((with_reducible apply we); focus exact rfl) | ((with_reducible apply wf); focus exact rfl) | ((first | (with_reducible apply SW_run tt_ok hG htb) | ((with_reducible apply SW_draw rfl tt_ok hG htb); (focus kernel_rfl); focus simp only [List.range, List.range.loop, List.size_toArray, List.length_cons, List.length_nil, Nat.reduceAdd])); focus ((repeat' (first | (with_reducible first | exact wg | exact wh) | ((with_reducible first | apply wi | apply wj); focus (simp (discharger := omega) only [go_sem, hrl, simprocAttr]; with_reducible rfl)))); done)))
        exact ⟨i - (s + 1), _, by omega, Norm.headS (own := []) (keep := [2, 7, 10, 43, 44, 51, 52]) (by refine ⟨?_, ?_⟩; (simp (discharger := omega) only [go_sem, simprocAttr]; with_reducible rfl); refine ⟨?_, ?_, ?_, ?_⟩ <;> (simp only [go_sem, simprocAttr]; with_reducible rfl)), s + 1, rfl, rfl, by omega⟩
    · obtain rfl : s = i := by omega
      have hfull : fillB X s = X := by rw [← hXl]; exact fillB_all X
      rw [hfull, ← hX]
      repeat' (first | (with_reducible first | apply w1 | apply w2 | apply w3 | apply w4 | apply w5 | apply w6 | apply w7 | apply w8 | apply w9 | apply wa | apply wb | apply wc) | ((with_reducible apply wd); focus decide) | ((with_reducible apply we); focus exact rfl) | ((with_reducible apply wf); focus exact rfl) | ((first | (with_reducible apply SW_run tt_ok hG htb) | ((with_reducible apply SW_draw rfl tt_ok hG htb); (focus kernel_rfl); focus simp only [List.range, List.range.loop, List.size_toArray, List.length_cons, List.length_nil, Nat.reduceAdd])); focus ((repeat' (first | (with_reducible first | exact wg | exact wh) | ((with_reducible first | apply wi | apply wj); focus (simp (discharger := omega) only [go_sem, simprocAttr]; with_reducible rfl)))); done)))
      exact ⟨k - (q + 1), _, by omega, Norm.headS (own := []) (keep := [2, 7, 43, 44]) (by refine ⟨?_, ?_⟩; (simp (discharger := omega) only [go_sem, simprocAttr]; with_reducible rfl); refine ⟨?_, ?_, ?_, ?_⟩ <;> (simp only [go_sem, simprocAttr]; with_reducible rfl)), q + 1, rfl, rfl, by omega⟩
  obtain rfl : q = k := by omega
  obtain ⟨R, hR⟩ : ∃ R, longRow a q = R := ⟨_, rfl⟩
  rw [hR] at hRl hRok hVal ⊢
  obtain ⟨x, hx⟩ : ∃ x, R[0]! = x := ⟨_, rfl⟩
  have hxb := hRok x (bang_mem hx (by omega))
  rw [bang_D hx (by omega)] at hVal
  rw [hVal] at hErr
  by_cases hbig : x > 1152921504606846976
  · rw [if_pos hbig] at hErr
    rw [hbad (by rw [hErr]; decide), hErr]
    have h1 := eq_true hbig
    repeat' (first | (with_reducible first | apply w1 | apply w2 | apply w3 | apply w4 | apply w5 | apply w6 | apply w7 | apply w8 | apply w9 | apply wa | apply wb | apply wc) | ((with_reducible apply wd); focus decide) | ((with_reducible apply we); focus exact rfl) | ((with_reducible apply wf); focus exact rfl) | ((first | (with_reducible apply SW_run tt_ok hG htb) | ((with_reducible apply SW_draw rfl tt_ok hG htb); (focus kernel_rfl); focus simp only [List.range, List.range.loop, List.size_toArray, List.length_cons, List.length_nil, Nat.reduceAdd])); focus ((repeat' (first | (with_reducible first | exact wg | exact wh) | ((with_reducible first | apply wi | apply wj); focus (simp (discharger := omega) only [go_sem, hx, h1, simprocAttr]; with_reducible rfl)))); done)))
    exact (by simp (discharger := omega) only [go_sem, tErr, simprocAttr])
  · rw [if_neg hbig] at hErr
    have hO : longOf a (q : Int) = x := by unfold longOf; rw [if_pos hErr, hVal]
    rw [hO, hErr]
    repeat' (first | (with_reducible first | apply w1 | apply w2 | apply w3 | apply w4 | apply w5 | apply w6 | apply w7 | apply w8 | apply w9 | apply wa | apply wb | apply wc) | ((with_reducible apply wd); focus decide) | ((with_reducible apply we); focus exact rfl) | ((with_reducible apply wf); focus exact rfl) | ((first | (with_reducible apply SW_run tt_ok hG htb) | ((with_reducible apply SW_draw rfl tt_ok hG htb); (focus kernel_rfl); focus simp only [List.range, List.range.loop, List.size_toArray, List.length_cons, List.length_nil, Nat.reduceAdd])); focus ((repeat' (first | (with_reducible first | exact wg | exact wh) | ((with_reducible first | apply wi | apply wj); focus (simp (discharger := omega) only [go_sem, hx, hbig, simprocAttr]; with_reducible rfl)))); done)))
    exact (by simp (discharger := omega) only [go_sem, tErr0, simprocAttr])
set_option maxHeartbeats 16000000 in
set_option maxRecDepth 100000 in
theorem LongOf_ref {a : GAuto} (hf : autoFault a = 0) (k : Nat) (hk4 : k ≤ 400) : Snd Tryd.prog G 8 [tAuto a, tInt k] (.tup [tInt (longV a k), .bool (decide (longV a k ≤ 1152921504606846976))]) := by
  refine snd_of_body (n := 89) (tm := [(0, .t (tAuto a)), (1, .t (tInt k))]) (rs := [.tmp 4, .tmp 5]) tt_ok Tryd.func8 rfl rfl rfl rfl rfl ?_
  have hVal : longV a (k : Int) = (longRow a k).getD 0 0 := by unfold longV; rw [Int.toNat_natCast]
  have g := good_of hf
  obtain ⟨N, hN⟩ : ∃ N, (manyOf a.base a.tracks).toNat = N := ⟨_, rfl⟩
  obtain ⟨m, hm⟩ : ∃ m, a.next.length = m := ⟨_, rfl⟩
  rw [hN, hm] at g
  have gR := g.rows
  have hm0 := g.m0
  have hm80 := g.m80
  have hn36 := g.n36
  have hmE := g.ends
  have hlen := longRow_len g
  have hok : ∀ i, CapOk (longRow a i) := fun i => longRow_ok i
  have htb : Tab.ok Tryd.prog G [] := Tab.nil
  repeat' (first | (with_reducible first | apply w1 | apply w2 | apply w3 | apply w4 | apply w5 | apply w6 | apply w7 | apply w8 | apply w9 | apply wa | apply wb | apply wc) | ((with_reducible apply wd); focus decide) | ((with_reducible apply we); focus exact rfl) | ((with_reducible apply wf); focus exact rfl) | ((first | (with_reducible apply SW_run tt_ok hG htb) | ((with_reducible apply SW_draw rfl tt_ok hG htb); (focus kernel_rfl); focus simp only [List.range, List.range.loop, List.size_toArray, List.length_cons, List.length_nil, Nat.reduceAdd])); focus ((repeat' (first | (with_reducible first | exact wg | exact wh) | ((with_reducible first | apply wi | apply wj); focus (simp (discharger := omega) only [go_sem, tAuto, hm, simprocAttr]; with_reducible rfl)))); done)))
  obtain ⟨E0, hE0⟩ : ∃ E0, longRow a 0 = E0 := ⟨_, rfl⟩
  have hE0l : E0.length = m := by rw [← hE0]; exact hlen 0
  have hE0at : ∀ i (b : Bool), a.ends[i]! = b → i < m → E0[i]? = some (if b = true then 1 else 0) := fun i b hb hi => by
    rw [← hE0]
    show (a.ends.map _)[i]? = _
    rw [List.getElem?_map, bang_get hb (by omega)]; rfl
  refine SW_loop (fun mm st => ∃ (i : Nat), mm = m - i ∧ st = ⟨89, [(1, .t (tNat k)), (2, .bptr 0 0), (6, .sref 1), (7, .t (tNat i))], [.box [.t (tInt a.base), .t (tInt a.tracks), .t (tIntss a.next), .t (tBools a.ends)], .row 3 1 true ((fillB E0 i).map (T.int .i64))]⟩ ∧ i ≤ m) m
    ⟨_, Norm.headS (own := []) (keep := [1, 2, 6, 7]) (by refine ⟨?_, ?_⟩; (simp (discharger := omega) only [go_sem, simprocAttr]; with_reducible rfl); refine ⟨?_, ?_, ?_, ?_⟩ <;> (simp only [go_sem, simprocAttr]; with_reducible rfl)), 0, rfl, by rw [fillB_zero, List.map_replicate, hE0l]; rfl, Nat.zero_le _⟩ ?_
  rintro mm st ⟨i, rfl, rfl, hi⟩
  have hfl : (fillB E0 i).length = m := by rw [fillB_len (by omega), hE0l]
  by_cases hlt : i < m
  · have hlt2 : ((i : Nat) : Int) < ((m : Nat) : Int) := by omega
    obtain ⟨b, hb⟩ : ∃ b, a.ends[i]! = b := ⟨_, rfl⟩
    have hE := hE0at i b hb hlt
    cases b with
    | false =>
      repeat' (first | (with_reducible first | apply w1 | apply w2 | apply w3 | apply w4 | apply w5 | apply w6 | apply w7 | apply w8 | apply w9 | apply wa | apply wb | apply wc) | ((with_reducible apply wd); focus decide) | ((with_reducible apply we); focus exact rfl) | ((with_reducible apply wf); focus exact rfl) | ((first | (with_reducible apply SW_run tt_ok hG htb) | ((with_reducible apply SW_draw rfl tt_ok hG htb); (focus kernel_rfl); focus simp only [List.range, List.range.loop, List.size_toArray, List.length_cons, List.length_nil, Nat.reduceAdd])); focus ((repeat' (first | (with_reducible first | exact wg | exact wh) | ((with_reducible first | apply wi | apply wj); focus (simp (discharger := omega) only [go_sem, hfl, hlt2, hb, simprocAttr]; with_reducible rfl)))); done)))
      exact ⟨m - (i + 1), _, by omega, Norm.headS (own := []) (keep := [1, 2, 6, 7]) (by refine ⟨?_, ?_⟩; (simp (discharger := omega) only [go_sem, simprocAttr]; with_reducible rfl); refine ⟨?_, ?_, ?_, ?_⟩ <;> (simp only [go_sem, simprocAttr]; with_reducible rfl)), i + 1, rfl, by rw [← fill_skip (N := E0) (s := i) hE]; rfl, by omega⟩
    | true =>
      repeat' (first | (with_reducible first | apply w1 | apply w2 | apply w3 | apply w4 | apply w5 | apply w6 | apply w7 | apply w8 | apply w9 | apply wa | apply wb | apply wc) | ((with_reducible apply wd); focus decide) | ((with_reducible apply we); focus exact rfl) | ((with_reducible apply wf); focus exact rfl) | ((first | (with_reducible apply SW_run tt_ok hG htb) | ((with_reducible apply SW_draw rfl tt_ok hG htb); (focus kernel_rfl); focus simp only [List.range, List.range.loop, List.size_toArray, List.length_cons, List.length_nil, Nat.reduceAdd])); focus ((repeat' (first | (with_reducible first | exact wg | exact wh) | ((with_reducible first | apply wi | apply wj); focus (simp (discharger := omega) only [go_sem, hfl, hlt2, hb, simprocAttr]; with_reducible rfl)))); done)))
      exact ⟨m - (i + 1), _, by omega, Norm.headS (own := []) (keep := [1, 2, 6, 7]) (by refine ⟨?_, ?_⟩; (simp (discharger := omega) only [go_sem, simprocAttr]; with_reducible rfl); refine ⟨?_, ?_, ?_, ?_⟩ <;> (simp only [go_sem, simprocAttr]; with_reducible rfl)), i + 1, rfl, by rw [← fillB_set (s := E0) (i := i) hE, List.map_set]; rfl, by omega⟩
  obtain rfl : i = m := by omega
  have hfull : fillB E0 i = E0 := by rw [← hE0l]; exact fillB_all E0
  rw [hfull] at hfl ⊢
  rw [← hE0] at hfl ⊢
  have hlt2 : ¬ ((i : Nat) : Int) < ((i : Nat) : Int) := by omega
  repeat' (first | (with_reducible first | apply w1 | apply w2 | apply w3 | apply w4 | apply w5 | apply w6 | apply w7 | apply w8 | apply w9 | apply wa | apply wb | apply wc) | ((with_reducible apply wd); focus decide) | ((with_reducible apply we); focus exact rfl) | ((with_reducible apply wf); focus exact rfl) | ((first | (with_reducible apply SW_run tt_ok hG htb) | ((with_reducible apply SW_draw rfl tt_ok hG htb); (focus kernel_rfl); focus simp only [List.range, List.range.loop, List.size_toArray, List.length_cons, List.length_nil, Nat.reduceAdd])); focus ((repeat' (first | (with_reducible first | exact wg | exact wh) | ((with_reducible first | apply wi | apply wj); focus (simp (discharger := omega) only [go_sem, hfl, hlt2, simprocAttr]; with_reducible rfl)))); done)))
  refine SW_loop (fun mm st => ∃ (q : Nat), mm = k - q ∧ st = ⟨89, [(1, .t (tNat k)), (2, .bptr 0 0), (6, .sref 1), (8, .t (tNat q))], [.box [.t (tInt a.base), .t (tInt a.tracks), .t (tIntss a.next), .t (tBools a.ends)], .row 3 1 true ((longRow a q).map (T.int .i64))]⟩ ∧ q ≤ k) k
    ⟨_, Norm.headS (own := []) (keep := [1, 2, 6, 8]) (by refine ⟨?_, ?_⟩; (simp (discharger := omega) only [go_sem, simprocAttr]; with_reducible rfl); refine ⟨?_, ?_, ?_, ?_⟩ <;> (simp only [go_sem, simprocAttr]; with_reducible rfl)), 0, rfl, rfl, Nat.zero_le _⟩ ?_
  rintro mm st ⟨q, rfl, rfl, hq⟩
  have hRl := hlen q
  have hRok := hok q
  by_cases hqk : q < k
  · have hqk2 : ((q : Nat) : Int) < ((k : Nat) : Int) := by omega
    obtain ⟨R, hR⟩ : ∃ R, longRow a q = R := ⟨_, rfl⟩
    obtain ⟨X, hX⟩ : ∃ X, longRow a (q + 1) = X := ⟨_, rfl⟩
    have hXl : X.length = i := by rw [← hX]; exact hlen (q + 1)
    have hXat : ∀ s row, a.next[s]! = row → s < i → X[s]? = some (row.foldl (addC R) 0) := fun s row hrow hs => by
      rw [← hX, ← hR]
      show (a.next.map _)[s]? = _
      rw [List.getElem?_map, bang_get hrow (by omega)]; rfl
    rw [hR] at hRl hRok ⊢
    repeat' (first | (with_reducible first | apply w1 | apply w2 | apply w3 | apply w4 | apply w5 | apply w6 | apply w7 | apply w8 | apply w9 | apply wa | apply wb | apply wc) | ((with_reducible apply wd); focus decide) | ((with_reducible apply we); focus exact rfl) | ((with_reducible apply wf); focus exact rfl) | ((first | (with_reducible apply SW_run tt_ok hG htb) | ((with_reducible apply SW_draw rfl tt_ok hG htb); (focus kernel_rfl); focus simp only [List.range, List.range.loop, List.size_toArray, List.length_cons, List.length_nil, Nat.reduceAdd])); focus ((repeat' (first | (with_reducible first | exact wg | exact wh) | ((with_reducible first | apply wi | apply wj); focus (simp (discharger := omega) only [go_sem, hRl, hqk2, simprocAttr]; with_reducible rfl)))); done)))
    refine SW_loop (fun mm st => ∃ (s : Nat), mm = i - s ∧ st = ⟨89, [(1, .t (tNat k)), (2, .bptr 0 0), (6, .sref 1), (8, .t (tNat q)), (9, .sref 2), (10, .t (tNat s))], [.box [.t (tInt a.base), .t (tInt a.tracks), .t (tIntss a.next), .t (tBools a.ends)], .row 3 1 true (R.map (T.int .i64)), .row 3 1 true ((fillB X s).map (T.int .i64))]⟩ ∧ s ≤ i) i
      ⟨_, Norm.headS (own := []) (keep := [1, 2, 6, 8, 9, 10]) (by refine ⟨?_, ?_⟩; (simp (discharger := omega) only [go_sem, simprocAttr]; with_reducible rfl); refine ⟨?_, ?_, ?_, ?_⟩ <;> (simp only [go_sem, simprocAttr]; with_reducible rfl)), 0, rfl, by rw [fillB_zero, List.map_replicate, hXl]; rfl, Nat.zero_le _⟩ ?_
    rintro mm st ⟨s, rfl, rfl, hs⟩
    by_cases hsm : s < i
    · have hsm2 : ((s : Nat) : Int) < ((i : Nat) : Int) := by omega
      obtain ⟨row, hrow⟩ : ∃ row, a.next[s]! = row := ⟨_, rfl⟩
      have hrl := gR.row row (bang_mem hrow (by omega))
      repeat' (first | (with_reducible first | apply w1 | apply w2 | apply w3 | apply w4 | apply w5 | apply w6 | apply w7 | apply w8 | apply w9 | apply wa | apply wb | apply wc) | ((with_reducible apply wd); focus decide) | ((with_reducible apply we); focus exact rfl) | ((with_reducible apply wf); focus exact rfl) | ((first | (with_reducible apply SW_run tt_ok hG htb) | ((with_reducible apply SW_draw rfl tt_ok hG htb); (focus kernel_rfl); focus simp only [List.range, List.range.loop, List.size_toArray, List.length_cons, List.length_nil, Nat.reduceAdd])); focus ((repeat' (first | (with_reducible first | exact wg | exact wh) | ((with_reducible first | apply wi | apply wj); focus (simp (discharger := omega) only [go_sem, hsm2, hRl, simprocAttr]; with_reducible rfl)))); done)))
      refine SW_loop (fun mm st => ∃ (j : Nat) (acc : Int), mm = N - j ∧ st = ⟨89, [(1, .t (tNat k)), (2, .bptr 0 0), (6, .sref 1), (8, .t (tNat q)), (9, .sref 2), (10, .t (tNat s)), (11, .t (tNat j))], [.box [.t (tInt a.base), .t (tInt a.tracks), .t (tIntss a.next), .t (tBools a.ends)], .row 3 1 true (R.map (T.int .i64)), .row 3 1 true ((partC X s acc).map (T.int .i64))]⟩ ∧ j ≤ N ∧ acc = (row.take j).foldl (addC R) 0) N
        ⟨_, Norm.headS (own := []) (keep := [1, 2, 6, 8, 9, 10, 11]) (by refine ⟨?_, ?_⟩; (simp (discharger := omega) only [go_sem, simprocAttr]; with_reducible rfl); refine ⟨?_, ?_, ?_, ?_⟩ <;> (simp only [go_sem, simprocAttr]; with_reducible rfl)), 0, 0, rfl, by rw [partC_zero (by omega)]; rfl, Nat.zero_le _, rfl⟩ ?_
      rintro mm st ⟨j, acc, rfl, rfl, hj, hacc⟩
      have haccb : 0 ≤ acc ∧ acc ≤ 1152921504606846977 := by rw [hacc]; exact foldC_ok hRok _ ⟨Int.le_refl _, by omega⟩
      have hpl := partC_len (N := X) (s := s) (by omega) acc
      have hpat := partC_at (N := X) (s := s) (by omega) acc
      by_cases hjN : j < N
      · have hjl : ((j : Nat) : Int) < ((row.length : Nat) : Int) := by omega
        obtain ⟨t, ht⟩ : ∃ t, row[j]! = t := ⟨_, rfl⟩
        have htb2 := gR.ok row (bang_mem hrow (by omega)) t (bang_mem ht (by omega))
        obtain ⟨x, hx⟩ : ∃ x, R[t.toNat]! = x := ⟨_, rfl⟩
        have hxb := hRok x (bang_mem hx (by omega))
        have hxD : R.getD t.toNat 0 = x := bang_D hx (by omega)
        have htk : (row.take (j + 1)).foldl (addC R) 0 = addC R acc t := by
          rw [take_next ht (by omega), List.foldl_append, ← hacc]; rfl
        have hwr : IntKind.i64.wrap (acc + x) = acc + x := wrap_i64 _ (by omega)
        have hadd : addC R acc t = if 1152921504606846977 < acc + x then 1152921504606846977 else acc + x := by unfold addC; rw [hxD]
        have hpat2 : ((partC X s acc).map (T.int .i64)).set s (T.int .i64 (acc + x)) = (partC X s (acc + x)).map (T.int .i64) := by rw [← partC_set (N := X) (s := s) acc (acc + x), List.map_set]
        have hpat3 := partC_at (N := X) (s := s) (by omega) (acc + x)
        have hpl3 := partC_len (N := X) (s := s) (by omega) (acc + x)
        by_cases hbig : acc + x > 1152921504606846976
        · have hb1 := eq_true hbig
          have hacc' : addC R acc t = 1152921504606846977 := by rw [hadd]; split <;> omega
          rw [hacc'] at htk
          repeat' (first | (with_reducible first | apply w1 | apply w2 | apply w3 | apply w4 | apply w5 | apply w6 | apply w7 | apply w8 | apply w9 | apply wa | apply wb | apply wc) | ((with_reducible apply wd); focus decide) | ((with_reducible apply we); focus exact rfl) | ((with_reducible apply wf); focus exact rfl) | ((first | (with_reducible apply SW_run tt_ok hG htb) | ((with_reducible apply SW_draw rfl tt_ok hG htb); (focus kernel_rfl); focus simp only [List.range, List.range.loop, List.size_toArray, List.length_cons, List.length_nil, Nat.reduceAdd])); focus ((repeat' (first | (with_reducible first | exact wg | exact wh) | ((with_reducible first | apply wi | apply wj); focus (simp (discharger := omega) only [go_sem, hrow, hjl, ht, hx, hpat, hwr, hpat2, hpat3, hb1, simprocAttr]; with_reducible rfl)))); done)))
          exact ⟨N - (j + 1), _, by omega, Norm.headS (own := []) (keep := [1, 2, 6, 8, 9, 10, 11]) (by refine ⟨?_, ?_⟩; (simp (discharger := omega) only [go_sem, simprocAttr]; with_reducible rfl); refine ⟨?_, ?_, ?_, ?_⟩ <;> (simp only [go_sem, simprocAttr]; with_reducible rfl)), j + 1, 1152921504606846977, rfl, by rw [← partC_set (N := X) (s := s) (acc + x) 1152921504606846977, List.map_set]; rfl, by omega, htk.symm⟩
        · have hacc' : addC R acc t = acc + x := by rw [hadd]; split <;> omega
          rw [hacc'] at htk
          repeat' (first | (with_reducible first | apply w1 | apply w2 | apply w3 | apply w4 | apply w5 | apply w6 | apply w7 | apply w8 | apply w9 | apply wa | apply wb | apply wc) | ((with_reducible apply wd); focus decide) | ((with_reducible apply we); focus exact rfl) | ((with_reducible apply wf); focus exact rfl) | ((first | (with_reducible apply SW_run tt_ok hG htb) | ((with_reducible apply SW_draw rfl tt_ok hG htb); (focus kernel_rfl); focus simp only [List.range, List.range.loop, List.size_toArray, List.length_cons, List.length_nil, Nat.reduceAdd])); focus ((repeat' (first | (with_reducible first | exact wg | exact wh) | ((with_reducible first | apply wi | apply wj); focus (simp (discharger := omega) only [go_sem, hrow, hjl, ht, hx, hpat, hwr, hpat2, hpat3, hbig, simprocAttr]; with_reducible rfl)))); done)))
          exact ⟨N - (j + 1), _, by omega, Norm.headS (own := []) (keep := [1, 2, 6, 8, 9, 10, 11]) (by refine ⟨?_, ?_⟩; (simp (discharger := omega) only [go_sem, simprocAttr]; with_reducible rfl); refine ⟨?_, ?_, ?_, ?_⟩ <;> (simp only [go_sem, simprocAttr]; with_reducible rfl)), j + 1, acc + x, rfl, rfl, by omega, htk.symm⟩
      · obtain rfl : j = N := by omega
        rw [List.take_of_length_le (by omega)] at hacc
        have hXs := hXat s row hrow hsm
        rw [← hacc] at hXs
        rw [partC_full hXs]
        have hjl : ¬ ((j : Nat) : Int) < ((row.length : Nat) : Int) := by omega
        repeat' (first | (with_reducible first | apply w1 | apply w2 | apply w3 | apply w4 | apply w5 | apply w6 | apply w7 | apply w8 | apply w9 | apply wa | apply wb | apply wc) | ((with_reducible apply wd); focus decide) | ((with_reducible apply we); focus exact rfl) | ((with_reducible apply wf); focus exact rfl) | ((first | (with_reducible apply SW_run tt_ok hG htb) | ((with_reducible apply SW_draw rfl tt_ok hG htb); (focus kernel_rfl); focus simp only [List.range, List.range.loop, List.size_toArray, List.length_cons, List.length_nil, Nat.reduceAdd])); focus ((repeat' (first | (with_reducible first | exact wg | exact wh) | ((with_reducible first | apply wi | apply wj); focus (simp (discharger := omega) only [go_sem, hrow, hjl, simprocAttr]; with_reducible rfl)))); done)))
        exact ⟨i - (s + 1), _, by omega, Norm.headS (own := []) (keep := [1, 2, 6, 8, 9, 10]) (by refine ⟨?_, ?_⟩; (simp (discharger := omega) only [go_sem, simprocAttr]; with_reducible rfl); refine ⟨?_, ?_, ?_, ?_⟩ <;> (simp only [go_sem, simprocAttr]; with_reducible rfl)), s + 1, rfl, rfl, by omega⟩
    · obtain rfl : s = i := by omega
      have hfull : fillB X s = X := by rw [← hXl]; exact fillB_all X
      have hsm2 : ¬ ((s : Nat) : Int) < ((s : Nat) : Int) := by omega
      rw [hfull, ← hX]
      repeat' (first | (with_reducible first | apply w1 | apply w2 | apply w3 | apply w4 | apply w5 | apply w6 | apply w7 | apply w8 | apply w9 | apply wa | apply wb | apply wc) | ((with_reducible apply wd); focus decide) | ((with_reducible apply we); focus exact rfl) | ((with_reducible apply wf); focus exact rfl) | ((first | (with_reducible apply SW_run tt_ok hG htb) | ((with_reducible apply SW_draw rfl tt_ok hG htb); (focus kernel_rfl); focus simp only [List.range, List.range.loop, List.size_toArray, List.length_cons, List.length_nil, Nat.reduceAdd])); focus ((repeat' (first | (with_reducible first | exact wg | exact wh) | ((with_reducible first | apply wi | apply wj); focus (simp (discharger := omega) only [go_sem, hsm2, hRl, simprocAttr]; with_reducible rfl)))); done)))
      exact ⟨k - (q + 1), _, by omega, Norm.headS (own := []) (keep := [1, 2, 6, 8]) (by refine ⟨?_, ?_⟩; (simp (discharger := omega) only [go_sem, simprocAttr]; with_reducible rfl); refine ⟨?_, ?_, ?_, ?_⟩ <;> (simp only [go_sem, simprocAttr]; with_reducible rfl)), q + 1, rfl, rfl, by omega⟩
  obtain rfl : q = k := by omega
  have hqk2 : ¬ ((q : Nat) : Int) < ((q : Nat) : Int) := by omega
  obtain ⟨R, hR⟩ : ∃ R, longRow a q = R := ⟨_, rfl⟩
  rw [hR] at hRl hRok hVal ⊢
  obtain ⟨x, hx⟩ : ∃ x, R[0]! = x := ⟨_, rfl⟩
  rw [bang_D hx (by omega)] at hVal
  rw [hVal]
  repeat' (first | (with_reducible first | apply w1 | apply w2 | apply w3 | apply w4 | apply w5 | apply w6 | apply w7 | apply w8 | apply w9 | apply wa | apply wb | apply wc) | ((with_reducible apply wd); focus decide) | ((with_reducible apply we); focus exact rfl) | ((with_reducible apply wf); focus exact rfl) | ((first | (with_reducible apply SW_run tt_ok hG htb) | ((with_reducible apply SW_draw rfl tt_ok hG htb); (focus kernel_rfl); focus simp only [List.range, List.range.loop, List.size_toArray, List.length_cons, List.length_nil, Nat.reduceAdd])); focus ((repeat' (first | (with_reducible first | exact wg | exact wh) | ((with_reducible first | apply wi | apply wj); focus (simp (discharger := omega) only [go_sem, hqk2, hx, simprocAttr]; with_reducible rfl)))); done)))
  exact (by simp (discharger := omega) only [go_sem, simprocAttr])
end
end Go.Proofs.YthcclcbliedodaaDoor
namespace Go.Proofs.YthcclcbliedodaaDoor
open Go.RowKit

section
variable {G : World → Prop} (hG : Lasting G)
include hG
set_option maxHeartbeats 4000000 in
theorem Pack_snd (base : Int) (d : List Int) : Snd Tryd.prog G 31 [tInt base, tInts d] (.tup [tInt (packOf base d), tErr (packErr base d)]) := by
  have htb := Tab.cons (Radix_snd hG base) (Tab.cons (Many_snd hG base d.length) Tab.nil)
  refine snd_of_body (n := 45) (tm := [(0, .t (tInt base)), (1, .t (tInts d))]) (rs := [.tmp 4, .tmp 5]) tt_ok Tryd.func31 rfl rfl rfl rfl rfl ?_
  by_cases h0 : manyErr base d.length = 0
  · obtain ⟨h1, _, h5, hp36, _⟩ := many_ok h0
    obtain ⟨r2, r6⟩ := radix_two h1
    have hdig : ∀ {i : Nat} (hi : i < d.length), ¬ (0 ≤ d[i] ∧ d[i] < radix base) → packErr base d = 1 ∧ packOf base d = 0 := fun hi hx => packErr_digit h0 hi hx
    have hok : (∀ x ∈ d, 0 ≤ x ∧ x < radix base) → packErr base d = 0 ∧ packOf base d = pack (radix base) d := packErr_ok h0
    rw [h0] at htb
    generalize manyOf base d.length = mo at htb
    generalize radix base = k at *
    repeat' (first | (with_reducible first | apply w1 | apply w2 | apply w3 | apply w4 | apply w5 | apply w6 | apply w7 | apply w8 | apply w9 | apply wa | apply wb | apply wc) | ((with_reducible apply wd); focus decide) | ((with_reducible apply we); focus exact rfl) | ((with_reducible apply wf); focus exact rfl) | ((first | (with_reducible apply SW_run tt_ok hG htb) | ((with_reducible apply SW_draw rfl tt_ok hG htb); (focus kernel_rfl); focus simp only [List.range, List.range.loop, List.size_toArray, List.length_cons, List.length_nil, Nat.reduceAdd])); focus ((repeat' (first | (with_reducible first | exact wg | exact wh) | ((with_reducible first | apply wi | apply wj); focus (simp (discharger := omega) only [go_sem, tErr, simprocAttr]; with_reducible rfl)))); done)))
    refine SW_loop (fun m s => ∃ i : Nat, m = d.length - i ∧ s = ⟨45, [(8, .t (tInt k)), (9, .t (tInt (pack k (d.take i)))), (24, .t (tInts d)), (25, .t (tInt d.length)), (26, .t (tInt i))], []⟩ ∧ i ≤ d.length ∧ ∀ x ∈ d.take i, 0 ≤ x ∧ x < k) d.length ⟨_, Norm.headS (own := []) (keep := [8, 9, 24, 25, 26]) (by refine ⟨?_, ?_⟩; (simp (discharger := omega) only [go_sem, simprocAttr]; with_reducible rfl); refine ⟨?_, ?_, ?_, ?_⟩ <;> (simp only [go_sem, simprocAttr]; with_reducible rfl)), 0, rfl, rfl, Nat.zero_le _, fun x hx => by simp at hx⟩ ?_
    rintro m s ⟨i, rfl, rfl, hi, hA⟩
    have hb := pack_bd r2 _ hA
    have hb2 := powW_bd r2 r6 (j := (d.take i).length) (by simp; omega)
    by_cases hlt : i < d.length
    · obtain ⟨x, hx⟩ : ∃ x, d[i]! = x := ⟨_, rfl⟩
      have htk := take_next hx hlt
      have hat := bang_at hx hlt
      by_cases hx0 : 0 ≤ x
      · by_cases hxk : x < k
        · have hA' : ∀ y ∈ d.take (i + 1), 0 ≤ y ∧ y < k := fun y hy => by
            rw [htk] at hy
            rcases List.mem_append.1 hy with h | h
            · exact hA y h
            · simp at h; subst h; exact ⟨hx0, hxk⟩
          have hpk : pack k (d.take (i + 1)) = pack k (d.take i) * k + x := by rw [htk, pack_snoc]
          have hm1 : 0 ≤ pack k (d.take i) * k := Int.mul_nonneg hb.1 (by omega)
          have hm2 : pack k (d.take i) * k ≤ 7776 * 6 := Int.mul_le_mul (by omega) r6 (by omega) (by omega)
          repeat' (first | (with_reducible first | apply w1 | apply w2 | apply w3 | apply w4 | apply w5 | apply w6 | apply w7 | apply w8 | apply w9 | apply wa | apply wb | apply wc) | ((with_reducible apply wd); focus decide) | ((with_reducible apply we); focus exact rfl) | ((with_reducible apply wf); focus exact rfl) | ((first | (with_reducible apply SW_run tt_ok hG htb) | ((with_reducible apply SW_draw rfl tt_ok hG htb); (focus kernel_rfl); focus simp only [List.range, List.range.loop, List.size_toArray, List.length_cons, List.length_nil, Nat.reduceAdd])); focus ((repeat' (first | (with_reducible first | exact wg | exact wh) | ((with_reducible first | apply wi | apply wj); focus (simp (discharger := omega) only [go_sem, hx, simprocAttr]; with_reducible rfl)))); done)))
          exact ⟨d.length - (i + 1), _, by omega, Norm.headS (own := []) (keep := [8, 9, 24, 25, 26]) (by refine ⟨?_, ?_⟩; (simp (discharger := omega) only [go_sem, simprocAttr]; with_reducible rfl); refine ⟨?_, ?_, ?_, ?_⟩ <;> (simp only [go_sem, simprocAttr]; with_reducible rfl)), i + 1, rfl, by rw [hpk]; rfl, by omega, hA'⟩
        · obtain ⟨e1, e2⟩ := hdig hlt (by rw [hat]; omega)
          rw [e1, e2]
          repeat' (first | (with_reducible first | apply w1 | apply w2 | apply w3 | apply w4 | apply w5 | apply w6 | apply w7 | apply w8 | apply w9 | apply wa | apply wb | apply wc) | ((with_reducible apply wd); focus decide) | ((with_reducible apply we); focus exact rfl) | ((with_reducible apply wf); focus exact rfl) | ((first | (with_reducible apply SW_run tt_ok hG htb) | ((with_reducible apply SW_draw rfl tt_ok hG htb); (focus kernel_rfl); focus simp only [List.range, List.range.loop, List.size_toArray, List.length_cons, List.length_nil, Nat.reduceAdd])); focus ((repeat' (first | (with_reducible first | exact wg | exact wh) | ((with_reducible first | apply wi | apply wj); focus (simp (discharger := omega) only [go_sem, hx, simprocAttr]; with_reducible rfl)))); done)))
          exact (by simp (discharger := omega) only [go_sem, tErr, simprocAttr])
      · obtain ⟨e1, e2⟩ := hdig hlt (by rw [hat]; omega)
        rw [e1, e2]
        repeat' (first | (with_reducible first | apply w1 | apply w2 | apply w3 | apply w4 | apply w5 | apply w6 | apply w7 | apply w8 | apply w9 | apply wa | apply wb | apply wc) | ((with_reducible apply wd); focus decide) | ((with_reducible apply we); focus exact rfl) | ((with_reducible apply wf); focus exact rfl) | ((first | (with_reducible apply SW_run tt_ok hG htb) | ((with_reducible apply SW_draw rfl tt_ok hG htb); (focus kernel_rfl); focus simp only [List.range, List.range.loop, List.size_toArray, List.length_cons, List.length_nil, Nat.reduceAdd])); focus ((repeat' (first | (with_reducible first | exact wg | exact wh) | ((with_reducible first | apply wi | apply wj); focus (simp (discharger := omega) only [go_sem, hx, simprocAttr]; with_reducible rfl)))); done)))
        exact (by simp (discharger := omega) only [go_sem, tErr, simprocAttr])
    · obtain rfl : i = d.length := by omega
      rw [List.take_length] at hA hb ⊢
      obtain ⟨e1, e2⟩ := hok hA
      rw [e1, e2]
      repeat' (first | (with_reducible first | apply w1 | apply w2 | apply w3 | apply w4 | apply w5 | apply w6 | apply w7 | apply w8 | apply w9 | apply wa | apply wb | apply wc) | ((with_reducible apply wd); focus decide) | ((with_reducible apply we); focus exact rfl) | ((with_reducible apply wf); focus exact rfl) | ((first | (with_reducible apply SW_run tt_ok hG htb) | ((with_reducible apply SW_draw rfl tt_ok hG htb); (focus kernel_rfl); focus simp only [List.range, List.range.loop, List.size_toArray, List.length_cons, List.length_nil, Nat.reduceAdd])); focus ((repeat' (first | (with_reducible first | exact wg | exact wh) | ((with_reducible first | apply wi | apply wj); focus (simp (discharger := omega) only [go_sem, simprocAttr]; with_reducible rfl)))); done)))
      exact (by simp (discharger := omega) only [go_sem, tErr, simprocAttr])
  · obtain ⟨e1, e2⟩ := packErr_many h0
    rw [e1, e2]
    generalize manyErr base d.length = e at *
    repeat' (first | (with_reducible first | apply w1 | apply w2 | apply w3 | apply w4 | apply w5 | apply w6 | apply w7 | apply w8 | apply w9 | apply wa | apply wb | apply wc) | ((with_reducible apply wd); focus decide) | ((with_reducible apply we); focus exact rfl) | ((with_reducible apply wf); focus exact rfl) | ((first | (with_reducible apply SW_run tt_ok hG htb) | ((with_reducible apply SW_draw rfl tt_ok hG htb); (focus kernel_rfl); focus simp only [List.range, List.range.loop, List.size_toArray, List.length_cons, List.length_nil, Nat.reduceAdd])); focus ((repeat' (first | (with_reducible first | exact wg | exact wh) | ((with_reducible first | apply wi | apply wj); focus (simp (discharger := omega) only [go_sem, tErr, h0, simprocAttr]; with_reducible rfl)))); done)))
    exact (by simp (discharger := omega) only [go_sem, tErr, h0, simprocAttr])
set_option maxHeartbeats 4000000 in
theorem Unpack_snd (base t l : Int) : Snd Tryd.prog G 30 [tInt base, tInt t, tInt l] (.tup [tInts (unpackOf base t l), tErr (unpackErr base t l)]) := by
  have htb := Tab.cons (Radix_snd hG base) (Tab.cons (Many_snd hG base t) Tab.nil)
  refine snd_of_body (n := 52) (tm := [(0, .t (tInt base)), (1, .t (tInt t)), (2, .t (tInt l))]) (rs := [.tmp 6, .tmp 7]) tt_ok Tryd.func30 rfl rfl rfl rfl rfl ?_
  by_cases h0 : manyErr base t = 0
  · obtain ⟨h1, h2, h5, hp36, hm⟩ := many_ok h0
    obtain ⟨r2, r6⟩ := radix_two h1
    have hp1 := powW_pos r2 t.toNat
    have hok : ¬ (l < 0 ∨ manyOf base t ≤ l) → unpackErr base t l = 0 ∧ unpackOf base t l = unpack (radix base) t.toNat l := unpackErr_ok h0
    have hno : (l < 0 ∨ manyOf base t ≤ l) → unpackErr base t l = 1 ∧ unpackOf base t l = [] := unpackErr_letter h0
    rw [h0] at htb
    rw [← hm] at hp36 hp1
    generalize manyOf base t = mo at *
    generalize radix base = k at *
    by_cases hl0 : l < 0
    · obtain ⟨e1, e2⟩ := hno (by omega)
      rw [e1, e2]
      repeat' (first | (with_reducible first | apply w1 | apply w2 | apply w3 | apply w4 | apply w5 | apply w6 | apply w7 | apply w8 | apply w9 | apply wa | apply wb | apply wc) | ((with_reducible apply wd); focus decide) | ((with_reducible apply we); focus exact rfl) | ((with_reducible apply wf); focus exact rfl) | ((first | (with_reducible apply SW_run tt_ok hG htb) | ((with_reducible apply SW_draw rfl tt_ok hG htb); (focus kernel_rfl); focus simp only [List.range, List.range.loop, List.size_toArray, List.length_cons, List.length_nil, Nat.reduceAdd])); focus ((repeat' (first | (with_reducible first | exact wg | exact wh) | ((with_reducible first | apply wi | apply wj); focus (simp (discharger := omega) only [go_sem, tErr, simprocAttr]; with_reducible rfl)))); done)))
      exact (by simp (discharger := omega) only [go_sem, tErr, simprocAttr])
    · by_cases hl1 : mo ≤ l
      · obtain ⟨e1, e2⟩ := hno (by omega)
        rw [e1, e2]
        repeat' (first | (with_reducible first | apply w1 | apply w2 | apply w3 | apply w4 | apply w5 | apply w6 | apply w7 | apply w8 | apply w9 | apply wa | apply wb | apply wc) | ((with_reducible apply wd); focus decide) | ((with_reducible apply we); focus exact rfl) | ((with_reducible apply wf); focus exact rfl) | ((first | (with_reducible apply SW_run tt_ok hG htb) | ((with_reducible apply SW_draw rfl tt_ok hG htb); (focus kernel_rfl); focus simp only [List.range, List.range.loop, List.size_toArray, List.length_cons, List.length_nil, Nat.reduceAdd])); focus ((repeat' (first | (with_reducible first | exact wg | exact wh) | ((with_reducible first | apply wi | apply wj); focus (simp (discharger := omega) only [go_sem, tErr, simprocAttr]; with_reducible rfl)))); done)))
        exact (by simp (discharger := omega) only [go_sem, tErr, simprocAttr])
      · obtain ⟨e1, e2⟩ := hok (by omega)
        rw [e1, e2]
        obtain ⟨t, rfl⟩ := Int.eq_ofNat_of_zero_le h2
        rw [Int.toNat_natCast] at *
        repeat' (first | (with_reducible first | apply w1 | apply w2 | apply w3 | apply w4 | apply w5 | apply w6 | apply w7 | apply w8 | apply w9 | apply wa | apply wb | apply wc) | ((with_reducible apply wd); focus decide) | ((with_reducible apply we); focus exact rfl) | ((with_reducible apply wf); focus exact rfl) | ((first | (with_reducible apply SW_run tt_ok hG htb) | ((with_reducible apply SW_draw rfl tt_ok hG htb); (focus kernel_rfl); focus simp only [List.range, List.range.loop, List.size_toArray, List.length_cons, List.length_nil, Nat.reduceAdd])); focus ((repeat' (first | (with_reducible first | exact wg | exact wh) | ((with_reducible first | apply wi | apply wj); focus (simp (discharger := omega) only [go_sem, tErr, simprocAttr]; with_reducible rfl)))); done)))
        refine SW_loop (fun m s => ∃ (j : Nat) (q : Int) (u : List Int) (ot : List T), m = t - j ∧ s = ⟨52, [(1, .t (tInt t)), (2, .t (tInt q)), (10, .t (tInt k)), (11, .sref 0), (34, .t (tInt t)), (35, .t (tInt j))], [.row 3 1 true ot]⟩ ∧ ot = (List.replicate (t - j) 0 ++ u).map tInt ∧ j ≤ t ∧ 0 ≤ q ∧ q ≤ 36 ∧ u.length = j ∧ unpack k t l = unpack k (t - j) q ++ u) t
          ⟨_, Norm.headS (own := [(11, 3, 1, true)]) (keep := [1, 2, 10, 11, 34, 35]) (by refine ⟨?_, ?_⟩; (simp (discharger := omega) only [go_sem, simprocAttr]; with_reducible rfl); refine ⟨?_, ?_, ?_, ?_⟩ <;> (simp only [go_sem, simprocAttr]; with_reducible rfl)), 0, l, [], _, rfl, rfl, by simp [tInt], Nat.zero_le _, by omega, by omega, rfl, by simp⟩ ?_
        rintro m s ⟨j, q, u, ot, rfl, rfl, hot, hj, q0, q36, hu, hU⟩
        have hol : ot.length = t := by rw [hot]; simp; omega
        by_cases hlt : j < t
        · have q1 : q.tmod k = q % k := by rw [Int.tmod_eq_emod_of_nonneg q0]
          have q2 : q.tdiv k = q / k := by rw [Int.tdiv_eq_ediv_of_nonneg q0]
          have q3 : 0 ≤ q / k := Int.ediv_nonneg q0 (by omega)
          have q4 : q / k ≤ q := Int.ediv_le_self _ q0
          obtain ⟨r, hr⟩ : ∃ r : Nat, t - j = r + 1 := ⟨t - j - 1, by omega⟩
          have hr' : (t : Int) - 1 - (j : Int) = (r : Nat) := by omega
          repeat' (first | (with_reducible first | apply w1 | apply w2 | apply w3 | apply w4 | apply w5 | apply w6 | apply w7 | apply w8 | apply w9 | apply wa | apply wb | apply wc) | ((with_reducible apply wd); focus decide) | ((with_reducible apply we); focus exact rfl) | ((with_reducible apply wf); focus exact rfl) | ((first | (with_reducible apply SW_run tt_ok hG htb) | ((with_reducible apply SW_draw rfl tt_ok hG htb); (focus kernel_rfl); focus simp only [List.range, List.range.loop, List.size_toArray, List.length_cons, List.length_nil, Nat.reduceAdd])); focus ((repeat' (first | (with_reducible first | exact wg | exact wh) | ((with_reducible first | apply wi | apply wj); focus (simp (discharger := omega) only [go_sem, q1, q2, hr', simprocAttr]; with_reducible rfl)))); done)))
          refine ⟨t - (j + 1), _, by omega, Norm.headS (own := [(11, 3, 1, true)]) (keep := [1, 2, 10, 11, 34, 35]) (by refine ⟨?_, ?_⟩; (simp (discharger := omega) only [go_sem, simprocAttr]; with_reducible rfl); refine ⟨?_, ?_, ?_, ?_⟩ <;> (simp only [go_sem, simprocAttr]; with_reducible rfl)), j + 1, q / k, (q % k) :: u, _, rfl, rfl, ?_, by omega, q3, by omega, by simp [hu], ?_⟩
          · have e : t - (j + 1) = r := by omega
            rw [hot, hr, e, List.replicate_succ', List.append_assoc, List.map_append, List.map_append, List.set_append_right _ _ (by simp)]
            simp [tInt]
          · have e : t - (j + 1) = r := by omega
            rw [hU, hr, e, unpack, List.append_assoc]; rfl
        · obtain rfl : j = t := by omega
          have : unpack k j l = u := by rw [hU]; simp [unpack]
          rw [this]
          rw [Nat.sub_self, List.replicate_zero, List.nil_append] at hot
          repeat' (first | (with_reducible first | apply w1 | apply w2 | apply w3 | apply w4 | apply w5 | apply w6 | apply w7 | apply w8 | apply w9 | apply wa | apply wb | apply wc) | ((with_reducible apply wd); focus decide) | ((with_reducible apply we); focus exact rfl) | ((with_reducible apply wf); focus exact rfl) | ((first | (with_reducible apply SW_run tt_ok hG htb) | ((with_reducible apply SW_draw rfl tt_ok hG htb); (focus kernel_rfl); focus simp only [List.range, List.range.loop, List.size_toArray, List.length_cons, List.length_nil, Nat.reduceAdd])); focus ((repeat' (first | (with_reducible first | exact wg | exact wh) | ((with_reducible first | apply wi | apply wj); focus (simp (discharger := omega) only [go_sem, simprocAttr]; with_reducible rfl)))); done)))
          exact (by simp (discharger := omega) only [go_sem, tErr, hot, simprocAttr])
  · obtain ⟨e1, e2⟩ := unpackErr_many (l := l) h0
    rw [e1, e2]
    generalize manyErr base t = e at *
    repeat' (first | (with_reducible first | apply w1 | apply w2 | apply w3 | apply w4 | apply w5 | apply w6 | apply w7 | apply w8 | apply w9 | apply wa | apply wb | apply wc) | ((with_reducible apply wd); focus decide) | ((with_reducible apply we); focus exact rfl) | ((with_reducible apply wf); focus exact rfl) | ((first | (with_reducible apply SW_run tt_ok hG htb) | ((with_reducible apply SW_draw rfl tt_ok hG htb); (focus kernel_rfl); focus simp only [List.range, List.range.loop, List.size_toArray, List.length_cons, List.length_nil, Nat.reduceAdd])); focus ((repeat' (first | (with_reducible first | exact wg | exact wh) | ((with_reducible first | apply wi | apply wj); focus (simp (discharger := omega) only [go_sem, tErr, h0, simprocAttr]; with_reducible rfl)))); done)))
    exact (by simp (discharger := omega) only [go_sem, tErr, h0, simprocAttr])
end
end Go.Proofs.YthcclcbliedodaaDoor
namespace Go.Proofs.YthcclcbliedodaaDoor
open Go.RowKit

section
variable {G : World → Prop} (hG : Lasting G)
include hG
theorem RRadix_snd (base : Int) : Snd Tryd.prog G 52 [tInt base] (tInt (radix base)) := by
  have htb : Tab.ok Tryd.prog G [] := Tab.nil
  refine snd_of_body (n := 12) (tm := [(0, .t (tInt base))]) (rs := [.tmp 2]) tt_ok Tryd.func52 rfl rfl rfl rfl rfl ?_
  unfold radix
  by_cases h1 : base = 1
  · repeat' (first | (with_reducible first | apply w1 | apply w2 | apply w3 | apply w4 | apply w5 | apply w6 | apply w7 | apply w8 | apply w9 | apply wa | apply wb | apply wc) | ((with_reducible apply wd); focus decide) | ((with_reducible apply we); focus exact rfl) | ((with_reducible apply wf); focus exact rfl) | ((first | (with_reducible apply SW_run tt_ok hG htb) | ((with_reducible apply SW_draw rfl tt_ok hG htb); (focus kernel_rfl); focus simp only [List.range, List.range.loop, List.size_toArray, List.length_cons, List.length_nil, Nat.reduceAdd])); focus ((repeat' (first | (with_reducible first | exact wg | exact wh) | ((with_reducible first | apply wi | apply wj); focus (simp (discharger := omega) only [go_sem, h1, simprocAttr]; with_reducible rfl)))); done)))
    exact (by simp (discharger := omega) only [go_sem, h1, simprocAttr])
  · by_cases h2 : 2 ≤ base
    · by_cases h3 : base ≤ 6
      · repeat' (first | (with_reducible first | apply w1 | apply w2 | apply w3 | apply w4 | apply w5 | apply w6 | apply w7 | apply w8 | apply w9 | apply wa | apply wb | apply wc) | ((with_reducible apply wd); focus decide) | ((with_reducible apply we); focus exact rfl) | ((with_reducible apply wf); focus exact rfl) | ((first | (with_reducible apply SW_run tt_ok hG htb) | ((with_reducible apply SW_draw rfl tt_ok hG htb); (focus kernel_rfl); focus simp only [List.range, List.range.loop, List.size_toArray, List.length_cons, List.length_nil, Nat.reduceAdd])); focus ((repeat' (first | (with_reducible first | exact wg | exact wh) | ((with_reducible first | apply wi | apply wj); focus (simp (discharger := omega) only [go_sem, simprocAttr]; with_reducible rfl)))); done)))
        exact (by simp (discharger := omega) only [go_sem, simprocAttr])
      · repeat' (first | (with_reducible first | apply w1 | apply w2 | apply w3 | apply w4 | apply w5 | apply w6 | apply w7 | apply w8 | apply w9 | apply wa | apply wb | apply wc) | ((with_reducible apply wd); focus decide) | ((with_reducible apply we); focus exact rfl) | ((with_reducible apply wf); focus exact rfl) | ((first | (with_reducible apply SW_run tt_ok hG htb) | ((with_reducible apply SW_draw rfl tt_ok hG htb); (focus kernel_rfl); focus simp only [List.range, List.range.loop, List.size_toArray, List.length_cons, List.length_nil, Nat.reduceAdd])); focus ((repeat' (first | (with_reducible first | exact wg | exact wh) | ((with_reducible first | apply wi | apply wj); focus (simp (discharger := omega) only [go_sem, simprocAttr]; with_reducible rfl)))); done)))
        exact (by simp (discharger := omega) only [go_sem, simprocAttr])
    · repeat' (first | (with_reducible first | apply w1 | apply w2 | apply w3 | apply w4 | apply w5 | apply w6 | apply w7 | apply w8 | apply w9 | apply wa | apply wb | apply wc) | ((with_reducible apply wd); focus decide) | ((with_reducible apply we); focus exact rfl) | ((with_reducible apply wf); focus exact rfl) | ((first | (with_reducible apply SW_run tt_ok hG htb) | ((with_reducible apply SW_draw rfl tt_ok hG htb); (focus kernel_rfl); focus simp only [List.range, List.range.loop, List.size_toArray, List.length_cons, List.length_nil, Nat.reduceAdd])); focus ((repeat' (first | (with_reducible first | exact wg | exact wh) | ((with_reducible first | apply wi | apply wj); focus (simp (discharger := omega) only [go_sem, simprocAttr]; with_reducible rfl)))); done)))
      exact (by simp (discharger := omega) only [go_sem, simprocAttr])
theorem RDigitOf_snd (base : Int) (t : Nat) (l : Int) (i : Nat) (hr : radix base ≠ 0) (ht : t ≤ 5) (hl0 : 0 ≤ l) (hl1 : l ≤ 7776) (hi : i < t) :
    Snd Tryd.prog G 54 [tInt base, tInt t, tInt l, tInt i] (tInt (digitAt (radix base) t l i)) := by
  have htb := Tab.cons (RRadix_snd hG base) Tab.nil
  refine snd_of_body (n := 26) (tm := [(0, .t (tInt base)), (1, .t (tInt t)), (2, .t (tInt l)), (3, .t (tInt i))]) (rs := [.tmp 8]) tt_ok Tryd.func54 rfl rfl rfl rfl rfl ?_
  obtain ⟨r2, r6⟩ := radix_two hr
  unfold digitAt
  generalize radix base = k at *
  repeat' (first | (with_reducible first | apply w1 | apply w2 | apply w3 | apply w4 | apply w5 | apply w6 | apply w7 | apply w8 | apply w9 | apply wa | apply wb | apply wc) | ((with_reducible apply wd); focus decide) | ((with_reducible apply we); focus exact rfl) | ((with_reducible apply wf); focus exact rfl) | ((first | (with_reducible apply SW_run tt_ok hG htb) | ((with_reducible apply SW_draw rfl tt_ok hG htb); (focus kernel_rfl); focus simp only [List.range, List.range.loop, List.size_toArray, List.length_cons, List.length_nil, Nat.reduceAdd])); focus ((repeat' (first | (with_reducible first | exact wg | exact wh) | ((with_reducible first | apply wi | apply wj); focus (simp (discharger := omega) only [go_sem, simprocAttr]; with_reducible rfl)))); done)))
  refine SW_loop (fun m s => ∃ (j : Nat) (q : Int), m = j ∧ s = ⟨26, [(2, .t (tInt q)), (3, .t (tInt i)), (9, .t (tInt k)), (10, .t (tInt (i + j : Nat)))], []⟩ ∧ i + j < t ∧ 0 ≤ q ∧ q ≤ 7776 ∧ (unpack k t l).getD i 0 = (unpack k (i + j + 1) q).getD i 0) (t - 1 - i) ⟨_, Norm.headS (own := []) (keep := [2, 3, 9, 10]) (by refine ⟨?_, ?_⟩; (simp (discharger := omega) only [go_sem, simprocAttr]; with_reducible rfl); refine ⟨?_, ?_, ?_, ?_⟩ <;> (simp only [go_sem, simprocAttr]; with_reducible rfl)), t - 1 - i, l, rfl, by rw [show i + (t - 1 - i) = t - 1 by omega, show ((t - 1 : Nat) : Int) = (t : Int) - 1 by omega]; rfl, by omega, hl0, hl1, by rw [show i + (t - 1 - i) + 1 = t by omega]⟩ ?_
  rintro m s ⟨j, q, rfl, rfl, hj, q0, q1, hU⟩
  have e1 : q.tmod k = q % k := Int.tmod_eq_emod_of_nonneg q0
  have e2 : q.tdiv k = q / k := Int.tdiv_eq_ediv_of_nonneg q0
  have q2 : 0 ≤ q % k := Int.emod_nonneg _ (by omega)
  have q3 : 0 ≤ q / k := Int.ediv_nonneg q0 (by omega)
  have q4 : q / k ≤ q := Int.ediv_le_self _ q0
  by_cases hlt : 0 < m
  · obtain ⟨j, rfl⟩ : ∃ j, m = j + 1 := ⟨m - 1, by omega⟩
    have e3 : ((i + (j + 1) : Nat) : Int) - 1 = ((i + j : Nat) : Int) := by omega
    repeat' (first | (with_reducible first | apply w1 | apply w2 | apply w3 | apply w4 | apply w5 | apply w6 | apply w7 | apply w8 | apply w9 | apply wa | apply wb | apply wc) | ((with_reducible apply wd); focus decide) | ((with_reducible apply we); focus exact rfl) | ((with_reducible apply wf); focus exact rfl) | ((first | (with_reducible apply SW_run tt_ok hG htb) | ((with_reducible apply SW_draw rfl tt_ok hG htb); (focus kernel_rfl); focus simp only [List.range, List.range.loop, List.size_toArray, List.length_cons, List.length_nil, Nat.reduceAdd])); focus ((repeat' (first | (with_reducible first | exact wg | exact wh) | ((with_reducible first | apply wi | apply wj); focus (simp (discharger := omega) only [go_sem, e2, e3, simprocAttr]; with_reducible rfl)))); done)))
    exact ⟨j, _, by omega, Norm.headS (own := []) (keep := [2, 3, 9, 10]) (by refine ⟨?_, ?_⟩; (simp (discharger := omega) only [go_sem, simprocAttr]; with_reducible rfl); refine ⟨?_, ?_, ?_, ?_⟩ <;> (simp only [go_sem, simprocAttr]; with_reducible rfl)), j, q / k, rfl, rfl, by omega, q3, by omega, by rw [hU]; exact unpack_pre k (i + j + 1) q i (by omega)⟩
  · obtain rfl : m = 0 := by omega
    rw [hU, Nat.add_zero, unpack_last]
    repeat' (first | (with_reducible first | apply w1 | apply w2 | apply w3 | apply w4 | apply w5 | apply w6 | apply w7 | apply w8 | apply w9 | apply wa | apply wb | apply wc) | ((with_reducible apply wd); focus decide) | ((with_reducible apply we); focus exact rfl) | ((with_reducible apply wf); focus exact rfl) | ((first | (with_reducible apply SW_run tt_ok hG htb) | ((with_reducible apply SW_draw rfl tt_ok hG htb); (focus kernel_rfl); focus simp only [List.range, List.range.loop, List.size_toArray, List.length_cons, List.length_nil, Nat.reduceAdd])); focus ((repeat' (first | (with_reducible first | exact wg | exact wh) | ((with_reducible first | apply wi | apply wj); focus (simp (discharger := omega) only [go_sem, e1, simprocAttr]; with_reducible rfl)))); done)))
    exact (by simp (discharger := omega) only [go_sem, simprocAttr])
end
end Go.Proofs.YthcclcbliedodaaDoor
namespace Go.Proofs.YthcclcbliedodaaDoor
open Go.RowKit

section
variable {G : World → Prop} (hG : Lasting G)
include hG
set_option maxHeartbeats 4000000 in
theorem RLetters_snd (base t : Int) : Snd Tryd.prog G 25 [tInt base, tInt t] (.tup [tInt (manyOf base t), tInt (manyErr base t)]) := by
  have htb := Tab.cons (RRadix_snd hG base) Tab.nil
  refine snd_of_body (n := 32) (tm := [(0, .t (tInt base)), (1, .t (tInt t))]) (rs := [.tmp 4, .tmp 5]) tt_ok Tryd.func25 rfl rfl rfl rfl rfl ?_
  unfold manyOf manyErr
  generalize hk : radix base = k at htb ⊢
  by_cases h1 : k = 0
  · subst h1
    repeat' (first | (with_reducible first | apply w1 | apply w2 | apply w3 | apply w4 | apply w5 | apply w6 | apply w7 | apply w8 | apply w9 | apply wa | apply wb | apply wc) | ((with_reducible apply wd); focus decide) | ((with_reducible apply we); focus exact rfl) | ((with_reducible apply wf); focus exact rfl) | ((first | (with_reducible apply SW_run tt_ok hG htb) | ((with_reducible apply SW_draw rfl tt_ok hG htb); (focus kernel_rfl); focus simp only [List.range, List.range.loop, List.size_toArray, List.length_cons, List.length_nil, Nat.reduceAdd])); focus ((repeat' (first | (with_reducible first | exact wg | exact wh) | ((with_reducible first | apply wi | apply wj); focus (simp (discharger := omega) only [go_sem, simprocAttr]; with_reducible rfl)))); done)))
    exact (by simp (discharger := omega) only [go_sem, simprocAttr])
  · by_cases h2 : t < 0
    · repeat' (first | (with_reducible first | apply w1 | apply w2 | apply w3 | apply w4 | apply w5 | apply w6 | apply w7 | apply w8 | apply w9 | apply wa | apply wb | apply wc) | ((with_reducible apply wd); focus decide) | ((with_reducible apply we); focus exact rfl) | ((with_reducible apply wf); focus exact rfl) | ((first | (with_reducible apply SW_run tt_ok hG htb) | ((with_reducible apply SW_draw rfl tt_ok hG htb); (focus kernel_rfl); focus simp only [List.range, List.range.loop, List.size_toArray, List.length_cons, List.length_nil, Nat.reduceAdd])); focus ((repeat' (first | (with_reducible first | exact wg | exact wh) | ((with_reducible first | apply wi | apply wj); focus (simp (discharger := omega) only [go_sem, simprocAttr]; with_reducible rfl)))); done)))
      exact (by simp (discharger := omega) only [go_sem, simprocAttr])
    · by_cases h3 : 5 < t
      · repeat' (first | (with_reducible first | apply w1 | apply w2 | apply w3 | apply w4 | apply w5 | apply w6 | apply w7 | apply w8 | apply w9 | apply wa | apply wb | apply wc) | ((with_reducible apply wd); focus decide) | ((with_reducible apply we); focus exact rfl) | ((with_reducible apply wf); focus exact rfl) | ((first | (with_reducible apply SW_run tt_ok hG htb) | ((with_reducible apply SW_draw rfl tt_ok hG htb); (focus kernel_rfl); focus simp only [List.range, List.range.loop, List.size_toArray, List.length_cons, List.length_nil, Nat.reduceAdd])); focus ((repeat' (first | (with_reducible first | exact wg | exact wh) | ((with_reducible first | apply wi | apply wj); focus (simp (discharger := omega) only [go_sem, simprocAttr]; with_reducible rfl)))); done)))
        exact (by simp (discharger := omega) only [go_sem, simprocAttr])
      · obtain ⟨r2, r6⟩ := radix_two (b := base) (by omega)
        rw [hk] at r2 r6
        obtain ⟨t, rfl⟩ := Int.eq_ofNat_of_zero_le (show 0 ≤ t by omega)
        rw [show (if k = 0 ∨ (t : Int) < 0 ∨ 5 < (t : Int) then (1 : Int) else if 36 < powW k (t : Int).toNat then 3 else 0) = if 36 < powW k t then 3 else 0 by rw [if_neg (by omega)]; rfl]
        repeat' (first | (with_reducible first | apply w1 | apply w2 | apply w3 | apply w4 | apply w5 | apply w6 | apply w7 | apply w8 | apply w9 | apply wa | apply wb | apply wc) | ((with_reducible apply wd); focus decide) | ((with_reducible apply we); focus exact rfl) | ((with_reducible apply wf); focus exact rfl) | ((first | (with_reducible apply SW_run tt_ok hG htb) | ((with_reducible apply SW_draw rfl tt_ok hG htb); (focus kernel_rfl); focus simp only [List.range, List.range.loop, List.size_toArray, List.length_cons, List.length_nil, Nat.reduceAdd])); focus ((repeat' (first | (with_reducible first | exact wg | exact wh) | ((with_reducible first | apply wi | apply wj); focus (simp (discharger := omega) only [go_sem, simprocAttr]; with_reducible rfl)))); done)))
        refine SW_loop (fun m s => ∃ i : Nat, m = t - i ∧ s = ⟨32, [(1, .t (tInt t)), (6, .t (tInt k)), (7, .t (tInt (powW k i))), (8, .t (tInt i))], []⟩ ∧ i ≤ t) t ⟨_, Norm.headS (own := []) (keep := [1, 6, 7, 8]) (by refine ⟨?_, ?_⟩; (simp (discharger := omega) only [go_sem, simprocAttr]; with_reducible rfl); refine ⟨?_, ?_, ?_, ?_⟩ <;> (simp only [go_sem, simprocAttr]; with_reducible rfl)), 0, rfl, rfl, Nat.zero_le _⟩ ?_
        rintro m s ⟨i, rfl, rfl, hi⟩
        have hb := powW_bd r2 r6 (j := i) (by omega)
        by_cases hlt : i < t
        · have hb1 : 1 ≤ powW k i * k ∧ powW k i * k ≤ 7776 := powW_bd r2 r6 (j := i + 1) (by omega)
          repeat' (first | (with_reducible first | apply w1 | apply w2 | apply w3 | apply w4 | apply w5 | apply w6 | apply w7 | apply w8 | apply w9 | apply wa | apply wb | apply wc) | ((with_reducible apply wd); focus decide) | ((with_reducible apply we); focus exact rfl) | ((with_reducible apply wf); focus exact rfl) | ((first | (with_reducible apply SW_run tt_ok hG htb) | ((with_reducible apply SW_draw rfl tt_ok hG htb); (focus kernel_rfl); focus simp only [List.range, List.range.loop, List.size_toArray, List.length_cons, List.length_nil, Nat.reduceAdd])); focus ((repeat' (first | (with_reducible first | exact wg | exact wh) | ((with_reducible first | apply wi | apply wj); focus (simp (discharger := omega) only [go_sem, simprocAttr]; with_reducible rfl)))); done)))
          exact ⟨t - (i + 1), _, by omega, Norm.headS (own := []) (keep := [1, 6, 7, 8]) (by refine ⟨?_, ?_⟩; (simp (discharger := omega) only [go_sem, simprocAttr]; with_reducible rfl); refine ⟨?_, ?_, ?_, ?_⟩ <;> (simp only [go_sem, simprocAttr]; with_reducible rfl)), i + 1, rfl, rfl, by omega⟩
        · obtain rfl : i = t := by omega
          by_cases h36 : 36 < powW k i
          · repeat' (first | (with_reducible first | apply w1 | apply w2 | apply w3 | apply w4 | apply w5 | apply w6 | apply w7 | apply w8 | apply w9 | apply wa | apply wb | apply wc) | ((with_reducible apply wd); focus decide) | ((with_reducible apply we); focus exact rfl) | ((with_reducible apply wf); focus exact rfl) | ((first | (with_reducible apply SW_run tt_ok hG htb) | ((with_reducible apply SW_draw rfl tt_ok hG htb); (focus kernel_rfl); focus simp only [List.range, List.range.loop, List.size_toArray, List.length_cons, List.length_nil, Nat.reduceAdd])); focus ((repeat' (first | (with_reducible first | exact wg | exact wh) | ((with_reducible first | apply wi | apply wj); focus (simp (discharger := omega) only [go_sem, simprocAttr]; with_reducible rfl)))); done)))
            exact (by simp (discharger := omega) only [go_sem, simprocAttr])
          · repeat' (first | (with_reducible first | apply w1 | apply w2 | apply w3 | apply w4 | apply w5 | apply w6 | apply w7 | apply w8 | apply w9 | apply wa | apply wb | apply wc) | ((with_reducible apply wd); focus decide) | ((with_reducible apply we); focus exact rfl) | ((with_reducible apply wf); focus exact rfl) | ((first | (with_reducible apply SW_run tt_ok hG htb) | ((with_reducible apply SW_draw rfl tt_ok hG htb); (focus kernel_rfl); focus simp only [List.range, List.range.loop, List.size_toArray, List.length_cons, List.length_nil, Nat.reduceAdd])); focus ((repeat' (first | (with_reducible first | exact wg | exact wh) | ((with_reducible first | apply wi | apply wj); focus (simp (discharger := omega) only [go_sem, simprocAttr]; with_reducible rfl)))); done)))
            exact (by simp (discharger := omega) only [go_sem, simprocAttr])
end
end Go.Proofs.YthcclcbliedodaaDoor
namespace Go.Proofs.YthcclcbliedodaaDoor

def walkOk (c : Nat → Nat → Bool) : Nat → List Nat → Bool
  | _, [] => true
  | s, l :: w => !c s l && walkOk c l w
def chain (c : Nat → Nat → Bool) : List Nat → Bool
  | [] => true
  | x :: w => walkOk c x w
theorem map_range_take {α : Type} (f : Nat → α) {m k : Nat} (h : k < m) : ((List.range m).map f).take (k + 1) = ((List.range m).map f).take k ++ [f k] := by
  rw [List.take_succ_eq_append_getElem (by simpa using h)]; simp
/-- Two letters that have a digit 1 on the same track, in base Fib. -/
def clash (base : Int) (t s l : Nat) : Bool := base == 1 && (List.range t).any fun k => digitAt (radix base) t (s : Int) k == 1 && digitAt (radix base) t (l : Int) k == 1
end Go.Proofs.YthcclcbliedodaaDoor
namespace Go.Proofs.YthcclcbliedodaaDoor
open Go.RowKit

def tRep (r : GRep) : T := .agg [tInt r.base, tInt r.tracks, tInts r.first, .list (r.steps.map tIntss), tInts r.last]
structure RepOk (r : GRep) (n L : Nat) : Prop where
  many : manyErr r.base r.tracks = 0
  n_eq : r.first.length = n
  n0 : 0 < n
  n80 : n ≤ 80
  last : r.last.length = n
  steps : r.steps.length = L
  L36 : L ≤ 36
  shape : ∀ m ∈ r.steps, m.length = n ∧ ∀ q ∈ m, q.length = n
  first : ∀ x ∈ r.first, 0 ≤ x ∧ x ≤ 1152921504606846976
  lasta : ∀ x ∈ r.last, 0 ≤ x ∧ x ≤ 1152921504606846976
  stepa : ∀ m ∈ r.steps, ∀ q ∈ m, ∀ x ∈ q, 0 ≤ x ∧ x ≤ 1152921504606846976
section
variable {G : World → Prop} (hG : Lasting G)
include hG
end
end Go.Proofs.YthcclcbliedodaaDoor
namespace Go.Proofs.YthcclcbliedodaaDoor
open Go.RowKit

section
variable {G : World → Prop} (hG : Lasting G)
include hG
theorem RPackOf_snd (base : Int) (d : List Int) (hr : radix base ≠ 0) (hl : d.length ≤ 5) (hok : ∀ x ∈ d, 0 ≤ x ∧ x < radix base) : Snd Tryd.prog G 55 [tInt base, tInts d] (tInt (pack (radix base) d)) := by
  have htb := Tab.cons (RRadix_snd hG base) Tab.nil
  refine snd_of_body (n := 23) (tm := [(0, .t (tInt base)), (1, .t (tInts d))]) (rs := [.tmp 4]) tt_ok Tryd.func55 rfl rfl rfl rfl rfl ?_
  obtain ⟨r2, r6⟩ := radix_two hr
  generalize radix base = k at *
  repeat' (first | (with_reducible first | apply w1 | apply w2 | apply w3 | apply w4 | apply w5 | apply w6 | apply w7 | apply w8 | apply w9 | apply wa | apply wb | apply wc) | ((with_reducible apply wd); focus decide) | ((with_reducible apply we); focus exact rfl) | ((with_reducible apply wf); focus exact rfl) | ((first | (with_reducible apply SW_run tt_ok hG htb) | ((with_reducible apply SW_draw rfl tt_ok hG htb); (focus kernel_rfl); focus simp only [List.range, List.range.loop, List.size_toArray, List.length_cons, List.length_nil, Nat.reduceAdd])); focus ((repeat' (first | (with_reducible first | exact wg | exact wh) | ((with_reducible first | apply wi | apply wj); focus (simp (discharger := omega) only [go_sem, simprocAttr]; with_reducible rfl)))); done)))
  refine SW_loop (fun m s => ∃ i : Nat, m = d.length - i ∧ s = ⟨23, [(0, .t (tInt base)), (1, .t (tInts d)), (5, .t (tInt (pack k (d.take i)))), (6, .t (tInt i))], []⟩ ∧ i ≤ d.length) d.length ⟨_, Norm.headS (own := []) (keep := [0, 1, 5, 6]) (by refine ⟨?_, ?_⟩; (simp (discharger := omega) only [go_sem, simprocAttr]; with_reducible rfl); refine ⟨?_, ?_, ?_, ?_⟩ <;> (simp only [go_sem, simprocAttr]; with_reducible rfl)), 0, rfl, rfl, Nat.zero_le _⟩ ?_
  rintro m s ⟨i, rfl, rfl, hi⟩
  have hb := pack_bd r2 (d.take i) fun x hx => hok x (List.mem_of_mem_take hx)
  have hb2 := powW_bd r2 r6 (j := (d.take i).length) (by simp; omega)
  by_cases hlt : i < d.length
  · obtain ⟨x, hx⟩ : ∃ x, d[i]! = x := ⟨_, rfl⟩
    have hxk := hok x (bang_mem hx hlt)
    have hpk : pack k (d.take (i + 1)) = pack k (d.take i) * k + x := by rw [take_next hx hlt, pack_snoc]
    have hm1 : 0 ≤ pack k (d.take i) * k := Int.mul_nonneg hb.1 (by omega)
    have hm2 : pack k (d.take i) * k ≤ 7776 * 6 := Int.mul_le_mul (by omega) r6 (by omega) (by omega)
    repeat' (first | (with_reducible first | apply w1 | apply w2 | apply w3 | apply w4 | apply w5 | apply w6 | apply w7 | apply w8 | apply w9 | apply wa | apply wb | apply wc) | ((with_reducible apply wd); focus decide) | ((with_reducible apply we); focus exact rfl) | ((with_reducible apply wf); focus exact rfl) | ((first | (with_reducible apply SW_run tt_ok hG htb) | ((with_reducible apply SW_draw rfl tt_ok hG htb); (focus kernel_rfl); focus simp only [List.range, List.range.loop, List.size_toArray, List.length_cons, List.length_nil, Nat.reduceAdd])); focus ((repeat' (first | (with_reducible first | exact wg | exact wh) | ((with_reducible first | apply wi | apply wj); focus (simp (discharger := omega) only [go_sem, hx, simprocAttr]; with_reducible rfl)))); done)))
    exact ⟨d.length - (i + 1), _, by omega, Norm.headS (own := []) (keep := [0, 1, 5, 6]) (by refine ⟨?_, ?_⟩; (simp (discharger := omega) only [go_sem, simprocAttr]; with_reducible rfl); refine ⟨?_, ?_, ?_, ?_⟩ <;> (simp only [go_sem, simprocAttr]; with_reducible rfl)), i + 1, rfl, by rw [hpk]; rfl, by omega⟩
  · obtain rfl : i = d.length := by omega
    rw [List.take_length] at hb ⊢
    repeat' (first | (with_reducible first | apply w1 | apply w2 | apply w3 | apply w4 | apply w5 | apply w6 | apply w7 | apply w8 | apply w9 | apply wa | apply wb | apply wc) | ((with_reducible apply wd); focus decide) | ((with_reducible apply we); focus exact rfl) | ((with_reducible apply wf); focus exact rfl) | ((first | (with_reducible apply SW_run tt_ok hG htb) | ((with_reducible apply SW_draw rfl tt_ok hG htb); (focus kernel_rfl); focus simp only [List.range, List.range.loop, List.size_toArray, List.length_cons, List.length_nil, Nat.reduceAdd])); focus ((repeat' (first | (with_reducible first | exact wg | exact wh) | ((with_reducible first | apply wi | apply wj); focus (simp (discharger := omega) only [go_sem, simprocAttr]; with_reducible rfl)))); done)))
    exact (by simp (discharger := omega) only [go_sem, simprocAttr])
end
end Go.Proofs.YthcclcbliedodaaDoor
namespace Go.Proofs.YthcclcbliedodaaDoor

section
variable {n n' m : Nat} {next : List (List Int)} {to : List Int}
end
def fixD (base : Int) (t k : Nat) (x : Int) (l : Nat) : List Int := (unpack (radix base) t (l : Int)).take k ++ [x] ++ (unpack (radix base) t (l : Int)).drop k
def fixL (base : Int) (t k : Nat) (x : Int) (l : Nat) : Int := pack (radix base) (fixD base t k x l)
theorem fixD_len {base : Int} {t k : Nat} (x : Int) (l : Nat) (hk : k ≤ t) : (fixD base t k x l).length = t + 1 := by
  have := unpack_length (radix base) t (l : Int)
  simp [fixD]; omega
theorem fixD_ok {base : Int} (hr : radix base ≠ 0) {t k : Nat} {x : Int} (hx : 0 ≤ x ∧ x < radix base) (l : Nat) : ∀ y ∈ fixD base t k x l, 0 ≤ y ∧ y < radix base := fun y hy => by
  have h := unpack_ok (radix_two hr).1 t (l : Int)
  simp only [fixD, List.mem_append, List.mem_singleton] at hy
  rcases hy with (hy | rfl) | hy
  · exact h y (List.mem_of_mem_take hy)
  · exact hx
  · exact h y (List.mem_of_mem_drop hy)
theorem fixL_bd {base : Int} (hr : radix base ≠ 0) {t k : Nat} {x : Int} (hx : 0 ≤ x ∧ x < radix base) (hk : k ≤ t) (l : Nat) : 0 ≤ fixL base t k x l ∧ fixL base t k x l < powW (radix base) (t + 1) := by
  have h := pack_bd (radix_two hr).1 _ (fixD_ok hr (t := t) (k := k) hx l)
  rwa [fixD_len x l hk] at h
theorem manyErr_less {base : Int} {t : Nat} (h : manyErr base ((t + 1 : Nat) : Int) = 0) : manyErr base (t : Nat) = 0 := by
  obtain ⟨r0, t0, t5, p36, _⟩ := many_ok h
  have h2 := (radix_two r0).1
  have hp := powW_pos h2 t
  have e : powW (radix base) (t + 1) = powW (radix base) t * radix base := rfl
  rw [Int.toNat_natCast, e] at p36
  have h3 : powW (radix base) t * 1 ≤ powW (radix base) t * radix base := Int.mul_le_mul_of_nonneg_left (by omega) (by omega)
  unfold manyErr
  rw [if_neg (by omega), Int.toNat_natCast, if_neg (by omega)]
end Go.Proofs.YthcclcbliedodaaDoor
namespace Go.Proofs.YthcclcbliedodaaDoor
open Go.RowKit

section
variable {G : World → Prop} (hG : Lasting G)
include hG
set_option maxHeartbeats 4000000 in
theorem Without_snd (base : Int) (t k : Nat) (l : Nat) (hr : radix base ≠ 0) (ht : t ≤ 4) (hk : k ≤ t) (hl : l ≤ 7776) :
    Snd Tryd.prog G 28 [tInt base, tInt ((t + 1 : Nat) : Int), tInt k, tInt l] (tInts ((List.range (radix base).toNat).map fun x : Nat => fixL base t k x l)) := by
  obtain ⟨r2, r6⟩ := radix_two hr
  have cR := RRadix_snd hG base
  have htb : Tab.ok Tryd.prog G [] := Tab.nil
  refine snd_of_body (n := 56) (tm := [(0, .t (tInt base)), (1, .t (tInt ((t + 1 : Nat) : Int))), (2, .t (tInt k)), (3, .t (tInt l))]) (rs := [.tmp 8]) tt_ok Tryd.func28 rfl rfl rfl rfl rfl ?_
  have et : ((t + 1 : Nat) : Int) - 1 = (t : Nat) := by omega
  repeat' (first | (with_reducible first | apply w1 | apply w2 | apply w3 | apply w4 | apply w5 | apply w6 | apply w7 | apply w8 | apply w9 | apply wa | apply wb | apply wc) | ((with_reducible apply wd); focus decide) | ((with_reducible apply we); focus exact rfl) | ((with_reducible apply wf); focus exact rfl) | ((first | (with_reducible apply SW_run tt_ok hG htb) | ((with_reducible apply SW_draw rfl tt_ok hG htb); (focus kernel_rfl); focus simp only [List.range, List.range.loop, List.size_toArray, List.length_cons, List.length_nil, Nat.reduceAdd])); focus ((repeat' (first | (with_reducible first | exact wg | exact wh) | ((with_reducible first | apply wi | apply wj); focus (simp (discharger := omega) only [go_sem, simprocAttr]; with_reducible rfl)))); done)))
  clear htb
  refine SW_loop (fun m s => ∃ (i : Nat) (dt : List T), m = t - i ∧ s = ⟨56, [(0, .t (tInt base)), (1, .t (tInt ((t + 1 : Nat) : Int))), (2, .t (tInt k)), (3, .t (tInt l)), (9, .sref 0), (10, .t (tInt i))], [.row 3 1 false dt]⟩ ∧ i ≤ t ∧ dt = ((unpack (radix base) t (l : Int)).take i).map tInt) t
    ⟨_, Norm.headS (own := [(9, 3, 1, false)]) (keep := [0, 1, 2, 3, 9, 10]) (by refine ⟨?_, ?_⟩; (simp (discharger := omega) only [go_sem, simprocAttr]; with_reducible rfl); refine ⟨?_, ?_, ?_, ?_⟩ <;> (simp only [go_sem, simprocAttr]; with_reducible rfl)), 0, _, rfl, rfl, Nat.zero_le _, by simp⟩ ?_
  rintro m s ⟨i, dt, rfl, rfl, hi, hdt⟩
  have hul := unpack_length (radix base) t (l : Int)
  have hdl : dt.length = i := by rw [hdt]; simp; omega
  by_cases hlt : i < t
  · have c1 := RDigitOf_snd hG base t (l : Int) i hr (by omega) (by omega) (by omega) hlt
    have htk : (unpack (radix base) t (l : Int)).take (i + 1) = (unpack (radix base) t (l : Int)).take i ++ [digitAt (radix base) t (l : Int) i] := by
      rw [List.take_succ_eq_append_getElem (by omega)]
      unfold digitAt
      rw [getD_lt (by omega)]
    generalize digitAt (radix base) t (l : Int) i = y at *
    have htb := Tab.cons c1 Tab.nil
    repeat' (first | (with_reducible first | apply w1 | apply w2 | apply w3 | apply w4 | apply w5 | apply w6 | apply w7 | apply w8 | apply w9 | apply wa | apply wb | apply wc) | ((with_reducible apply wd); focus decide) | ((with_reducible apply we); focus exact rfl) | ((with_reducible apply wf); focus exact rfl) | ((first | (with_reducible apply SW_run tt_ok hG htb) | ((with_reducible apply SW_draw rfl tt_ok hG htb); (focus kernel_rfl); focus simp only [List.range, List.range.loop, List.size_toArray, List.length_cons, List.length_nil, Nat.reduceAdd])); focus ((repeat' (first | (with_reducible first | exact wg | exact wh) | ((with_reducible first | apply wi | apply wj); focus (simp (discharger := omega) only [go_sem, et, simprocAttr]; with_reducible rfl)))); done)))
    exact ⟨t - (i + 1), _, by omega, Norm.headS (own := [(9, 3, 1, false)]) (keep := [0, 1, 2, 3, 9, 10]) (by refine ⟨?_, ?_⟩; (simp (discharger := omega) only [go_sem, simprocAttr]; with_reducible rfl); refine ⟨?_, ?_, ?_, ?_⟩ <;> (simp only [go_sem, simprocAttr]; with_reducible rfl)), i + 1, _, rfl, rfl, by omega, by rw [htk, List.map_append, ← hdt]; rfl⟩
  · obtain rfl : i = t := by omega
    rw [List.take_of_length_le (by omega)] at hdt
    obtain ⟨d, hd⟩ : ∃ d, unpack (radix base) i (l : Int) = d := ⟨_, rfl⟩
    have hdok := unpack_ok r2 i (l : Int)
    rw [hd] at hul hdt hdok
    have htb := Tab.cons cR Tab.nil
    subst hdt
    refine SW_norm (Norm.frz 9 rfl rfl) ?_
    repeat' (first | (with_reducible first | apply w1 | apply w2 | apply w3 | apply w4 | apply w5 | apply w6 | apply w7 | apply w8 | apply w9 | apply wa | apply wb | apply wc) | ((with_reducible apply wd); focus decide) | ((with_reducible apply we); focus exact rfl) | ((with_reducible apply wf); focus exact rfl) | ((first | (with_reducible apply SW_run tt_ok hG htb) | ((with_reducible apply SW_draw rfl tt_ok hG htb); (focus kernel_rfl); focus simp only [List.range, List.range.loop, List.size_toArray, List.length_cons, List.length_nil, Nat.reduceAdd])); focus ((repeat' (first | (with_reducible first | exact wg | exact wh) | ((with_reducible first | apply wi | apply wj); focus (simp (discharger := omega) only [go_sem, et, simprocAttr]; with_reducible rfl)))); done)))
    refine SW_loop (fun m s => ∃ (x : Nat) (ot : List T), m = (radix base).toNat - x ∧ s = ⟨56, [(0, .t (tInt base)), (2, .t (tInt k)), (9, .sref 0), (11, .sref 1), (12, .t (tInt x))], [.froz (d.map tInt), .row 3 1 false ot]⟩ ∧ x ≤ (radix base).toNat ∧ ot = (((List.range (radix base).toNat).map fun x : Nat => fixL base i k x l).take x).map tInt) (radix base).toNat
      ⟨_, Norm.headS (own := [(11, 3, 1, false)]) (keep := [0, 2, 9, 11, 12]) (by refine ⟨?_, ?_⟩; (simp (discharger := omega) only [go_sem, simprocAttr]; with_reducible rfl); refine ⟨?_, ?_, ?_, ?_⟩ <;> (simp only [go_sem, simprocAttr]; with_reducible rfl)), 0, _, rfl, rfl, Nat.zero_le _, by simp⟩ ?_
    rintro m s ⟨x, ot, rfl, rfl, hx, hot⟩
    have hol : ot.length = x := by rw [hot]; simp; omega
    by_cases hlt2 : x < (radix base).toNat
    · have hall : ∀ l : List Int, (l.all fun _ => true) = true := fun l => by simp
      obtain ⟨d1, e1⟩ : ∃ d1, d.take k = d1 := ⟨_, rfl⟩
      obtain ⟨d2, e2⟩ : ∃ d2, d.drop k = d2 := ⟨_, rfl⟩
      have l1 : d1.length = k := by rw [← e1]; simp; omega
      have l2 : d2.length = i - k := by rw [← e2]; simp; omega
      have m1 : (d.map tInt).take k = d1.map tInt := by rw [← e1, List.map_take]
      have m2 : (d.map tInt).drop k = d2.map tInt := by rw [← e2, List.map_drop]
      have m3 : (d.map tInt).take d.length = d.map tInt := List.take_of_length_le (by simp)
      have hD : fixD base i k x l = d1 ++ [(x : Int)] ++ d2 := by unfold fixD; rw [hd, e1, e2]
      have hok := fixD_ok hr (t := i) (k := k) (x := (x : Int)) (by omega) l
      rw [hD] at hok
      have c2 := RPackOf_snd hG base (d1 ++ [(x : Int)] ++ d2) hr (by simp; omega) hok
      have htk := map_range_take (fun x : Nat => fixL base i k x l) hlt2
      have hv : fixL base i k x l = pack (radix base) (d1 ++ [(x : Int)] ++ d2) := by unfold fixL; rw [hD]
      rw [hv] at htk
      clear hv hD hok
      generalize pack (radix base) (d1 ++ [(x : Int)] ++ d2) = v at *
      generalize radix base = r at *
      clear htb
      have htb := Tab.cons cR (Tab.cons c2 Tab.nil)
      repeat' (first | (with_reducible first | apply w1 | apply w2 | apply w3 | apply w4 | apply w5 | apply w6 | apply w7 | apply w8 | apply w9 | apply wa | apply wb | apply wc) | ((with_reducible apply wd); focus decide) | ((with_reducible apply we); focus exact rfl) | ((with_reducible apply wf); focus exact rfl) | ((first | (with_reducible apply SW_run tt_ok hG htb) | ((with_reducible apply SW_draw rfl tt_ok hG htb); (focus kernel_rfl); focus simp only [List.range, List.range.loop, List.size_toArray, List.length_cons, List.length_nil, Nat.reduceAdd])); focus ((repeat' (first | (with_reducible first | exact wg | exact wh) | ((with_reducible first | apply wi | apply wj); focus (simp (discharger := omega) only [go_sem, Function.comp_def, hall, m1, m2, m3, List.length_append, List.map_append, simprocAttr]; with_reducible rfl)))); done)))
      exact ⟨r.toNat - (x + 1), _, by omega, Norm.headS (own := [(11, 3, 1, false)]) (keep := [0, 2, 9, 11, 12]) (by refine ⟨?_, ?_⟩; (simp (discharger := omega) only [go_sem, simprocAttr]; with_reducible rfl); refine ⟨?_, ?_, ?_, ?_⟩ <;> (simp only [go_sem, simprocAttr]; with_reducible rfl)), x + 1, _, rfl, rfl, by omega, by rw [htk, List.map_append, ← hot]; rfl⟩
    · obtain rfl : x = (radix base).toNat := by omega
      rw [List.take_of_length_le (by simp)] at hot
      subst hot
      generalize radix base = r at *
      repeat' (first | (with_reducible first | apply w1 | apply w2 | apply w3 | apply w4 | apply w5 | apply w6 | apply w7 | apply w8 | apply w9 | apply wa | apply wb | apply wc) | ((with_reducible apply wd); focus decide) | ((with_reducible apply we); focus exact rfl) | ((with_reducible apply wf); focus exact rfl) | ((first | (with_reducible apply SW_run tt_ok hG htb) | ((with_reducible apply SW_draw rfl tt_ok hG htb); (focus kernel_rfl); focus simp only [List.range, List.range.loop, List.size_toArray, List.length_cons, List.length_nil, Nat.reduceAdd])); focus ((repeat' (first | (with_reducible first | exact wg | exact wh) | ((with_reducible first | apply wi | apply wj); focus (simp (discharger := omega) only [go_sem, simprocAttr]; with_reducible rfl)))); done)))
      exact (by simp (discharger := omega) only [go_sem, simprocAttr])
end
end Go.Proofs.YthcclcbliedodaaDoor
namespace Go.Proofs
open Go.Shelf
end Go.Proofs
namespace Go.Proofs.YthcclcbliedodaaDoor
open Go.RowKit Go.Sort Go.Lib

def iL (l : List Int) : List T := l.map (T.int .i64)
theorem iL_length (l : List Int) : (iL l).length = l.length := List.length_map _
section
variable {P : Program} {C : Ctx} {hd : List Hd} {w w' : World} {e : Nat} {l ys : List Int}
end
section
variable {G : World → Prop}
end
end Go.Proofs.YthcclcbliedodaaDoor
namespace Go.Proofs.YthcclcbliedodaaDoor
open Go.RowKit

section
variable {G : World → Prop} (hG : Lasting G)
include hG
end
end Go.Proofs.YthcclcbliedodaaDoor
namespace Go.Proofs.YthcclcbliedodaaDoor
open Go.RowKit

/-- What comes up of a step. -/
def nextD (stp : List Int → Nat → List Int) (s : List Int) (l : Nat) : List Int := canonL (stp s l)
def growOk (stp : List Int → Nat → List Int) (n : Nat) (first : List Int) : Bool := setsOk (nextD stp) n (canonL first)
def growSets (stp : List Int → Nat → List Int) (n : Nat) (first : List Int) : List (List Int) := if growOk stp n first = true then setsOf (nextD stp) n (canonL first) else []
def growRows (stp : List Int → Nat → List Int) (n : Nat) (first : List Int) : List (List Int) := if growOk stp n first = true then rowsOf (nextD stp) n (canonL first) else []
section
variable {G : World → Prop} (hG : Lasting G)
include hG
end
end Go.Proofs.YthcclcbliedodaaDoor
namespace Go.Proofs.YthcclcbliedodaaDoor
open Go.RowKit

section
variable {G : World → Prop} (hG : Lasting G)
include hG
end
end Go.Proofs.YthcclcbliedodaaDoor
namespace Go.Proofs.YthcclcbliedodaaDoor
open Go.RowKit

section
variable {G : World → Prop} (hG : Lasting G)
include hG
end
/-- The states to which words of some letters lead, in the order in which they are found. -/
def closeD (a : GAuto) (letters : List Int) (s : Int) (j : Nat) : Int := nx a.next s (letters[j]!).toNat
def closeL (a : GAuto) (letters : List Int) : List Int := growS (closeD a letters) letters.length 0 a.next.length
section
variable {G : World → Prop} (hG : Lasting G)
include hG
end
end Go.Proofs.YthcclcbliedodaaDoor
namespace Go.Proofs.YthcclcbliedodaaDoor
open Go.RowKit

section
variable {G : World → Prop} (hG : Lasting G)
include hG
end
end Go.Proofs.YthcclcbliedodaaDoor
namespace Go.Proofs.YthcclcbliedodaaDoor
open Go.RowKit

def autoP (a : GAuto) : T := .ptr [.int .i64 a.base, .int .i64 a.tracks, tIntss a.next, tBools a.ends]
section
variable {G : World → Prop} (hG : Lasting G)
include hG
end
end Go.Proofs.YthcclcbliedodaaDoor
namespace Go.Proofs.YthcclcbliedodaaDoor
open Go.RowKit

def stepW (next : List (List Int)) (W : List (List Int)) (s : List Int) (l : Nat) : List Int := s.flatMap fun x => (W[l]!).map fun k => nx next x k.toNat
section
variable {G : World → Prop} (hG : Lasting G)
include hG
end
end Go.Proofs.YthcclcbliedodaaDoor
namespace Go.Proofs.YthcclcbliedodaaDoor
open Go.RowKit

section
variable {P : Program} {G : World → Prop} {κ : Type} {tt : Nat → Option TI} {tb : Tab} {K : St → (κ → Option HR) → Prop} {Q : Exit → St → (κ → Option HR) → Prop} {st : St} {g : κ → Option HR} {i id : Nat}
theorem HThen_n (h : K st g) : HThen K Q .normal st g := h
theorem HThen_r (h : Q .ret st g) : HThen K Q .ret st g := h
theorem HThen_e (h : Q (.exit i) st g) : HThen K Q (.exit i) st g := h
theorem HIn_n (h : Q .normal st g) : HIn id Q .normal st g := h
theorem HIn_r (h : Q .ret st g) : HIn id Q .ret st g := h
theorem HIn_eq (h : Q .normal st g) : HIn id Q (.exit id) st g := by simp [HIn, h]
theorem HIn_ne (hne : i ≠ id) (h : Q (.exit i) st g) : HIn id Q (.exit i) st g := by simp [HIn, hne, h]
theorem HW_run (hT : TTok P tt) (hGl : Lasting G) (htb : Tab.ok P G tb) {id : Nat} {l : List Oper} {st st' : St} {g : κ → Option HR} (h : runX tt tb l.toArray l st = some st') (hq : Q .normal st' g) : HW P G (.region id l.toArray false) Q st g :=
  HW_sw (SW_run hT hGl htb h hq)
theorem HW_draw (hm : P.follows .mixedOrders = true) (hT : TTok P tt) (hGl : Lasting G) (htb : Tab.ok P G tb) {id : Nat} {ops : Array Oper} (htopo : topoB ops = true) {s t : St} {g : κ → Option HR} (h : runI tt tb ops (List.range ops.size) s = some t) (hq : Q .normal t g) : HW P G (.region id ops true) Q s g :=
  HW_sw (SW_draw hm hT hGl htb htopo h hq)
end
theorem v1 : type_of% @HW_seq := @HW_seq
theorem v2 : type_of% @HW_block := @HW_block
theorem v3 : type_of% @HThen_n := @HThen_n
theorem v4 : type_of% @HThen_r := @HThen_r
theorem v5 : type_of% @HThen_e := @HThen_e
theorem v6 : type_of% @HIn_n := @HIn_n
theorem v7 : type_of% @HIn_r := @HIn_r
theorem v8 : type_of% @HIn_eq := @HIn_eq
theorem v9 : type_of% @HW_skip := @HW_skip
theorem va : type_of% @HW_exit := @HW_exit
theorem vb : type_of% @HW_ret := @HW_ret
theorem vc : type_of% @SPost_r := @SPost_r
theorem vd : type_of% @HIn_ne := @HIn_ne
theorem ve : type_of% @HW_true := @HW_true
theorem vf : type_of% @HW_false := @HW_false
/-- The types, a nil []int being told as its header. -/
def ttR (t : Nat) : Option TI := if t = 35 then some ⟨.slice 3, 1, 24, [.t (.raw none 0 0)], false⟩ else tt t
attribute [go_sem] ttR
theorem ttR_ok : TTok Tryd.prog ttR := fun t i h => by
  unfold ttR at h
  split at h
  · rename_i e
    subst e
    cases h
    have k := tt_ok 35 ⟨.slice 3, 1, 24, [.nil], false⟩ rfl
    obtain ⟨inf, i1, i2, i3, z, i4, i5, i6, i7, i8⟩ := k.info
    refine ⟨⟨inf, i1, i2, i3, z, i4, i5, rfl, fun q x v h1 h2 => ?_, i8⟩, k.pos, k.says, fun h => by cases h⟩
    match q, h1 with
    | 0, h1 =>
      cases h1
      have := i7 0 .nil v rfl h2
      unfold zm at this
      split at this <;> first | rfl | (cases this; done) | (simp_all; done) | skip
  · exact tt_ok t i h
end Go.Proofs.YthcclcbliedodaaDoor
namespace Go.Proofs.YthcclcbliedodaaDoor
open Go.RowKit

section
variable {G : World → Prop} (hG : Lasting G)
include hG
end
end Go.Proofs.YthcclcbliedodaaDoor
namespace Go.Proofs.YthcclcbliedodaaDoor
open Go.RowKit

section
variable {G : World → Prop} (hG : Lasting G)
include hG
end
end Go.Proofs.YthcclcbliedodaaDoor
namespace Go.Proofs.YthcclcbliedodaaDoor

end Go.Proofs.YthcclcbliedodaaDoor
namespace Go.Proofs.YthcclcbliedodaaDoor

end Go.Proofs.YthcclcbliedodaaDoor
namespace Go.Proofs.YthcclcbliedodaaDoor
open Go.RowKit

/-- At each letter of what is left the letters with a digit more. -/
def withR (base : Int) (t k l : Nat) : List Int := (List.range (radix base).toNat).map fun x : Nat => fixL base t k x l
def withW (base : Int) (t k : Nat) : List (List Int) := (List.range (manyOf base (t : Int)).toNat).map (withR base t k)
def leftW (a : GAuto) (track : Int) : List (List Int) := withW a.base (a.tracks - 1).toNat track.toNat
def leftN (a : GAuto) : Nat := (manyOf a.base (((a.tracks - 1).toNat : Nat) : Int)).toNat
noncomputable def leftF (a : GAuto) (track : Int) : List Int := closeL (leastA a) ((leftW a track)[0]!)
def leftBad (a : GAuto) (track : Int) : Prop := autoFault a ≠ 0 ∨ track < 0 ∨ a.tracks ≤ track
open Classical in
noncomputable def leftS (a : GAuto) (track : Int) : List (List Int) := if leftBad a track then [] else growSets (stepW (leastA a).next (leftW a track)) (leftN a) (leftF a track)
open Classical in
noncomputable def leftR (a : GAuto) (track : Int) : List (List Int) := if leftBad a track then [] else growRows (stepW (leastA a).next (leftW a track)) (leftN a) (leftF a track)
/-- What is known where nothing is wrong. -/
structure LeftOk (a : GAuto) (k t N nW r : Nat) : Prop where
  good : Good a N a.next.length
  tr : a.tracks = ((t + 1 : Nat) : Int)
  kt : k ≤ t
  t4 : t ≤ 4
  rad : radix a.base = (r : Int)
  r2 : 2 ≤ r
  r6 : r ≤ 6
  many : manyErr a.base (t : Int) = 0
  nWe : manyOf a.base (t : Int) = (nW : Int)
  nW0 : 0 < nW
  nW36 : nW ≤ 36
  N_eq : (N : Int) = powW (radix a.base) (t + 1)
theorem left_ok {a : GAuto} {k : Nat} (hf : autoFault a = 0) (hk : (k : Int) < a.tracks) : ∃ t nW r, LeftOk a k t (manyOf a.base a.tracks).toNat nW r := by
  have g := good_of hf
  obtain ⟨r0, t0, t5, p36, hm⟩ := many_ok g.many
  obtain ⟨h2, h6⟩ := radix_two r0
  obtain ⟨r, hr⟩ := Int.eq_ofNat_of_zero_le (show 0 ≤ radix a.base by omega)
  obtain ⟨t, ht⟩ : ∃ t : Nat, a.tracks = ((t + 1 : Nat) : Int) := ⟨(a.tracks - 1).toNat, by omega⟩
  have h1 := manyErr_less (base := a.base) (t := t) (by rw [← ht]; exact g.many)
  obtain ⟨_, _, _, q36, qm⟩ := many_ok h1
  have hp := powW_pos h2 (t : Int).toNat
  obtain ⟨nW, hn⟩ := Int.eq_ofNat_of_zero_le (show 0 ≤ manyOf a.base (t : Int) by omega)
  have hne := g.n_eq
  have e0 : a.tracks.toNat = t + 1 := by omega
  refine ⟨t, nW, r, g, ht, by omega, by omega, hr, by omega, by omega, h1, hn, by omega, by omega, ?_⟩
  rw [← hne, hm, e0]
theorem withR_len {base : Int} {t k l r : Nat} (hr : radix base = (r : Int)) : (withR base t k l).length = r := by
  unfold withR; rw [List.length_map, List.length_range, hr]; rfl
theorem withR_bd {a : GAuto} {k t N nW r : Nat} (h : LeftOk a k t N nW r) (l : Nat) : ∀ x ∈ withR a.base t k l, 0 ≤ x ∧ x < (N : Int) := fun x hx => by
  unfold withR at hx
  obtain ⟨y, hy, rfl⟩ := List.mem_map.1 hx
  have hyr : y < (radix a.base).toNat := List.mem_range.1 hy
  have hr := h.rad
  have hr2 := h.r2
  have := fixL_bd (base := a.base) (by omega) (t := t) (k := k) (x := (y : Int)) (by omega) h.kt l
  have := h.N_eq
  omega
theorem withW_len {a : GAuto} {k t N nW r : Nat} (h : LeftOk a k t N nW r) : (withW a.base t k).length = nW := by
  unfold withW; rw [List.length_map, List.length_range, h.nWe]; rfl
theorem withW_get {a : GAuto} {k t N nW r : Nat} (h : LeftOk a k t N nW r) {l : Nat} (hl : l < nW) : (withW a.base t k)[l]? = some (withR a.base t k l) := by
  unfold withW
  rw [List.getElem?_map, List.getElem?_range (by rw [h.nWe]; exact hl)]; rfl
/-- Rows of hidden rows, and what they hold. -/
def HdrInv (g : Nat → Option HR) (ws : List T) (n : Nat) (cont : Nat → List Int) : Prop := ws.length = n ∧ ∀ j, j < n → HdrOk g j 3 1 (iL (cont j)) (ws[j]!)
theorem HdrInv.congr {g : Nat → Option HR} {ws : List T} {n : Nat} {cont cont' : Nat → List Int} (h : HdrInv g ws n cont) (he : ∀ j, j < n → cont' j = cont j) : HdrInv g ws n cont' :=
  ⟨h.1, fun j hj => by rw [he j hj]; exact h.2 j hj⟩
theorem HdrInv.step {g : Nat → Option HR} {ws : List T} {n : Nat} {cont cont' : Nat → List Int} (h : HdrInv g ws n cont) {l : Nat} (hl : l < n) (v : Int) (c : Option Addr × Nat × Nat) (h1 : cont' l = cont l ++ [v]) (h2 : ∀ j, j ≠ l → j < n → cont' j = cont j) :
    HdrInv (upd g l (some ⟨c.1, c.2.1, c.2.2, 3, 1, iL (cont l) ++ [.int .i64 v]⟩)) (ws.set l (.raw c.1 c.2.1 c.2.2)) n cont' := by
  refine ⟨by rw [List.length_set]; exact h.1, fun j hj => ?_⟩
  have hlen := h.1
  have hg : (ws.set l (T.raw c.1 c.2.1 c.2.2))[j]! = if l = j then T.raw c.1 c.2.1 c.2.2 else ws[j]! := by
    rw [getElem!_pos _ _ (by rw [List.length_set]; omega), List.getElem_set]
    split
    · rfl
    · rw [getElem!_pos _ _ (by omega)]
  rw [hg]
  by_cases e : l = j
  · subst e
    rw [if_pos rfl, h1]
    refine .inr ⟨⟨c.1, c.2.1, c.2.2, 3, 1, iL (cont l) ++ [.int .i64 v]⟩, by simp [upd], rfl, rfl, by simp [iL], rfl⟩
  · rw [if_neg e, h2 j (fun q => e q.symm) hj]
    have e2 : upd g l (some ⟨c.1, c.2.1, c.2.2, 3, 1, iL (cont l) ++ [.int .i64 v]⟩) j = g j := by
      show (if j = l then _ else g j) = g j
      rw [if_neg fun q => e q.symm]
    rcases h.2 j hj with ⟨q1, q2, q3⟩ | ⟨r, q1, q2, q3, q4, q5⟩
    · exact .inl ⟨by rw [e2]; exact q1, q2, q3⟩
    · exact .inr ⟨r, by rw [e2]; exact q1, q2, q3, q4, q5⟩
theorem HdrInv.opens {g : Nat → Option HR} {ws : List T} {n : Nat} {W : List (List Int)} (h : HdrInv g ws n (fun j => W[j]!)) (hW : W.length = n) (hne : ∀ r ∈ W, r ≠ []) : (W.map tInts).length = ws.length ∧ ∀ (i : Nat) (y y' : T), ws[i]? = some y → (W.map tInts)[i]? = some y' → OpenH g y y' := by
  refine ⟨by rw [List.length_map, h.1, hW], fun i y y' h1 h2 => ?_⟩
  obtain ⟨hi, e1⟩ := List.getElem?_eq_some_iff.1 h1
  have hin : i < n := by rw [← h.1]; exact hi
  have ey : ws[i]! = y := by rw [getElem!_pos ws i hi, e1]
  rw [List.getElem?_map, Option.map_eq_some_iff] at h2
  obtain ⟨r, hr, rfl⟩ := h2
  have er : W[i]! = r := by
    obtain ⟨q1, q2⟩ := List.getElem?_eq_some_iff.1 hr
    rw [getElem!_pos W i q1, q2]
  have hk := h.2 i hin
  simp only [er, ey] at hk
  rcases hk with ⟨_, q2, _⟩ | ⟨q, q1, _, _, q4, rfl⟩
  · exfalso
    exact hne r (List.mem_of_getElem? hr) (List.eq_nil_of_length_eq_zero (by have := congrArg List.length q2; rw [iL_length] at this; exact this))
  · exact .raw i q (iL r) q1 (by rw [q4]) fun k y z e1 e2 => by
      rw [q4, e2] at e1
      cases e1
      exact .refl _
end Go.Proofs.YthcclcbliedodaaDoor
namespace Go.Proofs.YthcclcbliedodaaDoor
open Go.RowKit

theorem list_same {α : Type} [Inhabited α] {l l' : List α} (hl : l.length = l'.length) (h : ∀ j, j < l.length → l[j]! = l'[j]!) : l = l' := by
  refine List.ext_getElem hl fun i h1 h2 => ?_
  have := h i h1
  rwa [getElem!_pos l i h1, getElem!_pos l' i h2] at this
section
variable {G : World → Prop} (hG : Lasting G)
include hG
set_option maxHeartbeats 4000000 in
theorem SInts_snd (d d' : List Int) : Snd Tryd.prog G 32 [tInts d, tInts d'] (.bool (decide (d = d'))) := by
  have htb : Tab.ok Tryd.prog G [] := Tab.nil
  refine snd_of_body (n := 26) (tm := [(0, .t (tInts d)), (1, .t (tInts d'))]) (rs := [.tmp 4]) tt_ok Tryd.func32 rfl rfl rfl rfl rfl ?_
  refine SW_len (t := 0) (l := _) rfl fun hlen => ?_
  simp only [List.length_map] at hlen
  by_cases hl : d.length = d'.length
  · repeat' (first | (with_reducible first | apply w1 | apply w2 | apply w3 | apply w4 | apply w5 | apply w6 | apply w7 | apply w8 | apply w9 | apply wa | apply wb | apply wc) | ((with_reducible apply wd); focus decide) | ((with_reducible apply we); focus exact rfl) | ((with_reducible apply wf); focus exact rfl) | ((first | (with_reducible apply SW_run tt_ok hG htb) | ((with_reducible apply SW_draw rfl tt_ok hG htb); (focus kernel_rfl); focus simp only [List.range, List.range.loop, List.size_toArray, List.length_cons, List.length_nil, Nat.reduceAdd])); focus ((repeat' (first | (with_reducible first | exact wg | exact wh) | ((with_reducible first | apply wi | apply wj); focus (simp (discharger := omega) only [go_sem, hl, simprocAttr]; with_reducible rfl)))); done)))
    refine SW_loop (fun n s => ∃ k : Nat, n = d.length - k ∧ s = ⟨26, [(0, .t (tInts d)), (1, .t (tInts d')), (5, .t (tInt k))], []⟩ ∧ k ≤ d.length ∧ ∀ j, j < k → d[j]! = d'[j]!) d.length ⟨_, Norm.headS (own := []) (keep := [0, 1, 5]) (by refine ⟨?_, ?_⟩; (simp (discharger := omega) only [go_sem, simprocAttr]; with_reducible rfl); refine ⟨?_, ?_, ?_, ?_⟩ <;> (simp only [go_sem, simprocAttr]; with_reducible rfl)), 0, rfl, rfl, Nat.zero_le _, fun j hj => by omega⟩ ?_
    rintro n s ⟨k, rfl, rfl, hk, hA⟩
    by_cases hlt : k < d.length
    · by_cases h : d[k]! = d'[k]!
      · repeat' (first | (with_reducible first | apply w1 | apply w2 | apply w3 | apply w4 | apply w5 | apply w6 | apply w7 | apply w8 | apply w9 | apply wa | apply wb | apply wc) | ((with_reducible apply wd); focus decide) | ((with_reducible apply we); focus exact rfl) | ((with_reducible apply wf); focus exact rfl) | ((first | (with_reducible apply SW_run tt_ok hG htb) | ((with_reducible apply SW_draw rfl tt_ok hG htb); (focus kernel_rfl); focus simp only [List.range, List.range.loop, List.size_toArray, List.length_cons, List.length_nil, Nat.reduceAdd])); focus ((repeat' (first | (with_reducible first | exact wg | exact wh) | ((with_reducible first | apply wi | apply wj); focus (simp (discharger := omega) only [go_sem, h, simprocAttr]; with_reducible rfl)))); done)))
        exact ⟨d.length - (k + 1), _, by omega, Norm.headS (own := []) (keep := [0, 1, 5]) (by refine ⟨?_, ?_⟩; (simp (discharger := omega) only [go_sem, simprocAttr]; with_reducible rfl); refine ⟨?_, ?_, ?_, ?_⟩ <;> (simp only [go_sem, simprocAttr]; with_reducible rfl)), k + 1, rfl, rfl, by omega, fun j hj => by
          by_cases e : j = k
          · subst e; exact h
          · exact hA j (by omega)⟩
      · rw [decide_eq_false (fun e => h (by rw [e]))]
        repeat' (first | (with_reducible first | apply w1 | apply w2 | apply w3 | apply w4 | apply w5 | apply w6 | apply w7 | apply w8 | apply w9 | apply wa | apply wb | apply wc) | ((with_reducible apply wd); focus decide) | ((with_reducible apply we); focus exact rfl) | ((with_reducible apply wf); focus exact rfl) | ((first | (with_reducible apply SW_run tt_ok hG htb) | ((with_reducible apply SW_draw rfl tt_ok hG htb); (focus kernel_rfl); focus simp only [List.range, List.range.loop, List.size_toArray, List.length_cons, List.length_nil, Nat.reduceAdd])); focus ((repeat' (first | (with_reducible first | exact wg | exact wh) | ((with_reducible first | apply wi | apply wj); focus (simp (discharger := omega) only [go_sem, h, simprocAttr]; with_reducible rfl)))); done)))
        exact (by simp (discharger := omega) only [go_sem, simprocAttr])
    · rw [decide_eq_true (list_same hl fun j hj => hA j (by omega))]
      repeat' (first | (with_reducible first | apply w1 | apply w2 | apply w3 | apply w4 | apply w5 | apply w6 | apply w7 | apply w8 | apply w9 | apply wa | apply wb | apply wc) | ((with_reducible apply wd); focus decide) | ((with_reducible apply we); focus exact rfl) | ((with_reducible apply wf); focus exact rfl) | ((first | (with_reducible apply SW_run tt_ok hG htb) | ((with_reducible apply SW_draw rfl tt_ok hG htb); (focus kernel_rfl); focus simp only [List.range, List.range.loop, List.size_toArray, List.length_cons, List.length_nil, Nat.reduceAdd])); focus ((repeat' (first | (with_reducible first | exact wg | exact wh) | ((with_reducible first | apply wi | apply wj); focus (simp (discharger := omega) only [go_sem, simprocAttr]; with_reducible rfl)))); done)))
      exact (by simp (discharger := omega) only [go_sem, simprocAttr])
  · rw [decide_eq_false (fun e => hl (by rw [e]))]
    repeat' (first | (with_reducible first | apply w1 | apply w2 | apply w3 | apply w4 | apply w5 | apply w6 | apply w7 | apply w8 | apply w9 | apply wa | apply wb | apply wc) | ((with_reducible apply wd); focus decide) | ((with_reducible apply we); focus exact rfl) | ((with_reducible apply wf); focus exact rfl) | ((first | (with_reducible apply SW_run tt_ok hG htb) | ((with_reducible apply SW_draw rfl tt_ok hG htb); (focus kernel_rfl); focus simp only [List.range, List.range.loop, List.size_toArray, List.length_cons, List.length_nil, Nat.reduceAdd])); focus ((repeat' (first | (with_reducible first | exact wg | exact wh) | ((with_reducible first | apply wi | apply wj); focus (simp (discharger := omega) only [go_sem, hl, simprocAttr]; with_reducible rfl)))); done)))
    exact (by simp (discharger := omega) only [go_sem, simprocAttr])
set_option maxHeartbeats 4000000 in
theorem Lists_snd (d d' : List (List Int)) : Snd Tryd.prog G 33 [tIntss d, tIntss d'] (.bool (decide (d = d'))) := by
  have htb : Tab.ok Tryd.prog G [] := Tab.nil
  refine snd_of_body (n := 29) (tm := [(0, .t (tIntss d)), (1, .t (tIntss d'))]) (rs := [.tmp 4]) tt_ok Tryd.func33 rfl rfl rfl rfl rfl ?_
  refine SW_len (t := 0) (l := _) rfl fun hlen => ?_
  simp only [List.length_map] at hlen
  by_cases hl : d.length = d'.length
  · repeat' (first | (with_reducible first | apply w1 | apply w2 | apply w3 | apply w4 | apply w5 | apply w6 | apply w7 | apply w8 | apply w9 | apply wa | apply wb | apply wc) | ((with_reducible apply wd); focus decide) | ((with_reducible apply we); focus exact rfl) | ((with_reducible apply wf); focus exact rfl) | ((first | (with_reducible apply SW_run tt_ok hG htb) | ((with_reducible apply SW_draw rfl tt_ok hG htb); (focus kernel_rfl); focus simp only [List.range, List.range.loop, List.size_toArray, List.length_cons, List.length_nil, Nat.reduceAdd])); focus ((repeat' (first | (with_reducible first | exact wg | exact wh) | ((with_reducible first | apply wi | apply wj); focus (simp (discharger := omega) only [go_sem, hl, simprocAttr]; with_reducible rfl)))); done)))
    refine SW_loop (fun n s => ∃ k : Nat, n = d.length - k ∧ s = ⟨29, [(0, .t (tIntss d)), (1, .t (tIntss d')), (5, .t (tInt k))], []⟩ ∧ k ≤ d.length ∧ ∀ j, j < k → d[j]! = d'[j]!) d.length ⟨_, Norm.headS (own := []) (keep := [0, 1, 5]) (by refine ⟨?_, ?_⟩; (simp (discharger := omega) only [go_sem, simprocAttr]; with_reducible rfl); refine ⟨?_, ?_, ?_, ?_⟩ <;> (simp only [go_sem, simprocAttr]; with_reducible rfl)), 0, rfl, rfl, Nat.zero_le _, fun j hj => by omega⟩ ?_
    rintro n s ⟨k, rfl, rfl, hk, hA⟩
    by_cases hlt : k < d.length
    · have htb := Tab.cons (SInts_snd hG d[k]! d'[k]!) Tab.nil
      by_cases h : d[k]! = d'[k]!
      · rw [decide_eq_true h] at htb
        repeat' (first | (with_reducible first | apply w1 | apply w2 | apply w3 | apply w4 | apply w5 | apply w6 | apply w7 | apply w8 | apply w9 | apply wa | apply wb | apply wc) | ((with_reducible apply wd); focus decide) | ((with_reducible apply we); focus exact rfl) | ((with_reducible apply wf); focus exact rfl) | ((first | (with_reducible apply SW_run tt_ok hG htb) | ((with_reducible apply SW_draw rfl tt_ok hG htb); (focus kernel_rfl); focus simp only [List.range, List.range.loop, List.size_toArray, List.length_cons, List.length_nil, Nat.reduceAdd])); focus ((repeat' (first | (with_reducible first | exact wg | exact wh) | ((with_reducible first | apply wi | apply wj); focus (simp (discharger := omega) only [go_sem, simprocAttr]; with_reducible rfl)))); done)))
        exact ⟨d.length - (k + 1), _, by omega, Norm.headS (own := []) (keep := [0, 1, 5]) (by refine ⟨?_, ?_⟩; (simp (discharger := omega) only [go_sem, simprocAttr]; with_reducible rfl); refine ⟨?_, ?_, ?_, ?_⟩ <;> (simp only [go_sem, simprocAttr]; with_reducible rfl)), k + 1, rfl, rfl, by omega, fun j hj => by
          by_cases e : j = k
          · subst e; exact h
          · exact hA j (by omega)⟩
      · rw [decide_eq_false (fun e => h (by rw [e]))]
        rw [decide_eq_false h] at htb
        repeat' (first | (with_reducible first | apply w1 | apply w2 | apply w3 | apply w4 | apply w5 | apply w6 | apply w7 | apply w8 | apply w9 | apply wa | apply wb | apply wc) | ((with_reducible apply wd); focus decide) | ((with_reducible apply we); focus exact rfl) | ((with_reducible apply wf); focus exact rfl) | ((first | (with_reducible apply SW_run tt_ok hG htb) | ((with_reducible apply SW_draw rfl tt_ok hG htb); (focus kernel_rfl); focus simp only [List.range, List.range.loop, List.size_toArray, List.length_cons, List.length_nil, Nat.reduceAdd])); focus ((repeat' (first | (with_reducible first | exact wg | exact wh) | ((with_reducible first | apply wi | apply wj); focus (simp (discharger := omega) only [go_sem, simprocAttr]; with_reducible rfl)))); done)))
        exact (by simp (discharger := omega) only [go_sem, simprocAttr])
    · rw [decide_eq_true (list_same hl fun j hj => hA j (by omega))]
      repeat' (first | (with_reducible first | apply w1 | apply w2 | apply w3 | apply w4 | apply w5 | apply w6 | apply w7 | apply w8 | apply w9 | apply wa | apply wb | apply wc) | ((with_reducible apply wd); focus decide) | ((with_reducible apply we); focus exact rfl) | ((with_reducible apply wf); focus exact rfl) | ((first | (with_reducible apply SW_run tt_ok hG htb) | ((with_reducible apply SW_draw rfl tt_ok hG htb); (focus kernel_rfl); focus simp only [List.range, List.range.loop, List.size_toArray, List.length_cons, List.length_nil, Nat.reduceAdd])); focus ((repeat' (first | (with_reducible first | exact wg | exact wh) | ((with_reducible first | apply wi | apply wj); focus (simp (discharger := omega) only [go_sem, simprocAttr]; with_reducible rfl)))); done)))
      exact (by simp (discharger := omega) only [go_sem, simprocAttr])
  · rw [decide_eq_false (fun e => hl (by rw [e]))]
    repeat' (first | (with_reducible first | apply w1 | apply w2 | apply w3 | apply w4 | apply w5 | apply w6 | apply w7 | apply w8 | apply w9 | apply wa | apply wb | apply wc) | ((with_reducible apply wd); focus decide) | ((with_reducible apply we); focus exact rfl) | ((with_reducible apply wf); focus exact rfl) | ((first | (with_reducible apply SW_run tt_ok hG htb) | ((with_reducible apply SW_draw rfl tt_ok hG htb); (focus kernel_rfl); focus simp only [List.range, List.range.loop, List.size_toArray, List.length_cons, List.length_nil, Nat.reduceAdd])); focus ((repeat' (first | (with_reducible first | exact wg | exact wh) | ((with_reducible first | apply wi | apply wj); focus (simp (discharger := omega) only [go_sem, hl, simprocAttr]; with_reducible rfl)))); done)))
    exact (by simp (discharger := omega) only [go_sem, simprocAttr])
end
end Go.Proofs.YthcclcbliedodaaDoor
namespace Go.Proofs.YthcclcbliedodaaDoor
open Go.RowKit

/-- How many letters of some lead from a state to each. -/
def cntRow (next : List (List Int)) (m : Nat) (s : Nat) (v : List Int) : List Int := (List.range m).map fun t : Nat => ((v.countP fun x => decide (nx next ((s : Nat) : Int) x.toNat = ((t : Nat) : Int)) : Nat) : Int)
def matM (next : List (List Int)) (m : Nat) (v : List Int) : List (List Int) := (List.range m).map fun s => cntRow next m s v
def firstV (m : Nat) : List Int := (List.range m).map fun s => if s = 0 then 1 else 0
def lastV (ends : List Bool) : List Int := ends.map fun b => if b = true then 1 else 0
def repA (a : GAuto) (k : Nat) : GRep := ⟨a.base, a.tracks - 1, firstV a.next.length, (withW a.base (a.tracks - 1).toNat k).map (matM a.next a.next.length), lastV a.ends⟩
theorem cntRow_len {next : List (List Int)} {m s : Nat} {v : List Int} : (cntRow next m s v).length = m := by simp [cntRow]
theorem cntRow_at {next : List (List Int)} {m s t : Nat} {v : List Int} (h : t < m) : (cntRow next m s v)[t]? = some ((v.countP fun x => decide (nx next ((s : Nat) : Int) x.toNat = ((t : Nat) : Int)) : Nat) : Int) := by
  unfold cntRow
  rw [List.getElem?_map, List.getElem?_range h]; rfl
theorem cntRow_nil {next : List (List Int)} {m s : Nat} : cntRow next m s [] = List.replicate m 0 := by
  unfold cntRow
  apply List.ext_getElem
  · simp
  · intro i h1 h2; simp
theorem cntRow_snoc {next : List (List Int)} {m s t : Nat} {v : List Int} {x : Int} (hx : nx next ((s : Nat) : Int) x.toNat = ((t : Nat) : Int)) (ht : t < m) {c : Int} (hc : (cntRow next m s v)[t]! = c) : (cntRow next m s v).set t (c + 1) = cntRow next m s (v ++ [x]) := by
  have hl : t < (cntRow next m s v).length := by rw [cntRow_len]; exact ht
  apply List.ext_getElem?
  intro i
  rw [List.getElem?_set]
  by_cases hi : i < m
  · by_cases e : t = i
    · subst e
      rw [if_pos rfl, if_pos hl]
      have hg := bang_get hc hl
      rw [cntRow_at ht] at hg
      rw [cntRow_at ht, List.countP_append, List.countP_singleton, if_pos (decide_eq_true hx)]
      have := Option.some.inj hg
      congr 1
      omega
    · rw [if_neg e, cntRow_at hi, cntRow_at hi, List.countP_append, List.countP_singleton, if_neg (by simp; intro q; rw [hx] at q; omega)]
      rfl
  · rw [if_neg (by omega), List.getElem?_eq_none (by rw [cntRow_len]; omega), List.getElem?_eq_none (by rw [cntRow_len]; omega)]
theorem cntRow_bd {next : List (List Int)} {m s : Nat} {v : List Int} : ∀ x ∈ cntRow next m s v, 0 ≤ x ∧ x ≤ (v.length : Int) := fun x hx => by
  obtain ⟨t, _, rfl⟩ := List.mem_map.1 hx
  have := List.countP_le_length (p := fun x : Int => decide (nx next ((s : Nat) : Int) x.toNat = ((t : Nat) : Int))) (l := v)
  omega
section
variable {G : World → Prop} (hG : Lasting G)
include hG
set_option maxHeartbeats 8000000 in
theorem Reps_same (r : GRep) (hl : r.steps.length ≤ 1000) : Snd Tryd.prog G 13 [tRep r, tRep r] (.bool true) := by
  have c1 := SInts_snd hG r.first r.first
  have c2 := SInts_snd hG r.last r.last
  rw [decide_eq_true rfl] at c1 c2
  refine snd_of_body (n := 68) (tm := [(0, .t (tRep r)), (1, .t (tRep r))]) (rs := [.tmp 4]) tt_ok Tryd.func13 rfl rfl rfl rfl rfl ?_
  obtain ⟨base, tracks, first, steps, last⟩ := r
  simp only at c1 c2 hl
  have htb := Tab.cons c1 Tab.nil
  repeat' (first | (with_reducible first | refine SW_seq ?_ | refine SW_block ?_ | refine SThen_n ?_ | refine SThen_r ?_ | refine SThen_e ?_ | refine SIn_n ?_ | refine SIn_r ?_ | refine SIn_eq ?_ | refine SW_skip ?_ | refine SW_exit ?_ | refine SW_ret ?_ | refine SPost_r ?_) | ((with_reducible refine SIn_ne ?_ ?_); focus decide) | ((with_reducible refine SW_true ?_ ?_); focus exact rfl) | ((with_reducible refine SW_false ?_ ?_); focus exact rfl) | ((with_reducible apply SW_run tt_ok hG htb); focus ((repeat' (first | (with_reducible exact runX_nil) | ((with_reducible apply runX_cons); focus (simp (discharger := omega) only [go_sem, tRep, simprocAttr]; with_reducible rfl)))); done)))
  clear htb
  have htb := Tab.cons c2 Tab.nil
  repeat' (first | (with_reducible first | refine SW_seq ?_ | refine SW_block ?_ | refine SThen_n ?_ | refine SThen_r ?_ | refine SThen_e ?_ | refine SIn_n ?_ | refine SIn_r ?_ | refine SIn_eq ?_ | refine SW_skip ?_ | refine SW_exit ?_ | refine SW_ret ?_ | refine SPost_r ?_) | ((with_reducible refine SIn_ne ?_ ?_); focus decide) | ((with_reducible refine SW_true ?_ ?_); focus exact rfl) | ((with_reducible refine SW_false ?_ ?_); focus exact rfl) | ((with_reducible apply SW_run tt_ok hG htb); focus ((repeat' (first | (with_reducible exact runX_nil) | ((with_reducible apply runX_cons); focus (simp (discharger := omega) only [go_sem, tRep, simprocAttr]; with_reducible rfl)))); done)))
  clear htb
  refine SW_loop (fun mm st => ∃ i : Nat, mm = steps.length - i ∧ st = ⟨68, [(2, .bptr 0 0), (3, .bptr 1 0), (7, .t (tNat i))], [.box [.t (tInt base), .t (tInt tracks), .t (tInts first), .t (.list (steps.map tIntss)), .t (tInts last)], .box [.t (tInt base), .t (tInt tracks), .t (tInts first), .t (.list (steps.map tIntss)), .t (tInts last)]]⟩ ∧ i ≤ steps.length) steps.length
    ⟨_, Norm.headS (own := []) (keep := [2, 3, 7]) (by refine ⟨?_, ?_⟩; (simp (discharger := omega) only [go_sem, simprocAttr]; with_reducible rfl); refine ⟨?_, ?_, ?_, ?_⟩ <;> (simp only [go_sem, simprocAttr]; with_reducible rfl)), 0, rfl, rfl, Nat.zero_le _⟩ ?_
  rintro mm st ⟨i, rfl, rfl, hi⟩
  by_cases hlt : i < steps.length
  · obtain ⟨m, hm⟩ : ∃ m, steps[i]! = m := ⟨_, rfl⟩
    have c3 := Lists_snd hG m m
    rw [decide_eq_true rfl] at c3
    have htb := Tab.cons c3 Tab.nil
    repeat' (first | (with_reducible first | apply w1 | apply w2 | apply w3 | apply w4 | apply w5 | apply w6 | apply w7 | apply w8 | apply w9 | apply wa | apply wb | apply wc) | ((with_reducible apply wd); focus decide) | ((with_reducible apply we); focus exact rfl) | ((with_reducible apply wf); focus exact rfl) | ((first | (with_reducible apply SW_run tt_ok hG htb) | ((with_reducible apply SW_draw rfl tt_ok hG htb); (focus kernel_rfl); focus simp only [List.range, List.range.loop, List.size_toArray, List.length_cons, List.length_nil, Nat.reduceAdd])); focus ((repeat' (first | (with_reducible first | exact wg | exact wh) | ((with_reducible first | apply wi | apply wj); focus (simp (discharger := omega) only [go_sem, hm, simprocAttr]; with_reducible rfl)))); done)))
    exact ⟨steps.length - (i + 1), _, by omega, Norm.headS (own := []) (keep := [2, 3, 7]) (by refine ⟨?_, ?_⟩; (simp (discharger := omega) only [go_sem, simprocAttr]; with_reducible rfl); refine ⟨?_, ?_, ?_, ?_⟩ <;> (simp only [go_sem, simprocAttr]; with_reducible rfl)), i + 1, rfl, rfl, by omega⟩
  · have htb : Tab.ok Tryd.prog G [] := Tab.nil
    repeat' (first | (with_reducible first | apply w1 | apply w2 | apply w3 | apply w4 | apply w5 | apply w6 | apply w7 | apply w8 | apply w9 | apply wa | apply wb | apply wc) | ((with_reducible apply wd); focus decide) | ((with_reducible apply we); focus exact rfl) | ((with_reducible apply wf); focus exact rfl) | ((first | (with_reducible apply SW_run tt_ok hG htb) | ((with_reducible apply SW_draw rfl tt_ok hG htb); (focus kernel_rfl); focus simp only [List.range, List.range.loop, List.size_toArray, List.length_cons, List.length_nil, Nat.reduceAdd])); focus ((repeat' (first | (with_reducible first | exact wg | exact wh) | ((with_reducible first | apply wi | apply wj); focus (simp (discharger := omega) only [go_sem, simprocAttr]; with_reducible rfl)))); done)))
    exact (by simp (discharger := omega) only [go_sem, simprocAttr])
set_option maxHeartbeats 16000000 in
set_option maxRecDepth 100000 in
theorem RepOf_ref {a : GAuto} (hf : autoFault a = 0) (k : Nat) (hk : (k : Int) < a.tracks) : Snd Tryd.prog G 11 [tAuto a, tInt k] (tRep (repA a k)) := by
  obtain ⟨t, nW, r, ok⟩ := left_ok hf hk
  have g := ok.good
  have htt : a.tracks - 1 = ((t : Nat) : Int) := by have := ok.tr; omega
  have htr := ok.tr
  have ht4 := ok.t4
  have hkt2 := ok.kt
  have hn36 := ok.nW36
  have hn0 := ok.nW0
  have hr6 := ok.r6
  have hrad0 : radix a.base ≠ 0 := by have := ok.rad; have := ok.r2; omega
  have cW : ∀ l, l < nW → Snd Tryd.prog G 28 [tInt a.base, tInt a.tracks, tInt k, tInt l] (tInts (withR a.base t k l)) := fun l hl => by
    have := Without_snd hG a.base t k l hrad0 ht4 hkt2 (by omega)
    rw [← htr] at this
    exact this
  have hWat : ∀ l, l < nW → (withW a.base t k)[l]? = some (withR a.base t k l) := fun l hl => withW_get ok hl
  have hWl := withW_len ok
  have hWr : ∀ w ∈ withW a.base t k, w.length = r ∧ ∀ x ∈ w, 0 ≤ x ∧ x < ((manyOf a.base a.tracks).toNat : Int) := fun w hw => by
    unfold withW at hw
    obtain ⟨j, _, rfl⟩ := List.mem_map.1 hw
    exact ⟨withR_len ok.rad, withR_bd ok j⟩
  have cL := RLetters_snd hG a.base (t : Int)
  rw [ok.nWe, ok.many] at cL
  obtain ⟨N, hN⟩ : ∃ N, (manyOf a.base a.tracks).toNat = N := ⟨_, rfl⟩
  rw [hN] at g hWr
  obtain ⟨m, hm⟩ : ∃ m, a.next.length = m := ⟨_, rfl⟩
  rw [hm] at g
  have gR := g.rows
  have hm0 := g.m0
  have hm80 := g.m80
  have hmE := g.ends
  have hrep : repA a k = ⟨a.base, (t : Int), firstV m, (withW a.base t k).map (matM a.next m), lastV a.ends⟩ := by unfold repA; rw [hm, htt, Int.toNat_natCast]
  rw [hrep]
  obtain ⟨W, hW⟩ : ∃ W, withW a.base t k = W := ⟨_, rfl⟩
  rw [hW] at hWl hWr hWat ⊢
  obtain ⟨F, hF⟩ : ∃ F, firstV m = F := ⟨_, rfl⟩
  obtain ⟨L, hL⟩ : ∃ L, lastV a.ends = L := ⟨_, rfl⟩
  have hFl : F.length = m := by rw [← hF]; simp [firstV]
  have hLl : L.length = m := by rw [← hL]; simp [lastV, hmE]
  rw [hF, hL]
  refine snd_of_body (n := 118) (tm := [(0, .t (tAuto a)), (1, .t (tInt k))]) (rs := [.cell 4 38]) tt_ok Tryd.func11 rfl rfl rfl rfl rfl ?_
  have htb := Tab.cons cL Tab.nil
  repeat' (first | (with_reducible first | apply w1 | apply w2 | apply w3 | apply w4 | apply w5 | apply w6 | apply w7 | apply w8 | apply w9 | apply wa | apply wb | apply wc) | ((with_reducible apply wd); focus decide) | ((with_reducible apply we); focus exact rfl) | ((with_reducible apply wf); focus exact rfl) | ((first | (with_reducible apply SW_run tt_ok hG htb) | ((with_reducible apply SW_draw rfl tt_ok hG htb); (focus kernel_rfl); focus simp only [List.range, List.range.loop, List.size_toArray, List.length_cons, List.length_nil, Nat.reduceAdd])); focus ((repeat' (first | (with_reducible first | exact wg | exact wh) | ((with_reducible first | apply wi | apply wj); focus (simp (discharger := omega) only [go_sem, tAuto, htt, simprocAttr]; with_reducible rfl)))); done)))
  clear htb
  have htb : Tab.ok Tryd.prog G [] := Tab.nil
  refine SW_loop (fun mm st => ∃ (s : Nat) (fs ls : List T), mm = m - s ∧ st = ⟨118, [(1, .t (tInt k)), (2, .bptr 0 0), (4, .bptr 1 0), (5, .t (tNat nW)), (7, .bptr 2 0), (8, .t (tNat s))], [.box [.t (tInt a.base), .t (tInt a.tracks), .t (tIntss a.next), .t (tBools a.ends)], .box [.t (tInt 0), .t (tInt 0), .nil, .nil, .nil], .box [.t (tInt a.base), .t (tNat t), .sref 3, .nil, .sref 4], .row 3 1 true fs, .row 3 1 true ls]⟩ ∧ s ≤ m ∧ fs = (F.take s).map (T.int .i64) ∧ ls = (L.take s).map (T.int .i64)) m
    ⟨_, ((Norm.headS (own := []) (keep := [1, 2, 4, 5, 7, 8]) (by refine ⟨?_, ?_⟩; (simp (discharger := omega) only [go_sem, simprocAttr]; with_reducible rfl); refine ⟨?_, ?_, ?_, ?_⟩ <;> (simp only [go_sem, simprocAttr]; with_reducible rfl))).trans (Norm.ownB (j := 2) (off := 2) (e := 3) (sz := 1) rfl rfl (by decide))).trans (Norm.ownB (j := 2) (off := 4) (e := 3) (sz := 1) rfl rfl (by decide)), 0, [], [], rfl, rfl, Nat.zero_le _, rfl, rfl⟩ ?_
  rintro mm st ⟨s, fs, ls, rfl, rfl, hs, hfs, hls⟩
  have hfsl : fs.length = s := by rw [hfs, List.length_map, List.length_take]; omega
  have hlsl : ls.length = s := by rw [hls, List.length_map, List.length_take]; omega
  by_cases hsm : s < m
  · have hsm2 : ((s : Nat) : Int) < ((m : Nat) : Int) := by omega
    obtain ⟨b, hb⟩ : ∃ b, a.ends[s]! = b := ⟨_, rfl⟩
    have hFs : F.take (s + 1) = F.take s ++ [if s = 0 then 1 else 0] := by
      have : F[s]? = some (if s = 0 then 1 else 0) := by rw [← hF]; unfold firstV; rw [List.getElem?_map, List.getElem?_range hsm]; rfl
      obtain ⟨q1, q2⟩ := List.getElem?_eq_some_iff.1 this
      rw [List.take_succ_eq_append_getElem q1, q2]
    have hLs : L.take (s + 1) = L.take s ++ [if b = true then 1 else 0] := by
      have : L[s]? = some (if b = true then 1 else 0) := by rw [← hL]; unfold lastV; rw [List.getElem?_map, bang_get hb (by omega)]; rfl
      obtain ⟨q1, q2⟩ := List.getElem?_eq_some_iff.1 this
      rw [List.take_succ_eq_append_getElem q1, q2]
    by_cases hs0 : s = 0
    · subst hs0
      cases b with
      | true =>
        repeat' (first | (with_reducible first | apply w1 | apply w2 | apply w3 | apply w4 | apply w5 | apply w6 | apply w7 | apply w8 | apply w9 | apply wa | apply wb | apply wc) | ((with_reducible apply wd); focus decide) | ((with_reducible apply we); focus exact rfl) | ((with_reducible apply wf); focus exact rfl) | ((first | (with_reducible apply SW_run tt_ok hG htb) | ((with_reducible apply SW_draw rfl tt_ok hG htb); (focus kernel_rfl); focus simp only [List.range, List.range.loop, List.size_toArray, List.length_cons, List.length_nil, Nat.reduceAdd])); focus ((repeat' (first | (with_reducible first | exact wg | exact wh) | ((with_reducible first | apply wi | apply wj); focus (simp (discharger := omega) only [go_sem, hsm2, hm, hb, hmE, simprocAttr]; with_reducible rfl)))); done)))
        exact ⟨m - (0 + 1), _, by omega, Norm.headS (own := []) (keep := [1, 2, 4, 5, 7, 8]) (by refine ⟨?_, ?_⟩; (simp (discharger := omega) only [go_sem, simprocAttr]; with_reducible rfl); refine ⟨?_, ?_, ?_, ?_⟩ <;> (simp only [go_sem, simprocAttr]; with_reducible rfl)), 0 + 1, _, _, rfl, rfl, by omega, by rw [hFs, List.map_append, ← hfs]; rfl, by rw [hLs, List.map_append, ← hls]; rfl⟩
      | false =>
        repeat' (first | (with_reducible first | apply w1 | apply w2 | apply w3 | apply w4 | apply w5 | apply w6 | apply w7 | apply w8 | apply w9 | apply wa | apply wb | apply wc) | ((with_reducible apply wd); focus decide) | ((with_reducible apply we); focus exact rfl) | ((with_reducible apply wf); focus exact rfl) | ((first | (with_reducible apply SW_run tt_ok hG htb) | ((with_reducible apply SW_draw rfl tt_ok hG htb); (focus kernel_rfl); focus simp only [List.range, List.range.loop, List.size_toArray, List.length_cons, List.length_nil, Nat.reduceAdd])); focus ((repeat' (first | (with_reducible first | exact wg | exact wh) | ((with_reducible first | apply wi | apply wj); focus (simp (discharger := omega) only [go_sem, hsm2, hm, hb, hmE, simprocAttr]; with_reducible rfl)))); done)))
        exact ⟨m - (0 + 1), _, by omega, Norm.headS (own := []) (keep := [1, 2, 4, 5, 7, 8]) (by refine ⟨?_, ?_⟩; (simp (discharger := omega) only [go_sem, simprocAttr]; with_reducible rfl); refine ⟨?_, ?_, ?_, ?_⟩ <;> (simp only [go_sem, simprocAttr]; with_reducible rfl)), 0 + 1, _, _, rfl, rfl, by omega, by rw [hFs, List.map_append, ← hfs]; rfl, by rw [hLs, List.map_append, ← hls]; rfl⟩
    · have hs1 : ¬ ((s : Nat) : Int) = 0 := by omega
      rw [if_neg hs0] at hFs
      cases b with
      | true =>
        repeat' (first | (with_reducible first | apply w1 | apply w2 | apply w3 | apply w4 | apply w5 | apply w6 | apply w7 | apply w8 | apply w9 | apply wa | apply wb | apply wc) | ((with_reducible apply wd); focus decide) | ((with_reducible apply we); focus exact rfl) | ((with_reducible apply wf); focus exact rfl) | ((first | (with_reducible apply SW_run tt_ok hG htb) | ((with_reducible apply SW_draw rfl tt_ok hG htb); (focus kernel_rfl); focus simp only [List.range, List.range.loop, List.size_toArray, List.length_cons, List.length_nil, Nat.reduceAdd])); focus ((repeat' (first | (with_reducible first | exact wg | exact wh) | ((with_reducible first | apply wi | apply wj); focus (simp (discharger := omega) only [go_sem, hsm2, hm, hb, hmE, hs1, simprocAttr]; with_reducible rfl)))); done)))
        exact ⟨m - (s + 1), _, by omega, Norm.headS (own := []) (keep := [1, 2, 4, 5, 7, 8]) (by refine ⟨?_, ?_⟩; (simp (discharger := omega) only [go_sem, simprocAttr]; with_reducible rfl); refine ⟨?_, ?_, ?_, ?_⟩ <;> (simp only [go_sem, simprocAttr]; with_reducible rfl)), s + 1, _, _, rfl, rfl, by omega, by rw [hFs, List.map_append, ← hfs]; rfl, by rw [hLs, List.map_append, ← hls]; rfl⟩
      | false =>
        repeat' (first | (with_reducible first | apply w1 | apply w2 | apply w3 | apply w4 | apply w5 | apply w6 | apply w7 | apply w8 | apply w9 | apply wa | apply wb | apply wc) | ((with_reducible apply wd); focus decide) | ((with_reducible apply we); focus exact rfl) | ((with_reducible apply wf); focus exact rfl) | ((first | (with_reducible apply SW_run tt_ok hG htb) | ((with_reducible apply SW_draw rfl tt_ok hG htb); (focus kernel_rfl); focus simp only [List.range, List.range.loop, List.size_toArray, List.length_cons, List.length_nil, Nat.reduceAdd])); focus ((repeat' (first | (with_reducible first | exact wg | exact wh) | ((with_reducible first | apply wi | apply wj); focus (simp (discharger := omega) only [go_sem, hsm2, hm, hb, hmE, hs1, simprocAttr]; with_reducible rfl)))); done)))
        exact ⟨m - (s + 1), _, by omega, Norm.headS (own := []) (keep := [1, 2, 4, 5, 7, 8]) (by refine ⟨?_, ?_⟩; (simp (discharger := omega) only [go_sem, simprocAttr]; with_reducible rfl); refine ⟨?_, ?_, ?_, ?_⟩ <;> (simp only [go_sem, simprocAttr]; with_reducible rfl)), s + 1, _, _, rfl, rfl, by omega, by rw [hFs, List.map_append, ← hfs]; rfl, by rw [hLs, List.map_append, ← hls]; rfl⟩
  obtain rfl : s = m := by omega
  have hfs2 : fs = F.map (T.int .i64) := by rw [hfs, List.take_of_length_le (by omega)]
  have hls2 : ls = L.map (T.int .i64) := by rw [hls, List.take_of_length_le (by omega)]
  clear hfs hls
  subst hfs2 hls2
  have hsm2 : ¬ ((s : Nat) : Int) < ((s : Nat) : Int) := by omega
  refine SW_norm (Norm.frzRow 3 rfl) ?_
  refine SW_norm (Norm.frzRow 4 rfl) ?_
  refine SW_norm (Norm.trB 2 2 rfl rfl rfl) ?_
  refine SW_norm (Norm.trB 2 4 rfl rfl rfl) ?_
  repeat' (first | (with_reducible first | apply w1 | apply w2 | apply w3 | apply w4 | apply w5 | apply w6 | apply w7 | apply w8 | apply w9 | apply wa | apply wb | apply wc) | ((with_reducible apply wd); focus decide) | ((with_reducible apply we); focus exact rfl) | ((with_reducible apply wf); focus exact rfl) | ((first | (with_reducible apply SW_run tt_ok hG htb) | ((with_reducible apply SW_draw rfl tt_ok hG htb); (focus kernel_rfl); focus simp only [List.range, List.range.loop, List.size_toArray, List.length_cons, List.length_nil, Nat.reduceAdd])); focus ((repeat' (first | (with_reducible first | exact wg | exact wh) | ((with_reducible first | apply wi | apply wj); focus (simp (discharger := omega) only [go_sem, hsm2, hm, simprocAttr]; with_reducible rfl)))); done)))
  refine SW_loop (fun mm st => ∃ (l : Nat) (ms : List T), mm = nW - l ∧ st = ⟨118, [(1, .t (tInt k)), (2, .bptr 0 0), (4, .bptr 1 0), (5, .t (tNat nW)), (7, .bptr 2 0), (11, .t (tNat l))], [.box [.t (tInt a.base), .t (tInt a.tracks), .t (tIntss a.next), .t (tBools a.ends)], .box [.t (tInt 0), .t (tInt 0), .nil, .nil, .nil], .box [.t (tInt a.base), .t (tNat t), .t (tInts F), .sref 3, .t (tInts L)], .row 22 1 true ms]⟩ ∧ l ≤ nW ∧ ms = ((W.map (matM a.next s)).take l).map tIntss) nW
    ⟨_, (Norm.headS (own := []) (keep := [1, 2, 4, 5, 7, 11]) (by refine ⟨?_, ?_⟩; (simp (discharger := omega) only [go_sem, simprocAttr]; with_reducible rfl); refine ⟨?_, ?_, ?_, ?_⟩ <;> (simp only [go_sem, simprocAttr]; with_reducible rfl))).trans (Norm.ownB (j := 2) (off := 3) (e := 22) (sz := 1) rfl rfl (by decide)), 0, [], rfl, rfl, Nat.zero_le _, rfl⟩ ?_
  rintro mm st ⟨l, ms, rfl, rfl, hl, hms⟩
  have hmsl : ms.length = l := by rw [hms, List.length_map, List.length_take, List.length_map]; omega
  by_cases hlt : l < nW
  · have hlt2 : ((l : Nat) : Int) < ((nW : Nat) : Int) := by omega
    have c4 := cW l hlt
    have hwl := hWat l hlt
    obtain ⟨v, hv⟩ : ∃ v, withR a.base t k l = v := ⟨_, rfl⟩
    rw [hv] at c4 hwl
    have hvr := hWr v (List.mem_of_getElem? hwl)
    have hvl := hvr.1
    have htk : (W.map (matM a.next s)).take (l + 1) = (W.map (matM a.next s)).take l ++ [matM a.next s v] := by
      have : (W.map (matM a.next s))[l]? = some (matM a.next s v) := by rw [List.getElem?_map, hwl]; rfl
      obtain ⟨q1, q2⟩ := List.getElem?_eq_some_iff.1 this
      rw [List.take_succ_eq_append_getElem q1, q2]
    obtain ⟨X, hX⟩ : ∃ X, matM a.next s v = X := ⟨_, rfl⟩
    have hXl : X.length = s := by rw [← hX]; simp [matM]
    have hXat : ∀ q, q < s → X[q]? = some (cntRow a.next s q v) := fun q hq => by rw [← hX]; unfold matM; rw [List.getElem?_map, List.getElem?_range hq]; rfl
    rw [hX] at htk
    clear htb
    have htb := Tab.cons c4 Tab.nil
    repeat' (first | (with_reducible first | apply w1 | apply w2 | apply w3 | apply w4 | apply w5 | apply w6 | apply w7 | apply w8 | apply w9 | apply wa | apply wb | apply wc) | ((with_reducible apply wd); focus decide) | ((with_reducible apply we); focus exact rfl) | ((with_reducible apply wf); focus exact rfl) | ((first | (with_reducible apply SW_run tt_ok hG htb) | ((with_reducible apply SW_draw rfl tt_ok hG htb); (focus kernel_rfl); focus simp only [List.range, List.range.loop, List.size_toArray, List.length_cons, List.length_nil, Nat.reduceAdd])); focus ((repeat' (first | (with_reducible first | exact wg | exact wh) | ((with_reducible first | apply wi | apply wj); focus (simp (discharger := omega) only [go_sem, hlt2, simprocAttr]; with_reducible rfl)))); done)))
    clear htb
    have htb : Tab.ok Tryd.prog G [] := Tab.nil
    refine SW_loop (fun mm st => ∃ (q : Nat) (rs : List T), mm = s - q ∧ st = ⟨118, [(1, .t (tInt k)), (2, .bptr 0 0), (4, .bptr 1 0), (5, .t (tNat nW)), (7, .bptr 2 0), (11, .t (tNat l)), (12, .t (tInts v)), (13, .sref 3), (14, .t (tNat q))], [.box [.t (tInt a.base), .t (tInt a.tracks), .t (tIntss a.next), .t (tBools a.ends)], .box [.t (tInt 0), .t (tInt 0), .nil, .nil, .nil], .box [.t (tInt a.base), .t (tNat t), .t (tInts F), .sref 4, .t (tInts L)], .row 35 1 true rs, .row 22 1 true ms]⟩ ∧ q ≤ s ∧ rs = (X.take q).map tInts) s
      ⟨_, Norm.headS (own := [(13, 35, 1, true)]) (keep := [1, 2, 4, 5, 7, 11, 12, 13, 14]) (by refine ⟨?_, ?_⟩; (simp (discharger := omega) only [go_sem, simprocAttr]; with_reducible rfl); refine ⟨?_, ?_, ?_, ?_⟩ <;> (simp only [go_sem, simprocAttr]; with_reducible rfl)), 0, _, rfl, rfl, Nat.zero_le _, rfl⟩ ?_
    rintro mm st ⟨q, rs, rfl, rfl, hq, hrs⟩
    have hrsl : rs.length = q := by rw [hrs, List.length_map, List.length_take]; omega
    by_cases hqs : q < s
    · have hqs2 : ((q : Nat) : Int) < ((s : Nat) : Int) := by omega
      obtain ⟨row, hrow⟩ : ∃ row, a.next[q]! = row := ⟨_, rfl⟩
      have hrl := gR.row row (bang_mem hrow (by omega))
      have hro : rowOf a.next ((q : Nat) : Int) = row := by unfold rowOf; exact bang_D hrow (by simpa [hm] using hqs)
      have htk2 : X.take (q + 1) = X.take q ++ [cntRow a.next s q v] := by
        obtain ⟨q1, q2⟩ := List.getElem?_eq_some_iff.1 (hXat q hqs)
        rw [List.take_succ_eq_append_getElem q1, q2]
      repeat' (first | (with_reducible first | apply w1 | apply w2 | apply w3 | apply w4 | apply w5 | apply w6 | apply w7 | apply w8 | apply w9 | apply wa | apply wb | apply wc) | ((with_reducible apply wd); focus decide) | ((with_reducible apply we); focus exact rfl) | ((with_reducible apply wf); focus exact rfl) | ((first | (with_reducible apply SW_run tt_ok hG htb) | ((with_reducible apply SW_draw rfl tt_ok hG htb); (focus kernel_rfl); focus simp only [List.range, List.range.loop, List.size_toArray, List.length_cons, List.length_nil, Nat.reduceAdd])); focus ((repeat' (first | (with_reducible first | exact wg | exact wh) | ((with_reducible first | apply wi | apply wj); focus (simp (discharger := omega) only [go_sem, hqs2, hm, simprocAttr]; with_reducible rfl)))); done)))
      refine SW_loop (fun mm st => ∃ (x : Nat), mm = r - x ∧ st = ⟨118, [(1, .t (tInt k)), (2, .bptr 0 0), (4, .bptr 1 0), (5, .t (tNat nW)), (7, .bptr 2 0), (11, .t (tNat l)), (12, .t (tInts v)), (13, .sref 3), (14, .t (tNat q)), (15, .sref 4), (16, .t (tNat x))], [.box [.t (tInt a.base), .t (tInt a.tracks), .t (tIntss a.next), .t (tBools a.ends)], .box [.t (tInt 0), .t (tInt 0), .nil, .nil, .nil], .box [.t (tInt a.base), .t (tNat t), .t (tInts F), .sref 5, .t (tInts L)], .row 35 1 true rs, .row 3 1 true ((cntRow a.next s q (v.take x)).map (T.int .i64)), .row 22 1 true ms]⟩ ∧ x ≤ r) r
        ⟨_, Norm.headS (own := []) (keep := [1, 2, 4, 5, 7, 11, 12, 13, 14, 15, 16]) (by refine ⟨?_, ?_⟩; (simp (discharger := omega) only [go_sem, simprocAttr]; with_reducible rfl); refine ⟨?_, ?_, ?_, ?_⟩ <;> (simp only [go_sem, simprocAttr]; with_reducible rfl)), 0, rfl, by rw [List.take_zero, cntRow_nil, List.map_replicate]; rfl, Nat.zero_le _⟩ ?_
      rintro mm st ⟨x, rfl, rfl, hx⟩
      have hcl := cntRow_len (next := a.next) (m := s) (s := q) (v := v.take x)
      by_cases hxr : x < r
      · have hxr2 : ((x : Nat) : Int) < ((v.length : Nat) : Int) := by omega
        obtain ⟨u, hu⟩ : ∃ u, v[x]! = u := ⟨_, rfl⟩
        have hub := hvr.2 u (bang_mem hu (by omega))
        obtain ⟨y, hy⟩ : ∃ y, row[u.toNat]! = y := ⟨_, rfl⟩
        have hyb := gR.ok row (bang_mem hrow (by omega)) y (bang_mem hy (by omega))
        have hnx : nx a.next ((q : Nat) : Int) u.toNat = ((y.toNat : Nat) : Int) := by unfold nx; rw [hro, bang_D hy (by omega)]; omega
        obtain ⟨c, hc⟩ : ∃ c, (cntRow a.next s q (v.take x))[y.toNat]! = c := ⟨_, rfl⟩
        have hcb := cntRow_bd c (bang_mem hc (by omega))
        have hvt : (v.take x).length ≤ 6 := by rw [List.length_take]; omega
        have hst := cntRow_snoc hnx (by omega) hc
        rw [← take_next hu (by omega)] at hst
        have hwr : IntKind.i64.wrap (c + 1) = c + 1 := wrap_i64 _ (by omega)
        repeat' (first | (with_reducible first | apply w1 | apply w2 | apply w3 | apply w4 | apply w5 | apply w6 | apply w7 | apply w8 | apply w9 | apply wa | apply wb | apply wc) | ((with_reducible apply wd); focus decide) | ((with_reducible apply we); focus exact rfl) | ((with_reducible apply wf); focus exact rfl) | ((first | (with_reducible apply SW_run tt_ok hG htb) | ((with_reducible apply SW_draw rfl tt_ok hG htb); (focus kernel_rfl); focus simp only [List.range, List.range.loop, List.size_toArray, List.length_cons, List.length_nil, Nat.reduceAdd])); focus ((repeat' (first | (with_reducible first | exact wg | exact wh) | ((with_reducible first | apply wi | apply wj); focus (simp (discharger := omega) only [go_sem, hxr2, hu, hrow, hrl, hm, hy, hc, hwr, simprocAttr]; with_reducible rfl)))); done)))
        exact ⟨r - (x + 1), _, by omega, Norm.headS (own := []) (keep := [1, 2, 4, 5, 7, 11, 12, 13, 14, 15, 16]) (by refine ⟨?_, ?_⟩; (simp (discharger := omega) only [go_sem, simprocAttr]; with_reducible rfl); refine ⟨?_, ?_, ?_, ?_⟩ <;> (simp only [go_sem, simprocAttr]; with_reducible rfl)), x + 1, rfl, by rw [← hst, List.map_set]; rfl, by omega⟩
      · obtain rfl : x = r := by omega
        have hxr2 : ¬ ((x : Nat) : Int) < ((v.length : Nat) : Int) := by omega
        rw [List.take_of_length_le (by omega)]
        repeat' (first | (with_reducible first | apply w1 | apply w2 | apply w3 | apply w4 | apply w5 | apply w6 | apply w7 | apply w8 | apply w9 | apply wa | apply wb | apply wc) | ((with_reducible apply wd); focus decide) | ((with_reducible apply we); focus exact rfl) | ((with_reducible apply wf); focus exact rfl) | ((first | (with_reducible apply SW_run tt_ok hG htb) | ((with_reducible apply SW_draw rfl tt_ok hG htb); (focus kernel_rfl); focus simp only [List.range, List.range.loop, List.size_toArray, List.length_cons, List.length_nil, Nat.reduceAdd])); focus ((repeat' (first | (with_reducible first | exact wg | exact wh) | ((with_reducible first | apply wi | apply wj); focus (simp (discharger := omega) only [go_sem, hxr2, simprocAttr]; with_reducible rfl)))); done)))
        exact ⟨s - (q + 1), _, by omega, Norm.headS (own := []) (keep := [1, 2, 4, 5, 7, 11, 12, 13, 14]) (by refine ⟨?_, ?_⟩; (simp (discharger := omega) only [go_sem, simprocAttr]; with_reducible rfl); refine ⟨?_, ?_, ?_, ?_⟩ <;> (simp only [go_sem, simprocAttr]; with_reducible rfl)), q + 1, _, rfl, rfl, by omega, by rw [htk2, List.map_append, ← hrs]; rfl⟩
    · obtain rfl : q = s := by omega
      have hqs2 : ¬ ((q : Nat) : Int) < ((q : Nat) : Int) := by omega
      have hrs2 : rs = X.map tInts := by rw [hrs, List.take_of_length_le (by omega)]
      clear hrs
      subst hrs2
      repeat' (first | (with_reducible first | apply w1 | apply w2 | apply w3 | apply w4 | apply w5 | apply w6 | apply w7 | apply w8 | apply w9 | apply wa | apply wb | apply wc) | ((with_reducible apply wd); focus decide) | ((with_reducible apply we); focus exact rfl) | ((with_reducible apply wf); focus exact rfl) | ((first | (with_reducible apply SW_run tt_ok hG htb) | ((with_reducible apply SW_draw rfl tt_ok hG htb); (focus kernel_rfl); focus simp only [List.range, List.range.loop, List.size_toArray, List.length_cons, List.length_nil, Nat.reduceAdd])); focus ((repeat' (first | (with_reducible first | exact wg | exact wh) | ((with_reducible first | apply wi | apply wj); focus (simp (discharger := omega) only [go_sem, hqs2, hm, simprocAttr]; with_reducible rfl)))); done)))
      exact ⟨nW - (l + 1), _, by omega, Norm.headS (own := []) (keep := [1, 2, 4, 5, 7, 11]) (by refine ⟨?_, ?_⟩; (simp (discharger := omega) only [go_sem, simprocAttr]; with_reducible rfl); refine ⟨?_, ?_, ?_, ?_⟩ <;> (simp only [go_sem, simprocAttr]; with_reducible rfl)), l + 1, _, rfl, rfl, by omega, by rw [htk, List.map_append, ← hms]; rfl⟩
  obtain rfl : l = nW := by omega
  have hms2 : ms = (W.map (matM a.next s)).map tIntss := by rw [hms, List.take_of_length_le (by rw [List.length_map]; omega)]
  clear hms
  subst hms2
  have hlt2 : ¬ ((l : Nat) : Int) < ((l : Nat) : Int) := by omega
  generalize W.map (matM a.next s) = V at *
  refine SW_norm (Norm.frzRow 3 rfl) ?_
  refine SW_norm (Norm.trB 2 3 rfl rfl rfl) ?_
  repeat' (first | (with_reducible first | apply w1 | apply w2 | apply w3 | apply w4 | apply w5 | apply w6 | apply w7 | apply w8 | apply w9 | apply wa | apply wb | apply wc) | ((with_reducible apply wd); focus decide) | ((with_reducible apply we); focus exact rfl) | ((with_reducible apply wf); focus exact rfl) | ((first | (with_reducible apply SW_run tt_ok hG htb) | ((with_reducible apply SW_draw rfl tt_ok hG htb); (focus kernel_rfl); focus simp only [List.range, List.range.loop, List.size_toArray, List.length_cons, List.length_nil, Nat.reduceAdd])); focus ((repeat' (first | (with_reducible first | exact wg | exact wh) | ((with_reducible first | apply wi | apply wj); focus (simp (discharger := omega) only [go_sem, hlt2, simprocAttr]; with_reducible rfl)))); done)))
  exact (by simp (discharger := omega) only [go_sem, tRep, simprocAttr])
end
end Go.Proofs.YthcclcbliedodaaDoor
namespace Go.Proofs.YthcclcbliedodaaDoor
open Go.RowKit

section
variable {G : World → Prop} (hG : Lasting G)
include hG
end
end Go.Proofs.YthcclcbliedodaaDoor
namespace Go.Proofs.YthcclcbliedodaaDoor
open Go.RowKit

end Go.Proofs.YthcclcbliedodaaDoor
namespace Go.Proofs
open Go.Shelf
end Go.Proofs
namespace Go.Proofs.YthcclcbliedodaaDoor
open Go.RowKit Go.Lib

section
variable {P : Program} {C : Ctx} {hd : List Hd} {w w' : World} {e : Nat} {l ys : List Int}
end
section
variable {G : World → Prop}
/-- What a call hands back, in another form. -/
theorem SndG.post {P : Program} {f : Nat} {xs : List SV} {obs obs' obs'' : List Ob} {r r' : SV} {tm : List (Nat × SV)} (h : SndG P G f xs obs [] r obs') (hlen : obs.length ≤ obs''.length) (hbox : ∀ (i : Nat) (l : List SV), obs[i]? ≠ some (.box l)) (hl : look tm 0 = some r') (hn : Norm ⟨1, [(0, r)], obs'⟩ ⟨1, tm, obs''⟩) : SndG P G f xs obs [] r' obs'' :=
  ⟨h.enter, hlen, fun i l q => (hbox i l q).elim, fun C hd w vs hG hr hvs hrep => (h.calls C hd w vs hG hr hvs hrep).mono fun e w' ⟨v, hd', e1, h1, _, _, h2⟩ => by
    have hr1 : StR C ⟨1, [(0, r)], obs'⟩ hd' { tmps := #[v], defers := [] } w' := ⟨h1.below, rfl, rfl, h1.hl, h1.ob, h1.own, h1.dist, fun t y hy => (by
      simp only [look] at hy
      split at hy
      · rename_i e; subst e; cases hy; exact h2
      · cases hy), h1.ext⟩
    obtain ⟨hd2, hr2⟩ := hn C hd' _ w' hr1
    exact ⟨v, hd2, e1, ⟨hr2.below, rfl, rfl, hr2.hl, hr2.ob, hr2.own, hr2.dist, fun t y hy => by simp [look] at hy, hr2.ext⟩, fun i l b q => (hbox i l q).elim, fun i hi => by simp at hi, hr2.sl 0 r' hl⟩⟩
end
end Go.Proofs.YthcclcbliedodaaDoor
namespace Go.Proofs.YthcclcbliedodaaDoor
open Go.RowKit

section
variable {G : World → Prop} (hG : Lasting G)
include hG
end
end Go.Proofs.YthcclcbliedodaaDoor
namespace Go.Proofs.YthcclcbliedodaaDoor
open Go.RowKit

/-- What is known where nothing is wrong. -/
structure LeftIs (a : GAuto) (k t N nW r m : Nat) : Prop where
  ok : LeftOk a k t N nW r
  M : Good (leastA a) N m
  Wlen : (withW a.base t k).length = nW
  Wrow : ∀ w ∈ withW a.base t k, w.length = r ∧ ∀ x ∈ w, 0 ≤ x ∧ x < (N : Int)
  W : leftW a (k : Int) = withW a.base t k
  n : leftN a = nW
  first : Inm m (closeL (leastA a) ((withW a.base t k)[0]!))
  F : leftF a (k : Int) = closeL (leastA a) ((withW a.base t k)[0]!)
  len : (leftR a k).length = (leftS a k).length
  pos : 0 < (leftS a k).length
  few : (leftS a k).length ≤ 2000
  rows : Rows0 nW (leftS a k).length (leftR a k)
  sets : ∀ s ∈ leftS a k, Inm m s ∧ s.Pairwise (· < ·)
  gok : growOk (stepW (leastA a).next (withW a.base t k)) nW (closeL (leastA a) ((withW a.base t k)[0]!)) = true
  expl : Expl (nextD (stepW (leastA a).next (withW a.base t k))) nW (leftS a k) (leftR a k)
  start : (leftS a k)[0]! = canonL (closeL (leastA a) ((withW a.base t k)[0]!))
section
variable {G : World → Prop} (hG : Lasting G)
include hG
end
end Go.Proofs.YthcclcbliedodaaDoor
namespace Go.Proofs.YthcclcbliedodaaDoor
open Go.RowKit

section
variable {G : World → Prop} (hG : Lasting G)
include hG
end
end Go.Proofs.YthcclcbliedodaaDoor
namespace Go.Proofs.YthcclcbliedodaaDoor
open Go.RowKit

/-- What words of some letters lead to. -/
inductive Rch (a : GAuto) (letters : List Int) : Int → Prop
  | zero : Rch a letters 0
  | step (s : Int) (j : Nat) (h : Rch a letters s) (hj : j < letters.length) : Rch a letters (closeD a letters s j)
section
variable {G : World → Prop} (hG : Lasting G)
include hG
end
end Go.Proofs.YthcclcbliedodaaDoor
namespace Go.Proofs.YthcclcbliedodaaDoor

/-- The least rows and ends of a language. -/
noncomputable def leastL (n : Nat) (L : List Nat → Bool) : List (List Int) × List Bool := open Classical in if h : ∃ p : List (List Int) × List Bool, Least n p.1 p.2 L then Classical.choose h else ([], [])
theorem leastL_eq {n : Nat} {N : List (List Int)} {E : List Bool} {L : List Nat → Bool} (h : Least n N E L) : leastL n L = (N, E) := by
  have hx : ∃ p : List (List Int) × List Bool, Least n p.1 p.2 L := ⟨(N, E), h⟩
  unfold leastL
  rw [dif_pos hx]
  have := (Classical.choose_spec hx).unique h
  exact Prod.ext this.1 this.2
/-- Some table takes this language. -/
def Regular (n : Nat) (L : List Nat → Bool) : Prop := ∃ N E, Least n N E L
theorem Regular.of {n m : Nat} {next : List (List Int)} {ends : List Bool} {L : List Nat → Bool} (hR : Rows0 n m next) (hm : 0 < m) (h : ∀ w, Ltr n w → lang next ends 0 w = L w) : Regular n L :=
  ⟨_, _, (leastRE_spec (ends := ends) hR hm).1.lang_congr h⟩
theorem Regular.least {n : Nat} {L : List Nat → Bool} (h : Regular n L) : Least n (leastL n L).1 (leastL n L).2 L := by
  obtain ⟨N, E, h⟩ := h
  rw [leastL_eq h]; exact h
section
variable {base : Int} {t n m : Nat} {next : List (List Int)} {ends : List Bool}
end

section
variable {k m : Nat} {next : List (List Int)}
end

section
variable {A B : List (List Int)} {f g : Nat → Nat} {n n1 n2 ma mb : Nat}
end
end Go.Proofs.YthcclcbliedodaaDoor
namespace Go.Proofs.YthcclcbliedodaaDoor
open Go.RowKit

section
variable {G : World → Prop} (hG : Lasting G)
include hG
end
end Go.Proofs.YthcclcbliedodaaDoor
namespace Go.Proofs.YthcclcbliedodaaDoor
open Go.RowKit

/-- A word of all tracks that reads as one of what is left. -/
inductive Fill (W : List (List Int)) : List Nat → List Nat → Prop
  | nil : Fill W [] []
  | cons {k l : Nat} {v w : List Nat} (h : ((k : Nat) : Int) ∈ W[l]!) (t : Fill W v w) : Fill W (k :: v) (l :: w)
theorem bang_in {W : List (List Int)} {l : Nat} {k : Int} (h : k ∈ W[l]!) : ∃ r ∈ W, k ∈ r ∧ W[l]? = some r := by
  by_cases hl : l < W.length
  · exact ⟨_, bang_mem rfl hl, h, bang_get rfl hl⟩
  · rw [getElem!_neg W l hl] at h
    cases h
theorem Fill.ltr {W : List (List Int)} {N : Nat} (hW : ∀ r ∈ W, ∀ k ∈ r, 0 ≤ k ∧ k < (N : Int)) {v w : List Nat} (h : Fill W v w) : Ltr N v := by
  induction h with
  | nil => intro x hx; cases hx
  | cons h t ih =>
    intro x hx
    rcases List.mem_cons.1 hx with rfl | hx
    · obtain ⟨r, h1, h2, _⟩ := bang_in h
      have := hW r h1 _ h2
      omega
    · exact ih x hx
section
variable {next W : List (List Int)}
end
end Go.Proofs.YthcclcbliedodaaDoor
namespace Go.Proofs.YthcclcbliedodaaDoor
open Go.RowKit

/-- A letter without a track. -/
def dropL (base : Int) (t j k : Nat) : Nat := (pack (radix base) ((unpack (radix base) (t + 1) (k : Int)).eraseIdx j)).toNat
section
variable {base : Int} {t j : Nat}
theorem erase_len (hj : j ≤ t) (k : Int) : ((unpack (radix base) (t + 1) k).eraseIdx j).length = t := by
  rw [List.length_eraseIdx_of_lt (by rw [unpack_length]; omega), unpack_length]; rfl
theorem erase_ok (hr : radix base ≠ 0) (k : Int) : ∀ x ∈ (unpack (radix base) (t + 1) k).eraseIdx j, 0 ≤ x ∧ x < radix base := fun x hx =>
  unpack_ok (radix_two hr).1 (t + 1) k x (List.mem_of_mem_eraseIdx hx)
theorem dropL_int (hr : radix base ≠ 0) (k : Nat) : ((dropL base t j k : Nat) : Int) = pack (radix base) ((unpack (radix base) (t + 1) (k : Int)).eraseIdx j) :=
  Int.toNat_of_nonneg (pack_bd (radix_two hr).1 _ (erase_ok hr _)).1
theorem unpack_drop (hr : radix base ≠ 0) (hj : j ≤ t) (k : Nat) : unpack (radix base) t ((dropL base t j k : Nat) : Int) = (unpack (radix base) (t + 1) (k : Int)).eraseIdx j := by
  have := unpack_pack (radix_two hr).1 _ (erase_ok (base := base) (t := t) (j := j) hr (k : Int))
  rw [erase_len hj] at this
  rw [dropL_int hr]; exact this
theorem dropL_lt (hr : radix base ≠ 0) (hj : j ≤ t) (k : Nat) : ((dropL base t j k : Nat) : Int) < powW (radix base) t := by
  have := (pack_bd (radix_two hr).1 _ (erase_ok (base := base) (t := t) (j := j) hr (k : Int))).2
  rw [erase_len hj] at this
  rw [dropL_int hr]; exact this
theorem with_mem (hr : radix base ≠ 0) (hj : j ≤ t) {l k : Nat} (hl : (l : Int) < powW (radix base) t) : ((k : Nat) : Int) ∈ withR base t j l ↔ ((k : Nat) : Int) < powW (radix base) (t + 1) ∧ dropL base t j k = l := by
  have h2 := (radix_two hr).1
  have hdl := unpack_length (radix base) t (l : Int)
  have hdp := pack_unpack h2 t (l : Int) (by omega) hl
  unfold withR
  rw [List.mem_map]
  constructor
  · rintro ⟨x, hx, e⟩
    have hx := List.mem_range.1 hx
    have hxb : 0 ≤ ((x : Nat) : Int) ∧ ((x : Nat) : Int) < radix base := by omega
    have hb := fixL_bd (base := base) hr (t := t) (k := j) hxb hj l
    rw [e] at hb
    refine ⟨hb.2, ?_⟩
    have hD : unpack (radix base) (t + 1) (k : Int) = fixD base t j x l := by
      have := unpack_pack h2 _ (fixD_ok (base := base) hr (t := t) (k := j) hxb l)
      rw [fixD_len _ _ hj] at this
      rw [← e]; exact this
    have hE : (fixD base t j x l).eraseIdx j = unpack (radix base) t (l : Int) := by
      unfold fixD
      rw [List.append_assoc, List.eraseIdx_append_of_length_le (by rw [List.length_take]; omega), List.length_take, Nat.min_eq_left (by omega), Nat.sub_self]
      exact List.take_append_drop j _
    have := dropL_int (base := base) (t := t) (j := j) hr k
    rw [hD, hE, hdp] at this
    omega
  · rintro ⟨hk, e⟩
    have hu := unpack_drop (base := base) (t := t) hr hj k
    rw [e] at hu
    obtain ⟨D, hD⟩ : ∃ D, unpack (radix base) (t + 1) (k : Int) = D := ⟨_, rfl⟩
    have hDl : D.length = t + 1 := by rw [← hD]; exact unpack_length _ _ _
    have hDo : ∀ x ∈ D, 0 ≤ x ∧ x < radix base := by rw [← hD]; exact unpack_ok h2 (t + 1) _
    have hDp : pack (radix base) D = (k : Int) := by rw [← hD]; exact pack_unpack h2 (t + 1) _ (by omega) hk
    have hjl : j < D.length := by omega
    have hb := hDo _ (List.getElem_mem hjl)
    refine ⟨D[j].toNat, List.mem_range.2 (by omega), ?_⟩
    rw [Int.toNat_of_nonneg hb.1]
    unfold fixL
    have : fixD base t j D[j] l = D := by
      unfold fixD
      rw [hu, hD, List.eraseIdx_eq_take_drop_succ, List.take_append_of_le_length (by rw [List.length_take]; omega), List.take_take, Nat.min_self, List.drop_append_of_le_length (by rw [List.length_take]; omega)]
      rw [show List.drop j (List.take j D) = [] from List.drop_eq_nil_of_le (by rw [List.length_take]; omega), List.nil_append, List.append_assoc, List.singleton_append, List.getElem_cons_drop, List.take_append_drop]
    rw [this, hDp]
end
section
variable {a : GAuto} {k t N nW r : Nat}
theorem LeftOk.rad0 (h : LeftOk a k t N nW r) : radix a.base ≠ 0 := by have := h.rad; have := h.r2; omega
theorem LeftOk.nWp (h : LeftOk a k t N nW r) : ((nW : Nat) : Int) = powW (radix a.base) t := by
  obtain ⟨_, _, _, _, e⟩ := many_ok h.many
  rw [← h.nWe, e, Int.toNat_natCast]
theorem LeftOk.drop_lt (h : LeftOk a k t N nW r) (x : Nat) : dropL a.base t k x < nW := by
  have := dropL_lt (base := a.base) h.rad0 h.kt x
  have := h.nWp
  omega
end
/-- 0s ahead do not matter. -/
def Closed (n : Nat) (L : List Nat → Bool) : Prop := ∀ w, Ltr n w → L (0 :: w) = L w
theorem Closed.congr {n : Nat} {L L' : List Nat → Bool} (hn : 0 < n) (h : Closed n L) (he : ∀ w, Ltr n w → L w = L' w) : Closed n L' := fun w hw => by
  rw [← he w hw, ← he (0 :: w) (fun x hx => by rcases List.mem_cons.1 hx with rfl | hx; exact hn; exact hw x hx)]
  exact h w hw
end Go.Proofs.YthcclcbliedodaaDoor
namespace Go.Proofs.YthcclcbliedodaaDoor
open Go.RowKit

/-- The letters that are one of what is left. -/
def selL (base : Int) (t k l n : Nat) : List Int := ((List.range n).filter fun x => decide (dropL base t k x = l)).map fun x : Nat => ((x : Nat) : Int)
theorem selL_zero (base : Int) (t k l : Nat) : selL base t k l 0 = [] := rfl
theorem selL_snoc (base : Int) (t k l n : Nat) : selL base t k l (n + 1) = if dropL base t k n = l then selL base t k l n ++ [((n : Nat) : Int)] else selL base t k l n := by
  unfold selL
  rw [List.range_succ, List.filter_append, List.map_append]
  by_cases h : dropL base t k n = l
  · rw [if_pos h, List.filter_cons_of_pos (by simpa using h)]; rfl
  · rw [if_neg h, List.filter_cons_of_neg (by simpa using h)]; simp
theorem selL_len (base : Int) (t k l n : Nat) : (selL base t k l n).length ≤ n := by
  unfold selL
  rw [List.length_map]
  exact Nat.le_trans (List.length_filter_le _ _) (by simp)
theorem selL_mem {base : Int} {t k l n : Nat} {x : Int} : x ∈ selL base t k l n ↔ ∃ y : Nat, y < n ∧ dropL base t k y = l ∧ x = ((y : Nat) : Int) := by
  unfold selL
  rw [List.mem_map]
  constructor
  · rintro ⟨y, hy, rfl⟩
    obtain ⟨h1, h2⟩ := List.mem_filter.1 hy
    exact ⟨y, List.mem_range.1 h1, of_decide_eq_true h2, rfl⟩
  · rintro ⟨y, h1, h2, rfl⟩
    exact ⟨y, List.mem_filter.2 ⟨List.mem_range.2 h1, decide_eq_true h2⟩, rfl⟩
theorem selL_nodup (base : Int) (t k l n : Nat) : (selL base t k l n).Nodup := by
  unfold selL List.Nodup
  rw [List.pairwise_map]
  exact (List.nodup_range.sublist List.filter_sublist).imp fun h e => h (by omega)
theorem withR_nodup {base : Int} (hr : radix base ≠ 0) {t j : Nat} (hj : j ≤ t) (l : Nat) : (withR base t j l).Nodup := by
  have h2 := (radix_two hr).1
  unfold withR List.Nodup
  rw [List.pairwise_map]
  refine List.Pairwise.imp_of_mem (R := fun a b : Nat => a ≠ b) (fun {x y} hx hy hne e => hne ?_) List.nodup_range
  have hx := List.mem_range.1 hx
  have hy := List.mem_range.1 hy
  have u1 := unpack_pack h2 _ (fixD_ok (base := base) hr (t := t) (k := j) (x := ((x : Nat) : Int)) (by omega) l)
  have u2 := unpack_pack h2 _ (fixD_ok (base := base) hr (t := t) (k := j) (x := ((y : Nat) : Int)) (by omega) l)
  rw [fixD_len _ _ hj] at u1 u2
  have e' : pack (radix base) (fixD base t j ((x : Nat) : Int) l) = pack (radix base) (fixD base t j ((y : Nat) : Int) l) := e
  rw [e', u2] at u1
  have hd : ∀ z : Nat, (fixD base t j ((z : Nat) : Int) l)[j]? = some ((z : Nat) : Int) := fun z => by
    have hl := unpack_length (radix base) t (l : Int)
    unfold fixD
    rw [List.append_assoc, List.getElem?_append_right (by rw [List.length_take]; omega), List.length_take, Nat.min_eq_left (by omega), Nat.sub_self]; rfl
  have := hd x
  rw [← u1, hd y] at this
  have := Option.some.inj this
  omega
/-- Both count the same. -/
theorem cntRow_sel {a : GAuto} {k t N nW r : Nat} (h : LeftOk a k t N nW r) {l : Nat} (hl : l < nW) (next : List (List Int)) (m s : Nat) : cntRow next m s (selL a.base t k l N) = cntRow next m s (withR a.base t k l) := by
  have hp : (selL a.base t k l N).Perm (withR a.base t k l) := by
    rw [List.perm_ext_iff_of_nodup (selL_nodup _ _ _ _ _) (withR_nodup h.rad0 h.kt l)]
    intro x
    rw [selL_mem]
    have hN := h.N_eq
    have hw := fun y : Nat => with_mem (base := a.base) (t := t) (j := k) h.rad0 h.kt (l := l) (k := y) (by rw [← h.nWp]; omega)
    constructor
    · rintro ⟨y, h1, h2, rfl⟩
      exact (hw y).2 ⟨by omega, h2⟩
    · intro hx
      have h0 := (withR_bd h l x hx).1
      obtain ⟨y, rfl⟩ := Int.eq_ofNat_of_zero_le h0
      obtain ⟨q1, q2⟩ := (hw y).1 hx
      exact ⟨y, by omega, q2, rfl⟩
  unfold cntRow
  refine List.map_congr_left fun q _ => ?_
  rw [hp.countP_eq]
/-- What a matrix's row holds while states and letters go on. -/
def cntC (a : GAuto) (t k m N : Nat) (s L l q : Nat) : List Int := cntRow a.next m q (selL a.base t k l (if q < s then N else if q = s then L else 0))
theorem cntC_start {a : GAuto} {t k m N l q : Nat} : cntC a t k m N 0 0 l q = List.replicate m 0 := by
  unfold cntC
  rw [if_neg (by omega)]
  split <;> rw [selL_zero, cntRow_nil]
theorem cntC_line {a : GAuto} {t k m N s l q : Nat} : cntC a t k m N (s + 1) 0 l q = cntC a t k m N s N l q := by
  unfold cntC
  by_cases h1 : q < s
  · rw [if_pos (by omega), if_pos h1]
  · by_cases h2 : q = s
    · rw [if_pos (by omega), if_neg h1, if_pos h2]
    · rw [if_neg (by omega), if_neg h1, if_neg h2]
      split <;> rfl
theorem cntC_other {a : GAuto} {t k m N s L l q : Nat} (h : ¬ (l = dropL a.base t k L ∧ q = s)) : cntC a t k m N s (L + 1) l q = cntC a t k m N s L l q := by
  unfold cntC
  by_cases h1 : q < s
  · rw [if_pos h1, if_pos h1]
  · rw [if_neg h1, if_neg h1]
    by_cases h2 : q = s
    · rw [if_pos h2, if_pos h2, selL_snoc, if_neg fun e => h ⟨e.symm, h2⟩]
    · rw [if_neg h2, if_neg h2]
theorem cntC_at {a : GAuto} {t k m N s L x : Nat} {c : Int} (hx : nx a.next ((s : Nat) : Int) L = ((x : Nat) : Int)) (hxm : x < m) (hc : (cntC a t k m N s L (dropL a.base t k L) s)[x]! = c) : cntC a t k m N s (L + 1) (dropL a.base t k L) s = (cntC a t k m N s L (dropL a.base t k L) s).set x (c + 1) := by
  unfold cntC at hc ⊢
  rw [if_neg (by omega), if_pos rfl] at hc ⊢
  rw [if_neg (by omega), if_pos rfl, selL_snoc, if_pos rfl]
  exact (cntRow_snoc (x := ((L : Nat) : Int)) (by rw [Int.toNat_natCast]; exact hx) hxm hc).symm
theorem cntC_bd {a : GAuto} {t k m N s L l q : Nat} (hL : L ≤ N) : ∀ x ∈ cntC a t k m N s L l q, 0 ≤ x ∧ x ≤ (N : Int) := fun x hx => by
  have h1 := cntRow_bd x hx
  have h2 := selL_len a.base t k l (if q < s then N else if q = s then L else 0)
  have : (if q < s then N else if q = s then L else 0) ≤ N := by split; omega; split <;> omega
  omega
theorem cntC_len {a : GAuto} {t k m N s L l q : Nat} : (cntC a t k m N s L l q).length = m := cntRow_len
/-- Rows of rows of rows. -/
structure RepInv (g : Nat × Nat → Option HR) (tops : List T) (K m : Nat) (C : Nat → Nat → List Int) : Prop where
  len : tops.length = K
  mid : ∀ k, k < K → ∃ h : HR, g (k, 0) = some h ∧ h.e = 35 ∧ h.sz = 1 ∧ tops[k]! = h.raw ∧ h.l.length = m ∧ ∀ s, s < m → ∃ h' : HR, g (k, s + 1) = some h' ∧ h'.e = 3 ∧ h'.sz = 1 ∧ h'.l = iL (C k s) ∧ h.l[s]! = h'.raw
  out : ∀ k s, K ≤ k → g (k, s) = none
theorem RepInv.start (m : Nat) (C : Nat → Nat → List Int) : RepInv (fun _ => none) [] 0 m C := ⟨rfl, fun k hk => by omega, fun _ _ _ => rfl⟩
/-- One matrix that is being made. -/
structure MatInv (g g0 : Nat × Nat → Option HR) (ms : List T) (k m : Nat) (s : Nat) : Prop where
  len : ms.length = m
  old : ∀ k' q, k' ≠ k → g (k', q) = g0 (k', q)
  in_ : ∀ q, q < s → ∃ h' : HR, g (k, q + 1) = some h' ∧ h'.e = 3 ∧ h'.sz = 1 ∧ h'.l = iL (List.replicate m 0) ∧ ms[q]! = h'.raw
  out : ∀ q, (q = 0 ∨ s < q) → g (k, q) = none
  raws : ∀ x ∈ ms, ∃ a n c, x = .raw a n c
theorem MatInv.start {g : Nat × Nat → Option HR} {k m : Nat} (h : ∀ q, g (k, q) = none) : MatInv g g (List.replicate m (.raw none 0 0)) k m 0 :=
  ⟨by simp, fun _ _ _ => rfl, fun q hq => by omega, fun q _ => h q, fun x hx => ⟨none, 0, 0, (List.mem_replicate.1 hx).2⟩⟩
theorem set_bang {ms : List T} {s q : Nat} {x : T} (hs : s < ms.length) : (ms.set s x)[q]! = if s = q then x else ms[q]! := by
  by_cases hq : q < ms.length
  · rw [getElem!_pos (ms.set s x) q (by rw [List.length_set]; exact hq), List.getElem_set]
    split
    · rfl
    · rw [getElem!_pos ms q hq]
  · rw [getElem!_neg (ms.set s x) q (by rw [List.length_set]; exact hq), getElem!_neg ms q hq, if_neg (by omega)]
theorem MatInv.step {g g0 : Nat × Nat → Option HR} {ms : List T} {k m s : Nat} (h : MatInv g g0 ms k m s) (hs : s < m) (c : Option Addr × Nat × Nat) : MatInv (upd g (k, s + 1) (some ⟨c.1, c.2.1, c.2.2, 3, 1, iL (List.replicate m 0)⟩)) g0 (ms.set s (.raw c.1 c.2.1 c.2.2)) k m (s + 1) := by
  have hl := h.len
  have hne : ∀ k' q, ¬ (k' = k ∧ q = s + 1) → upd g (k, s + 1) (some ⟨c.1, c.2.1, c.2.2, 3, 1, iL (List.replicate m 0)⟩) (k', q) = g (k', q) := fun k' q hq => by
    show (if (k', q) = (k, s + 1) then _ else _) = _
    rw [if_neg fun e => hq (by simpa using e)]
  refine ⟨by rw [List.length_set]; exact hl, fun k' q hk => by rw [hne k' q fun e => hk e.1]; exact h.old k' q hk, fun q hq => ?_, fun q hq => by rw [hne k q (by omega)]; exact h.out q (by omega), fun x hx => ?_⟩
  · rw [set_bang (by omega)]
    by_cases e : s = q
    · subst e
      rw [if_pos rfl]
      exact ⟨_, by show (if (k, s + 1) = (k, s + 1) then _ else _) = _; rw [if_pos rfl], rfl, rfl, rfl, rfl⟩
    · rw [if_neg e, hne k (q + 1) (by omega)]
      exact h.in_ q (by omega)
  · rcases List.mem_or_eq_of_mem_set hx with hx | rfl
    · exact h.raws x hx
    · exact ⟨_, _, _, rfl⟩
theorem RepInv.snoc {g g0 : Nat × Nat → Option HR} {tops ms : List T} {k m : Nat} {C : Nat → Nat → List Int} (h : RepInv g0 tops k m C) (hm : MatInv g g0 ms k m m) (c : Option Addr × Nat × Nat) (hC : ∀ s, C k s = List.replicate m 0) :
    RepInv (upd g (k, 0) (some ⟨c.1, c.2.1, c.2.2, 35, 1, ms⟩)) (tops ++ [.raw c.1 c.2.1 c.2.2]) (k + 1) m C := by
  have hl := h.len
  have hne : ∀ k' q, ¬ (k' = k ∧ q = 0) → upd g (k, 0) (some ⟨c.1, c.2.1, c.2.2, 35, 1, ms⟩) (k', q) = g (k', q) := fun k' q hq => by
    show (if (k', q) = (k, 0) then _ else _) = _
    rw [if_neg fun e => hq (by simpa using e)]
  refine ⟨by simp [hl], fun k' hk => ?_, fun k' q hk => by rw [hne k' q (by omega), hm.old k' q (by omega)]; exact h.out k' q (by omega)⟩
  by_cases e : k' = k
  · subst e
    refine ⟨⟨c.1, c.2.1, c.2.2, 35, 1, ms⟩, by show (if (k', 0) = (k', 0) then _ else _) = _; rw [if_pos rfl], rfl, rfl, ?_, hm.len, fun s hs => ?_⟩
    · rw [getElem!_pos _ k' (by simp [hl]), List.getElem_append_right (by omega)]
      simp [HR.raw, hl]
    · rw [hne k' (s + 1) (by omega), hC s]
      exact hm.in_ s hs
  · obtain ⟨r, h1, h2, h3, h4, h5, h6⟩ := h.mid k' (by omega)
    refine ⟨r, by rw [hne k' 0 fun q => e q.1, hm.old k' 0 e]; exact h1, h2, h3, ?_, h5, fun s hs => by rw [hne k' (s + 1) fun q => e q.1, hm.old k' _ e]; exact h6 s hs⟩
    rw [← h4, getElem!_pos _ k' (by simp; omega), List.getElem_append_left (by omega), getElem!_pos tops k' (by omega)]
/-- A number that is put into a matrix. -/
theorem RepInv.put {g : Nat × Nat → Option HR} {tops : List T} {K m : Nat} {C C' : Nat → Nat → List Int} (h : RepInv g tops K m C) {k s : Nat} (hk : k < K) (hs : s < m) {hm hi : HR} (h1 : g (k, 0) = some hm) (h2 : g (k, s + 1) = some hi) (hC : ∀ k' s', ¬ (k' = k ∧ s' = s) → C' k' s' = C k' s') :
    RepInv (upd (upd (upd (upd g (k, 0) none) (k, s + 1) none) (k, s + 1) (some ⟨hi.a, hi.n, hi.cap, hi.e, hi.sz, iL (C' k s)⟩)) (k, 0) (some ⟨hm.a, hm.n, hm.cap, hm.e, hm.sz, hm.l⟩)) tops K m C' := by
  have hg : ∀ x, upd (upd (upd (upd g (k, 0) none) (k, s + 1) none) (k, s + 1) (some ⟨hi.a, hi.n, hi.cap, hi.e, hi.sz, iL (C' k s)⟩)) (k, 0) (some ⟨hm.a, hm.n, hm.cap, hm.e, hm.sz, hm.l⟩) x = if x = (k, s + 1) then some ⟨hi.a, hi.n, hi.cap, hi.e, hi.sz, iL (C' k s)⟩ else g x := fun x => by
    simp only [upd]
    by_cases e1 : x = (k, 0)
    · subst e1
      rw [if_pos rfl, if_neg (by simp), h1]
    · rw [if_neg e1]
      by_cases e2 : x = (k, s + 1)
      · rw [if_pos e2, if_pos e2]
      · rw [if_neg e2, if_neg e2, if_neg e2, if_neg e1]
  refine ⟨h.len, fun k' hk' => ?_, fun k' q hq => by rw [hg, if_neg (by intro e; simp at e; omega)]; exact h.out k' q hq⟩
  obtain ⟨r, q1, q2, q3, q4, q5, q6⟩ := h.mid k' hk'
  refine ⟨r, by rw [hg, if_neg (by simp)]; exact q1, q2, q3, q4, q5, fun s' hs' => ?_⟩
  obtain ⟨r', p1, p2, p3, p4, p5⟩ := q6 s' hs'
  by_cases e : k' = k ∧ s' = s
  · obtain ⟨rfl, rfl⟩ := e
    rw [h2] at p1
    cases p1
    exact ⟨⟨hi.a, hi.n, hi.cap, hi.e, hi.sz, iL (C' k' s')⟩, by rw [hg, if_pos rfl], p2, p3, rfl, p5⟩
  · exact ⟨r', by rw [hg, if_neg (by intro q; apply e; simpa using q)]; exact p1, p2, p3, by rw [hC k' s' e]; exact p4, p5⟩
theorem RepInv.congr {g : Nat × Nat → Option HR} {tops : List T} {K m : Nat} {C C' : Nat → Nat → List Int} (h : RepInv g tops K m C) (hC : ∀ k s, k < K → s < m → C' k s = C k s) : RepInv g tops K m C' :=
  ⟨h.len, fun k hk => by
    obtain ⟨r, q1, q2, q3, q4, q5, q6⟩ := h.mid k hk
    exact ⟨r, q1, q2, q3, q4, q5, fun s hs => by rw [hC k s hk hs]; exact q6 s hs⟩, h.out⟩
theorem RepInv.opens {g : Nat × Nat → Option HR} {tops : List T} {V : List (List (List Int))} {m : Nat} {C : Nat → Nat → List Int} (h : RepInv g tops V.length m C) (hV : ∀ (k : Nat) (M : List (List Int)), V[k]? = some M → M.length = m ∧ ∀ (s : Nat) (q : List Int), M[s]? = some q → C k s = q) :
    (V.map tIntss).length = tops.length ∧ ∀ (i : Nat) (y y' : T), tops[i]? = some y → (V.map tIntss)[i]? = some y' → OpenH g y y' := by
  refine ⟨by rw [List.length_map, h.len], fun k y y' h1 h2 => ?_⟩
  rw [List.getElem?_map, Option.map_eq_some_iff] at h2
  obtain ⟨M, hM, rfl⟩ := h2
  obtain ⟨hMl, hMs⟩ := hV k M hM
  have hkV := (List.getElem?_eq_some_iff.1 hM).1
  obtain ⟨r, q1, q2, q3, q4, q5, q6⟩ := h.mid k hkV
  have ey : y = r.raw := by
    obtain ⟨p1, p2⟩ := List.getElem?_eq_some_iff.1 h1
    rw [← q4, getElem!_pos tops k p1, p2]
  subst ey
  refine .raw (k, 0) r (M.map tInts) q1 (by rw [List.length_map, hMl, q5]) fun s z z' e1 e2 => ?_
  rw [List.getElem?_map, Option.map_eq_some_iff] at e2
  obtain ⟨q, hq, rfl⟩ := e2
  have hsM := (List.getElem?_eq_some_iff.1 hq).1
  obtain ⟨r', p1, p2, p3, p4, p5⟩ := q6 s (by omega)
  have ez : z = r'.raw := by
    obtain ⟨p6, p7⟩ := List.getElem?_eq_some_iff.1 e1
    rw [← p5, getElem!_pos r.l s p6, p7]
  subst ez
  rw [hMs s q hq] at p4
  exact .raw (k, s + 1) r' (iL q) p1 (by rw [p4]) fun i b b' f1 f2 => by
    rw [p4, f2] at f1
    cases f1
    exact .refl _
end Go.Proofs.YthcclcbliedodaaDoor
