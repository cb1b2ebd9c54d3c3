/- Plain laws, data behind worlds, and contracts of functions, for the last text. No conditions. -/
import Derived.Test.YtfhncnhkeodngaaDoorM3
import Derived.Test.YtfhncnhkeodngaaDoorChecked
set_option linter.unusedSimpArgs false
set_option linter.unusedVariables false
set_option linter.unnecessarySimpa false
set_option linter.unusedSectionVars false
namespace Go.Proofs.YtfhncnhkeodngaaDoor
open Go.RowKit

def tt0 : Nat → Option TI
  | 1 => some ⟨.plain, 1, 8, [.t .undef], false⟩
  | 2 => some ⟨.int .i64, 1, 8, [.t (.int .i64 0)], false⟩
  | 3 => some ⟨.int .i64, 1, 8, [.t (.int .i64 0)], false⟩
  | 4 => some ⟨.bool, 1, 1, [.t (.bool false)], false⟩
  | 5 => some ⟨.int .u8, 1, 1, [.t (.int .u8 0)], false⟩
  | 6 => some ⟨.int .u8, 1, 1, [.t (.int .u8 0)], false⟩
  | 7 => some ⟨.struct [(0, 1), (1, 1), (2, 1), (3, 1)], 4, 24, [.t (.int .i64 0), .t (.int .i64 0), .t (.bool false), .t (.int .u8 0)], false⟩
  | _ => none
def tt1 : Nat → Option TI
  | 8 => some ⟨.struct [(0, 1), (1, 1), (2, 1), (3, 1)], 4, 24, [.t (.int .i64 0), .t (.int .i64 0), .t (.bool false), .t (.int .u8 0)], false⟩
  | 9 => some ⟨.str, 1, 16, [.t (.str ByteArray.empty)], false⟩
  | 10 => some ⟨.str, 1, 16, [.t (.str ByteArray.empty)], false⟩
  | 11 => some ⟨.str, 1, 16, [.t (.str ByteArray.empty)], false⟩
  | 12 => some ⟨.int .u64, 1, 8, [.t (.int .u64 0)], false⟩
  | 13 => some ⟨.struct [(0, 1), (1, 1)], 2, 24, [.t (.str ByteArray.empty), .t (.int .u64 0)], false⟩
  | 14 => some ⟨.struct [(0, 1), (1, 1)], 2, 24, [.t (.str ByteArray.empty), .t (.int .u64 0)], false⟩
  | 15 => some ⟨.plain, 1, 8, [.t .undef], false⟩
  | _ => none
def tt2 : Nat → Option TI
  | 16 => some ⟨.plain, 1, 8, [.t .undef], false⟩
  | 17 => some ⟨.plain, 1, 8, [.t .undef], false⟩
  | 18 => some ⟨.struct [(0, 1)], 1, 8, [.t .undef], false⟩
  | 19 => some ⟨.struct [(0, 1)], 1, 8, [.t .undef], false⟩
  | 20 => some ⟨.iface, 1, 16, [.t .nilI], false⟩
  | 21 => some ⟨.int .i32, 1, 4, [.t (.int .i32 0)], false⟩
  | 22 => some ⟨.slice 3, 1, 24, [.nil], false⟩
  | 23 => some ⟨.slice 35, 1, 24, [.nil], false⟩
  | _ => none
def tt3 : Nat → Option TI
  | 24 => some ⟨.struct [(0, 1), (1, 1), (2, 1), (3, 1), (4, 1)], 5, 88, [.t (.int .i64 0), .t (.int .i64 0), .nil, .nil, .nil], false⟩
  | 25 => some ⟨.struct [(0, 1), (1, 1), (2, 1), (3, 1), (4, 1)], 5, 88, [.t (.int .i64 0), .t (.int .i64 0), .nil, .nil, .nil], false⟩
  | 26 => some ⟨.int .i64, 1, 8, [.t (.int .i64 0)], false⟩
  | 28 => some ⟨.plain, 1, 8, [.t .undef], false⟩
  | 29 => some ⟨.iface, 1, 16, [.t .nilI], false⟩
  | 30 => some ⟨.iface, 1, 16, [.t .nilI], false⟩
  | _ => none
def tt4 : Nat → Option TI
  | 32 => some ⟨.plain, 1, 8, [.t .undef], false⟩
  | 33 => some ⟨.plain, 1, 8, [.t .undef], false⟩
  | 34 => some ⟨.plain, 1, 8, [.t .undef], false⟩
  | 35 => some ⟨.slice 22, 1, 24, [.nil], false⟩
  | 36 => some ⟨.struct [(0, 1), (1, 1), (2, 1)], 3, 56, [.t (.int .i64 0), .nil, .nil], false⟩
  | 37 => some ⟨.struct [(0, 1), (1, 1), (2, 1)], 3, 56, [.t (.int .i64 0), .nil, .nil], false⟩
  | 39 => some ⟨.plain, 1, 8, [.t .undef], false⟩
  | _ => none
def tt5 : Nat → Option TI
  | 41 => some ⟨.plain, 1, 8, [.t .undef], false⟩
  | 42 => some ⟨.plain, 1, 8, [.t .undef], false⟩
  | 43 => some ⟨.plain, 1, 8, [.t .undef], false⟩
  | 44 => some ⟨.plain, 1, 8, [.t .undef], false⟩
  | 45 => some ⟨.plain, 1, 8, [.t .undef], false⟩
  | 47 => some ⟨.plain, 1, 8, [.t .undef], false⟩
  | _ => none
def tt6 : Nat → Option TI
  | 48 => some ⟨.plain, 1, 8, [.t .undef], false⟩
  | 49 => some ⟨.slice 4, 1, 24, [.nil], false⟩
  | 50 => some ⟨.struct [(0, 1), (1, 1), (2, 1), (3, 1)], 4, 64, [.t (.int .i64 0), .t (.int .i64 0), .nil, .nil], false⟩
  | 51 => some ⟨.struct [(0, 1), (1, 1), (2, 1), (3, 1)], 4, 64, [.t (.int .i64 0), .t (.int .i64 0), .nil, .nil], false⟩
  | 52 => some ⟨.plain, 1, 8, [.t .undef], false⟩
  | 54 => some ⟨.plain, 1, 8, [.t .undef], false⟩
  | 55 => some ⟨.plain, 1, 8, [.t .undef], false⟩
  | _ => none
def tt7 : Nat → Option TI
  | 56 => some ⟨.plain, 1, 8, [.t .undef], false⟩
  | 58 => some ⟨.plain, 1, 8, [.t .undef], false⟩
  | 59 => some ⟨.plain, 1, 8, [.t .undef], false⟩
  | 60 => some ⟨.plain, 1, 8, [.t .undef], false⟩
  | 61 => some ⟨.slice 111, 1, 24, [.nil], false⟩
  | 62 => some ⟨.plain, 1, 8, [.t .undef], false⟩
  | 63 => some ⟨.plain, 1, 8, [.t .undef], false⟩
  | _ => none
def tt8 : Nat → Option TI
  | 64 => some ⟨.plain, 1, 8, [.t .undef], false⟩
  | 66 => some ⟨.plain, 1, 8, [.t .undef], false⟩
  | 67 => some ⟨.plain, 1, 8, [.t .undef], false⟩
  | 69 => some ⟨.plain, 1, 8, [.t .undef], false⟩
  | 71 => some ⟨.plain, 1, 8, [.t .undef], false⟩
  | _ => none
def tt9 : Nat → Option TI
  | 72 => some ⟨.plain, 1, 8, [.t .undef], false⟩
  | 73 => some ⟨.plain, 1, 8, [.t .undef], false⟩
  | 74 => some ⟨.plain, 1, 8, [.t .undef], false⟩
  | 75 => some ⟨.plain, 1, 8, [.t .undef], false⟩
  | 76 => some ⟨.plain, 1, 8, [.t .undef], false⟩
  | 78 => some ⟨.plain, 1, 8, [.t .undef], false⟩
  | _ => none
def tt10 : Nat → Option TI
  | 80 => some ⟨.plain, 1, 8, [.t .undef], false⟩
  | 81 => some ⟨.plain, 1, 8, [.t .undef], false⟩
  | 82 => some ⟨.plain, 1, 8, [.t .undef], false⟩
  | 83 => some ⟨.plain, 1, 8, [.t .undef], false⟩
  | 84 => some ⟨.plain, 1, 8, [.t .undef], false⟩
  | 86 => some ⟨.plain, 1, 8, [.t .undef], false⟩
  | 87 => some ⟨.plain, 1, 8, [.t .undef], false⟩
  | _ => none
def tt11 : Nat → Option TI
  | 88 => some ⟨.plain, 1, 8, [.t .undef], false⟩
  | 89 => some ⟨.plain, 1, 8, [.t .undef], false⟩
  | 90 => some ⟨.plain, 1, 8, [.t .undef], false⟩
  | 91 => some ⟨.plain, 1, 8, [.t .undef], false⟩
  | 92 => some ⟨.plain, 1, 8, [.t .undef], false⟩
  | 93 => some ⟨.plain, 1, 8, [.t .undef], false⟩
  | 94 => some ⟨.plain, 1, 8, [.t .undef], false⟩
  | 95 => some ⟨.plain, 1, 8, [.t .undef], false⟩
  | _ => none
def tt12 : Nat → Option TI
  | 96 => some ⟨.plain, 1, 8, [.t .undef], false⟩
  | 97 => some ⟨.plain, 1, 8, [.t .undef], false⟩
  | 98 => some ⟨.plain, 1, 8, [.t .undef], false⟩
  | 99 => some ⟨.plain, 1, 8, [.t .undef], false⟩
  | 100 => some ⟨.plain, 1, 8, [.t .undef], false⟩
  | 101 => some ⟨.plain, 1, 8, [.t .undef], false⟩
  | 102 => some ⟨.plain, 1, 8, [.t .undef], false⟩
  | 103 => some ⟨.plain, 1, 8, [.t .undef], false⟩
  | _ => none
def tt13 : Nat → Option TI
  | 104 => some ⟨.plain, 1, 8, [.t .undef], false⟩
  | 105 => some ⟨.plain, 1, 8, [.t .undef], false⟩
  | 106 => some ⟨.plain, 1, 8, [.t .undef], false⟩
  | 107 => some ⟨.plain, 1, 8, [.t .undef], false⟩
  | 108 => some ⟨.plain, 1, 8, [.t .undef], false⟩
  | 109 => some ⟨.plain, 1, 8, [.t .undef], false⟩
  | 110 => some ⟨.struct [(0, 1), (1, 1), (2, 1), (3, 1), (4, 1), (5, 1), (6, 1)], 7, 72, [.t (.int .i64 0), .t (.int .i64 0), .t (.int .i64 0), .t (.int .i64 0), .t (.int .i64 0), .t (.int .i64 0), .nil], false⟩
  | 111 => some ⟨.struct [(0, 1), (1, 1), (2, 1), (3, 1), (4, 1), (5, 1), (6, 1)], 7, 72, [.t (.int .i64 0), .t (.int .i64 0), .t (.int .i64 0), .t (.int .i64 0), .t (.int .i64 0), .t (.int .i64 0), .nil], false⟩
  | _ => none
def tt14 : Nat → Option TI
  | 112 => some ⟨.plain, 1, 8, [.t .undef], false⟩
  | 113 => some ⟨.plain, 1, 8, [.t .undef], false⟩
  | 114 => some ⟨.array 5 4, 5, 5, [.t (.bool false), .t (.bool false), .t (.bool false), .t (.bool false), .t (.bool false)], false⟩
  | 115 => some ⟨.array 5 4, 5, 5, [.t (.bool false), .t (.bool false), .t (.bool false), .t (.bool false), .t (.bool false)], false⟩
  | 117 => some ⟨.plain, 1, 8, [.t .undef], false⟩
  | 118 => some ⟨.plain, 1, 8, [.t .undef], false⟩
  | 119 => some ⟨.array 5 3, 5, 40, [.t (.int .i64 0), .t (.int .i64 0), .t (.int .i64 0), .t (.int .i64 0), .t (.int .i64 0)], false⟩
  | _ => none
def tt15 : Nat → Option TI
  | 121 => some ⟨.plain, 1, 8, [.t .undef], false⟩
  | 122 => some ⟨.plain, 1, 8, [.t .undef], false⟩
  | 123 => some ⟨.plain, 1, 8, [.t .undef], false⟩
  | 124 => some ⟨.plain, 1, 8, [.t .undef], false⟩
  | 125 => some ⟨.plain, 1, 8, [.t .undef], false⟩
  | 126 => some ⟨.plain, 1, 8, [.t .undef], false⟩
  | 127 => some ⟨.plain, 1, 8, [.t .undef], false⟩
  | _ => none
def tt16 : Nat → Option TI
  | 128 => some ⟨.plain, 1, 8, [.t .undef], false⟩
  | 129 => some ⟨.plain, 1, 8, [.t .undef], false⟩
  | 130 => some ⟨.struct [(0, 1), (1, 1)], 2, 16, [.t (.int .i64 0), .t (.int .i64 0)], true⟩
  | 131 => some ⟨.struct [(0, 1), (1, 1)], 2, 16, [.t (.int .i64 0), .t (.int .i64 0)], true⟩
  | 132 => some ⟨.plain, 1, 8, [.t .undef], false⟩
  | 133 => some ⟨.map (.ints 2) 131 3, 1, 8, [.t .undef], false⟩
  | 134 => some ⟨.slice 131, 1, 24, [.nil], false⟩
  | 135 => some ⟨.plain, 1, 8, [.t .undef], false⟩
  | _ => none
def tt17 : Nat → Option TI
  | 136 => some ⟨.plain, 1, 8, [.t .undef], false⟩
  | 137 => some ⟨.plain, 1, 8, [.t .undef], false⟩
  | 138 => some ⟨.plain, 1, 8, [.t .undef], false⟩
  | 139 => some ⟨.plain, 1, 8, [.t .undef], false⟩
  | 140 => some ⟨.plain, 1, 8, [.t .undef], false⟩
  | 141 => some ⟨.plain, 1, 8, [.t .undef], false⟩
  | 142 => some ⟨.plain, 1, 8, [.t .undef], false⟩
  | 143 => some ⟨.plain, 1, 8, [.t .undef], false⟩
  | _ => none
def tt18 : Nat → Option TI
  | 144 => some ⟨.plain, 1, 8, [.t .undef], false⟩
  | 146 => some ⟨.plain, 1, 8, [.t .undef], false⟩
  | 147 => some ⟨.plain, 1, 8, [.t .undef], false⟩
  | 148 => some ⟨.array 3 3, 3, 24, [.t (.int .i64 0), .t (.int .i64 0), .t (.int .i64 0)], false⟩
  | 149 => some ⟨.array 3 3, 3, 24, [.t (.int .i64 0), .t (.int .i64 0), .t (.int .i64 0)], false⟩
  | 150 => some ⟨.map (.ints 3) 149 3, 1, 8, [.t .undef], false⟩
  | 151 => some ⟨.slice 149, 1, 24, [.nil], false⟩
  | _ => none
def tt19 : Nat → Option TI
  | 152 => some ⟨.struct [(0, 1), (1, 1)], 2, 16, [.t (.int .i64 0), .t (.int .i64 0)], true⟩
  | 153 => some ⟨.struct [(0, 1), (1, 1)], 2, 16, [.t (.int .i64 0), .t (.int .i64 0)], true⟩
  | 154 => some ⟨.map (.ints 2) 153 3, 1, 8, [.t .undef], false⟩
  | 155 => some ⟨.slice 153, 1, 24, [.nil], false⟩
  | 157 => some ⟨.int .u64, 1, 8, [.t (.int .u64 0)], false⟩
  | 158 => some ⟨.struct [(0, 1), (1, 1), (2, 1)], 3, 24, [.t .undef, .t .undef, .t (.int .u64 0)], false⟩
  | 159 => some ⟨.struct [(0, 1), (1, 1), (2, 1)], 3, 24, [.t .undef, .t .undef, .t (.int .u64 0)], false⟩
  | _ => none
def tt20 : Nat → Option TI
  | 160 => some ⟨.plain, 1, 8, [.t .undef], false⟩
  | 161 => some ⟨.iface, 1, 16, [.t .nilI], false⟩
  | 162 => some ⟨.iface, 1, 16, [.t .nilI], false⟩
  | 163 => some ⟨.plain, 1, 8, [.t .undef], false⟩
  | 164 => some ⟨.int .u8, 1, 1, [.t (.int .u8 0)], false⟩
  | 165 => some ⟨.plain, 1, 8, [.t .undef], false⟩
  | 166 => some ⟨.plain, 1, 8, [.t .undef], false⟩
  | 167 => some ⟨.plain, 1, 8, [.t .undef], false⟩
  | _ => none
def tt21 : Nat → Option TI
  | 168 => some ⟨.plain, 1, 8, [.t .undef], false⟩
  | 169 => some ⟨.array 64 3, 64, 512, [.t (.int .i64 0), .t (.int .i64 0), .t (.int .i64 0), .t (.int .i64 0), .t (.int .i64 0), .t (.int .i64 0), .t (.int .i64 0), .t (.int .i64 0), .t (.int .i64 0), .t (.int .i64 0), .t (.int .i64 0), .t (.int .i64 0), .t (.int .i64 0), .t (.int .i64 0), .t (.int .i64 0), .t (.int .i64 0), .t (.int .i64 0), .t (.int .i64 0), .t (.int .i64 0), .t (.int .i64 0), .t (.int .i64 0), .t (.int .i64 0), .t (.int .i64 0), .t (.int .i64 0), .t (.int .i64 0), .t (.int .i64 0), .t (.int .i64 0), .t (.int .i64 0), .t (.int .i64 0), .t (.int .i64 0), .t (.int .i64 0), .t (.int .i64 0), .t (.int .i64 0), .t (.int .i64 0), .t (.int .i64 0), .t (.int .i64 0), .t (.int .i64 0), .t (.int .i64 0), .t (.int .i64 0), .t (.int .i64 0), .t (.int .i64 0), .t (.int .i64 0), .t (.int .i64 0), .t (.int .i64 0), .t (.int .i64 0), .t (.int .i64 0), .t (.int .i64 0), .t (.int .i64 0), .t (.int .i64 0), .t (.int .i64 0), .t (.int .i64 0), .t (.int .i64 0), .t (.int .i64 0), .t (.int .i64 0), .t (.int .i64 0), .t (.int .i64 0), .t (.int .i64 0), .t (.int .i64 0), .t (.int .i64 0), .t (.int .i64 0), .t (.int .i64 0), .t (.int .i64 0), .t (.int .i64 0), .t (.int .i64 0)], false⟩
  | 170 => some ⟨.plain, 1, 8, [.t .undef], false⟩
  | 171 => some ⟨.plain, 1, 8, [.t .undef], false⟩
  | 172 => some ⟨.map (.str) 9 3, 1, 8, [.t .undef], false⟩
  | 173 => some ⟨.slice 5, 1, 24, [.nil], false⟩
  | 174 => some ⟨.int .u64, 1, 8, [.t (.int .u64 0)], false⟩
  | 175 => some ⟨.struct [(0, 1)], 1, 8, [.t .undef], false⟩
  | _ => none
def tt22 : Nat → Option TI
  | 176 => some ⟨.struct [(0, 1)], 1, 8, [.t .undef], false⟩
  | 177 => some ⟨.plain, 1, 8, [.t .undef], false⟩
  | 178 => some ⟨.plain, 1, 8, [.t .undef], false⟩
  | 179 => some ⟨.plain, 1, 8, [.t .undef], false⟩
  | 180 => some ⟨.plain, 1, 8, [.t .undef], false⟩
  | 181 => some ⟨.iface, 1, 16, [.t .nilI], false⟩
  | 183 => some ⟨.plain, 1, 8, [.t .undef], false⟩
  | _ => none
def tt23 : Nat → Option TI
  | 184 => some ⟨.iface, 1, 16, [.t .nilI], false⟩
  | 185 => some ⟨.plain, 1, 8, [.t .undef], false⟩
  | 186 => some ⟨.iface, 1, 16, [.t .nilI], false⟩
  | 187 => some ⟨.slice 30, 1, 24, [.nil], false⟩
  | 188 => some ⟨.plain, 1, 8, [.t .undef], false⟩
  | 189 => some ⟨.plain, 1, 8, [.t .undef], false⟩
  | 190 => some ⟨.struct [(0, 1), (1, 1), (2, 1), (3, 1)], 4, 40, [.t .undef, .t .undef, .t .undef, .t (.str ByteArray.empty)], false⟩
  | 191 => some ⟨.struct [(0, 1), (1, 1), (2, 1), (3, 1)], 4, 40, [.t .undef, .t .undef, .t .undef, .t (.str ByteArray.empty)], false⟩
  | _ => none
def tt24 : Nat → Option TI
  | 195 => some ⟨.plain, 1, 8, [.t .undef], false⟩
  | 196 => some ⟨.plain, 1, 8, [.t .undef], false⟩
  | 197 => some ⟨.int .u32, 1, 4, [.t (.int .u32 0)], false⟩
  | 198 => some ⟨.int .u8, 1, 1, [.t (.int .u8 0)], false⟩
  | 199 => some ⟨.plain, 1, 8, [.t .undef], false⟩
  | _ => none
def tt25 : Nat → Option TI
  | 200 => some ⟨.plain, 1, 8, [.t .undef], false⟩
  | 201 => some ⟨.int .i32, 1, 4, [.t (.int .i32 0)], false⟩
  | 202 => some ⟨.int .i32, 1, 4, [.t (.int .i32 0)], false⟩
  | 203 => some ⟨.struct [(0, 1), (1, 1), (2, 1), (3, 1), (4, 1), (5, 1), (6, 1), (7, 1), (8, 1), (9, 1), (10, 1)], 11, 48, [.t (.int .u64 0), .t (.int .u64 0), .t (.int .u32 0), .t (.int .u8 0), .t (.int .u8 0), .t (.int .u8 0), .t (.int .u8 0), .t .undef, .t .undef, .t (.int .i32 0), .t (.int .i32 0)], false⟩
  | 204 => some ⟨.struct [(0, 1), (1, 1), (2, 1), (3, 1), (4, 1), (5, 1), (6, 1), (7, 1), (8, 1), (9, 1), (10, 1)], 11, 48, [.t (.int .u64 0), .t (.int .u64 0), .t (.int .u32 0), .t (.int .u8 0), .t (.int .u8 0), .t (.int .u8 0), .t (.int .u8 0), .t .undef, .t .undef, .t (.int .i32 0), .t (.int .i32 0)], false⟩
  | 205 => some ⟨.plain, 1, 8, [.t .undef], false⟩
  | 206 => some ⟨.plain, 1, 8, [.t .undef], false⟩
  | 207 => some ⟨.struct [(0, 1), (1, 1)], 2, 24, [.t (.str ByteArray.empty), .t (.int .u8 0)], false⟩
  | _ => none
def tt26 : Nat → Option TI
  | 208 => some ⟨.struct [(0, 1), (1, 1)], 2, 24, [.t (.str ByteArray.empty), .t (.int .u8 0)], false⟩
  | 209 => some ⟨.plain, 1, 8, [.t .undef], false⟩
  | 210 => some ⟨.plain, 1, 8, [.t .undef], false⟩
  | 211 => some ⟨.int .u16, 1, 2, [.t (.int .u16 0)], false⟩
  | 212 => some ⟨.struct [(0, 1), (1, 1), (2, 1), (3, 1), (4, 1)], 5, 16, [.t (.int .i32 0), .t (.int .u16 0), .t (.int .u16 0), .t (.int .u32 0), .t (.int .u32 0)], false⟩
  | 213 => some ⟨.struct [(0, 1), (1, 1), (2, 1), (3, 1), (4, 1)], 5, 16, [.t (.int .i32 0), .t (.int .u16 0), .t (.int .u16 0), .t (.int .u32 0), .t (.int .u32 0)], false⟩
  | 214 => some ⟨.slice 217, 1, 24, [.nil], false⟩
  | 215 => some ⟨.int .i32, 1, 4, [.t (.int .i32 0)], false⟩
  | _ => none
def tt27 : Nat → Option TI
  | 216 => some ⟨.struct [(0, 1), (1, 1), (2, 1), (3, 1)], 4, 16, [.t (.int .i32 0), .t (.int .i32 0), .t (.int .i32 0), .t (.int .i32 0)], false⟩
  | 217 => some ⟨.struct [(0, 1), (1, 1), (2, 1), (3, 1)], 4, 16, [.t (.int .i32 0), .t (.int .i32 0), .t (.int .i32 0), .t (.int .i32 0)], false⟩
  | 218 => some ⟨.plain, 1, 8, [.t .undef], false⟩
  | _ => none
def tts0 (n : Nat) : Nat → Option TI
  | 0 => tt0 n
  | 1 => tt1 n
  | 2 => tt2 n
  | 3 => tt3 n
  | 4 => tt4 n
  | 5 => tt5 n
  | 6 => tt6 n
  | 7 => tt7 n
  | _ => none
def tts1 (n : Nat) : Nat → Option TI
  | 8 => tt8 n
  | 9 => tt9 n
  | 10 => tt10 n
  | 11 => tt11 n
  | 12 => tt12 n
  | 13 => tt13 n
  | 14 => tt14 n
  | 15 => tt15 n
  | _ => none
def tts2 (n : Nat) : Nat → Option TI
  | 16 => tt16 n
  | 17 => tt17 n
  | 18 => tt18 n
  | 19 => tt19 n
  | 20 => tt20 n
  | 21 => tt21 n
  | 22 => tt22 n
  | 23 => tt23 n
  | _ => none
def tts3 (n : Nat) : Nat → Option TI
  | 24 => tt24 n
  | 25 => tt25 n
  | 26 => tt26 n
  | 27 => tt27 n
  | _ => none
def tt (n : Nat) : Option TI := match n / 64 with
  | 0 => tts0 n (n / 8)
  | 1 => tts1 n (n / 8)
  | 2 => tts2 n (n / 8)
  | 3 => tts3 n (n / 8)
  | _ => none
set_option maxRecDepth 100000
theorem laid : laidOutB Tryd.prog = true := by kernel_rfl
theorem small : Tryd.prog.types.size + 2 ≤ 10000 := of_decide_eq_true (by kernel_rfl)
theorem tt0_ok : TTok Tryd.prog tt0 := by
  intro t i h
  unfold tt0 at h
  split at h <;> first
    | (cases h; exact chkTI_ok laid small (by kernel_rfl))
    | cases h
theorem tt1_ok : TTok Tryd.prog tt1 := by
  intro t i h
  unfold tt1 at h
  split at h <;> first
    | (cases h; exact chkTI_ok laid small (by kernel_rfl))
    | cases h
theorem tt2_ok : TTok Tryd.prog tt2 := by
  intro t i h
  unfold tt2 at h
  split at h <;> first
    | (cases h; exact chkTI_ok laid small (by kernel_rfl))
    | cases h
theorem tt3_ok : TTok Tryd.prog tt3 := by
  intro t i h
  unfold tt3 at h
  split at h <;> first
    | (cases h; exact chkTI_ok laid small (by kernel_rfl))
    | cases h
theorem tt4_ok : TTok Tryd.prog tt4 := by
  intro t i h
  unfold tt4 at h
  split at h <;> first
    | (cases h; exact chkTI_ok laid small (by kernel_rfl))
    | cases h
theorem tt5_ok : TTok Tryd.prog tt5 := by
  intro t i h
  unfold tt5 at h
  split at h <;> first
    | (cases h; exact chkTI_ok laid small (by kernel_rfl))
    | cases h
theorem tt6_ok : TTok Tryd.prog tt6 := by
  intro t i h
  unfold tt6 at h
  split at h <;> first
    | (cases h; exact chkTI_ok laid small (by kernel_rfl))
    | cases h
theorem tt7_ok : TTok Tryd.prog tt7 := by
  intro t i h
  unfold tt7 at h
  split at h <;> first
    | (cases h; exact chkTI_ok laid small (by kernel_rfl))
    | cases h
theorem tt8_ok : TTok Tryd.prog tt8 := by
  intro t i h
  unfold tt8 at h
  split at h <;> first
    | (cases h; exact chkTI_ok laid small (by kernel_rfl))
    | cases h
theorem tt9_ok : TTok Tryd.prog tt9 := by
  intro t i h
  unfold tt9 at h
  split at h <;> first
    | (cases h; exact chkTI_ok laid small (by kernel_rfl))
    | cases h
theorem tt10_ok : TTok Tryd.prog tt10 := by
  intro t i h
  unfold tt10 at h
  split at h <;> first
    | (cases h; exact chkTI_ok laid small (by kernel_rfl))
    | cases h
theorem tt11_ok : TTok Tryd.prog tt11 := by
  intro t i h
  unfold tt11 at h
  split at h <;> first
    | (cases h; exact chkTI_ok laid small (by kernel_rfl))
    | cases h
theorem tt12_ok : TTok Tryd.prog tt12 := by
  intro t i h
  unfold tt12 at h
  split at h <;> first
    | (cases h; exact chkTI_ok laid small (by kernel_rfl))
    | cases h
theorem tt13_ok : TTok Tryd.prog tt13 := by
  intro t i h
  unfold tt13 at h
  split at h <;> first
    | (cases h; exact chkTI_ok laid small (by kernel_rfl))
    | cases h
theorem tt14_ok : TTok Tryd.prog tt14 := by
  intro t i h
  unfold tt14 at h
  split at h <;> first
    | (cases h; exact chkTI_ok laid small (by kernel_rfl))
    | cases h
theorem tt15_ok : TTok Tryd.prog tt15 := by
  intro t i h
  unfold tt15 at h
  split at h <;> first
    | (cases h; exact chkTI_ok laid small (by kernel_rfl))
    | cases h
theorem tt16_ok : TTok Tryd.prog tt16 := by
  intro t i h
  unfold tt16 at h
  split at h <;> first
    | (cases h; exact chkTI_ok laid small (by kernel_rfl))
    | cases h
theorem tt17_ok : TTok Tryd.prog tt17 := by
  intro t i h
  unfold tt17 at h
  split at h <;> first
    | (cases h; exact chkTI_ok laid small (by kernel_rfl))
    | cases h
theorem tt18_ok : TTok Tryd.prog tt18 := by
  intro t i h
  unfold tt18 at h
  split at h <;> first
    | (cases h; exact chkTI_ok laid small (by kernel_rfl))
    | cases h
theorem tt19_ok : TTok Tryd.prog tt19 := by
  intro t i h
  unfold tt19 at h
  split at h <;> first
    | (cases h; exact chkTI_ok laid small (by kernel_rfl))
    | cases h
theorem tt20_ok : TTok Tryd.prog tt20 := by
  intro t i h
  unfold tt20 at h
  split at h <;> first
    | (cases h; exact chkTI_ok laid small (by kernel_rfl))
    | cases h
theorem tt21_ok : TTok Tryd.prog tt21 := by
  intro t i h
  unfold tt21 at h
  split at h <;> first
    | (cases h; exact chkTI_ok laid small (by kernel_rfl))
    | cases h
theorem tt22_ok : TTok Tryd.prog tt22 := by
  intro t i h
  unfold tt22 at h
  split at h <;> first
    | (cases h; exact chkTI_ok laid small (by kernel_rfl))
    | cases h
theorem tt23_ok : TTok Tryd.prog tt23 := by
  intro t i h
  unfold tt23 at h
  split at h <;> first
    | (cases h; exact chkTI_ok laid small (by kernel_rfl))
    | cases h
theorem tt24_ok : TTok Tryd.prog tt24 := by
  intro t i h
  unfold tt24 at h
  split at h <;> first
    | (cases h; exact chkTI_ok laid small (by kernel_rfl))
    | cases h
theorem tt25_ok : TTok Tryd.prog tt25 := by
  intro t i h
  unfold tt25 at h
  split at h <;> first
    | (cases h; exact chkTI_ok laid small (by kernel_rfl))
    | cases h
theorem tt26_ok : TTok Tryd.prog tt26 := by
  intro t i h
  unfold tt26 at h
  split at h <;> first
    | (cases h; exact chkTI_ok laid small (by kernel_rfl))
    | cases h
theorem tt27_ok : TTok Tryd.prog tt27 := by
  intro t i h
  unfold tt27 at h
  split at h <;> first
    | (cases h; exact chkTI_ok laid small (by kernel_rfl))
    | cases h
theorem tts0_ok (k : Nat) : TTok Tryd.prog (fun n => tts0 n k) := by
  intro t i h
  unfold tts0 at h
  split at h <;> first
    | exact tt0_ok _ _ h
    | exact tt1_ok _ _ h
    | exact tt2_ok _ _ h
    | exact tt3_ok _ _ h
    | exact tt4_ok _ _ h
    | exact tt5_ok _ _ h
    | exact tt6_ok _ _ h
    | exact tt7_ok _ _ h
    | cases h
theorem tts1_ok (k : Nat) : TTok Tryd.prog (fun n => tts1 n k) := by
  intro t i h
  unfold tts1 at h
  split at h <;> first
    | exact tt8_ok _ _ h
    | exact tt9_ok _ _ h
    | exact tt10_ok _ _ h
    | exact tt11_ok _ _ h
    | exact tt12_ok _ _ h
    | exact tt13_ok _ _ h
    | exact tt14_ok _ _ h
    | exact tt15_ok _ _ h
    | cases h
theorem tts2_ok (k : Nat) : TTok Tryd.prog (fun n => tts2 n k) := by
  intro t i h
  unfold tts2 at h
  split at h <;> first
    | exact tt16_ok _ _ h
    | exact tt17_ok _ _ h
    | exact tt18_ok _ _ h
    | exact tt19_ok _ _ h
    | exact tt20_ok _ _ h
    | exact tt21_ok _ _ h
    | exact tt22_ok _ _ h
    | exact tt23_ok _ _ h
    | cases h
theorem tts3_ok (k : Nat) : TTok Tryd.prog (fun n => tts3 n k) := by
  intro t i h
  unfold tts3 at h
  split at h <;> first
    | exact tt24_ok _ _ h
    | exact tt25_ok _ _ h
    | exact tt26_ok _ _ h
    | exact tt27_ok _ _ h
    | cases h
theorem tt_ok : TTok Tryd.prog tt := by
  intro t i h
  unfold tt at h
  split at h <;> first
    | exact tts0_ok _ _ _ h
    | exact tts1_ok _ _ _ h
    | exact tts2_ok _ _ _ h
    | exact tts3_ok _ _ _ h
    | cases h
end Go.Proofs.YtfhncnhkeodngaaDoor
namespace Go.Proofs.YtfhncnhkeodngaaDoor
open Go.RowKit

attribute [go_sem] nLe nNle nLt nNlt nEq nNe iLe iNle iLt iNlt iEq iNe
attribute [go_sem] runOps stepOp stepOp0 stepOp1 evalOp dstOk St.ev.eq_1 St.ev.eq_2 St.ev.eq_3 St.ev.eq_4 ofConst St.get
attribute [go_sem] St.put look T.bin isConst mkFn allT St.len St.lst St.obj St.load loadT loadS
attribute [go_sem] mkAgg TK.isAgg St.index treeIndex SV.plus T.cells T.max2 T.min2 fillS SV.storable T.storable SV.cells
attribute [go_sem] St.litS idxOk zipFrz frz frzC frzL St.append St.appLen scrub St.bd SV.ren renL
attribute [go_sem] Ob.ren St.store T.put TI.zT SV.toT0 List.length_replicate List.getElem?_replicate Nat.one_mul Nat.mul_one List.isEmpty_cons List.isEmpty_nil or_self
attribute [go_sem] true_or or_true false_or or_false and_self decide_eq_true_eq if_true if_false ite_true ite_false Option.getD_some Option.getD_none
attribute [go_sem] Option.map_some Option.map_none Option.bind_some Option.bind_none decide_true decide_false Bool.true_and Bool.and_true Bool.false_and Bool.and_false Bool.not_true Bool.not_false
attribute [go_sem] beq_self_eq_true List.getElem?_cons_zero List.getElem?_cons_succ List.map_cons List.map_nil List.cons_append List.nil_append List.length_cons List.length_nil List.toList_toArray true_and and_true
attribute [go_sem] false_and and_false List.all_cons List.all_nil List.drop_zero List.drop_succ_cons List.take_succ_cons List.take_zero List.head?_cons List.set_cons_zero List.set_cons_succ Bool.or_true
attribute [go_sem] Bool.true_or Bool.or_false Bool.false_or ne_eq not_true_eq_false not_false_eq_true Nat.zero_add List.getElem?_toArray tInt tNat tInts tBools
attribute [go_sem] tIntss wrap_i64 List.getElem?_map List.length_map Int.toNat_natCast List.all_map stepX stepX0 evalX St.callR findCo
attribute [go_sem] St.litQ St.sliceQ St.rdL St.rd St.trL St.tr T.flatData flatAll lookR St.mapUp St.slice strSlice
attribute [go_sem] T.okKey T.inR bytesOf eq_self stepI quietOp St.ownAll St.own setSlot true_implies implies_true false_implies
attribute [go_sem] keepL reach addNew refsL SV.refs Ob.refs List.append_nil List.mem_cons List.not_mem_nil List.getElem?_nil posIn St.resL
attribute [go_sem] St.res1 St.gc St.head
theorem gb_a (l : List Int) (k : Nat) (h : k < l.length) : l[k]? = some l[k]! := get_bang l k h
theorem gb_b (l : List Bool) (k : Nat) (h : k < l.length) : l[k]? = some l[k]! := get_bang l k h
theorem gb_c (l : List (List Int)) (k : Nat) (h : k < l.length) : l[k]? = some l[k]! := get_bang l k h
theorem gb_d (l : List Nat) (k : Nat) (h : k < l.length) : l[k]? = some l[k]! := get_bang l k h
theorem gb_e (l : List T) (k : Nat) (h : k < l.length) : l[k]? = some l[k]! := get_bang l k h
theorem gb_f (l : List (List (List Int))) (k : Nat) (h : k < l.length) : l[k]? = some l[k]! := get_bang l k h
theorem gb_g (l : List (List Bool)) (k : Nat) (h : k < l.length) : l[k]? = some l[k]! := get_bang l k h
theorem gb_h (l : List (List Nat)) (k : Nat) (h : k < l.length) : l[k]? = some l[k]! := get_bang l k h
theorem gb_i (l : List (List (List (List Int)))) (k : Nat) (h : k < l.length) : l[k]? = some l[k]! := get_bang l k h
theorem gb_j (l : List (Int × Int)) (k : Nat) (h : k < l.length) : l[k]? = some l[k]! := get_bang l k h
theorem gb_k (l : List (Nat × Nat)) (k : Nat) (h : k < l.length) : l[k]? = some l[k]! := get_bang l k h
theorem gb_l (l : List UInt8) (k : Nat) (h : k < l.length) : l[k]? = some l[k]! := get_bang l k h
theorem gb_m (l : List (List T)) (k : Nat) (h : k < l.length) : l[k]? = some l[k]! := get_bang l k h
theorem gb_n (l : List String) (k : Nat) (h : k < l.length) : l[k]? = some l[k]! := get_bang l k h
theorem gb_o (l : List (Int × Int × Int)) (k : Nat) (h : k < l.length) : l[k]? = some l[k]! := get_bang l k h
theorem gb_p (l : List (T × T)) (k : Nat) (h : k < l.length) : l[k]? = some l[k]! := get_bang l k h
theorem gb_q (l : List (List (Int × Int))) (k : Nat) (h : k < l.length) : l[k]? = some l[k]! := get_bang l k h
theorem gb_r (l : List (Nat × Nat × Nat)) (k : Nat) (h : k < l.length) : l[k]? = some l[k]! := get_bang l k h
theorem gb_s (l : List (List UInt8)) (k : Nat) (h : k < l.length) : l[k]? = some l[k]! := get_bang l k h
theorem gb_t (l : List (List (T × T))) (k : Nat) (h : k < l.length) : l[k]? = some l[k]! := get_bang l k h
theorem gb_u (l : List (List (Int × Int))) (k : Nat) (h : k < l.length) : l[k]? = some l[k]! := get_bang l k h
attribute [go_sem] gb_a gb_b gb_c gb_d gb_e gb_f gb_g gb_h gb_i gb_j gb_k gb_l gb_m gb_n gb_o gb_p gb_q gb_r gb_s gb_t gb_u
attribute [go_sem] T.beqA eqIs SV.gd Option.some.injEq
attribute [go_sem] St.sliceA T.isCell stepA allocAt List.lookup
attribute [go_sem] St.res tt tts0 tts1 tts2 tts3 tt0 tt1 tt2 tt3 tt4 tt5 tt6 tt7 tt8 tt9 tt10 tt11 tt12 tt13 tt14 tt15 tt16 tt17 tt18 tt19 tt20 tt21 tt22 tt23 tt24 tt25 tt26 tt27
end Go.Proofs.YtfhncnhkeodngaaDoor
namespace Go.Proofs.YtfhncnhkeodngaaDoor
open Go.RowKit

def tErr (e : Int) : T := if e = 0 then .nilI else .iface 26 (.int .i64 e)
theorem tErr0 : tErr 0 = .nilI := rfl
theorem tErr_flat (e : Int) : (tErr e).flatData = true := by unfold tErr; split <;> rfl
def I64s (l : List Int) : Prop := ∀ x ∈ l, I64 x
structure I64A (a : GAuto) : Prop where
  base : I64 a.base
  tracks : I64 a.tracks
  next : ∀ r ∈ a.next, I64s r
section
variable {P : Program} {G : World → Prop}
theorem enter_of {f : Nat} {fn : Func} {c : Code} (hf : P.funcs[f]? = some fn) (hb : fn.body = some c) (hn : (fn.name == "runtime.NumGoroutine") = false) (vs : Array Value) (w : World) : (callFunc f vs).run P w = .ok (.enter f vs) w := by
  unfold callFunc
  rw [Sem.run_bind, run_program, Result.andThen_ok]
  simp only [hf, hn, hb, Option.isNone_some, Bool.false_eq_true, if_false]
  rfl
theorem snd2 {f : Nat} {fn : Func} {c : Code} {x y r : T} (hf : P.funcs[f]? = some fn) (hb : fn.body = some c) (hn : (fn.name == "runtime.NumGoroutine") = false)
    (h : ∀ (S : Nat → Prop) (w : World) (v u : Value), G w → (∀ b, S b → b < w.heap.size) → RepT S w x v → RepT S w y u → ∃ V, Calls P f #[v, u] w (fun e w' => e = .returned V ∧ Below w.heap.size w w') ∧ ∀ S w, RepT S w r V) : Snd P G f [x, y] r := by
  refine ⟨enter_of hf hb hn, fun S w vs hG hs hr => ?_⟩
  obtain ⟨l⟩ := vs
  match l, hs with
  | [v0, v1], _ =>
    obtain ⟨V, h1, h2⟩ := h (fun b => S b ∧ b < w.heap.size) w v0 v1 hG (fun b hb => hb.2) ((hr 0 _ v0 rfl rfl).keep ⟨Nat.le_refl _, fun b hb hlt => ⟨rfl, hb, hlt⟩⟩) ((hr 1 _ v1 rfl rfl).keep ⟨Nat.le_refl _, fun b hb hlt => ⟨rfl, hb, hlt⟩⟩)
    exact h1.mono fun e w' hq => ⟨V, hq.1, h2 _ _, hq.2⟩
end
theorem intInv {S : Nat → Prop} {w : World} {n : Int} {v : Value} (h : RepT S w (tInt n) v) : v = .int .i64 n := by cases h; rfl
theorem bang_get {α : Type} [Inhabited α] {l : List α} {i : Nat} {x : α} (h : l[i]! = x) (hi : i < l.length) : l[i]? = some x := by rw [← h, getElem!_pos l i hi]; exact List.getElem?_eq_getElem hi
theorem bang_mem {α : Type} [Inhabited α] {l : List α} {i : Nat} {x : α} (h : l[i]! = x) (hi : i < l.length) : x ∈ l := List.mem_of_getElem? (bang_get h hi)
theorem bang_D {α : Type} [Inhabited α] {l : List α} {i : Nat} {x d : α} (h : l[i]! = x) (hi : i < l.length) : l.getD i d = x := by rw [getD_lt hi, ← h, getElem!_pos l i hi]
theorem bang_at {α : Type} [Inhabited α] {l : List α} {i : Nat} {x : α} (h : l[i]! = x) (hi : i < l.length) : l[i] = x := by rw [← h, getElem!_pos l i hi]
theorem take_next {α : Type} [Inhabited α] {l : List α} {i : Nat} {x : α} (h : l[i]! = x) (hi : i < l.length) : l.take (i + 1) = l.take i ++ [x] := by
  rw [List.take_succ_eq_append_getElem hi, bang_at h hi]
section
variable {G : World → Prop} (hG : Lasting G)
include hG
end
end Go.Proofs.YtfhncnhkeodngaaDoor
namespace Go.Proofs.YtfhncnhkeodngaaDoor
open Go.RowKit

section
variable {G : World → Prop} (hG : Lasting G)
include hG
end
end Go.Proofs.YtfhncnhkeodngaaDoor
namespace Go.Proofs.YtfhncnhkeodngaaDoor
open Go.RowKit

/-- What a map from looks to classes holds. -/
def entries (κ : Int → ByteArray) (R : List Int) : List (T × T) := R.zipIdx.map fun p => (.str (κ p.1), tNat p.2)
section
variable {G : World → Prop} (hG : Lasting G)
include hG
end
end Go.Proofs.YtfhncnhkeodngaaDoor
namespace Go.Proofs.YtfhncnhkeodngaaDoor
open Go.RowKit

section
variable {G : World → Prop} (hG : Lasting G)
include hG
end
end Go.Proofs.YtfhncnhkeodngaaDoor
namespace Go.Proofs.YtfhncnhkeodngaaDoor
open Go.RowKit

section
variable {G : World → Prop} (hG : Lasting G)
include hG
end
end Go.Proofs.YtfhncnhkeodngaaDoor
namespace Go.Proofs.YtfhncnhkeodngaaDoor
open Go.RowKit

section
variable {G : World → Prop} (hG : Lasting G)
include hG
end
end Go.Proofs.YtfhncnhkeodngaaDoor
namespace Go.Proofs.YtfhncnhkeodngaaDoor

/-- It is the least automaton of a language. -/
structure IsLeast (a : GAuto) (n : Nat) (base tracks : Int) (L : List Nat → Bool) : Prop where
  base : a.base = base
  tracks : a.tracks = tracks
  least : Least n a.next a.ends L
theorem IsLeast.unique {a b : GAuto} {n : Nat} {base tracks : Int} {L L' : List Nat → Bool} (h : IsLeast a n base tracks L) (h' : IsLeast b n base tracks L') (hL : ∀ w, Ltr n w → L w = L' w) : a = b := by
  have := (h.least.lang_congr hL).unique h'.least
  cases a; cases b
  simp only [GAuto.mk.injEq]
  exact ⟨h.base.trans h'.base.symm, h.tracks.trans h'.tracks.symm, this.1, this.2⟩
theorem Least.not {n : Nat} {N : List (List Int)} {E : List Bool} {L : List Nat → Bool} (h : Least n N E L) : Least n N (E.map (!·)) fun w => !L w := by
  have key : ∀ k, k < N.length → (E.map (!·)).getD k false = !E.getD k false := fun k hk => by
    have := h.len
    rw [getD_lt (by simp; omega), getD_lt (by omega)]; simp
  have hrun : ∀ (w : List Nat) (s : Nat), s < N.length → Ltr n w → runN (fun k l => ((N.getD k []).getD l 0).toNat) s w < N.length := by
    intro w
    induction w with
    | nil => intro s hs _; exact hs
    | cons l w ih => intro s hs hw; exact ih _ (h.canon.lt s l hs (hw l List.mem_cons_self)) fun x hx => hw x (List.mem_cons_of_mem _ hx)
  refine ⟨by simp [h.len], h.row, h.pos, h.canon.m0, h.canon.lt, fun w hw => ?_, h.canon.rg, h.canon.reach, fun s t hs ht hh => h.canon.red s t hs ht fun w hw => ?_⟩
  · rw [key _ (hrun w 0 h.canon.m0 hw)]; exact congrArg _ (h.canon.lang w hw)
  · have := hh w hw
    rw [key _ (hrun w s hs hw), key _ (hrun w t ht hw)] at this
    simpa using this
end Go.Proofs.YtfhncnhkeodngaaDoor
namespace Go.Proofs.YtfhncnhkeodngaaDoor

def walkOk (c : Nat → Nat → Bool) : Nat → List Nat → Bool
  | _, [] => true
  | s, l :: w => !c s l && walkOk c l w
def chain (c : Nat → Nat → Bool) : List Nat → Bool
  | [] => true
  | x :: w => walkOk c x w
/-- Two letters that have a digit 1 on the same track, in base Fib. -/
def clash (base : Int) (t s l : Nat) : Bool := base == 1 && (List.range t).any fun k => digitAt (radix base) t (s : Int) k == 1 && digitAt (radix base) t (l : Int) k == 1
/-- A word whose digits are right on each track. -/
def rightWd (base : Int) (t : Nat) (w : List Nat) : Bool := chain (clash base t) w

theorem powW_two (t : Nat) : powW 2 t = ((2 ^ t : Nat) : Int) := by
  induction t with
  | zero => rfl
  | succ t ih => show powW 2 t * 2 = _; rw [ih]; rw [Nat.pow_succ]; omega
end Go.Proofs.YtfhncnhkeodngaaDoor
namespace Go.Proofs.YtfhncnhkeodngaaDoor

/-- The least rows and ends of a language. -/
noncomputable def leastL (n : Nat) (L : List Nat → Bool) : List (List Int) × List Bool := open Classical in if h : ∃ p : List (List Int) × List Bool, Least n p.1 p.2 L then Classical.choose h else ([], [])
theorem leastL_eq {n : Nat} {N : List (List Int)} {E : List Bool} {L : List Nat → Bool} (h : Least n N E L) : leastL n L = (N, E) := by
  have hx : ∃ p : List (List Int) × List Bool, Least n p.1 p.2 L := ⟨(N, E), h⟩
  unfold leastL
  rw [dif_pos hx]
  have := (Classical.choose_spec hx).unique h
  exact Prod.ext this.1 this.2
/-- Some table takes this language. -/
def Regular (n : Nat) (L : List Nat → Bool) : Prop := ∃ N E, Least n N E L
theorem Regular.of {n m : Nat} {next : List (List Int)} {ends : List Bool} {L : List Nat → Bool} (hR : Rows0 n m next) (hm : 0 < m) (h : ∀ w, Ltr n w → lang next ends 0 w = L w) : Regular n L :=
  ⟨_, _, (leastRE_spec (ends := ends) hR hm).1.lang_congr h⟩
theorem Regular.least {n : Nat} {L : List Nat → Bool} (h : Regular n L) : Least n (leastL n L).1 (leastL n L).2 L := by
  obtain ⟨N, E, h⟩ := h
  rw [leastL_eq h]; exact h
/-- A least automaton has no more states than words have kinds. -/
theorem Least.bound {n : Nat} {N : List (List Int)} {E : List Bool} {L : List Nat → Bool} (h : Least n N E L) (K : Nat) (κ : List Nat → Nat) (hκ : ∀ v, Ltr n v → κ v < K)
    (hres : ∀ v w, Ltr n v → Ltr n w → κ v = κ w → ∀ x, Ltr n x → L (v ++ x) = L (w ++ x)) : N.length ≤ K := by
  have hreach : ∀ k s, s ≤ k → s < N.length → ∃ v, Ltr n v ∧ runN (fun k l => ((N.getD k []).getD l 0).toNat) 0 v = s := by
    intro k
    induction k with
    | zero => intro s hs _; exact ⟨[], fun _ h => by simp at h, by rw [show s = 0 by omega]; rfl⟩
    | succ k ih =>
      intro s hs hlt
      by_cases h0 : s = 0
      · subst h0; exact ⟨[], fun _ h => by simp at h, rfl⟩
      · obtain ⟨q, l, hq, hl, e⟩ := h.canon.reach s (by omega) hlt
        obtain ⟨v, hv, ev⟩ := ih q (by omega) (by omega)
        refine ⟨v ++ [l], fun x hx => ?_, ?_⟩
        · rcases List.mem_append.1 hx with hx | hx
          · exact hv x hx
          · simp at hx; subst hx; exact hl
        · unfold runN at ev ⊢
          rw [List.foldl_append, ev]; exact e
  have hr : ∀ s, ∃ v, s < N.length → Ltr n v ∧ runN (fun k l => ((N.getD k []).getD l 0).toNat) 0 v = s := fun s => by
    by_cases hs : s < N.length
    · obtain ⟨v, hv⟩ := hreach s s (Nat.le_refl _) hs
      exact ⟨v, fun _ => hv⟩
    · exact ⟨[], fun h => (hs h).elim⟩
  obtain ⟨f, hf⟩ := Classical.axiomOfChoice hr
  have := nodup_boundN K ((List.range N.length).map fun s => κ (f s)) (by
    refine List.pairwise_map.2 (List.nodup_range.imp_of_mem fun {s q} hs hq hne e => hne ?_)
    have hs := List.mem_range.1 hs
    have hq := List.mem_range.1 hq
    obtain ⟨h1, h2⟩ := hf s hs
    obtain ⟨h3, h4⟩ := hf q hq
    refine h.canon.red s q hs hq fun x hx => ?_
    have := hres _ _ h1 h3 e x hx
    have app : ∀ v, Ltr n v → Ltr n (v ++ x) := fun v hv y hy => by
      rcases List.mem_append.1 hy with hy | hy
      · exact hv y hy
      · exact hx y hy
    rw [← h.canon.lang _ (app _ h1), ← h.canon.lang _ (app _ h3)] at this
    unfold runN at this h2 h4 ⊢
    rw [List.foldl_append, List.foldl_append, h2, h4] at this
    exact this) fun k hk => by
      obtain ⟨s, hs, rfl⟩ := List.mem_map.1 hk
      exact hκ _ (hf s (List.mem_range.1 hs)).1
  simpa using this

section
variable {base : Int} {t n m : Nat} {next : List (List Int)} {ends : List Bool}
end

section
variable {k m : Nat} {next : List (List Int)}
end

section
variable {A B : List (List Int)} {f g : Nat → Nat} {n n1 n2 ma mb : Nat}
end
end Go.Proofs.YtfhncnhkeodngaaDoor
namespace Go.Proofs.YtfhncnhkeodngaaDoor

/-- What was read so far counts at, and what it would count a place lower (of Fib); behind one more letter. -/
def lnStep (base : Int) (p : Int × Int) (e : Int) : Int × Int := if base = 1 then (p.1 + p.2 + e, p.1 + e) else (p.1 * base + e, 0)
def lnCap (far : Int) (q : Int × Int) : Int × Int := if far < q.1 then (far + 1, 0) else if q.1 < -far then (-far - 1, 0) else q
def lnCut (far base : Int) (p : Int × Int) (e : Int) : Int × Int := if p = (far + 1, 0) ∨ p = (-far - 1, 0) then p else lnCap far (lnStep base p e)
def lnEnd (less : Bool) (c : Int) (p : Int × Int) : Bool := if less then decide (p.1 + c < 0) else decide (p.1 + c = 0)

/-- Sums over places. -/
def dotN (coefs : List Int) (f : Nat → Int) : Nat → Int
  | 0 => 0
  | i + 1 => dotN coefs f i + coefs.getD i 0 * f i
def posN (coefs : List Int) : Nat → Int := dotN (coefs.map fun c => max c 0) fun _ => 1
def negN (coefs : List Int) : Nat → Int := dotN (coefs.map fun c => max (-c) 0) fun _ => 1
def absN (coefs : List Int) : Nat → Int := dotN (coefs.map fun c => max c (-c)) fun _ => 1
theorem getD_map0 (f : Int → Int) (h0 : f 0 = 0) (l : List Int) (i : Nat) : (l.map f).getD i 0 = f (l.getD i 0) := by
  rw [List.getD_eq_getElem?_getD, List.getElem?_map, List.getD_eq_getElem?_getD]
  cases l[i]? with
  | none => exact h0.symm
  | some x => rfl
theorem posN_succ (coefs : List Int) (i : Nat) : posN coefs (i + 1) = posN coefs i + max (coefs.getD i 0) 0 := by
  show posN coefs i + (coefs.map fun c => max c 0).getD i 0 * 1 = _
  rw [getD_map0 (fun c => max c 0) (by decide), Int.mul_one]
theorem negN_succ (coefs : List Int) (i : Nat) : negN coefs (i + 1) = negN coefs i + max (-(coefs.getD i 0)) 0 := by
  show negN coefs i + (coefs.map fun c => max (-c) 0).getD i 0 * 1 = _
  rw [getD_map0 (fun c => max (-c) 0) (by decide), Int.mul_one]
theorem absN_succ (coefs : List Int) (i : Nat) : absN coefs (i + 1) = absN coefs i + max (coefs.getD i 0) (-(coefs.getD i 0)) := by
  show absN coefs i + (coefs.map fun c => max c (-c)).getD i 0 * 1 = _
  rw [getD_map0 (fun c => max c (-c)) (by decide), Int.mul_one]
theorem posneg (coefs : List Int) : ∀ i, posN coefs i + negN coefs i = absN coefs i ∧ 0 ≤ posN coefs i ∧ 0 ≤ negN coefs i
  | 0 => ⟨rfl, Int.le_refl _, Int.le_refl _⟩
  | i + 1 => by
    have := posneg coefs i
    rw [posN_succ, negN_succ, absN_succ]
    omega
theorem absN_mono (coefs : List Int) : ∀ {i j : Nat}, i ≤ j → absN coefs i ≤ absN coefs j
  | i, 0, h => by rw [show i = 0 by omega]; exact Int.le_refl _
  | i, j + 1, h => by
    by_cases e : i = j + 1
    · rw [e]; exact Int.le_refl _
    · have := absN_mono coefs (show i ≤ j by omega)
      rw [absN_succ]; omega
theorem absN_ge (coefs : List Int) {i j : Nat} (h : i < j) : -(absN coefs j) ≤ coefs.getD i 0 ∧ coefs.getD i 0 ≤ absN coefs j := by
  have h1 := absN_mono coefs (show i + 1 ≤ j from h)
  have h2 := (posneg coefs i).2
  have h3 := (posneg coefs i).1
  rw [absN_succ] at h1
  omega
theorem dotN_bd (coefs : List Int) {f : Nat → Int} {r : Int} : ∀ i, (∀ j, j < i → 0 ≤ f j ∧ f j ≤ r) → -(negN coefs i * r) ≤ dotN coefs f i ∧ dotN coefs f i ≤ posN coefs i * r
  | 0, _ => by simp [dotN, posN, negN]
  | i + 1, h => by
    obtain ⟨h1, h2⟩ := dotN_bd coefs (f := f) (r := r) i fun j hj => h j (by omega)
    obtain ⟨h3, h4⟩ := h i (by omega)
    rw [posN_succ, negN_succ, Int.add_mul, Int.add_mul]
    show -(_ + _) ≤ dotN coefs f i + coefs.getD i 0 * f i ∧ dotN coefs f i + coefs.getD i 0 * f i ≤ _
    generalize coefs.getD i 0 = c
    by_cases hc : 0 ≤ c
    · have e1 : c * f i ≤ c * r := Int.mul_le_mul_of_nonneg_left h4 hc
      have e2 : 0 ≤ c * f i := Int.mul_nonneg hc h3
      rw [show max c 0 = c by omega, show max (-c) 0 = 0 by omega, Int.zero_mul]
      omega
    · have e1 : (-c) * f i ≤ (-c) * r := Int.mul_le_mul_of_nonneg_left h4 (by omega)
      have e2 : 0 ≤ (-c) * f i := Int.mul_nonneg (by omega) h3
      have e3 : (-c) * f i = -(c * f i) := Int.neg_mul _ _
      rw [show max c 0 = 0 by omega, show max (-c) 0 = -c by omega, Int.zero_mul]
      omega

structure LJ (S : Int) (q : Int × Int) : Prop where
  a : ¬ (3 * S < q.1 ∧ q.2 < 0)
  b : ¬ (q.1 < S ∧ 3 * S < q.2)
  c : ¬ (2 * S < q.1 ∧ q.2 < -2 * S)
  d : ¬ (q.1 < -S ∧ 4 * S < q.2)
  a' : ¬ (q.1 < -3 * S ∧ 0 < q.2)
  b' : ¬ (-S < q.1 ∧ q.2 < -3 * S)
  c' : ¬ (q.1 < -2 * S ∧ 2 * S < q.2)
  d' : ¬ (S < q.1 ∧ q.2 < -4 * S)
theorem LJ.zero {S : Int} (hS : 0 ≤ S) : LJ S (0, 0) := by constructor <;> simp only <;> omega
theorem LJ.step {S : Int} {q : Int × Int} {e : Int} (hS : 0 ≤ S) (h : LJ S q) (he : -S ≤ e ∧ e ≤ S) : LJ S (q.1 + q.2 + e, q.1 + e) := by
  obtain ⟨a, b, c, d, a', b', c', d'⟩ := h
  constructor <;> simp only <;> omega
theorem LJ.neg {S : Int} {q : Int × Int} (h : LJ S q) : LJ S (-q.1, -q.2) := by
  obtain ⟨a, b, c, d, a', b', c', d'⟩ := h
  constructor <;> simp only <;> omega
/-- So far above that it stays there. -/
def High (base S k : Int) (q : Int × Int) : Prop := if base = 1 then (3 * S + k < q.1 ∧ 0 ≤ q.2) ∨ (2 * S + k < q.1 ∧ S ≤ q.2) else S + k < q.1
theorem High.gt {base S k : Int} {q : Int × Int} (hS : 0 ≤ S) (h : High base S k q) : k < q.1 := by
  unfold High at h
  split at h <;> omega
theorem lnStep_neg (base : Int) (q : Int × Int) (e : Int) : lnStep base (-q.1, -q.2) (-e) = (-(lnStep base q e).1, -(lnStep base q e).2) := by
  unfold lnStep
  split
  · ext <;> simp only <;> omega
  · ext
    · simp only; rw [Int.neg_mul]; omega
    · simp
/-- What a letter may add. -/
def lnOk (base S e : Int) : Prop := -(S * (radix base - 1)) ≤ e ∧ e ≤ S * (radix base - 1)
theorem lnOk.neg {base S e : Int} (h : lnOk base S e) : lnOk base S (-e) := by unfold lnOk at *; omega
theorem lnOk.fib {S e : Int} (h : lnOk 1 S e) : -S ≤ e ∧ e ≤ S := by
  have h2 : radix 1 - 1 = 1 := rfl
  unfold lnOk at h
  rw [h2] at h; omega
theorem radix_ne {base : Int} (hr : radix base ≠ 0) (h : base ≠ 1) : radix base = base ∧ 2 ≤ base ∧ base ≤ 6 := by
  rcases radix_pos hr with h1 | h1
  · exact (h h1.1).elim
  · exact ⟨h1.2.2, h1.1, h1.2.1⟩
theorem High.step {base S k : Int} {q : Int × Int} {e : Int} (hr : radix base ≠ 0) (hS : 0 ≤ S) (hk : 0 ≤ k) (h : High base S k q) (he : lnOk base S e) : High base S k (lnStep base q e) := by
  unfold High lnStep at *
  by_cases h1 : base = 1
  · subst h1
    have := he.fib
    simp only [if_true] at h ⊢
    omega
  · obtain ⟨e1, e2, e3⟩ := radix_ne hr h1
    unfold lnOk at he
    rw [e1] at he
    simp only [if_neg h1] at h ⊢
    have h2 : 0 ≤ (q.1 - S) * (base - 1) := Int.mul_nonneg (by omega) (by omega)
    rw [Int.sub_mul, Int.mul_sub, Int.mul_one] at h2
    omega
theorem High.enter {base S k far : Int} {q : Int × Int} (hS : 0 ≤ S) (hk : 0 ≤ k) (hfar : 3 * S + k ≤ far) (hJ : base = 1 → LJ S q) (h : far < q.1) : High base S k q := by
  unfold High
  split
  · have := (hJ ‹_›).a
    omega
  · omega
/-- The cut off state, and the one that is not. -/
def LnRel (base far S k : Int) (p q : Int × Int) : Prop :=
  (p = q ∧ -far ≤ q.1 ∧ q.1 ≤ far ∧ (base = 1 → LJ S q)) ∨ (p = (far + 1, 0) ∧ High base S k q) ∨ (p = (-far - 1, 0) ∧ High base S k (-q.1, -q.2))
theorem LnRel.zero {base far S k : Int} (hS : 0 ≤ S) (hf : 0 ≤ far) : LnRel base far S k (0, 0) (0, 0) := .inl ⟨rfl, by simp only; omega, by simp only; omega, fun _ => .zero hS⟩
theorem LnRel.step {base far S k : Int} {p q : Int × Int} {e : Int} (hr : radix base ≠ 0) (hS : 0 ≤ S) (hk : 0 ≤ k) (hfar : 3 * S + k ≤ far) (h : LnRel base far S k p q) (he : lnOk base S e) : LnRel base far S k (lnCut far base p e) (lnStep base q e) := by
  rcases h with ⟨rfl, h1, h2, h3⟩ | ⟨rfl, h1⟩ | ⟨rfl, h1⟩
  · have hn : ¬ (p = (far + 1, 0) ∨ p = (-far - 1, 0)) := by
      rintro (e | e) <;> rw [e] at h1 h2 <;> simp only at h1 h2 <;> omega
    have hJ : base = 1 → LJ S (lnStep base p e) := fun hb => by
      subst hb
      have := (h3 rfl).step hS he.fib
      exact this
    unfold lnCut
    rw [if_neg hn]
    unfold lnCap
    split
    · exact .inr (.inl ⟨rfl, High.enter hS hk hfar hJ ‹_›⟩)
    · split
      · exact .inr (.inr ⟨rfl, High.enter hS hk hfar (fun hb => (hJ hb).neg) (by simp only; omega)⟩)
      · exact .inl ⟨rfl, by omega, by omega, hJ⟩
  · unfold lnCut
    rw [if_pos (.inl rfl)]
    exact .inr (.inl ⟨rfl, h1.step hr hS hk he⟩)
  · unfold lnCut
    rw [if_pos (.inr rfl)]
    refine .inr (.inr ⟨rfl, ?_⟩)
    have := h1.step hr hS hk he.neg
    rwa [lnStep_neg] at this
theorem LnRel.fin {base far S k c : Int} {p q : Int × Int} (hS : 0 ≤ S) (hfar : 3 * S + k ≤ far) (hc : -k ≤ c ∧ c ≤ k) (less : Bool) (h : LnRel base far S k p q) : lnEnd less c p = lnEnd less c q := by
  rcases h with ⟨rfl, _⟩ | ⟨rfl, h1⟩ | ⟨rfl, h1⟩
  · rfl
  · have := h1.gt hS
    unfold lnEnd
    split <;> simp only [decide_eq_decide] <;> omega
  · have := h1.gt hS
    simp only at this
    unfold lnEnd
    split <;> simp only [decide_eq_decide] <;> omega
def lnRun (base : Int) (add : Nat → Int) (w : List Nat) : Int × Int := w.foldl (fun p l => lnStep base p (add l)) (0, 0)
def lnCutRun (far base : Int) (add : Nat → Int) (w : List Nat) : Int × Int := w.foldl (fun p l => lnCut far base p (add l)) (0, 0)
theorem ln_rel {base far S k : Int} {n : Nat} {add : Nat → Int} (hr : radix base ≠ 0) (hS : 0 ≤ S) (hk : 0 ≤ k) (hfar : 3 * S + k ≤ far) (ha : ∀ l, l < n → lnOk base S (add l)) (w : List Nat) (hw : Ltr n w) : LnRel base far S k (lnCutRun far base add w) (lnRun base add w) := by
  unfold lnCutRun lnRun
  have : ∀ (w : List Nat) (p q : Int × Int), Ltr n w → LnRel base far S k p q → LnRel base far S k (w.foldl (fun p l => lnCut far base p (add l)) p) (w.foldl (fun p l => lnStep base p (add l)) q) := by
    intro w
    induction w with
    | nil => exact fun _ _ _ h => h
    | cons l w ih => exact fun p q hw h => ih _ _ (fun x hx => hw x (List.mem_cons_of_mem _ hx)) (h.step hr hS hk hfar (ha l (hw l List.mem_cons_self)))
  exact this w _ _ hw (.zero hS (by omega))
/-- Where a cut off state lies. -/
structure LnPt (base far S B : Int) (p : Int × Int) : Prop where
  x : -far - 1 ≤ p.1 ∧ p.1 ≤ far + 1
  y : -B ≤ p.2 ∧ p.2 ≤ B
  z : base ≠ 1 → p.2 = 0
  j : p = (far + 1, 0) ∨ p = (-far - 1, 0) ∨ (-far ≤ p.1 ∧ p.1 ≤ far ∧ (base = 1 → LJ S p))
theorem LnPt.zero {base far S B : Int} (hS : 0 ≤ S) (hf : 0 ≤ far) (hB : 0 ≤ B) : LnPt base far S B (0, 0) :=
  ⟨by simp only; omega, by simp only; omega, fun _ => rfl, .inr (.inr ⟨by simp only; omega, by simp only; omega, fun _ => .zero hS⟩)⟩
theorem LnPt.step {base far S B : Int} {p : Int × Int} {e : Int} (hS : 0 ≤ S) (hf : 0 ≤ far) (hB : far + S ≤ B ∨ (far + 1 ≤ B ∧ 4 * S ≤ far)) (h : LnPt base far S B p) (he : lnOk base S e) : LnPt base far S B (lnCut far base p e) := by
  by_cases hn : p = (far + 1, 0) ∨ p = (-far - 1, 0)
  · unfold lnCut; rw [if_pos hn]; exact h
  · obtain ⟨h1, h2, h3⟩ : -far ≤ p.1 ∧ p.1 ≤ far ∧ (base = 1 → LJ S p) := by
      rcases h.j with e | e | e
      · exact (hn (.inl e)).elim
      · exact (hn (.inr e)).elim
      · exact e
    have hJ : base = 1 → LJ S (lnStep base p e) := fun hb => by
      subst hb
      exact (h3 rfl).step hS he.fib
    have hB0 : 0 ≤ B := by omega
    unfold lnCut
    rw [if_neg hn]
    unfold lnCap
    split
    · exact ⟨by simp only; omega, by simp only; omega, fun _ => rfl, .inl rfl⟩
    · split
      · exact ⟨by simp only; omega, by simp only; omega, fun _ => rfl, .inr (.inl rfl)⟩
      · refine ⟨by omega, ?_, fun hb => ?_, .inr (.inr ⟨by omega, by omega, hJ⟩)⟩
        · by_cases hb : base = 1
          · subst hb
            have he := he.fib
            have h4 := h3 rfl
            have ea := h4.a
            have ea' := h4.a'
            rename_i h5 h6
            simp only [lnStep, if_true] at h5 h6 ⊢
            omega
          · simp only [lnStep, if_neg hb]; omega
        · simp only [lnStep, if_neg hb]
end Go.Proofs.YtfhncnhkeodngaaDoor
namespace Go.Proofs.YtfhncnhkeodngaaDoor

def lastL (s : Nat) (v : List Nat) : Nat := v.foldl (fun _ l => l) s
theorem walkOk_append {c : Nat → Nat → Bool} : ∀ (v x : List Nat) (s : Nat), walkOk c s (v ++ x) = (walkOk c s v && walkOk c (lastL s v) x)
  | [], x, s => by simp [walkOk, lastL]
  | l :: v, x, s => by
    show (!c s l && walkOk c l (v ++ x)) = ((!c s l && walkOk c l v) && walkOk c (lastL l v) x)
    rw [walkOk_append v x l, Bool.and_assoc]
theorem chain_walk {c : Nat → Nat → Bool} (h : ∀ l, c 0 l = false) (w : List Nat) : chain c w = walkOk c 0 w := by
  cases w with
  | nil => rfl
  | cons l w => show _ = (!c 0 l && walkOk c l w); rw [h l]; rfl
theorem unpack_zero (k : Int) : ∀ t : Nat, ∀ x ∈ unpack k t 0, x = 0
  | 0, x, h => by simp [unpack] at h
  | t + 1, x, h => by
    have ih := unpack_zero k t
    simp only [unpack, Int.zero_ediv, Int.zero_emod] at h
    rcases List.mem_append.1 h with h | h
    · exact ih x h
    · simpa using h
theorem clash_zero (base : Int) (t l : Nat) : clash base t 0 l = false := by
  unfold clash
  rw [Bool.and_eq_false_iff]
  right
  rw [List.any_eq_false]
  intro k _
  have : digitAt (radix base) t ((0 : Nat) : Int) k = 0 := by
    unfold digitAt
    rw [List.getD_eq_getElem?_getD]
    cases h : (unpack (radix base) t ((0 : Nat) : Int))[k]? with
    | none => rfl
    | some x => exact unpack_zero (radix base) t x (List.mem_of_getElem? h)
  rw [this]; simp
theorem rightWd_walk (base : Int) (t : Nat) (w : List Nat) : rightWd base t w = walkOk (clash base t) 0 w := chain_walk (clash_zero base t) w
theorem rightWd_append (base : Int) (t : Nat) (v x : List Nat) : rightWd base t (v ++ x) = (rightWd base t v && walkOk (clash base t) (lastL 0 v) x) := by
  rw [rightWd_walk, rightWd_walk, walkOk_append]
theorem lastL_lt {n : Nat} : ∀ (v : List Nat) (s : Nat), s < n → Ltr n v → lastL s v < n
  | [], s, h, _ => h
  | l :: v, _, _, hv => lastL_lt v l (hv l List.mem_cons_self) fun x hx => hv x (List.mem_cons_of_mem _ hx)

section
variable {n : Nat} {add : Nat → Int} {P N : Int}
/-- Near a line. -/
def Strip (P N : Int) (q : Int × Int) : Prop := -(3 + 56 * N + 35 * P) ≤ 89 * q.2 - 55 * q.1 ∧ 89 * q.2 - 55 * q.1 ≤ 3 + 56 * P + 35 * N
theorem Strip.step {q : Int × Int} {e : Int} (h0 : 0 ≤ P ∧ 0 ≤ N) (h : Strip P N q) (hq : -97 ≤ q.1 ∧ q.1 ≤ 97) (he : -N ≤ e ∧ e ≤ P) : Strip P N (q.1 + q.2 + e, q.1 + e) := by
  unfold Strip at *
  simp only
  omega
def InStrip (P N : Int) (p : Int × Int) : Prop := Strip P N p ∧ -96 ≤ p.1 ∧ p.1 ≤ 96 ∨ p = (97, 0) ∨ p = (-97, 0)
theorem lnCut_96 (p : Int × Int) (e : Int) : lnCut 96 1 p e = if p = (97, 0) ∨ p = (-97, 0) then p else lnCap 96 (p.1 + p.2 + e, p.1 + e) := rfl
theorem InStrip.step {p : Int × Int} {e : Int} (h0 : 0 ≤ P ∧ 0 ≤ N) (h : InStrip P N p) (he : -N ≤ e ∧ e ≤ P) : InStrip P N (lnCut 96 1 p e) := by
  rw [lnCut_96]
  by_cases hn : p = (97, 0) ∨ p = (-97, 0)
  · rw [if_pos hn]; exact .inr hn
  · have hs : Strip P N p ∧ -96 ≤ p.1 ∧ p.1 ≤ 96 := by
      rcases h with h | h
      · exact h
      · exact (hn h).elim
    rw [if_neg hn]
    have := hs.1.step h0 ⟨by omega, by omega⟩ he
    unfold lnCap
    split
    · exact .inr (.inl rfl)
    · split
      · exact .inr (.inr rfl)
      · exact .inl ⟨this, by omega, by omega⟩
theorem ln_strip (h0 : 0 ≤ P ∧ 0 ≤ N) (ha : ∀ l, l < n → -N ≤ add l ∧ add l ≤ P) : ∀ (w : List Nat) (p : Int × Int), Ltr n w → InStrip P N p → InStrip P N (w.foldl (fun p l => lnCut 96 1 p (add l)) p)
  | [], _, _, h => h
  | l :: w, p, hw, h => ln_strip h0 ha w _ (fun x hx => hw x (List.mem_cons_of_mem _ hx)) (h.step h0 (ha l (hw l List.mem_cons_self)))
def runFrom1 (add : Nat → Int) (q : Int × Int) (w : List Nat) : Int × Int := w.foldl (fun p l => lnStep 1 p (add l)) q
theorem high_run {S k : Int} (hS : 0 ≤ S) (hk : 0 ≤ k) (ha : ∀ l, l < n → lnOk 1 S (add l)) : ∀ (x : List Nat) (q : Int × Int), Ltr n x → High 1 S k q → High 1 S k (runFrom1 add q x)
  | [], _, _, h => h
  | l :: x, q, hx, h => high_run hS hk ha x _ (fun y hy => hx y (List.mem_cons_of_mem _ hy)) (h.step (by decide) hS hk (ha l (hx l List.mem_cons_self)))
theorem runFrom1_neg (add : Nat → Int) : ∀ (x : List Nat) (q : Int × Int), runFrom1 (fun l => -(add l)) (-q.1, -q.2) x = (-(runFrom1 add q x).1, -(runFrom1 add q x).2)
  | [], _ => rfl
  | l :: x, q => by
    show runFrom1 (fun l => -(add l)) (lnStep 1 (-q.1, -q.2) (-(add l))) x = _
    rw [lnStep_neg]
    exact runFrom1_neg add x _
/-- Above 72 it stays above 60. -/
theorem above {S : Int} (hS : 0 ≤ S ∧ S ≤ 12) (h0 : 0 ≤ P ∧ 0 ≤ N ∧ P + N = S) (ha : ∀ l, l < n → -N ≤ add l ∧ add l ≤ P) {q : Int × Int} (hq : High 1 S 60 q ∨ (72 < q.1 ∧ Strip P N q)) {x : List Nat} (hx : Ltr n x) : 60 < (runFrom1 add q x).1 := by
  have ha' : ∀ l, l < n → lnOk 1 S (add l) := fun l hl => by
    have := ha l hl
    have h2 : radix 1 - 1 = 1 := rfl
    unfold lnOk; rw [h2]; omega
  rcases hq with hq | ⟨h1, h2⟩
  · exact (high_run hS.1 (by omega) ha' x q hx hq).gt hS.1
  · cases x with
    | nil => show 60 < q.1; omega
    | cons l x =>
      have h3 := ha l (hx l List.mem_cons_self)
      unfold Strip at h2
      have : High 1 S 60 (lnStep 1 q (add l)) := by
        unfold High lnStep
        simp only [if_true]
        right
        omega
      exact (high_run hS.1 (by omega) ha' x _ (fun y hy => hx y (List.mem_cons_of_mem _ hy)) this).gt hS.1
theorem Strip.neg {q : Int × Int} (h : Strip P N q) : Strip N P (-q.1, -q.2) := by unfold Strip at *; simp only; omega
theorem below {S : Int} (hS : 0 ≤ S ∧ S ≤ 12) (h0 : 0 ≤ P ∧ 0 ≤ N ∧ P + N = S) (ha : ∀ l, l < n → -N ≤ add l ∧ add l ≤ P) {q : Int × Int} (hq : High 1 S 60 (-q.1, -q.2) ∨ (q.1 < -72 ∧ Strip P N q)) {x : List Nat} (hx : Ltr n x) : (runFrom1 add q x).1 < -60 := by
  have := above (P := N) (N := P) (add := fun l => -(add l)) (q := (-q.1, -q.2)) hS ⟨h0.2.1, h0.1, by omega⟩ (fun l hl => by have := ha l hl; omega) (by
    rcases hq with h | ⟨h1, h2⟩
    · exact .inl h
    · exact .inr ⟨by simp only; omega, h2.neg⟩) hx
  rw [runFrom1_neg] at this
  simp only at this
  omega
/-- What kind of word. -/
def lnKind (t : Nat) (add : Nat → Int) (P N : Int) (v : List Nat) : Nat :=
  if rightWd 1 t v = false then 0
  else if 72 < (lnCutRun 96 1 add v).1 then 1 + lastL 0 v
  else if (lnCutRun 96 1 add v).1 < -72 then 33 + lastL 0 v
  else 65 + (((lnCutRun 96 1 add v).1 + 72).toNat * 13 + ((lnCutRun 96 1 add v).2 - (55 * (lnCutRun 96 1 add v).1 - (3 + 56 * N + 35 * P) + 88) / 89).toNat) * 32 + lastL 0 v
theorem lnRun_append (add : Nat → Int) (v x : List Nat) : lnRun 1 add (v ++ x) = runFrom1 add (lnRun 1 add v) x := by
  unfold lnRun runFrom1; rw [List.foldl_append]
theorem ln_kinds {t : Nat} {S c : Int} (hS : 0 ≤ S ∧ S ≤ 12) (h0 : 0 ≤ P ∧ 0 ≤ N ∧ P + N = S) (ha : ∀ l, l < n → -N ≤ add l ∧ add l ≤ P) (hc : -60 ≤ c ∧ c ≤ 60) (hn : 0 < n ∧ n ≤ 32) (less : Bool)
    {X : List (List Int)} {E : List Bool} (h : Least n X E fun w => lnEnd less c (lnRun 1 add w) && rightWd 1 t w) : X.length ≤ 65536 := by
  have ha' : ∀ l, l < n → lnOk 1 S (add l) := fun l hl => by
    have := ha l hl
    have h2 : radix 1 - 1 = 1 := rfl
    unfold lnOk; rw [h2]; omega
  have hst : ∀ v, Ltr n v → (Strip P N (lnCutRun 96 1 add v) ∧ -96 ≤ (lnCutRun 96 1 add v).1 ∧ (lnCutRun 96 1 add v).1 ≤ 96 ∨ lnCutRun 96 1 add v = (97, 0) ∨ lnCutRun 96 1 add v = (-97, 0)) := fun v hv =>
    ln_strip ⟨h0.1, h0.2.1⟩ ha v _ hv (.inl ⟨by unfold Strip; simp only; omega, by simp only; omega, by simp only; omega⟩)
  have hrl : ∀ v, Ltr n v → LnRel 1 96 S 60 (lnCutRun 96 1 add v) (lnRun 1 add v) := fun v hv => ln_rel (by decide) hS.1 (by omega) (by omega) ha' v hv
  have hup : ∀ v, Ltr n v → 72 < (lnCutRun 96 1 add v).1 → High 1 S 60 (lnRun 1 add v) ∨ (72 < (lnRun 1 add v).1 ∧ Strip P N (lnRun 1 add v)) := fun v hv h1 => by
    rcases hrl v hv with ⟨e, h2, h3, _⟩ | ⟨e, h2⟩ | ⟨e, h2⟩
    · rw [e] at h1
      have h4 := hst v hv
      rw [e] at h4
      refine .inr ⟨h1, ?_⟩
      rcases h4 with h4 | h4 | h4
      · exact h4.1
      · rw [h4] at h3; simp only at h3; omega
      · rw [h4] at h2; simp only at h2; omega
    · exact .inl h2
    · rw [e] at h1; simp only at h1; omega
  have hdn : ∀ v, Ltr n v → (lnCutRun 96 1 add v).1 < -72 → High 1 S 60 (-(lnRun 1 add v).1, -(lnRun 1 add v).2) ∨ ((lnRun 1 add v).1 < -72 ∧ Strip P N (lnRun 1 add v)) := fun v hv h1 => by
    rcases hrl v hv with ⟨e, h2, h3, _⟩ | ⟨e, h2⟩ | ⟨e, h2⟩
    · rw [e] at h1
      have h4 := hst v hv
      rw [e] at h4
      refine .inr ⟨h1, ?_⟩
      rcases h4 with h4 | h4 | h4
      · exact h4.1
      · rw [h4] at h3; simp only at h3; omega
      · rw [h4] at h2; simp only at h2; omega
    · rw [e] at h1; simp only at h1; omega
    · exact .inl h2
  have hmid : ∀ v, Ltr n v → ¬ 72 < (lnCutRun 96 1 add v).1 → ¬ (lnCutRun 96 1 add v).1 < -72 → lnCutRun 96 1 add v = lnRun 1 add v ∧ Strip P N (lnCutRun 96 1 add v) := fun v hv h1 h2 => by
    refine ⟨?_, ?_⟩
    · rcases hrl v hv with ⟨e, _⟩ | ⟨e, _⟩ | ⟨e, _⟩
      · exact e
      · rw [e] at h1; simp only at h1; omega
      · rw [e] at h2; simp only at h2; omega
    · rcases hst v hv with h | e | e
      · exact h.1
      · rw [e] at h1; simp only at h1; omega
      · rw [e] at h2; simp only at h2; omega
  have hlast : ∀ v, Ltr n v → lastL 0 v < 32 := fun v hv => Nat.lt_of_lt_of_le (lastL_lt v 0 hn.1 hv) hn.2
  refine Nat.le_trans (h.bound 60385 (lnKind t add P N) (fun v hv => ?_) fun v w hv hw e x hx => ?_) (by omega)
  · have hl := hlast v hv
    unfold lnKind
    split
    · omega
    · split
      · omega
      · split
        · omega
        · have h1 := (hmid v hv ‹_› ‹_›).2
          unfold Strip at h1
          omega
  · have hlv := hlast v hv
    have hlw := hlast w hw
    simp only [lnRun_append, rightWd_append]
    have kind : ∀ v, Ltr n v → (rightWd 1 t v = false ∧ lnKind t add P N v = 0) ∨ (rightWd 1 t v = true ∧ 72 < (lnCutRun 96 1 add v).1 ∧ lnKind t add P N v = 1 + lastL 0 v) ∨ (rightWd 1 t v = true ∧ (lnCutRun 96 1 add v).1 < -72 ∧ lnKind t add P N v = 33 + lastL 0 v) ∨
        (rightWd 1 t v = true ∧ ¬ 72 < (lnCutRun 96 1 add v).1 ∧ ¬ (lnCutRun 96 1 add v).1 < -72 ∧ lnKind t add P N v = 65 + (((lnCutRun 96 1 add v).1 + 72).toNat * 13 + ((lnCutRun 96 1 add v).2 - (55 * (lnCutRun 96 1 add v).1 - (3 + 56 * N + 35 * P) + 88) / 89).toNat) * 32 + lastL 0 v) := fun v hv => by
      cases hr : rightWd 1 t v with
      | false => exact .inl ⟨rfl, by unfold lnKind; rw [if_pos hr]⟩
      | true =>
        have hr' : ¬ rightWd 1 t v = false := by rw [hr]; decide
        by_cases h1 : 72 < (lnCutRun 96 1 add v).1
        · exact .inr (.inl ⟨rfl, h1, by unfold lnKind; rw [if_neg hr', if_pos h1]⟩)
        · by_cases h2 : (lnCutRun 96 1 add v).1 < -72
          · exact .inr (.inr (.inl ⟨rfl, h2, by unfold lnKind; rw [if_neg hr', if_neg h1, if_pos h2]⟩))
          · exact .inr (.inr (.inr ⟨rfl, h1, h2, by unfold lnKind; rw [if_neg hr', if_neg h1, if_neg h2]⟩))
    have kv := kind v hv
    have kw := kind w hw
    clear kind
    have fin_up : ∀ q : Int × Int, 60 < q.1 → lnEnd less c q = false := fun q hq => by
      unfold lnEnd
      split <;> simp only [decide_eq_false_iff_not] <;> omega
    have fin_dn : ∀ q : Int × Int, q.1 < -60 → lnEnd less c q = less := fun q hq => by
      unfold lnEnd
      cases less
      · simp only [Bool.false_eq_true, if_false, decide_eq_false_iff_not]; omega
      · simp only [if_true, decide_eq_true_eq]; omega
    rcases kv with ⟨r1, k1⟩ | ⟨r1, a1, k1⟩ | ⟨r1, a1, k1⟩ | ⟨r1, a1, b1, k1⟩ <;> rcases kw with ⟨r2, k2⟩ | ⟨r2, a2, k2⟩ | ⟨r2, a2, k2⟩ | ⟨r2, a2, b2, k2⟩ <;> (try (exfalso; omega))
    · rw [r1, r2]; simp
    · rw [fin_up _ (above hS h0 ha (hup v hv a1) hx), fin_up _ (above hS h0 ha (hup w hw a2) hx)]
      simp
    · rw [fin_dn _ (below hS h0 ha (hdn v hv a1) hx), fin_dn _ (below hS h0 ha (hdn w hw a2) hx), r1, r2, show lastL 0 v = lastL 0 w by omega]
    · obtain ⟨e1, s1⟩ := hmid v hv a1 b1
      obtain ⟨e2, s2⟩ := hmid w hw a2 b2
      unfold Strip at s1 s2
      have hx1 : (lnCutRun 96 1 add v).1 = (lnCutRun 96 1 add w).1 := by omega
      have hl : lastL 0 v = lastL 0 w := by omega
      have hx2 : (lnCutRun 96 1 add v).2 = (lnCutRun 96 1 add w).2 := by
        rw [hx1] at k1 s1
        omega
      rw [← e1, ← e2, r1, r2, hl, Prod.ext hx1 hx2]
end
end Go.Proofs.YtfhncnhkeodngaaDoor
namespace Go.Proofs.YtfhncnhkeodngaaDoor

section
variable {n n' m : Nat} {next : List (List Int)} {to : List Int}
end
theorem digitAt_ok {k : Int} (hk : 2 ≤ k) (t : Nat) (l : Int) (i : Nat) : 0 ≤ digitAt k t l i ∧ digitAt k t l i < k := by
  unfold digitAt
  by_cases h : i < (unpack k t l).length
  · rw [getD_lt h]; exact unpack_ok hk t l _ (List.getElem_mem h)
  · rw [List.getD_eq_getElem?_getD, List.getElem?_eq_none (by omega)]
    simp only [Option.getD_none]; omega
end Go.Proofs.YtfhncnhkeodngaaDoor
namespace Go.Proofs.YtfhncnhkeodngaaDoor

def szAll (coefs : List Int) : Bool := coefs.all fun c => decide (-12 ≤ c ∧ c ≤ 12)
def szW (coefs : List Int) : Int := coefs.foldl (fun s c => IntKind.i64.wrap (s + max c (-c))) 0
def sizeA (coefs : List Int) : Int := absN coefs coefs.length
theorem absN_le {coefs : List Int} (h : szAll coefs = true) : ∀ i, absN coefs i ≤ 12 * (i : Int)
  | 0 => by simp [absN, dotN]
  | i + 1 => by
    have ih := absN_le h i
    rw [absN_succ]
    have : -12 ≤ coefs.getD i 0 ∧ coefs.getD i 0 ≤ 12 := by
      rw [List.getD_eq_getElem?_getD]
      cases hc : coefs[i]? with
      | none => simp
      | some c => simpa using List.all_eq_true.1 h c (List.mem_of_getElem? hc)
    omega
theorem szW_take {coefs : List Int} (h : szAll coefs = true) (hl : coefs.length ≤ 1000) : ∀ i, i ≤ coefs.length → szW (coefs.take i) = absN coefs i
  | 0, _ => rfl
  | i + 1, hi => by
    have ih := szW_take h hl i (by omega)
    have hb := absN_le h (i + 1)
    have h0 := (posneg coefs i).1
    have h1 := (posneg coefs i).2
    rw [List.take_succ_eq_append_getElem (by omega)]
    unfold szW at ih ⊢
    rw [List.foldl_append, ih, absN_succ] at *
    simp only [List.foldl_cons, List.foldl_nil]
    rw [getD_lt (by omega)] at hb ⊢
    exact wrap_i64 _ (by omega)
theorem szW_eq {coefs : List Int} (h : szAll coefs = true) (hl : coefs.length ≤ 1000) : szW coefs = sizeA coefs := by
  have := szW_take h hl coefs.length (Nat.le_refl _)
  rwa [List.take_length] at this
theorem szAll_not {coefs : List Int} (h : szAll coefs = false) : 12 < sizeA coefs := by
  unfold szAll at h
  rw [List.all_eq_false] at h
  obtain ⟨c, hc, h2⟩ := h
  obtain ⟨i, hi, rfl⟩ := List.mem_iff_getElem.1 hc
  have := absN_ge coefs hi
  rw [getD_lt hi] at this
  simp only [decide_eq_true_eq] at h2
  unfold sizeA
  omega
def addL (base : Int) (coefs : List Int) (l : Nat) : Int := dotN coefs (fun i => digitAt (radix base) coefs.length (l : Int) i) coefs.length
def lineL (base : Int) (coefs : List Int) (c : Int) (less : Bool) (w : List Nat) : Bool := lnEnd less c (lnRun base (addL base coefs) w) && rightWd base coefs.length w
structure LineOk (base : Int) (coefs : List Int) (c : Int) (n : Nat) : Prop where
  many : manyErr base coefs.length = 0
  n_eq : manyOf base coefs.length = n
  r : radix base ≠ 0
  t5 : coefs.length ≤ 5
  n0 : 0 < n
  n36 : n ≤ 36
  sz : 0 ≤ sizeA coefs ∧ sizeA coefs ≤ 12
  c60 : -60 ≤ c ∧ c ≤ 60
section
variable {base : Int} {coefs : List Int} {c : Int} {n : Nat}
theorem LineOk.add (g : LineOk base coefs c n) (l : Nat) : -(negN coefs coefs.length * (radix base - 1)) ≤ addL base coefs l ∧ addL base coefs l ≤ posN coefs coefs.length * (radix base - 1) :=
  dotN_bd coefs (r := radix base - 1) _ fun j _ => by
    have := digitAt_ok (radix_two g.r).1 coefs.length (l : Int) j
    omega
theorem LineOk.lnOk (g : LineOk base coefs c n) (l : Nat) : lnOk base (sizeA coefs) (addL base coefs l) := by
  have h := g.add l
  have h1 := (posneg coefs coefs.length).1
  obtain ⟨h2, h3⟩ := (posneg coefs coefs.length).2
  have hr := (radix_two g.r).1
  have h4 : posN coefs coefs.length * (radix base - 1) ≤ sizeA coefs * (radix base - 1) := Int.mul_le_mul_of_nonneg_right (by unfold sizeA; omega) (by omega)
  have h5 : negN coefs coefs.length * (radix base - 1) ≤ sizeA coefs * (radix base - 1) := Int.mul_le_mul_of_nonneg_right (by unfold sizeA; omega) (by omega)
  unfold Go.Proofs.YtfhncnhkeodngaaDoor.lnOk
  omega
/-- Of base Fib there are not too many kinds of words. -/
theorem LineOk.kinds (g : LineOk base coefs c n) (hb : base = 1) (less : Bool) {X : List (List Int)} {E : List Bool} (h : Least n X E (lineL base coefs c less)) : X.length ≤ 65536 := by
  subst hb
  have h1 := (posneg coefs coefs.length).1
  obtain ⟨h2, h3⟩ := (posneg coefs coefs.length).2
  have hs := g.sz
  unfold sizeA at hs
  have hn32 : n ≤ 32 := by
    obtain ⟨_, _, _, _, hm⟩ := many_ok g.many
    have h2 : radix 1 = 2 := rfl
    rw [h2, powW_two, Int.toNat_natCast, g.n_eq] at hm
    have h5 : n = 2 ^ coefs.length := by omega
    rw [h5]
    exact Nat.pow_le_pow_right (by omega) g.t5
  refine ln_kinds (n := n) (P := posN coefs coefs.length) (N := negN coefs coefs.length) (S := sizeA coefs) (t := coefs.length) (c := c) ⟨hs.1, hs.2⟩ ⟨h2, h3, h1⟩ (fun l hl => ?_) g.c60 ⟨g.n0, hn32⟩ less h
  have := g.add l
  have h2 : radix 1 - 1 = 1 := rfl
  rw [h2] at this
  omega
end
end Go.Proofs.YtfhncnhkeodngaaDoor
namespace Go.Proofs.YtfhncnhkeodngaaDoor

structure GNode where
  op : Int
  var : Int
  other : Int
  word : Int
  word2 : Int
  num : Int
  coefs : List Int
  deriving Inhabited, DecidableEq
theorem gb_node (l : List GNode) (k : Nat) (h : k < l.length) : l[k]? = some l[k]! := get_bang l k h
attribute [go_sem] gb_node
def partsOf (op : Int) : Int := if op = 5 ∨ op = 8 ∨ op = 9 then 1 else if op = 6 ∨ op = 7 then 2 else 0
theorem parts_cases (op : Int) : partsOf op = 0 ∨ partsOf op = 1 ∨ partsOf op = 2 := by unfold partsOf; split <;> (try split) <;> simp
def isVar (v : Int) : Bool := decide (0 ≤ v ∧ v < 5)
/-- The fields that a node uses. -/
def usedN (n : GNode) : GNode :=
  if n.op = 1 ∨ n.op = 2 then ⟨n.op, 0, 0, 0, 0, n.num, n.coefs⟩ else if n.op = 3 then ⟨n.op, n.var, 0, n.word, 0, n.num, []⟩ else if n.op = 4 then ⟨n.op, n.var, n.other, n.word, n.word2, 0, []⟩
  else if n.op = 8 ∨ n.op = 9 then ⟨n.op, n.var, 0, 0, 0, 0, []⟩ else ⟨n.op, 0, 0, 0, 0, 0, []⟩
def nodeOk (n : GNode) : Bool :=
  if n.op = 1 ∨ n.op = 2 then decide (n.coefs.length ≤ 5) && decide (sizeA n.coefs ≤ 12) && decide (-60 ≤ n.num) && decide (n.num ≤ 60)
  else if n.op = 3 then isVar n.var && decide (0 ≤ n.word) && decide (n.word < 3) && decide (0 ≤ n.num) && decide (n.num ≤ 9)
  else if n.op = 4 then isVar n.var && isVar n.other && decide (0 ≤ n.word) && decide (n.word < 3) && decide (0 ≤ n.word2) && decide (n.word2 < 3)
  else if n.op = 8 ∨ n.op = 9 then isVar n.var else true
def nodeMore (n : GNode) : Bool := decide (n.var ≠ (usedN n).var) || decide (n.other ≠ (usedN n).other) || decide (n.word ≠ (usedN n).word) || decide (n.word2 ≠ (usedN n).word2) || decide (n.num ≠ (usedN n).num) || decide (n.coefs.length ≠ (usedN n).coefs.length)
def nodeErr (n : GNode) : Int := if n.op < 1 ∨ 9 < n.op then 1 else if nodeOk n = false then 1 else if nodeMore n = true then 2 else if 0 < n.coefs.length ∧ n.coefs[n.coefs.length - 1]! = 0 then 2 else 0
def formGo : List GNode → Nat → Int → Int × Int
  | [], i, o => if 0 < o then ((i : Int), 4) else (0, 0)
  | n :: r, i, o => if nodeErr n ≠ 0 then ((i : Int), nodeErr n) else if o = 0 then ((i : Int), 2) else formGo r (i + 1) (o + (partsOf n.op - 1))
def formErr (f : List GNode) : Int × Int := if f.length = 0 then (0, 4) else if 40 < f.length then (0, 3) else formGo f 0 1

/-- A part, from where it begins to where it ends. -/
inductive Part (f : List GNode) : Nat → Nat → Prop
  | leaf {i : Nat} {n : GNode} (h : f[i]? = some n) (hp : partsOf n.op = 0) : Part f i (i + 1)
  | one {i e : Nat} {n : GNode} (h : f[i]? = some n) (hp : partsOf n.op = 1) (h1 : Part f (i + 1) e) : Part f i e
  | two {i m e : Nat} {n : GNode} (h : f[i]? = some n) (hp : partsOf n.op = 2) (h1 : Part f (i + 1) m) (h2 : Part f m e) : Part f i e
theorem Part.lt {f : List GNode} {i e : Nat} (h : Part f i e) : i < e ∧ e ≤ f.length := by
  induction h with
  | leaf h hp => have := (List.getElem?_eq_some_iff.1 h).1; omega
  | one h hp h1 ih => omega
  | two h hp h1 h2 ih1 ih2 => omega
/-- So many parts, one behind the other. -/
inductive PartsN (f : List GNode) : Nat → Nat → Nat → Prop
  | nil (e : Nat) : PartsN f 0 e e
  | cons {k i m e : Nat} (h : Part f i m) (h2 : PartsN f k m e) : PartsN f (k + 1) i e
theorem PartsN.step {f : List GNode} {k i e : Nat} (h : PartsN f (k + 1) i e) : ∃ n, f[i]? = some n ∧ PartsN f (k + (partsOf n.op).toNat) (i + 1) e := by
  cases h with
  | cons h h2 =>
    cases h with
    | leaf h hp => exact ⟨_, h, by rw [hp]; exact h2⟩
    | one h hp h1 => exact ⟨_, h, by rw [hp]; exact .cons h1 h2⟩
    | two h hp h1 h3 => exact ⟨_, h, by rw [hp]; exact .cons h1 (.cons h3 h2)⟩
theorem drop_cons {α : Type} {l : List α} {i : Nat} {x : α} (h : l[i]? = some x) : l.drop i = x :: l.drop (i + 1) := by
  obtain ⟨hi, rfl⟩ := List.getElem?_eq_some_iff.1 h
  exact List.drop_eq_getElem_cons hi
theorem formGo_part (f : List GNode) : ∀ (k i : Nat) (o : Int), f.length - i ≤ k → i ≤ f.length → 0 ≤ o → (formGo (f.drop i) i o).2 = 0 →
    (o = 0 → i = f.length) ∧ (∀ j (hj : j < f.length), i ≤ j → nodeErr f[j] = 0) ∧ (0 < o → ∃ e, Part f i e ∧ (formGo (f.drop e) e (o - 1)).2 = 0)
  | 0, i, o, hk, hi, ho, h => by
    obtain rfl : i = f.length := by omega
    rw [List.drop_length, formGo] at h
    refine ⟨fun _ => rfl, fun j hj h => by omega, fun h0 => ?_⟩
    rw [if_pos h0] at h; simp at h
  | k + 1, i, o, hk, hi, ho, h => by
    by_cases hil : i = f.length
    · exact formGo_part f 0 i o (by omega) hi ho h
    · have hlt : i < f.length := by omega
      have hn : f[i]? = some f[i] := List.getElem?_eq_getElem hlt
      rw [drop_cons hn, formGo] at h
      by_cases h1 : nodeErr f[i] = 0
      · rw [if_neg (by omega)] at h
        by_cases h2 : o = 0
        · rw [if_pos h2] at h; simp at h
        · rw [if_neg h2] at h
          have hp := parts_cases f[i].op
          obtain ⟨r1, r2, r3⟩ := formGo_part f k (i + 1) _ (by omega) (by omega) (by omega) h
          refine ⟨fun e => absurd e h2, fun j hj hij => ?_, fun _ => ?_⟩
          · by_cases e : j = i
            · subst e; exact h1
            · exact r2 j hj (by omega)
          · rcases hp with hp | hp | hp
            · exact ⟨i + 1, .leaf hn hp, by rw [hp] at h; exact h⟩
            · obtain ⟨e, p1, p2⟩ := r3 (by omega)
              exact ⟨e, .one hn hp p1, by rw [hp] at p2; rw [show o - 1 = o + (1 - 1) - 1 by omega]; exact p2⟩
            · obtain ⟨m, p1, p2⟩ := r3 (by omega)
              have hm := p1.lt
              obtain ⟨_, _, r6⟩ := formGo_part f k m _ (by omega) hm.2 (by omega) p2
              obtain ⟨e, q1, q2⟩ := r6 (by omega)
              exact ⟨e, .two hn hp p1 q1, by rw [hp] at q2; rw [show o - 1 = o + (2 - 1) - 1 - 1 by omega]; exact q2⟩
      · rw [if_pos h1] at h; exact absurd h h1
theorem form_ok {f : List GNode} (h : (formErr f).2 = 0) : 0 < f.length ∧ f.length ≤ 40 ∧ (∀ n ∈ f, nodeErr n = 0) ∧ Part f 0 f.length ∧ (formErr f).1 = 0 := by
  have h' := h
  unfold formErr at h
  split at h
  · simp at h
  · split at h
    · simp at h
    · rename_i h1 h2
      obtain ⟨r1, r2, r3⟩ := formGo_part f f.length 0 1 (by omega) (by omega) (by omega) (by rw [List.drop_zero]; exact h)
      obtain ⟨e, p1, p2⟩ := r3 (by omega)
      have hl := p1.lt
      obtain ⟨r4, _, _⟩ := formGo_part f f.length e 0 (by omega) hl.2 (by omega) p2
      refine ⟨by omega, by omega, fun n hn => ?_, by have := r4 rfl; rwa [this] at p1, ?_⟩
      · obtain ⟨j, hj, rfl⟩ := List.mem_iff_getElem.1 hn
        exact r2 j hj (by omega)
      · have key : ∀ (l : List GNode) (i : Nat) (o : Int), (formGo l i o).2 = 0 → (formGo l i o).1 = 0 := fun l => by
          induction l with
          | nil =>
            intro i o h
            rw [formGo] at h ⊢
            by_cases a : 0 < o
            · rw [if_pos a] at h; simp at h
            · rw [if_neg a]
          | cons n r ih =>
            intro i o h
            rw [formGo] at h ⊢
            by_cases a : nodeErr n = 0
            · rw [if_neg (by omega)] at h ⊢
              by_cases b : o = 0
              · rw [if_pos b] at h; simp at h
              · rw [if_neg b] at h ⊢; exact ih _ _ h
            · rw [if_pos a] at h; exact absurd h a
        unfold formErr
        rw [if_neg h1, if_neg h2]
        exact key _ _ _ h
/-- Does a node itself use a variable? -/
def usesN (n : GNode) (v : Int) : Bool := if n.op = 1 ∨ n.op = 2 then decide (v < n.coefs.length) && decide (n.coefs.getD v.toNat 0 ≠ 0) else (decide (n.op = 3 ∨ n.op = 4) && decide (n.var = v)) || (decide (n.op = 4) && decide (n.other = v))
def endF (f : List GNode) : Nat → Nat → Nat
  | 0, i => i
  | k + 1, i => match f[i]? with
    | none => i
    | some n => if partsOf n.op = 0 then i + 1 else if partsOf n.op = 1 then endF f k (i + 1) else endF f k (endF f k (i + 1))
def freeF (f : List GNode) : Nat → Nat → Int → Bool
  | 0, _, _ => false
  | k + 1, i, v => match f[i]? with
    | none => false
    | some n => if (n.op = 8 ∨ n.op = 9) ∧ n.var = v then false else
      usesN n v || (decide (partsOf n.op ≠ 0) && freeF f k (i + 1) v) || (decide (partsOf n.op = 2) && freeF f k (endF f k (i + 1)) v)
theorem Part.endF {f : List GNode} {i e : Nat} (h : Part f i e) : ∀ k, e - i ≤ k → endF f k i = e := by
  induction h with
  | leaf h hp =>
    intro k hk
    obtain ⟨k, rfl⟩ : ∃ q, k = q + 1 := ⟨k - 1, by omega⟩
    simp only [Go.Proofs.YtfhncnhkeodngaaDoor.endF, h, if_pos hp]
  | one h hp h1 ih =>
    intro k hk
    have := h1.lt
    obtain ⟨k, rfl⟩ : ∃ q, k = q + 1 := ⟨k - 1, by omega⟩
    simp only [Go.Proofs.YtfhncnhkeodngaaDoor.endF, h]
    rw [if_neg (by omega), if_pos hp]
    exact ih k (by omega)
  | two h hp h1 h2 ih1 ih2 =>
    intro k hk
    have a := h1.lt
    have b := h2.lt
    obtain ⟨k, rfl⟩ : ∃ q, k = q + 1 := ⟨k - 1, by omega⟩
    simp only [Go.Proofs.YtfhncnhkeodngaaDoor.endF, h]
    rw [if_neg (by omega), if_neg (by omega), ih1 k (by omega)]
    exact ih2 k (by omega)
theorem Part.freeF {f : List GNode} {i e : Nat} (h : Part f i e) (v : Int) : ∀ k q, e - i ≤ k → e - i ≤ q → freeF f k i v = freeF f q i v := by
  induction h with
  | leaf h hp =>
    intro k q hk hq
    obtain ⟨k, rfl⟩ : ∃ q, k = q + 1 := ⟨k - 1, by omega⟩
    obtain ⟨q, rfl⟩ : ∃ r, q = r + 1 := ⟨q - 1, by omega⟩
    simp only [Go.Proofs.YtfhncnhkeodngaaDoor.freeF, h]
    rw [hp]
    simp
  | one h hp h1 ih =>
    intro k q hk hq
    have := h1.lt
    obtain ⟨k, rfl⟩ : ∃ q, k = q + 1 := ⟨k - 1, by omega⟩
    obtain ⟨q, rfl⟩ : ∃ r, q = r + 1 := ⟨q - 1, by omega⟩
    simp only [Go.Proofs.YtfhncnhkeodngaaDoor.freeF, h]
    rw [hp, ih k q (by omega) (by omega)]
    simp
  | two h hp h1 h2 ih1 ih2 =>
    intro k q hk hq
    have a := h1.lt
    have b := h2.lt
    obtain ⟨k, rfl⟩ : ∃ q, k = q + 1 := ⟨k - 1, by omega⟩
    obtain ⟨q, rfl⟩ : ∃ r, q = r + 1 := ⟨q - 1, by omega⟩
    simp only [Go.Proofs.YtfhncnhkeodngaaDoor.freeF, h]
    rw [h1.endF k (by omega), h1.endF q (by omega), ih1 k q (by omega) (by omega), ih2 k q (by omega) (by omega)]
/-- Does a variable stand free in the part at a place? -/
def freeP (f : List GNode) (i : Nat) (v : Int) : Bool := freeF f f.length i v
section
variable {f : List GNode} {i m e : Nat} {n : GNode}
theorem freeP_at (h : Part f i e) (v : Int) : ∃ k, f.length = k + 1 ∧ freeP f i v = freeF f (k + 1) i v := by
  have := h.lt
  exact ⟨f.length - 1, by omega, by unfold freeP; rw [show f.length - 1 + 1 = f.length by omega]⟩
theorem freeP_leaf (h : f[i]? = some n) (hp : partsOf n.op = 0) (v : Int) : freeP f i v = usesN n v := by
  obtain ⟨k, _, e1⟩ := freeP_at (.leaf h hp) v
  rw [e1]
  simp only [freeF, h, hp]
  rw [if_neg (by
    rintro ⟨h8, _⟩
    unfold partsOf at hp
    rw [if_pos (by omega)] at hp; omega)]
  simp
theorem freeP_one (h : f[i]? = some n) (hp : partsOf n.op = 1) (h1 : Part f (i + 1) e) (v : Int) : freeP f i v = if (n.op = 8 ∨ n.op = 9) ∧ n.var = v then false else freeP f (i + 1) v := by
  obtain ⟨k, hk, e1⟩ := freeP_at (.one h hp h1) v
  have hl := h1.lt
  rw [e1]
  simp only [freeF, h, hp]
  have hu : usesN n v = false := by
    unfold partsOf at hp
    unfold usesN
    have : n.op = 5 ∨ n.op = 8 ∨ n.op = 9 := by
      split at hp
      · assumption
      · split at hp <;> omega
    rw [if_neg (by omega), decide_eq_false (show ¬ (n.op = 3 ∨ n.op = 4) by omega), decide_eq_false (show ¬ n.op = 4 by omega)]; rfl
  rw [hu]
  split
  · rfl
  · unfold freeP
    rw [h1.freeF v k f.length (by omega) (by omega)]
    simp
theorem freeP_two (h : f[i]? = some n) (hp : partsOf n.op = 2) (h1 : Part f (i + 1) m) (h2 : Part f m e) (v : Int) : freeP f i v = (freeP f (i + 1) v || freeP f m v) := by
  obtain ⟨k, hk, e1⟩ := freeP_at (.two h hp h1 h2) v
  have hl1 := h1.lt
  have hl2 := h2.lt
  rw [e1]
  simp only [freeF, h, hp]
  have h67 : n.op = 6 ∨ n.op = 7 := by
    unfold partsOf at hp
    split at hp
    · omega
    · split at hp
      · assumption
      · omega
  have hu : usesN n v = false := by
    unfold usesN
    rw [if_neg (by omega), decide_eq_false (show ¬ (n.op = 3 ∨ n.op = 4) by omega), decide_eq_false (show ¬ n.op = 4 by omega)]; rfl
  rw [if_neg (by rintro ⟨h8, _⟩; omega), hu, h1.endF k (by omega)]
  unfold freeP
  rw [h1.freeF v k f.length (by omega) (by omega), h2.freeF v k f.length (by omega) (by omega)]
  simp
end
/-- The free variables, rising. -/
def freeL (f : List GNode) : List Int := ((List.range 5).map fun k => ((k : Nat) : Int)).filter fun v => freeP f 0 v
end Go.Proofs.YtfhncnhkeodngaaDoor
namespace Go.Proofs.YtfhncnhkeodngaaDoor
open Go.RowKit

def tNode (n : GNode) : T := .agg [tInt n.op, tInt n.var, tInt n.other, tInt n.word, tInt n.word2, tInt n.num, tInts n.coefs]
def tForm (f : List GNode) : T := .list (f.map tNode)
section
variable {G : World → Prop} (hG : Lasting G)
include hG
theorem Parts_snd (op : Int) : Snd Tryd.prog G 68 [tInt op] (tInt (partsOf op)) := by
  refine snd_of_body (n := 11) (tm := [(0, .t (tInt op))]) (rs := [.tmp 2]) tt_ok Tryd.func68 rfl rfl rfl rfl rfl ?_
  have htb : Tab.ok Tryd.prog G [] := Tab.nil
  unfold partsOf
  by_cases h5 : op = 5
  · subst h5
    repeat' (first | (with_reducible first | refine SW_seq ?_ | refine SW_block ?_ | refine SThen_n ?_ | refine SThen_r ?_ | refine SThen_e ?_ | refine SIn_n ?_ | refine SIn_r ?_ | refine SIn_eq ?_ | refine SW_skip ?_ | refine SW_exit ?_ | refine SW_ret ?_ | refine SPost_r ?_) | ((with_reducible refine SIn_ne ?_ ?_); focus decide) | ((with_reducible refine SW_true ?_ ?_); focus exact rfl) | ((with_reducible refine SW_false ?_ ?_); focus exact rfl) | ((first | (with_reducible apply SW_run tt_ok hG htb) | ((with_reducible apply SW_draw rfl tt_ok hG htb); (focus kernel_rfl); (focus (simp only [List.range, List.range.loop, List.size_toArray, List.length_cons, List.length_nil, Nat.reduceAdd])))); focus ((repeat' (first | (with_reducible exact runX_nil) | (with_reducible exact runI_nil) | ((first | (with_reducible apply runX_cons) | (with_reducible apply runI_cons)); focus (simp (discharger := omega) only [go_sem, simprocAttr]; with_reducible rfl)))); done)))
    exact (by simp (discharger := omega) only [go_sem, simprocAttr])
  · skip
    by_cases h8 : op = 8
    · subst h8
      repeat' (first | (with_reducible first | refine SW_seq ?_ | refine SW_block ?_ | refine SThen_n ?_ | refine SThen_r ?_ | refine SThen_e ?_ | refine SIn_n ?_ | refine SIn_r ?_ | refine SIn_eq ?_ | refine SW_skip ?_ | refine SW_exit ?_ | refine SW_ret ?_ | refine SPost_r ?_) | ((with_reducible refine SIn_ne ?_ ?_); focus decide) | ((with_reducible refine SW_true ?_ ?_); focus exact rfl) | ((with_reducible refine SW_false ?_ ?_); focus exact rfl) | ((first | (with_reducible apply SW_run tt_ok hG htb) | ((with_reducible apply SW_draw rfl tt_ok hG htb); (focus kernel_rfl); (focus (simp only [List.range, List.range.loop, List.size_toArray, List.length_cons, List.length_nil, Nat.reduceAdd])))); focus ((repeat' (first | (with_reducible exact runX_nil) | (with_reducible exact runI_nil) | ((first | (with_reducible apply runX_cons) | (with_reducible apply runI_cons)); focus (simp (discharger := omega) only [go_sem, simprocAttr]; with_reducible rfl)))); done)))
      exact (by simp (discharger := omega) only [go_sem, simprocAttr])
    · skip
      by_cases h9 : op = 9
      · subst h9
        repeat' (first | (with_reducible first | refine SW_seq ?_ | refine SW_block ?_ | refine SThen_n ?_ | refine SThen_r ?_ | refine SThen_e ?_ | refine SIn_n ?_ | refine SIn_r ?_ | refine SIn_eq ?_ | refine SW_skip ?_ | refine SW_exit ?_ | refine SW_ret ?_ | refine SPost_r ?_) | ((with_reducible refine SIn_ne ?_ ?_); focus decide) | ((with_reducible refine SW_true ?_ ?_); focus exact rfl) | ((with_reducible refine SW_false ?_ ?_); focus exact rfl) | ((first | (with_reducible apply SW_run tt_ok hG htb) | ((with_reducible apply SW_draw rfl tt_ok hG htb); (focus kernel_rfl); (focus (simp only [List.range, List.range.loop, List.size_toArray, List.length_cons, List.length_nil, Nat.reduceAdd])))); focus ((repeat' (first | (with_reducible exact runX_nil) | (with_reducible exact runI_nil) | ((first | (with_reducible apply runX_cons) | (with_reducible apply runI_cons)); focus (simp (discharger := omega) only [go_sem, simprocAttr]; with_reducible rfl)))); done)))
        exact (by simp (discharger := omega) only [go_sem, simprocAttr])
      · skip
        by_cases h6 : op = 6
        · subst h6
          repeat' (first | (with_reducible first | refine SW_seq ?_ | refine SW_block ?_ | refine SThen_n ?_ | refine SThen_r ?_ | refine SThen_e ?_ | refine SIn_n ?_ | refine SIn_r ?_ | refine SIn_eq ?_ | refine SW_skip ?_ | refine SW_exit ?_ | refine SW_ret ?_ | refine SPost_r ?_) | ((with_reducible refine SIn_ne ?_ ?_); focus decide) | ((with_reducible refine SW_true ?_ ?_); focus exact rfl) | ((with_reducible refine SW_false ?_ ?_); focus exact rfl) | ((first | (with_reducible apply SW_run tt_ok hG htb) | ((with_reducible apply SW_draw rfl tt_ok hG htb); (focus kernel_rfl); (focus (simp only [List.range, List.range.loop, List.size_toArray, List.length_cons, List.length_nil, Nat.reduceAdd])))); focus ((repeat' (first | (with_reducible exact runX_nil) | (with_reducible exact runI_nil) | ((first | (with_reducible apply runX_cons) | (with_reducible apply runI_cons)); focus (simp (discharger := omega) only [go_sem, simprocAttr]; with_reducible rfl)))); done)))
          exact (by simp (discharger := omega) only [go_sem, simprocAttr])
        · skip
          by_cases h7 : op = 7
          · subst h7
            repeat' (first | (with_reducible first | refine SW_seq ?_ | refine SW_block ?_ | refine SThen_n ?_ | refine SThen_r ?_ | refine SThen_e ?_ | refine SIn_n ?_ | refine SIn_r ?_ | refine SIn_eq ?_ | refine SW_skip ?_ | refine SW_exit ?_ | refine SW_ret ?_ | refine SPost_r ?_) | ((with_reducible refine SIn_ne ?_ ?_); focus decide) | ((with_reducible refine SW_true ?_ ?_); focus exact rfl) | ((with_reducible refine SW_false ?_ ?_); focus exact rfl) | ((first | (with_reducible apply SW_run tt_ok hG htb) | ((with_reducible apply SW_draw rfl tt_ok hG htb); (focus kernel_rfl); (focus (simp only [List.range, List.range.loop, List.size_toArray, List.length_cons, List.length_nil, Nat.reduceAdd])))); focus ((repeat' (first | (with_reducible exact runX_nil) | (with_reducible exact runI_nil) | ((first | (with_reducible apply runX_cons) | (with_reducible apply runI_cons)); focus (simp (discharger := omega) only [go_sem, simprocAttr]; with_reducible rfl)))); done)))
            exact (by simp (discharger := omega) only [go_sem, simprocAttr])
          · skip
            rw [if_neg (by omega), if_neg (by omega)]
            repeat' (first | (with_reducible first | refine SW_seq ?_ | refine SW_block ?_ | refine SThen_n ?_ | refine SThen_r ?_ | refine SThen_e ?_ | refine SIn_n ?_ | refine SIn_r ?_ | refine SIn_eq ?_ | refine SW_skip ?_ | refine SW_exit ?_ | refine SW_ret ?_ | refine SPost_r ?_) | ((with_reducible refine SIn_ne ?_ ?_); focus decide) | ((with_reducible refine SW_true ?_ ?_); focus exact rfl) | ((with_reducible refine SW_false ?_ ?_); focus exact rfl) | ((first | (with_reducible apply SW_run tt_ok hG htb) | ((with_reducible apply SW_draw rfl tt_ok hG htb); (focus kernel_rfl); (focus (simp only [List.range, List.range.loop, List.size_toArray, List.length_cons, List.length_nil, Nat.reduceAdd])))); focus ((repeat' (first | (with_reducible exact runX_nil) | (with_reducible exact runI_nil) | ((first | (with_reducible apply runX_cons) | (with_reducible apply runI_cons)); focus (simp (discharger := omega) only [go_sem, simprocAttr]; with_reducible rfl)))); done)))
            exact (by simp (discharger := omega) only [go_sem, simprocAttr])
theorem RPartsOf_snd (op : Int) : Snd Tryd.prog G 66 [tInt op] (tInt (partsOf op)) := by
  refine snd_of_body (n := 19) (tm := [(0, .t (tInt op))]) (rs := [.tmp 2]) tt_ok Tryd.func66 rfl rfl rfl rfl rfl ?_
  have htb : Tab.ok Tryd.prog G [] := Tab.nil
  unfold partsOf
  by_cases h5 : op = 5
  · subst h5
    repeat' (first | (with_reducible first | refine SW_seq ?_ | refine SW_block ?_ | refine SThen_n ?_ | refine SThen_r ?_ | refine SThen_e ?_ | refine SIn_n ?_ | refine SIn_r ?_ | refine SIn_eq ?_ | refine SW_skip ?_ | refine SW_exit ?_ | refine SW_ret ?_ | refine SPost_r ?_) | ((with_reducible refine SIn_ne ?_ ?_); focus decide) | ((with_reducible refine SW_true ?_ ?_); focus exact rfl) | ((with_reducible refine SW_false ?_ ?_); focus exact rfl) | ((first | (with_reducible apply SW_run tt_ok hG htb) | ((with_reducible apply SW_draw rfl tt_ok hG htb); (focus kernel_rfl); (focus (simp only [List.range, List.range.loop, List.size_toArray, List.length_cons, List.length_nil, Nat.reduceAdd])))); focus ((repeat' (first | (with_reducible exact runX_nil) | (with_reducible exact runI_nil) | ((first | (with_reducible apply runX_cons) | (with_reducible apply runI_cons)); focus (simp (discharger := omega) only [go_sem, simprocAttr]; with_reducible rfl)))); done)))
    exact (by simp (discharger := omega) only [go_sem, simprocAttr])
  · skip
    by_cases h8 : op = 8
    · subst h8
      repeat' (first | (with_reducible first | refine SW_seq ?_ | refine SW_block ?_ | refine SThen_n ?_ | refine SThen_r ?_ | refine SThen_e ?_ | refine SIn_n ?_ | refine SIn_r ?_ | refine SIn_eq ?_ | refine SW_skip ?_ | refine SW_exit ?_ | refine SW_ret ?_ | refine SPost_r ?_) | ((with_reducible refine SIn_ne ?_ ?_); focus decide) | ((with_reducible refine SW_true ?_ ?_); focus exact rfl) | ((with_reducible refine SW_false ?_ ?_); focus exact rfl) | ((first | (with_reducible apply SW_run tt_ok hG htb) | ((with_reducible apply SW_draw rfl tt_ok hG htb); (focus kernel_rfl); (focus (simp only [List.range, List.range.loop, List.size_toArray, List.length_cons, List.length_nil, Nat.reduceAdd])))); focus ((repeat' (first | (with_reducible exact runX_nil) | (with_reducible exact runI_nil) | ((first | (with_reducible apply runX_cons) | (with_reducible apply runI_cons)); focus (simp (discharger := omega) only [go_sem, simprocAttr]; with_reducible rfl)))); done)))
      exact (by simp (discharger := omega) only [go_sem, simprocAttr])
    · skip
      by_cases h9 : op = 9
      · subst h9
        repeat' (first | (with_reducible first | refine SW_seq ?_ | refine SW_block ?_ | refine SThen_n ?_ | refine SThen_r ?_ | refine SThen_e ?_ | refine SIn_n ?_ | refine SIn_r ?_ | refine SIn_eq ?_ | refine SW_skip ?_ | refine SW_exit ?_ | refine SW_ret ?_ | refine SPost_r ?_) | ((with_reducible refine SIn_ne ?_ ?_); focus decide) | ((with_reducible refine SW_true ?_ ?_); focus exact rfl) | ((with_reducible refine SW_false ?_ ?_); focus exact rfl) | ((first | (with_reducible apply SW_run tt_ok hG htb) | ((with_reducible apply SW_draw rfl tt_ok hG htb); (focus kernel_rfl); (focus (simp only [List.range, List.range.loop, List.size_toArray, List.length_cons, List.length_nil, Nat.reduceAdd])))); focus ((repeat' (first | (with_reducible exact runX_nil) | (with_reducible exact runI_nil) | ((first | (with_reducible apply runX_cons) | (with_reducible apply runI_cons)); focus (simp (discharger := omega) only [go_sem, simprocAttr]; with_reducible rfl)))); done)))
        exact (by simp (discharger := omega) only [go_sem, simprocAttr])
      · skip
        by_cases h6 : op = 6
        · subst h6
          repeat' (first | (with_reducible first | refine SW_seq ?_ | refine SW_block ?_ | refine SThen_n ?_ | refine SThen_r ?_ | refine SThen_e ?_ | refine SIn_n ?_ | refine SIn_r ?_ | refine SIn_eq ?_ | refine SW_skip ?_ | refine SW_exit ?_ | refine SW_ret ?_ | refine SPost_r ?_) | ((with_reducible refine SIn_ne ?_ ?_); focus decide) | ((with_reducible refine SW_true ?_ ?_); focus exact rfl) | ((with_reducible refine SW_false ?_ ?_); focus exact rfl) | ((first | (with_reducible apply SW_run tt_ok hG htb) | ((with_reducible apply SW_draw rfl tt_ok hG htb); (focus kernel_rfl); (focus (simp only [List.range, List.range.loop, List.size_toArray, List.length_cons, List.length_nil, Nat.reduceAdd])))); focus ((repeat' (first | (with_reducible exact runX_nil) | (with_reducible exact runI_nil) | ((first | (with_reducible apply runX_cons) | (with_reducible apply runI_cons)); focus (simp (discharger := omega) only [go_sem, simprocAttr]; with_reducible rfl)))); done)))
          exact (by simp (discharger := omega) only [go_sem, simprocAttr])
        · skip
          by_cases h7 : op = 7
          · subst h7
            repeat' (first | (with_reducible first | refine SW_seq ?_ | refine SW_block ?_ | refine SThen_n ?_ | refine SThen_r ?_ | refine SThen_e ?_ | refine SIn_n ?_ | refine SIn_r ?_ | refine SIn_eq ?_ | refine SW_skip ?_ | refine SW_exit ?_ | refine SW_ret ?_ | refine SPost_r ?_) | ((with_reducible refine SIn_ne ?_ ?_); focus decide) | ((with_reducible refine SW_true ?_ ?_); focus exact rfl) | ((with_reducible refine SW_false ?_ ?_); focus exact rfl) | ((first | (with_reducible apply SW_run tt_ok hG htb) | ((with_reducible apply SW_draw rfl tt_ok hG htb); (focus kernel_rfl); (focus (simp only [List.range, List.range.loop, List.size_toArray, List.length_cons, List.length_nil, Nat.reduceAdd])))); focus ((repeat' (first | (with_reducible exact runX_nil) | (with_reducible exact runI_nil) | ((first | (with_reducible apply runX_cons) | (with_reducible apply runI_cons)); focus (simp (discharger := omega) only [go_sem, simprocAttr]; with_reducible rfl)))); done)))
            exact (by simp (discharger := omega) only [go_sem, simprocAttr])
          · skip
            rw [if_neg (by omega), if_neg (by omega)]
            repeat' (first | (with_reducible first | refine SW_seq ?_ | refine SW_block ?_ | refine SThen_n ?_ | refine SThen_r ?_ | refine SThen_e ?_ | refine SIn_n ?_ | refine SIn_r ?_ | refine SIn_eq ?_ | refine SW_skip ?_ | refine SW_exit ?_ | refine SW_ret ?_ | refine SPost_r ?_) | ((with_reducible refine SIn_ne ?_ ?_); focus decide) | ((with_reducible refine SW_true ?_ ?_); focus exact rfl) | ((with_reducible refine SW_false ?_ ?_); focus exact rfl) | ((first | (with_reducible apply SW_run tt_ok hG htb) | ((with_reducible apply SW_draw rfl tt_ok hG htb); (focus kernel_rfl); (focus (simp only [List.range, List.range.loop, List.size_toArray, List.length_cons, List.length_nil, Nat.reduceAdd])))); focus ((repeat' (first | (with_reducible exact runX_nil) | (with_reducible exact runI_nil) | ((first | (with_reducible apply runX_cons) | (with_reducible apply runI_cons)); focus (simp (discharger := omega) only [go_sem, simprocAttr]; with_reducible rfl)))); done)))
            exact (by simp (discharger := omega) only [go_sem, simprocAttr])
theorem variable_snd (v : Int) : Snd Tryd.prog G 71 [tInt v] (.bool (isVar v)) := by
  refine snd_of_body (n := 9) (tm := [(0, .t (tInt v))]) (rs := [.tmp 2]) tt_ok Tryd.func71 rfl rfl rfl rfl rfl ?_
  have htb : Tab.ok Tryd.prog G [] := Tab.nil
  unfold isVar
  by_cases h0 : v < 0
  · rw [decide_eq_false (by omega)]
    repeat' (first | (with_reducible first | refine SW_seq ?_ | refine SW_block ?_ | refine SThen_n ?_ | refine SThen_r ?_ | refine SThen_e ?_ | refine SIn_n ?_ | refine SIn_r ?_ | refine SIn_eq ?_ | refine SW_skip ?_ | refine SW_exit ?_ | refine SW_ret ?_ | refine SPost_r ?_) | ((with_reducible refine SIn_ne ?_ ?_); focus decide) | ((with_reducible refine SW_true ?_ ?_); focus exact rfl) | ((with_reducible refine SW_false ?_ ?_); focus exact rfl) | ((first | (with_reducible apply SW_run tt_ok hG htb) | ((with_reducible apply SW_draw rfl tt_ok hG htb); (focus kernel_rfl); (focus (simp only [List.range, List.range.loop, List.size_toArray, List.length_cons, List.length_nil, Nat.reduceAdd])))); focus ((repeat' (first | (with_reducible exact runX_nil) | (with_reducible exact runI_nil) | ((first | (with_reducible apply runX_cons) | (with_reducible apply runI_cons)); focus (simp (discharger := omega) only [go_sem, simprocAttr]; with_reducible rfl)))); done)))
    exact (by simp (discharger := omega) only [go_sem, simprocAttr])
  · by_cases h1 : v < 5
    · rw [decide_eq_true (by omega)]
      repeat' (first | (with_reducible first | refine SW_seq ?_ | refine SW_block ?_ | refine SThen_n ?_ | refine SThen_r ?_ | refine SThen_e ?_ | refine SIn_n ?_ | refine SIn_r ?_ | refine SIn_eq ?_ | refine SW_skip ?_ | refine SW_exit ?_ | refine SW_ret ?_ | refine SPost_r ?_) | ((with_reducible refine SIn_ne ?_ ?_); focus decide) | ((with_reducible refine SW_true ?_ ?_); focus exact rfl) | ((with_reducible refine SW_false ?_ ?_); focus exact rfl) | ((first | (with_reducible apply SW_run tt_ok hG htb) | ((with_reducible apply SW_draw rfl tt_ok hG htb); (focus kernel_rfl); (focus (simp only [List.range, List.range.loop, List.size_toArray, List.length_cons, List.length_nil, Nat.reduceAdd])))); focus ((repeat' (first | (with_reducible exact runX_nil) | (with_reducible exact runI_nil) | ((first | (with_reducible apply runX_cons) | (with_reducible apply runI_cons)); focus (simp (discharger := omega) only [go_sem, simprocAttr]; with_reducible rfl)))); done)))
      exact (by simp (discharger := omega) only [go_sem, simprocAttr])
    · rw [decide_eq_false (by omega)]
      repeat' (first | (with_reducible first | refine SW_seq ?_ | refine SW_block ?_ | refine SThen_n ?_ | refine SThen_r ?_ | refine SThen_e ?_ | refine SIn_n ?_ | refine SIn_r ?_ | refine SIn_eq ?_ | refine SW_skip ?_ | refine SW_exit ?_ | refine SW_ret ?_ | refine SPost_r ?_) | ((with_reducible refine SIn_ne ?_ ?_); focus decide) | ((with_reducible refine SW_true ?_ ?_); focus exact rfl) | ((with_reducible refine SW_false ?_ ?_); focus exact rfl) | ((first | (with_reducible apply SW_run tt_ok hG htb) | ((with_reducible apply SW_draw rfl tt_ok hG htb); (focus kernel_rfl); (focus (simp only [List.range, List.range.loop, List.size_toArray, List.length_cons, List.length_nil, Nat.reduceAdd])))); focus ((repeat' (first | (with_reducible exact runX_nil) | (with_reducible exact runI_nil) | ((first | (with_reducible apply runX_cons) | (with_reducible apply runI_cons)); focus (simp (discharger := omega) only [go_sem, simprocAttr]; with_reducible rfl)))); done)))
      exact (by simp (discharger := omega) only [go_sem, simprocAttr])
end
end Go.Proofs.YtfhncnhkeodngaaDoor
namespace Go.Proofs.YtfhncnhkeodngaaDoor
open Go.RowKit

def sizeT (coefs : List Int) : T := if szAll coefs = true then .tup [tInt (szW coefs), .bool (decide (szW coefs ≤ 12))] else .tup [tInt 0, .bool false]
theorem szW_next {coefs : List Int} {i : Nat} {x : Int} (h : coefs[i]! = x) (hi : i < coefs.length) : szW (coefs.take (i + 1)) = IntKind.i64.wrap (szW (coefs.take i) + max x (-x)) := by
  rw [take_next h hi]
  unfold szW
  rw [List.foldl_append]; rfl
section
variable {G : World → Prop} (hG : Lasting G)
include hG
set_option maxHeartbeats 4000000 in
theorem Size_snd (coefs : List Int) : Snd Tryd.prog G 80 [tInts coefs] (sizeT coefs) := by
  have htb : Tab.ok Tryd.prog G [] := Tab.nil
  refine snd_of_body (n := 29) (tm := [(0, .t (tInts coefs))]) (rs := [.tmp 2, .tmp 3]) tt_ok Tryd.func80 rfl rfl rfl rfl rfl ?_
  refine SW_len (t := 0) (l := _) rfl fun hcl => ?_
  simp only [List.length_map] at hcl
  repeat' (first | (with_reducible first | refine SW_seq ?_ | refine SW_block ?_ | refine SThen_n ?_ | refine SThen_r ?_ | refine SThen_e ?_ | refine SIn_n ?_ | refine SIn_r ?_ | refine SIn_eq ?_ | refine SW_skip ?_ | refine SW_exit ?_ | refine SW_ret ?_ | refine SPost_r ?_) | ((with_reducible refine SIn_ne ?_ ?_); focus decide) | ((with_reducible refine SW_true ?_ ?_); focus exact rfl) | ((with_reducible refine SW_false ?_ ?_); focus exact rfl) | ((first | (with_reducible apply SW_run tt_ok hG htb) | ((with_reducible apply SW_draw rfl tt_ok hG htb); (focus kernel_rfl); (focus (simp only [List.range, List.range.loop, List.size_toArray, List.length_cons, List.length_nil, Nat.reduceAdd])))); focus ((repeat' (first | (with_reducible exact runX_nil) | (with_reducible exact runI_nil) | ((first | (with_reducible apply runX_cons) | (with_reducible apply runI_cons)); focus (simp (discharger := omega) only [go_sem, simprocAttr]; with_reducible rfl)))); done)))
  refine SW_loop (fun mm s => ∃ (i : Nat) (q : Int), mm = coefs.length - i ∧ s = ⟨29, [(4, .t (tInt q)), (7, .t (tInts coefs)), (8, .t (tInt coefs.length)), (9, .t (tInt i))], []⟩ ∧ i ≤ coefs.length ∧ q = szW (coefs.take i) ∧ ∀ j (hj : j < coefs.length), j < i → -12 ≤ coefs[j] ∧ coefs[j] ≤ 12) (coefs.length)
    ⟨_, Norm.headS (own := []) (keep := [4, 7, 8, 9]) (by refine ⟨?_, ?_⟩; (simp (discharger := omega) only [go_sem, simprocAttr]; with_reducible rfl); refine ⟨?_, ?_, ?_, ?_⟩ <;> (simp only [go_sem, simprocAttr]; with_reducible rfl)), 0, 0, rfl, rfl, Nat.zero_le _, rfl, fun j hj h => by omega⟩ ?_
  rintro mm s ⟨i, q, rfl, rfl, hi, hq, hA⟩
  by_cases hlt : i < coefs.length
  · obtain ⟨x, hx⟩ : ∃ x, coefs[i]! = x := ⟨_, rfl⟩
    have hat := bang_at hx hlt
    have hnx := szW_next hx hlt
    rw [← hq] at hnx
    by_cases hx0 : x < -12
    · have e : sizeT coefs = .tup [tInt 0, .bool false] := by
        unfold sizeT
        rw [if_neg]
        rw [Bool.not_eq_true, szAll, List.all_eq_false]
        exact ⟨x, bang_mem hx hlt, by simp; omega⟩
      rw [e]
      repeat' (first | (with_reducible first | refine SW_seq ?_ | refine SW_block ?_ | refine SThen_n ?_ | refine SThen_r ?_ | refine SThen_e ?_ | refine SIn_n ?_ | refine SIn_r ?_ | refine SIn_eq ?_ | refine SW_skip ?_ | refine SW_exit ?_ | refine SW_ret ?_ | refine SPost_r ?_) | ((with_reducible refine SIn_ne ?_ ?_); focus decide) | ((with_reducible refine SW_true ?_ ?_); focus exact rfl) | ((with_reducible refine SW_false ?_ ?_); focus exact rfl) | ((first | (with_reducible apply SW_run tt_ok hG htb) | ((with_reducible apply SW_draw rfl tt_ok hG htb); (focus kernel_rfl); (focus (simp only [List.range, List.range.loop, List.size_toArray, List.length_cons, List.length_nil, Nat.reduceAdd])))); focus ((repeat' (first | (with_reducible exact runX_nil) | (with_reducible exact runI_nil) | ((first | (with_reducible apply runX_cons) | (with_reducible apply runI_cons)); focus (simp (discharger := omega) only [go_sem, hx, simprocAttr]; with_reducible rfl)))); done)))
      exact (by simp (discharger := omega) only [go_sem, simprocAttr])
    · by_cases hx1 : 12 < x
      · have e : sizeT coefs = .tup [tInt 0, .bool false] := by
          unfold sizeT
          rw [if_neg]
          rw [Bool.not_eq_true, szAll, List.all_eq_false]
          exact ⟨x, bang_mem hx hlt, by simp; omega⟩
        rw [e]
        repeat' (first | (with_reducible first | refine SW_seq ?_ | refine SW_block ?_ | refine SThen_n ?_ | refine SThen_r ?_ | refine SThen_e ?_ | refine SIn_n ?_ | refine SIn_r ?_ | refine SIn_eq ?_ | refine SW_skip ?_ | refine SW_exit ?_ | refine SW_ret ?_ | refine SPost_r ?_) | ((with_reducible refine SIn_ne ?_ ?_); focus decide) | ((with_reducible refine SW_true ?_ ?_); focus exact rfl) | ((with_reducible refine SW_false ?_ ?_); focus exact rfl) | ((first | (with_reducible apply SW_run tt_ok hG htb) | ((with_reducible apply SW_draw rfl tt_ok hG htb); (focus kernel_rfl); (focus (simp only [List.range, List.range.loop, List.size_toArray, List.length_cons, List.length_nil, Nat.reduceAdd])))); focus ((repeat' (first | (with_reducible exact runX_nil) | (with_reducible exact runI_nil) | ((first | (with_reducible apply runX_cons) | (with_reducible apply runI_cons)); focus (simp (discharger := omega) only [go_sem, hx, simprocAttr]; with_reducible rfl)))); done)))
        exact (by simp (discharger := omega) only [go_sem, simprocAttr])
      · have hng : IntKind.i64.wrap (0 - x) = -x := by rw [wrap_i64 _ (by omega)]; omega
        have hmx : (if -x > x then -x else x) = max x (-x) := by rw [Int.max_def]; split <;> split <;> omega
        repeat' (first | (with_reducible first | refine SW_seq ?_ | refine SW_block ?_ | refine SThen_n ?_ | refine SThen_r ?_ | refine SThen_e ?_ | refine SIn_n ?_ | refine SIn_r ?_ | refine SIn_eq ?_ | refine SW_skip ?_ | refine SW_exit ?_ | refine SW_ret ?_ | refine SPost_r ?_) | ((with_reducible refine SIn_ne ?_ ?_); focus decide) | ((with_reducible refine SW_true ?_ ?_); focus exact rfl) | ((with_reducible refine SW_false ?_ ?_); focus exact rfl) | ((first | (with_reducible apply SW_run tt_ok hG htb) | ((with_reducible apply SW_draw rfl tt_ok hG htb); (focus kernel_rfl); (focus (simp only [List.range, List.range.loop, List.size_toArray, List.length_cons, List.length_nil, Nat.reduceAdd])))); focus ((repeat' (first | (with_reducible exact runX_nil) | (with_reducible exact runI_nil) | ((first | (with_reducible apply runX_cons) | (with_reducible apply runI_cons)); focus (simp (discharger := omega) only [go_sem, hx, hng, hmx, simprocAttr]; with_reducible rfl)))); done)))
        exact ⟨coefs.length - (i + 1), _, by omega, Norm.headS (own := []) (keep := [4, 7, 8, 9]) (by refine ⟨?_, ?_⟩; (simp (discharger := omega) only [go_sem, simprocAttr]; with_reducible rfl); refine ⟨?_, ?_, ?_, ?_⟩ <;> (simp only [go_sem, simprocAttr]; with_reducible rfl)), i + 1, _, rfl, rfl, by omega, hnx.symm, fun j hj h => by
            by_cases e : j = i
            · subst e; rw [hat]; omega
            · exact hA j hj (by omega)⟩
  · obtain rfl : i = coefs.length := by omega
    rw [List.take_length] at hq
    have hall : szAll coefs = true := List.all_eq_true.2 fun x hx => by
      obtain ⟨j, hj, rfl⟩ := List.mem_iff_getElem.1 hx
      simpa using hA j hj hj
    unfold sizeT
    rw [if_pos hall, ← hq]
    repeat' (first | (with_reducible first | refine SW_seq ?_ | refine SW_block ?_ | refine SThen_n ?_ | refine SThen_r ?_ | refine SThen_e ?_ | refine SIn_n ?_ | refine SIn_r ?_ | refine SIn_eq ?_ | refine SW_skip ?_ | refine SW_exit ?_ | refine SW_ret ?_ | refine SPost_r ?_) | ((with_reducible refine SIn_ne ?_ ?_); focus decide) | ((with_reducible refine SW_true ?_ ?_); focus exact rfl) | ((with_reducible refine SW_false ?_ ?_); focus exact rfl) | ((first | (with_reducible apply SW_run tt_ok hG htb) | ((with_reducible apply SW_draw rfl tt_ok hG htb); (focus kernel_rfl); (focus (simp only [List.range, List.range.loop, List.size_toArray, List.length_cons, List.length_nil, Nat.reduceAdd])))); focus ((repeat' (first | (with_reducible exact runX_nil) | (with_reducible exact runI_nil) | ((first | (with_reducible apply runX_cons) | (with_reducible apply runI_cons)); focus (simp (discharger := omega) only [go_sem, simprocAttr]; with_reducible rfl)))); done)))
    exact (by simp (discharger := omega) only [go_sem, simprocAttr])
set_option maxHeartbeats 4000000 in
theorem RSizeOf_snd (coefs : List Int) (hl : coefs.length ≤ 1000) : Snd Tryd.prog G 42 [tInts coefs] (tInt (if 12 < sizeA coefs then 13 else sizeA coefs)) := by
  have htb : Tab.ok Tryd.prog G [] := Tab.nil
  refine snd_of_body (n := 32) (tm := [(0, .t (tInts coefs))]) (rs := [.tmp 2]) tt_ok Tryd.func42 rfl rfl rfl rfl rfl ?_
  repeat' (first | (with_reducible first | refine SW_seq ?_ | refine SW_block ?_ | refine SThen_n ?_ | refine SThen_r ?_ | refine SThen_e ?_ | refine SIn_n ?_ | refine SIn_r ?_ | refine SIn_eq ?_ | refine SW_skip ?_ | refine SW_exit ?_ | refine SW_ret ?_ | refine SPost_r ?_) | ((with_reducible refine SIn_ne ?_ ?_); focus decide) | ((with_reducible refine SW_true ?_ ?_); focus exact rfl) | ((with_reducible refine SW_false ?_ ?_); focus exact rfl) | ((first | (with_reducible apply SW_run tt_ok hG htb) | ((with_reducible apply SW_draw rfl tt_ok hG htb); (focus kernel_rfl); (focus (simp only [List.range, List.range.loop, List.size_toArray, List.length_cons, List.length_nil, Nat.reduceAdd])))); focus ((repeat' (first | (with_reducible exact runX_nil) | (with_reducible exact runI_nil) | ((first | (with_reducible apply runX_cons) | (with_reducible apply runI_cons)); focus (simp (discharger := omega) only [go_sem, simprocAttr]; with_reducible rfl)))); done)))
  refine SW_loop (fun mm s => ∃ (i : Nat) (q : Int), mm = coefs.length - i ∧ s = ⟨32, [(0, .t (tInts coefs)), (3, .t (tInt q)), (4, .t (tInt i))], []⟩ ∧ i ≤ coefs.length ∧ q = absN coefs i ∧ 0 ≤ q ∧ q ≤ 12) (coefs.length)
    ⟨_, Norm.headS (own := []) (keep := [0, 3, 4]) (by refine ⟨?_, ?_⟩; (simp (discharger := omega) only [go_sem, simprocAttr]; with_reducible rfl); refine ⟨?_, ?_, ?_, ?_⟩ <;> (simp only [go_sem, simprocAttr]; with_reducible rfl)), 0, 0, rfl, rfl, Nat.zero_le _, rfl, by omega, by omega⟩ ?_
  rintro mm s ⟨i, q, rfl, rfl, hi, hq, hq0, hq12⟩
  by_cases hlt : i < coefs.length
  · obtain ⟨x, hx⟩ : ∃ x, coefs[i]! = x := ⟨_, rfl⟩
    have hD : coefs.getD i 0 = x := bang_D hx hlt
    have hge := absN_ge coefs hlt
    have hsucc := absN_succ coefs i
    have hmono := absN_mono coefs (show i + 1 ≤ coefs.length from hlt)
    rw [hD] at hge hsucc
    by_cases hx0 : x < -12
    · have e : 12 < sizeA coefs := by unfold sizeA; omega
      rw [if_pos e]
      repeat' (first | (with_reducible first | refine SW_seq ?_ | refine SW_block ?_ | refine SThen_n ?_ | refine SThen_r ?_ | refine SThen_e ?_ | refine SIn_n ?_ | refine SIn_r ?_ | refine SIn_eq ?_ | refine SW_skip ?_ | refine SW_exit ?_ | refine SW_ret ?_ | refine SPost_r ?_) | ((with_reducible refine SIn_ne ?_ ?_); focus decide) | ((with_reducible refine SW_true ?_ ?_); focus exact rfl) | ((with_reducible refine SW_false ?_ ?_); focus exact rfl) | ((first | (with_reducible apply SW_run tt_ok hG htb) | ((with_reducible apply SW_draw rfl tt_ok hG htb); (focus kernel_rfl); (focus (simp only [List.range, List.range.loop, List.size_toArray, List.length_cons, List.length_nil, Nat.reduceAdd])))); focus ((repeat' (first | (with_reducible exact runX_nil) | (with_reducible exact runI_nil) | ((first | (with_reducible apply runX_cons) | (with_reducible apply runI_cons)); focus (simp (discharger := omega) only [go_sem, hx, simprocAttr]; with_reducible rfl)))); done)))
      exact (by simp (discharger := omega) only [go_sem, simprocAttr])
    · by_cases hx1 : 12 < x
      · have e : 12 < sizeA coefs := by unfold sizeA; omega
        rw [if_pos e]
        repeat' (first | (with_reducible first | refine SW_seq ?_ | refine SW_block ?_ | refine SThen_n ?_ | refine SThen_r ?_ | refine SThen_e ?_ | refine SIn_n ?_ | refine SIn_r ?_ | refine SIn_eq ?_ | refine SW_skip ?_ | refine SW_exit ?_ | refine SW_ret ?_ | refine SPost_r ?_) | ((with_reducible refine SIn_ne ?_ ?_); focus decide) | ((with_reducible refine SW_true ?_ ?_); focus exact rfl) | ((with_reducible refine SW_false ?_ ?_); focus exact rfl) | ((first | (with_reducible apply SW_run tt_ok hG htb) | ((with_reducible apply SW_draw rfl tt_ok hG htb); (focus kernel_rfl); (focus (simp only [List.range, List.range.loop, List.size_toArray, List.length_cons, List.length_nil, Nat.reduceAdd])))); focus ((repeat' (first | (with_reducible exact runX_nil) | (with_reducible exact runI_nil) | ((first | (with_reducible apply runX_cons) | (with_reducible apply runI_cons)); focus (simp (discharger := omega) only [go_sem, hx, simprocAttr]; with_reducible rfl)))); done)))
        exact (by simp (discharger := omega) only [go_sem, simprocAttr])
      · have hng : IntKind.i64.wrap (0 - x) = -x := by rw [wrap_i64 _ (by omega)]; omega
        by_cases hxn : x < 0
        · by_cases hbig : 12 < q + -x
          · have e : 12 < sizeA coefs := by unfold sizeA; omega
            rw [if_pos e]
            repeat' (first | (with_reducible first | refine SW_seq ?_ | refine SW_block ?_ | refine SThen_n ?_ | refine SThen_r ?_ | refine SThen_e ?_ | refine SIn_n ?_ | refine SIn_r ?_ | refine SIn_eq ?_ | refine SW_skip ?_ | refine SW_exit ?_ | refine SW_ret ?_ | refine SPost_r ?_) | ((with_reducible refine SIn_ne ?_ ?_); focus decide) | ((with_reducible refine SW_true ?_ ?_); focus exact rfl) | ((with_reducible refine SW_false ?_ ?_); focus exact rfl) | ((first | (with_reducible apply SW_run tt_ok hG htb) | ((with_reducible apply SW_draw rfl tt_ok hG htb); (focus kernel_rfl); (focus (simp only [List.range, List.range.loop, List.size_toArray, List.length_cons, List.length_nil, Nat.reduceAdd])))); focus ((repeat' (first | (with_reducible exact runX_nil) | (with_reducible exact runI_nil) | ((first | (with_reducible apply runX_cons) | (with_reducible apply runI_cons)); focus (simp (discharger := omega) only [go_sem, hx, hng, simprocAttr]; with_reducible rfl)))); done)))
            exact (by simp (discharger := omega) only [go_sem, simprocAttr])
          · repeat' (first | (with_reducible first | refine SW_seq ?_ | refine SW_block ?_ | refine SThen_n ?_ | refine SThen_r ?_ | refine SThen_e ?_ | refine SIn_n ?_ | refine SIn_r ?_ | refine SIn_eq ?_ | refine SW_skip ?_ | refine SW_exit ?_ | refine SW_ret ?_ | refine SPost_r ?_) | ((with_reducible refine SIn_ne ?_ ?_); focus decide) | ((with_reducible refine SW_true ?_ ?_); focus exact rfl) | ((with_reducible refine SW_false ?_ ?_); focus exact rfl) | ((first | (with_reducible apply SW_run tt_ok hG htb) | ((with_reducible apply SW_draw rfl tt_ok hG htb); (focus kernel_rfl); (focus (simp only [List.range, List.range.loop, List.size_toArray, List.length_cons, List.length_nil, Nat.reduceAdd])))); focus ((repeat' (first | (with_reducible exact runX_nil) | (with_reducible exact runI_nil) | ((first | (with_reducible apply runX_cons) | (with_reducible apply runI_cons)); focus (simp (discharger := omega) only [go_sem, hx, hng, simprocAttr]; with_reducible rfl)))); done)))
            exact ⟨coefs.length - (i + 1), _, by omega, Norm.headS (own := []) (keep := [0, 3, 4]) (by refine ⟨?_, ?_⟩; (simp (discharger := omega) only [go_sem, simprocAttr]; with_reducible rfl); refine ⟨?_, ?_, ?_, ?_⟩ <;> (simp only [go_sem, simprocAttr]; with_reducible rfl)), i + 1, _, rfl, rfl, by omega, by omega, by omega, by omega⟩
        · by_cases hbig : 12 < q + x
          · have e : 12 < sizeA coefs := by unfold sizeA; omega
            rw [if_pos e]
            repeat' (first | (with_reducible first | refine SW_seq ?_ | refine SW_block ?_ | refine SThen_n ?_ | refine SThen_r ?_ | refine SThen_e ?_ | refine SIn_n ?_ | refine SIn_r ?_ | refine SIn_eq ?_ | refine SW_skip ?_ | refine SW_exit ?_ | refine SW_ret ?_ | refine SPost_r ?_) | ((with_reducible refine SIn_ne ?_ ?_); focus decide) | ((with_reducible refine SW_true ?_ ?_); focus exact rfl) | ((with_reducible refine SW_false ?_ ?_); focus exact rfl) | ((first | (with_reducible apply SW_run tt_ok hG htb) | ((with_reducible apply SW_draw rfl tt_ok hG htb); (focus kernel_rfl); (focus (simp only [List.range, List.range.loop, List.size_toArray, List.length_cons, List.length_nil, Nat.reduceAdd])))); focus ((repeat' (first | (with_reducible exact runX_nil) | (with_reducible exact runI_nil) | ((first | (with_reducible apply runX_cons) | (with_reducible apply runI_cons)); focus (simp (discharger := omega) only [go_sem, hx, simprocAttr]; with_reducible rfl)))); done)))
            exact (by simp (discharger := omega) only [go_sem, simprocAttr])
          · repeat' (first | (with_reducible first | refine SW_seq ?_ | refine SW_block ?_ | refine SThen_n ?_ | refine SThen_r ?_ | refine SThen_e ?_ | refine SIn_n ?_ | refine SIn_r ?_ | refine SIn_eq ?_ | refine SW_skip ?_ | refine SW_exit ?_ | refine SW_ret ?_ | refine SPost_r ?_) | ((with_reducible refine SIn_ne ?_ ?_); focus decide) | ((with_reducible refine SW_true ?_ ?_); focus exact rfl) | ((with_reducible refine SW_false ?_ ?_); focus exact rfl) | ((first | (with_reducible apply SW_run tt_ok hG htb) | ((with_reducible apply SW_draw rfl tt_ok hG htb); (focus kernel_rfl); (focus (simp only [List.range, List.range.loop, List.size_toArray, List.length_cons, List.length_nil, Nat.reduceAdd])))); focus ((repeat' (first | (with_reducible exact runX_nil) | (with_reducible exact runI_nil) | ((first | (with_reducible apply runX_cons) | (with_reducible apply runI_cons)); focus (simp (discharger := omega) only [go_sem, hx, simprocAttr]; with_reducible rfl)))); done)))
            exact ⟨coefs.length - (i + 1), _, by omega, Norm.headS (own := []) (keep := [0, 3, 4]) (by refine ⟨?_, ?_⟩; (simp (discharger := omega) only [go_sem, simprocAttr]; with_reducible rfl); refine ⟨?_, ?_, ?_, ?_⟩ <;> (simp only [go_sem, simprocAttr]; with_reducible rfl)), i + 1, _, rfl, rfl, by omega, by omega, by omega, by omega⟩
  · obtain rfl : i = coefs.length := by omega
    rw [if_neg (by unfold sizeA; omega)]
    unfold sizeA
    rw [← hq]
    repeat' (first | (with_reducible first | refine SW_seq ?_ | refine SW_block ?_ | refine SThen_n ?_ | refine SThen_r ?_ | refine SThen_e ?_ | refine SIn_n ?_ | refine SIn_r ?_ | refine SIn_eq ?_ | refine SW_skip ?_ | refine SW_exit ?_ | refine SW_ret ?_ | refine SPost_r ?_) | ((with_reducible refine SIn_ne ?_ ?_); focus decide) | ((with_reducible refine SW_true ?_ ?_); focus exact rfl) | ((with_reducible refine SW_false ?_ ?_); focus exact rfl) | ((first | (with_reducible apply SW_run tt_ok hG htb) | ((with_reducible apply SW_draw rfl tt_ok hG htb); (focus kernel_rfl); (focus (simp only [List.range, List.range.loop, List.size_toArray, List.length_cons, List.length_nil, Nat.reduceAdd])))); focus ((repeat' (first | (with_reducible exact runX_nil) | (with_reducible exact runI_nil) | ((first | (with_reducible apply runX_cons) | (with_reducible apply runI_cons)); focus (simp (discharger := omega) only [go_sem, simprocAttr]; with_reducible rfl)))); done)))
    exact (by simp (discharger := omega) only [go_sem, simprocAttr])
end
end Go.Proofs.YtfhncnhkeodngaaDoor
