/- Plain laws, data behind worlds, and contracts of functions, for the last text. No conditions. -/
import Derived.Test.YtfhncnhkeodngaaDoorM3
import Derived.Test.YtfhncnhkeodngaaDoorChecked
set_option linter.unusedSimpArgs false
set_option linter.unusedVariables false
set_option linter.unnecessarySimpa false
set_option linter.unusedSectionVars false
namespace Go.Proofs.YtfhncnhkeodngaaDoor
open Go.RowKit

def tt0 : Nat → Option TI
  | 1 => some ⟨.plain, 1, 8, [.t .undef], false⟩
  | 2 => some ⟨.int .i64, 1, 8, [.t (.int .i64 0)], false⟩
  | 3 => some ⟨.int .i64, 1, 8, [.t (.int .i64 0)], false⟩
  | 4 => some ⟨.bool, 1, 1, [.t (.bool false)], false⟩
  | 5 => some ⟨.int .u8, 1, 1, [.t (.int .u8 0)], false⟩
  | 6 => some ⟨.int .u8, 1, 1, [.t (.int .u8 0)], false⟩
  | 7 => some ⟨.struct [(0, 1), (1, 1), (2, 1), (3, 1)], 4, 24, [.t (.int .i64 0), .t (.int .i64 0), .t (.bool false), .t (.int .u8 0)], false⟩
  | _ => none
def tt1 : Nat → Option TI
  | 8 => some ⟨.struct [(0, 1), (1, 1), (2, 1), (3, 1)], 4, 24, [.t (.int .i64 0), .t (.int .i64 0), .t (.bool false), .t (.int .u8 0)], false⟩
  | 9 => some ⟨.str, 1, 16, [.t (.str ByteArray.empty)], false⟩
  | 10 => some ⟨.str, 1, 16, [.t (.str ByteArray.empty)], false⟩
  | 11 => some ⟨.str, 1, 16, [.t (.str ByteArray.empty)], false⟩
  | 12 => some ⟨.int .u64, 1, 8, [.t (.int .u64 0)], false⟩
  | 13 => some ⟨.struct [(0, 1), (1, 1)], 2, 24, [.t (.str ByteArray.empty), .t (.int .u64 0)], false⟩
  | 14 => some ⟨.struct [(0, 1), (1, 1)], 2, 24, [.t (.str ByteArray.empty), .t (.int .u64 0)], false⟩
  | 15 => some ⟨.plain, 1, 8, [.t .undef], false⟩
  | _ => none
def tt2 : Nat → Option TI
  | 16 => some ⟨.plain, 1, 8, [.t .undef], false⟩
  | 17 => some ⟨.plain, 1, 8, [.t .undef], false⟩
  | 18 => some ⟨.struct [(0, 1)], 1, 8, [.t .undef], false⟩
  | 19 => some ⟨.struct [(0, 1)], 1, 8, [.t .undef], false⟩
  | 20 => some ⟨.iface, 1, 16, [.t .nilI], false⟩
  | 21 => some ⟨.int .i32, 1, 4, [.t (.int .i32 0)], false⟩
  | 22 => some ⟨.slice 3, 1, 24, [.nil], false⟩
  | 23 => some ⟨.slice 35, 1, 24, [.nil], false⟩
  | _ => none
def tt3 : Nat → Option TI
  | 24 => some ⟨.struct [(0, 1), (1, 1), (2, 1), (3, 1), (4, 1)], 5, 88, [.t (.int .i64 0), .t (.int .i64 0), .nil, .nil, .nil], false⟩
  | 25 => some ⟨.struct [(0, 1), (1, 1), (2, 1), (3, 1), (4, 1)], 5, 88, [.t (.int .i64 0), .t (.int .i64 0), .nil, .nil, .nil], false⟩
  | 26 => some ⟨.int .i64, 1, 8, [.t (.int .i64 0)], false⟩
  | 28 => some ⟨.plain, 1, 8, [.t .undef], false⟩
  | 29 => some ⟨.iface, 1, 16, [.t .nilI], false⟩
  | 30 => some ⟨.iface, 1, 16, [.t .nilI], false⟩
  | _ => none
def tt4 : Nat → Option TI
  | 32 => some ⟨.plain, 1, 8, [.t .undef], false⟩
  | 33 => some ⟨.plain, 1, 8, [.t .undef], false⟩
  | 34 => some ⟨.plain, 1, 8, [.t .undef], false⟩
  | 35 => some ⟨.slice 22, 1, 24, [.nil], false⟩
  | 36 => some ⟨.struct [(0, 1), (1, 1), (2, 1)], 3, 56, [.t (.int .i64 0), .nil, .nil], false⟩
  | 37 => some ⟨.struct [(0, 1), (1, 1), (2, 1)], 3, 56, [.t (.int .i64 0), .nil, .nil], false⟩
  | 39 => some ⟨.plain, 1, 8, [.t .undef], false⟩
  | _ => none
def tt5 : Nat → Option TI
  | 41 => some ⟨.plain, 1, 8, [.t .undef], false⟩
  | 42 => some ⟨.plain, 1, 8, [.t .undef], false⟩
  | 43 => some ⟨.plain, 1, 8, [.t .undef], false⟩
  | 44 => some ⟨.plain, 1, 8, [.t .undef], false⟩
  | 45 => some ⟨.plain, 1, 8, [.t .undef], false⟩
  | 47 => some ⟨.plain, 1, 8, [.t .undef], false⟩
  | _ => none
def tt6 : Nat → Option TI
  | 48 => some ⟨.plain, 1, 8, [.t .undef], false⟩
  | 49 => some ⟨.slice 4, 1, 24, [.nil], false⟩
  | 50 => some ⟨.struct [(0, 1), (1, 1), (2, 1), (3, 1)], 4, 64, [.t (.int .i64 0), .t (.int .i64 0), .nil, .nil], false⟩
  | 51 => some ⟨.struct [(0, 1), (1, 1), (2, 1), (3, 1)], 4, 64, [.t (.int .i64 0), .t (.int .i64 0), .nil, .nil], false⟩
  | 52 => some ⟨.plain, 1, 8, [.t .undef], false⟩
  | 54 => some ⟨.plain, 1, 8, [.t .undef], false⟩
  | 55 => some ⟨.plain, 1, 8, [.t .undef], false⟩
  | _ => none
def tt7 : Nat → Option TI
  | 56 => some ⟨.plain, 1, 8, [.t .undef], false⟩
  | 58 => some ⟨.plain, 1, 8, [.t .undef], false⟩
  | 59 => some ⟨.plain, 1, 8, [.t .undef], false⟩
  | 60 => some ⟨.plain, 1, 8, [.t .undef], false⟩
  | 61 => some ⟨.slice 111, 1, 24, [.nil], false⟩
  | 62 => some ⟨.plain, 1, 8, [.t .undef], false⟩
  | 63 => some ⟨.plain, 1, 8, [.t .undef], false⟩
  | _ => none
def tt8 : Nat → Option TI
  | 64 => some ⟨.plain, 1, 8, [.t .undef], false⟩
  | 66 => some ⟨.plain, 1, 8, [.t .undef], false⟩
  | 67 => some ⟨.plain, 1, 8, [.t .undef], false⟩
  | 69 => some ⟨.plain, 1, 8, [.t .undef], false⟩
  | 71 => some ⟨.plain, 1, 8, [.t .undef], false⟩
  | _ => none
def tt9 : Nat → Option TI
  | 72 => some ⟨.plain, 1, 8, [.t .undef], false⟩
  | 73 => some ⟨.plain, 1, 8, [.t .undef], false⟩
  | 74 => some ⟨.plain, 1, 8, [.t .undef], false⟩
  | 75 => some ⟨.plain, 1, 8, [.t .undef], false⟩
  | 76 => some ⟨.plain, 1, 8, [.t .undef], false⟩
  | 78 => some ⟨.plain, 1, 8, [.t .undef], false⟩
  | _ => none
def tt10 : Nat → Option TI
  | 80 => some ⟨.plain, 1, 8, [.t .undef], false⟩
  | 81 => some ⟨.plain, 1, 8, [.t .undef], false⟩
  | 82 => some ⟨.plain, 1, 8, [.t .undef], false⟩
  | 83 => some ⟨.plain, 1, 8, [.t .undef], false⟩
  | 84 => some ⟨.plain, 1, 8, [.t .undef], false⟩
  | 86 => some ⟨.plain, 1, 8, [.t .undef], false⟩
  | 87 => some ⟨.plain, 1, 8, [.t .undef], false⟩
  | _ => none
def tt11 : Nat → Option TI
  | 88 => some ⟨.plain, 1, 8, [.t .undef], false⟩
  | 89 => some ⟨.plain, 1, 8, [.t .undef], false⟩
  | 90 => some ⟨.plain, 1, 8, [.t .undef], false⟩
  | 91 => some ⟨.plain, 1, 8, [.t .undef], false⟩
  | 92 => some ⟨.plain, 1, 8, [.t .undef], false⟩
  | 93 => some ⟨.plain, 1, 8, [.t .undef], false⟩
  | 94 => some ⟨.plain, 1, 8, [.t .undef], false⟩
  | 95 => some ⟨.plain, 1, 8, [.t .undef], false⟩
  | _ => none
def tt12 : Nat → Option TI
  | 96 => some ⟨.plain, 1, 8, [.t .undef], false⟩
  | 97 => some ⟨.plain, 1, 8, [.t .undef], false⟩
  | 98 => some ⟨.plain, 1, 8, [.t .undef], false⟩
  | 99 => some ⟨.plain, 1, 8, [.t .undef], false⟩
  | 100 => some ⟨.plain, 1, 8, [.t .undef], false⟩
  | 101 => some ⟨.plain, 1, 8, [.t .undef], false⟩
  | 102 => some ⟨.plain, 1, 8, [.t .undef], false⟩
  | 103 => some ⟨.plain, 1, 8, [.t .undef], false⟩
  | _ => none
def tt13 : Nat → Option TI
  | 104 => some ⟨.plain, 1, 8, [.t .undef], false⟩
  | 105 => some ⟨.plain, 1, 8, [.t .undef], false⟩
  | 106 => some ⟨.plain, 1, 8, [.t .undef], false⟩
  | 107 => some ⟨.plain, 1, 8, [.t .undef], false⟩
  | 108 => some ⟨.plain, 1, 8, [.t .undef], false⟩
  | 109 => some ⟨.plain, 1, 8, [.t .undef], false⟩
  | 110 => some ⟨.struct [(0, 1), (1, 1), (2, 1), (3, 1), (4, 1), (5, 1), (6, 1)], 7, 72, [.t (.int .i64 0), .t (.int .i64 0), .t (.int .i64 0), .t (.int .i64 0), .t (.int .i64 0), .t (.int .i64 0), .nil], false⟩
  | 111 => some ⟨.struct [(0, 1), (1, 1), (2, 1), (3, 1), (4, 1), (5, 1), (6, 1)], 7, 72, [.t (.int .i64 0), .t (.int .i64 0), .t (.int .i64 0), .t (.int .i64 0), .t (.int .i64 0), .t (.int .i64 0), .nil], false⟩
  | _ => none
def tt14 : Nat → Option TI
  | 112 => some ⟨.plain, 1, 8, [.t .undef], false⟩
  | 113 => some ⟨.plain, 1, 8, [.t .undef], false⟩
  | 114 => some ⟨.array 5 4, 5, 5, [.t (.bool false), .t (.bool false), .t (.bool false), .t (.bool false), .t (.bool false)], false⟩
  | 115 => some ⟨.array 5 4, 5, 5, [.t (.bool false), .t (.bool false), .t (.bool false), .t (.bool false), .t (.bool false)], false⟩
  | 117 => some ⟨.plain, 1, 8, [.t .undef], false⟩
  | 118 => some ⟨.plain, 1, 8, [.t .undef], false⟩
  | 119 => some ⟨.array 5 3, 5, 40, [.t (.int .i64 0), .t (.int .i64 0), .t (.int .i64 0), .t (.int .i64 0), .t (.int .i64 0)], false⟩
  | _ => none
def tt15 : Nat → Option TI
  | 121 => some ⟨.plain, 1, 8, [.t .undef], false⟩
  | 122 => some ⟨.plain, 1, 8, [.t .undef], false⟩
  | 123 => some ⟨.plain, 1, 8, [.t .undef], false⟩
  | 124 => some ⟨.plain, 1, 8, [.t .undef], false⟩
  | 125 => some ⟨.plain, 1, 8, [.t .undef], false⟩
  | 126 => some ⟨.plain, 1, 8, [.t .undef], false⟩
  | 127 => some ⟨.plain, 1, 8, [.t .undef], false⟩
  | _ => none
def tt16 : Nat → Option TI
  | 128 => some ⟨.plain, 1, 8, [.t .undef], false⟩
  | 129 => some ⟨.plain, 1, 8, [.t .undef], false⟩
  | 130 => some ⟨.struct [(0, 1), (1, 1)], 2, 16, [.t (.int .i64 0), .t (.int .i64 0)], true⟩
  | 131 => some ⟨.struct [(0, 1), (1, 1)], 2, 16, [.t (.int .i64 0), .t (.int .i64 0)], true⟩
  | 132 => some ⟨.plain, 1, 8, [.t .undef], false⟩
  | 133 => some ⟨.map (.ints 2) 131 3, 1, 8, [.t .undef], false⟩
  | 134 => some ⟨.slice 131, 1, 24, [.nil], false⟩
  | 135 => some ⟨.plain, 1, 8, [.t .undef], false⟩
  | _ => none
def tt17 : Nat → Option TI
  | 136 => some ⟨.plain, 1, 8, [.t .undef], false⟩
  | 137 => some ⟨.plain, 1, 8, [.t .undef], false⟩
  | 138 => some ⟨.plain, 1, 8, [.t .undef], false⟩
  | 139 => some ⟨.plain, 1, 8, [.t .undef], false⟩
  | 140 => some ⟨.plain, 1, 8, [.t .undef], false⟩
  | 141 => some ⟨.plain, 1, 8, [.t .undef], false⟩
  | 142 => some ⟨.plain, 1, 8, [.t .undef], false⟩
  | 143 => some ⟨.plain, 1, 8, [.t .undef], false⟩
  | _ => none
def tt18 : Nat → Option TI
  | 144 => some ⟨.plain, 1, 8, [.t .undef], false⟩
  | 146 => some ⟨.plain, 1, 8, [.t .undef], false⟩
  | 147 => some ⟨.plain, 1, 8, [.t .undef], false⟩
  | 148 => some ⟨.array 3 3, 3, 24, [.t (.int .i64 0), .t (.int .i64 0), .t (.int .i64 0)], false⟩
  | 149 => some ⟨.array 3 3, 3, 24, [.t (.int .i64 0), .t (.int .i64 0), .t (.int .i64 0)], false⟩
  | 150 => some ⟨.map (.ints 3) 149 3, 1, 8, [.t .undef], false⟩
  | 151 => some ⟨.slice 149, 1, 24, [.nil], false⟩
  | _ => none
def tt19 : Nat → Option TI
  | 152 => some ⟨.struct [(0, 1), (1, 1)], 2, 16, [.t (.int .i64 0), .t (.int .i64 0)], true⟩
  | 153 => some ⟨.struct [(0, 1), (1, 1)], 2, 16, [.t (.int .i64 0), .t (.int .i64 0)], true⟩
  | 154 => some ⟨.map (.ints 2) 153 3, 1, 8, [.t .undef], false⟩
  | 155 => some ⟨.slice 153, 1, 24, [.nil], false⟩
  | 157 => some ⟨.int .u64, 1, 8, [.t (.int .u64 0)], false⟩
  | 158 => some ⟨.struct [(0, 1), (1, 1), (2, 1)], 3, 24, [.t .undef, .t .undef, .t (.int .u64 0)], false⟩
  | 159 => some ⟨.struct [(0, 1), (1, 1), (2, 1)], 3, 24, [.t .undef, .t .undef, .t (.int .u64 0)], false⟩
  | _ => none
def tt20 : Nat → Option TI
  | 160 => some ⟨.plain, 1, 8, [.t .undef], false⟩
  | 161 => some ⟨.iface, 1, 16, [.t .nilI], false⟩
  | 162 => some ⟨.iface, 1, 16, [.t .nilI], false⟩
  | 163 => some ⟨.plain, 1, 8, [.t .undef], false⟩
  | 164 => some ⟨.int .u8, 1, 1, [.t (.int .u8 0)], false⟩
  | 165 => some ⟨.plain, 1, 8, [.t .undef], false⟩
  | 166 => some ⟨.plain, 1, 8, [.t .undef], false⟩
  | 167 => some ⟨.plain, 1, 8, [.t .undef], false⟩
  | _ => none
def tt21 : Nat → Option TI
  | 168 => some ⟨.plain, 1, 8, [.t .undef], false⟩
  | 169 => some ⟨.array 64 3, 64, 512, [.t (.int .i64 0), .t (.int .i64 0), .t (.int .i64 0), .t (.int .i64 0), .t (.int .i64 0), .t (.int .i64 0), .t (.int .i64 0), .t (.int .i64 0), .t (.int .i64 0), .t (.int .i64 0), .t (.int .i64 0), .t (.int .i64 0), .t (.int .i64 0), .t (.int .i64 0), .t (.int .i64 0), .t (.int .i64 0), .t (.int .i64 0), .t (.int .i64 0), .t (.int .i64 0), .t (.int .i64 0), .t (.int .i64 0), .t (.int .i64 0), .t (.int .i64 0), .t (.int .i64 0), .t (.int .i64 0), .t (.int .i64 0), .t (.int .i64 0), .t (.int .i64 0), .t (.int .i64 0), .t (.int .i64 0), .t (.int .i64 0), .t (.int .i64 0), .t (.int .i64 0), .t (.int .i64 0), .t (.int .i64 0), .t (.int .i64 0), .t (.int .i64 0), .t (.int .i64 0), .t (.int .i64 0), .t (.int .i64 0), .t (.int .i64 0), .t (.int .i64 0), .t (.int .i64 0), .t (.int .i64 0), .t (.int .i64 0), .t (.int .i64 0), .t (.int .i64 0), .t (.int .i64 0), .t (.int .i64 0), .t (.int .i64 0), .t (.int .i64 0), .t (.int .i64 0), .t (.int .i64 0), .t (.int .i64 0), .t (.int .i64 0), .t (.int .i64 0), .t (.int .i64 0), .t (.int .i64 0), .t (.int .i64 0), .t (.int .i64 0), .t (.int .i64 0), .t (.int .i64 0), .t (.int .i64 0), .t (.int .i64 0)], false⟩
  | 170 => some ⟨.plain, 1, 8, [.t .undef], false⟩
  | 171 => some ⟨.plain, 1, 8, [.t .undef], false⟩
  | 172 => some ⟨.map (.str) 9 3, 1, 8, [.t .undef], false⟩
  | 173 => some ⟨.slice 5, 1, 24, [.nil], false⟩
  | 174 => some ⟨.int .u64, 1, 8, [.t (.int .u64 0)], false⟩
  | 175 => some ⟨.struct [(0, 1)], 1, 8, [.t .undef], false⟩
  | _ => none
def tt22 : Nat → Option TI
  | 176 => some ⟨.struct [(0, 1)], 1, 8, [.t .undef], false⟩
  | 177 => some ⟨.plain, 1, 8, [.t .undef], false⟩
  | 178 => some ⟨.plain, 1, 8, [.t .undef], false⟩
  | 179 => some ⟨.plain, 1, 8, [.t .undef], false⟩
  | 180 => some ⟨.plain, 1, 8, [.t .undef], false⟩
  | 181 => some ⟨.iface, 1, 16, [.t .nilI], false⟩
  | 183 => some ⟨.plain, 1, 8, [.t .undef], false⟩
  | _ => none
def tt23 : Nat → Option TI
  | 184 => some ⟨.iface, 1, 16, [.t .nilI], false⟩
  | 185 => some ⟨.plain, 1, 8, [.t .undef], false⟩
  | 186 => some ⟨.iface, 1, 16, [.t .nilI], false⟩
  | 187 => some ⟨.slice 30, 1, 24, [.nil], false⟩
  | 188 => some ⟨.plain, 1, 8, [.t .undef], false⟩
  | 189 => some ⟨.plain, 1, 8, [.t .undef], false⟩
  | 190 => some ⟨.struct [(0, 1), (1, 1), (2, 1), (3, 1)], 4, 40, [.t .undef, .t .undef, .t .undef, .t (.str ByteArray.empty)], false⟩
  | 191 => some ⟨.struct [(0, 1), (1, 1), (2, 1), (3, 1)], 4, 40, [.t .undef, .t .undef, .t .undef, .t (.str ByteArray.empty)], false⟩
  | _ => none
def tt24 : Nat → Option TI
  | 195 => some ⟨.plain, 1, 8, [.t .undef], false⟩
  | 196 => some ⟨.plain, 1, 8, [.t .undef], false⟩
  | 197 => some ⟨.int .u32, 1, 4, [.t (.int .u32 0)], false⟩
  | 198 => some ⟨.int .u8, 1, 1, [.t (.int .u8 0)], false⟩
  | 199 => some ⟨.plain, 1, 8, [.t .undef], false⟩
  | _ => none
def tt25 : Nat → Option TI
  | 200 => some ⟨.plain, 1, 8, [.t .undef], false⟩
  | 201 => some ⟨.int .i32, 1, 4, [.t (.int .i32 0)], false⟩
  | 202 => some ⟨.int .i32, 1, 4, [.t (.int .i32 0)], false⟩
  | 203 => some ⟨.struct [(0, 1), (1, 1), (2, 1), (3, 1), (4, 1), (5, 1), (6, 1), (7, 1), (8, 1), (9, 1), (10, 1)], 11, 48, [.t (.int .u64 0), .t (.int .u64 0), .t (.int .u32 0), .t (.int .u8 0), .t (.int .u8 0), .t (.int .u8 0), .t (.int .u8 0), .t .undef, .t .undef, .t (.int .i32 0), .t (.int .i32 0)], false⟩
  | 204 => some ⟨.struct [(0, 1), (1, 1), (2, 1), (3, 1), (4, 1), (5, 1), (6, 1), (7, 1), (8, 1), (9, 1), (10, 1)], 11, 48, [.t (.int .u64 0), .t (.int .u64 0), .t (.int .u32 0), .t (.int .u8 0), .t (.int .u8 0), .t (.int .u8 0), .t (.int .u8 0), .t .undef, .t .undef, .t (.int .i32 0), .t (.int .i32 0)], false⟩
  | 205 => some ⟨.plain, 1, 8, [.t .undef], false⟩
  | 206 => some ⟨.plain, 1, 8, [.t .undef], false⟩
  | 207 => some ⟨.struct [(0, 1), (1, 1)], 2, 24, [.t (.str ByteArray.empty), .t (.int .u8 0)], false⟩
  | _ => none
def tt26 : Nat → Option TI
  | 208 => some ⟨.struct [(0, 1), (1, 1)], 2, 24, [.t (.str ByteArray.empty), .t (.int .u8 0)], false⟩
  | 209 => some ⟨.plain, 1, 8, [.t .undef], false⟩
  | 210 => some ⟨.plain, 1, 8, [.t .undef], false⟩
  | 211 => some ⟨.int .u16, 1, 2, [.t (.int .u16 0)], false⟩
  | 212 => some ⟨.struct [(0, 1), (1, 1), (2, 1), (3, 1), (4, 1)], 5, 16, [.t (.int .i32 0), .t (.int .u16 0), .t (.int .u16 0), .t (.int .u32 0), .t (.int .u32 0)], false⟩
  | 213 => some ⟨.struct [(0, 1), (1, 1), (2, 1), (3, 1), (4, 1)], 5, 16, [.t (.int .i32 0), .t (.int .u16 0), .t (.int .u16 0), .t (.int .u32 0), .t (.int .u32 0)], false⟩
  | 214 => some ⟨.slice 217, 1, 24, [.nil], false⟩
  | 215 => some ⟨.int .i32, 1, 4, [.t (.int .i32 0)], false⟩
  | _ => none
def tt27 : Nat → Option TI
  | 216 => some ⟨.struct [(0, 1), (1, 1), (2, 1), (3, 1)], 4, 16, [.t (.int .i32 0), .t (.int .i32 0), .t (.int .i32 0), .t (.int .i32 0)], false⟩
  | 217 => some ⟨.struct [(0, 1), (1, 1), (2, 1), (3, 1)], 4, 16, [.t (.int .i32 0), .t (.int .i32 0), .t (.int .i32 0), .t (.int .i32 0)], false⟩
  | 218 => some ⟨.plain, 1, 8, [.t .undef], false⟩
  | _ => none
def tts0 (n : Nat) : Nat → Option TI
  | 0 => tt0 n
  | 1 => tt1 n
  | 2 => tt2 n
  | 3 => tt3 n
  | 4 => tt4 n
  | 5 => tt5 n
  | 6 => tt6 n
  | 7 => tt7 n
  | _ => none
def tts1 (n : Nat) : Nat → Option TI
  | 8 => tt8 n
  | 9 => tt9 n
  | 10 => tt10 n
  | 11 => tt11 n
  | 12 => tt12 n
  | 13 => tt13 n
  | 14 => tt14 n
  | 15 => tt15 n
  | _ => none
def tts2 (n : Nat) : Nat → Option TI
  | 16 => tt16 n
  | 17 => tt17 n
  | 18 => tt18 n
  | 19 => tt19 n
  | 20 => tt20 n
  | 21 => tt21 n
  | 22 => tt22 n
  | 23 => tt23 n
  | _ => none
def tts3 (n : Nat) : Nat → Option TI
  | 24 => tt24 n
  | 25 => tt25 n
  | 26 => tt26 n
  | 27 => tt27 n
  | _ => none
def tt (n : Nat) : Option TI := match n / 64 with
  | 0 => tts0 n (n / 8)
  | 1 => tts1 n (n / 8)
  | 2 => tts2 n (n / 8)
  | 3 => tts3 n (n / 8)
  | _ => none
set_option maxRecDepth 100000
theorem laid : laidOutB Tryd.prog = true := by kernel_rfl
theorem small : Tryd.prog.types.size + 2 ≤ 10000 := of_decide_eq_true (by kernel_rfl)
theorem tt0_ok : TTok Tryd.prog tt0 := by
  intro t i h
  unfold tt0 at h
  split at h <;> first
    | (cases h; exact chkTI_ok laid small (by kernel_rfl))
    | cases h
theorem tt1_ok : TTok Tryd.prog tt1 := by
  intro t i h
  unfold tt1 at h
  split at h <;> first
    | (cases h; exact chkTI_ok laid small (by kernel_rfl))
    | cases h
theorem tt2_ok : TTok Tryd.prog tt2 := by
  intro t i h
  unfold tt2 at h
  split at h <;> first
    | (cases h; exact chkTI_ok laid small (by kernel_rfl))
    | cases h
theorem tt3_ok : TTok Tryd.prog tt3 := by
  intro t i h
  unfold tt3 at h
  split at h <;> first
    | (cases h; exact chkTI_ok laid small (by kernel_rfl))
    | cases h
theorem tt4_ok : TTok Tryd.prog tt4 := by
  intro t i h
  unfold tt4 at h
  split at h <;> first
    | (cases h; exact chkTI_ok laid small (by kernel_rfl))
    | cases h
theorem tt5_ok : TTok Tryd.prog tt5 := by
  intro t i h
  unfold tt5 at h
  split at h <;> first
    | (cases h; exact chkTI_ok laid small (by kernel_rfl))
    | cases h
theorem tt6_ok : TTok Tryd.prog tt6 := by
  intro t i h
  unfold tt6 at h
  split at h <;> first
    | (cases h; exact chkTI_ok laid small (by kernel_rfl))
    | cases h
theorem tt7_ok : TTok Tryd.prog tt7 := by
  intro t i h
  unfold tt7 at h
  split at h <;> first
    | (cases h; exact chkTI_ok laid small (by kernel_rfl))
    | cases h
theorem tt8_ok : TTok Tryd.prog tt8 := by
  intro t i h
  unfold tt8 at h
  split at h <;> first
    | (cases h; exact chkTI_ok laid small (by kernel_rfl))
    | cases h
theorem tt9_ok : TTok Tryd.prog tt9 := by
  intro t i h
  unfold tt9 at h
  split at h <;> first
    | (cases h; exact chkTI_ok laid small (by kernel_rfl))
    | cases h
theorem tt10_ok : TTok Tryd.prog tt10 := by
  intro t i h
  unfold tt10 at h
  split at h <;> first
    | (cases h; exact chkTI_ok laid small (by kernel_rfl))
    | cases h
theorem tt11_ok : TTok Tryd.prog tt11 := by
  intro t i h
  unfold tt11 at h
  split at h <;> first
    | (cases h; exact chkTI_ok laid small (by kernel_rfl))
    | cases h
theorem tt12_ok : TTok Tryd.prog tt12 := by
  intro t i h
  unfold tt12 at h
  split at h <;> first
    | (cases h; exact chkTI_ok laid small (by kernel_rfl))
    | cases h
theorem tt13_ok : TTok Tryd.prog tt13 := by
  intro t i h
  unfold tt13 at h
  split at h <;> first
    | (cases h; exact chkTI_ok laid small (by kernel_rfl))
    | cases h
theorem tt14_ok : TTok Tryd.prog tt14 := by
  intro t i h
  unfold tt14 at h
  split at h <;> first
    | (cases h; exact chkTI_ok laid small (by kernel_rfl))
    | cases h
theorem tt15_ok : TTok Tryd.prog tt15 := by
  intro t i h
  unfold tt15 at h
  split at h <;> first
    | (cases h; exact chkTI_ok laid small (by kernel_rfl))
    | cases h
theorem tt16_ok : TTok Tryd.prog tt16 := by
  intro t i h
  unfold tt16 at h
  split at h <;> first
    | (cases h; exact chkTI_ok laid small (by kernel_rfl))
    | cases h
theorem tt17_ok : TTok Tryd.prog tt17 := by
  intro t i h
  unfold tt17 at h
  split at h <;> first
    | (cases h; exact chkTI_ok laid small (by kernel_rfl))
    | cases h
theorem tt18_ok : TTok Tryd.prog tt18 := by
  intro t i h
  unfold tt18 at h
  split at h <;> first
    | (cases h; exact chkTI_ok laid small (by kernel_rfl))
    | cases h
theorem tt19_ok : TTok Tryd.prog tt19 := by
  intro t i h
  unfold tt19 at h
  split at h <;> first
    | (cases h; exact chkTI_ok laid small (by kernel_rfl))
    | cases h
theorem tt20_ok : TTok Tryd.prog tt20 := by
  intro t i h
  unfold tt20 at h
  split at h <;> first
    | (cases h; exact chkTI_ok laid small (by kernel_rfl))
    | cases h
theorem tt21_ok : TTok Tryd.prog tt21 := by
  intro t i h
  unfold tt21 at h
  split at h <;> first
    | (cases h; exact chkTI_ok laid small (by kernel_rfl))
    | cases h
theorem tt22_ok : TTok Tryd.prog tt22 := by
  intro t i h
  unfold tt22 at h
  split at h <;> first
    | (cases h; exact chkTI_ok laid small (by kernel_rfl))
    | cases h
theorem tt23_ok : TTok Tryd.prog tt23 := by
  intro t i h
  unfold tt23 at h
  split at h <;> first
    | (cases h; exact chkTI_ok laid small (by kernel_rfl))
    | cases h
theorem tt24_ok : TTok Tryd.prog tt24 := by
  intro t i h
  unfold tt24 at h
  split at h <;> first
    | (cases h; exact chkTI_ok laid small (by kernel_rfl))
    | cases h
theorem tt25_ok : TTok Tryd.prog tt25 := by
  intro t i h
  unfold tt25 at h
  split at h <;> first
    | (cases h; exact chkTI_ok laid small (by kernel_rfl))
    | cases h
theorem tt26_ok : TTok Tryd.prog tt26 := by
  intro t i h
  unfold tt26 at h
  split at h <;> first
    | (cases h; exact chkTI_ok laid small (by kernel_rfl))
    | cases h
theorem tt27_ok : TTok Tryd.prog tt27 := by
  intro t i h
  unfold tt27 at h
  split at h <;> first
    | (cases h; exact chkTI_ok laid small (by kernel_rfl))
    | cases h
theorem tts0_ok (k : Nat) : TTok Tryd.prog (fun n => tts0 n k) := by
  intro t i h
  unfold tts0 at h
  split at h <;> first
    | exact tt0_ok _ _ h
    | exact tt1_ok _ _ h
    | exact tt2_ok _ _ h
    | exact tt3_ok _ _ h
    | exact tt4_ok _ _ h
    | exact tt5_ok _ _ h
    | exact tt6_ok _ _ h
    | exact tt7_ok _ _ h
    | cases h
theorem tts1_ok (k : Nat) : TTok Tryd.prog (fun n => tts1 n k) := by
  intro t i h
  unfold tts1 at h
  split at h <;> first
    | exact tt8_ok _ _ h
    | exact tt9_ok _ _ h
    | exact tt10_ok _ _ h
    | exact tt11_ok _ _ h
    | exact tt12_ok _ _ h
    | exact tt13_ok _ _ h
    | exact tt14_ok _ _ h
    | exact tt15_ok _ _ h
    | cases h
theorem tts2_ok (k : Nat) : TTok Tryd.prog (fun n => tts2 n k) := by
  intro t i h
  unfold tts2 at h
  split at h <;> first
    | exact tt16_ok _ _ h
    | exact tt17_ok _ _ h
    | exact tt18_ok _ _ h
    | exact tt19_ok _ _ h
    | exact tt20_ok _ _ h
    | exact tt21_ok _ _ h
    | exact tt22_ok _ _ h
    | exact tt23_ok _ _ h
    | cases h
theorem tts3_ok (k : Nat) : TTok Tryd.prog (fun n => tts3 n k) := by
  intro t i h
  unfold tts3 at h
  split at h <;> first
    | exact tt24_ok _ _ h
    | exact tt25_ok _ _ h
    | exact tt26_ok _ _ h
    | exact tt27_ok _ _ h
    | cases h
theorem tt_ok : TTok Tryd.prog tt := by
  intro t i h
  unfold tt at h
  split at h <;> first
    | exact tts0_ok _ _ _ h
    | exact tts1_ok _ _ _ h
    | exact tts2_ok _ _ _ h
    | exact tts3_ok _ _ _ h
    | cases h
end Go.Proofs.YtfhncnhkeodngaaDoor
namespace Go.Proofs.YtfhncnhkeodngaaDoor
open Go.RowKit

attribute [go_sem] nLe nNle nLt nNlt nEq nNe iLe iNle iLt iNlt iEq iNe
attribute [go_sem] runOps stepOp stepOp0 stepOp1 evalOp dstOk St.ev.eq_1 St.ev.eq_2 St.ev.eq_3 St.ev.eq_4 ofConst St.get
attribute [go_sem] St.put look T.bin isConst mkFn allT St.len St.lst St.obj St.load loadT loadS
attribute [go_sem] mkAgg TK.isAgg St.index treeIndex SV.plus T.cells T.max2 T.min2 fillS SV.storable T.storable SV.cells
attribute [go_sem] St.litS idxOk zipFrz frz frzC frzL St.append St.appLen scrub St.bd SV.ren renL
attribute [go_sem] Ob.ren St.store T.put TI.zT SV.toT0 List.length_replicate List.getElem?_replicate Nat.one_mul Nat.mul_one List.isEmpty_cons List.isEmpty_nil or_self
attribute [go_sem] true_or or_true false_or or_false and_self decide_eq_true_eq if_true if_false ite_true ite_false Option.getD_some Option.getD_none
attribute [go_sem] Option.map_some Option.map_none Option.bind_some Option.bind_none decide_true decide_false Bool.true_and Bool.and_true Bool.false_and Bool.and_false Bool.not_true Bool.not_false
attribute [go_sem] beq_self_eq_true List.getElem?_cons_zero List.getElem?_cons_succ List.map_cons List.map_nil List.cons_append List.nil_append List.length_cons List.length_nil List.toList_toArray true_and and_true
attribute [go_sem] false_and and_false List.all_cons List.all_nil List.drop_zero List.drop_succ_cons List.take_succ_cons List.take_zero List.head?_cons List.set_cons_zero List.set_cons_succ Bool.or_true
attribute [go_sem] Bool.true_or Bool.or_false Bool.false_or ne_eq not_true_eq_false not_false_eq_true Nat.zero_add List.getElem?_toArray tInt tNat tInts tBools
attribute [go_sem] tIntss wrap_i64 List.getElem?_map List.length_map Int.toNat_natCast List.all_map stepX stepX0 evalX St.callR findCo
attribute [go_sem] St.litQ St.sliceQ St.rdL St.rd St.trL St.tr T.flatData flatAll lookR St.mapUp St.slice strSlice
attribute [go_sem] T.okKey T.inR bytesOf eq_self stepI quietOp St.ownAll St.own setSlot true_implies implies_true false_implies
attribute [go_sem] keepL reach addNew refsL SV.refs Ob.refs List.append_nil List.mem_cons List.not_mem_nil List.getElem?_nil posIn St.resL
attribute [go_sem] St.res1 St.gc St.head
theorem gb_a (l : List Int) (k : Nat) (h : k < l.length) : l[k]? = some l[k]! := get_bang l k h
theorem gb_b (l : List Bool) (k : Nat) (h : k < l.length) : l[k]? = some l[k]! := get_bang l k h
theorem gb_c (l : List (List Int)) (k : Nat) (h : k < l.length) : l[k]? = some l[k]! := get_bang l k h
theorem gb_d (l : List Nat) (k : Nat) (h : k < l.length) : l[k]? = some l[k]! := get_bang l k h
theorem gb_e (l : List T) (k : Nat) (h : k < l.length) : l[k]? = some l[k]! := get_bang l k h
theorem gb_f (l : List (List (List Int))) (k : Nat) (h : k < l.length) : l[k]? = some l[k]! := get_bang l k h
theorem gb_g (l : List (List Bool)) (k : Nat) (h : k < l.length) : l[k]? = some l[k]! := get_bang l k h
theorem gb_h (l : List (List Nat)) (k : Nat) (h : k < l.length) : l[k]? = some l[k]! := get_bang l k h
theorem gb_i (l : List (List (List (List Int)))) (k : Nat) (h : k < l.length) : l[k]? = some l[k]! := get_bang l k h
theorem gb_j (l : List (Int × Int)) (k : Nat) (h : k < l.length) : l[k]? = some l[k]! := get_bang l k h
theorem gb_k (l : List (Nat × Nat)) (k : Nat) (h : k < l.length) : l[k]? = some l[k]! := get_bang l k h
theorem gb_l (l : List UInt8) (k : Nat) (h : k < l.length) : l[k]? = some l[k]! := get_bang l k h
theorem gb_m (l : List (List T)) (k : Nat) (h : k < l.length) : l[k]? = some l[k]! := get_bang l k h
theorem gb_n (l : List String) (k : Nat) (h : k < l.length) : l[k]? = some l[k]! := get_bang l k h
attribute [go_sem] gb_a gb_b gb_c gb_d gb_e gb_f gb_g gb_h gb_i gb_j gb_k gb_l gb_m gb_n
attribute [go_sem] T.beqA eqIs SV.gd Option.some.injEq
attribute [go_sem] St.sliceA T.isCell stepA allocAt List.lookup
attribute [go_sem] St.res tt tts0 tts1 tts2 tts3 tt0 tt1 tt2 tt3 tt4 tt5 tt6 tt7 tt8 tt9 tt10 tt11 tt12 tt13 tt14 tt15 tt16 tt17 tt18 tt19 tt20 tt21 tt22 tt23 tt24 tt25 tt26 tt27
end Go.Proofs.YtfhncnhkeodngaaDoor
namespace Go.Proofs.YtfhncnhkeodngaaDoor
open Go.RowKit

def tErr (e : Int) : T := if e = 0 then .nilI else .iface 26 (.int .i64 e)
theorem tErr0 : tErr 0 = .nilI := rfl
def tAuto (a : GAuto) : T := .agg [tInt a.base, tInt a.tracks, tIntss a.next, tBools a.ends]
def I64s (l : List Int) : Prop := ∀ x ∈ l, I64 x
structure I64A (a : GAuto) : Prop where
  base : I64 a.base
  tracks : I64 a.tracks
  next : ∀ r ∈ a.next, I64s r
section
variable {P : Program} {G : World → Prop}
theorem enter_of {f : Nat} {fn : Func} {c : Code} (hf : P.funcs[f]? = some fn) (hb : fn.body = some c) (hn : (fn.name == "runtime.NumGoroutine") = false) (vs : Array Value) (w : World) : (callFunc f vs).run P w = .ok (.enter f vs) w := by
  unfold callFunc
  rw [Sem.run_bind, run_program, Result.andThen_ok]
  simp only [hf, hn, hb, Option.isNone_some, Bool.false_eq_true, if_false]
  rfl
theorem snd2 {f : Nat} {fn : Func} {c : Code} {x y r : T} (hf : P.funcs[f]? = some fn) (hb : fn.body = some c) (hn : (fn.name == "runtime.NumGoroutine") = false)
    (h : ∀ (S : Nat → Prop) (w : World) (v u : Value), G w → (∀ b, S b → b < w.heap.size) → RepT S w x v → RepT S w y u → ∃ V, Calls P f #[v, u] w (fun e w' => e = .returned V ∧ Below w.heap.size w w') ∧ ∀ S w, RepT S w r V) : Snd P G f [x, y] r := by
  refine ⟨enter_of hf hb hn, fun S w vs hG hs hr => ?_⟩
  obtain ⟨l⟩ := vs
  match l, hs with
  | [v0, v1], _ =>
    obtain ⟨V, h1, h2⟩ := h (fun b => S b ∧ b < w.heap.size) w v0 v1 hG (fun b hb => hb.2) ((hr 0 _ v0 rfl rfl).keep ⟨Nat.le_refl _, fun b hb hlt => ⟨rfl, hb, hlt⟩⟩) ((hr 1 _ v1 rfl rfl).keep ⟨Nat.le_refl _, fun b hb hlt => ⟨rfl, hb, hlt⟩⟩)
    exact h1.mono fun e w' hq => ⟨V, hq.1, h2 _ _, hq.2⟩
end
theorem intInv {S : Nat → Prop} {w : World} {n : Int} {v : Value} (h : RepT S w (tInt n) v) : v = .int .i64 n := by cases h; rfl
theorem bang_get {α : Type} [Inhabited α] {l : List α} {i : Nat} {x : α} (h : l[i]! = x) (hi : i < l.length) : l[i]? = some x := by rw [← h, getElem!_pos l i hi]; exact List.getElem?_eq_getElem hi
theorem bang_mem {α : Type} [Inhabited α] {l : List α} {i : Nat} {x : α} (h : l[i]! = x) (hi : i < l.length) : x ∈ l := List.mem_of_getElem? (bang_get h hi)
theorem bang_D {α : Type} [Inhabited α] {l : List α} {i : Nat} {x d : α} (h : l[i]! = x) (hi : i < l.length) : l.getD i d = x := by rw [getD_lt hi, ← h, getElem!_pos l i hi]
theorem bang_at {α : Type} [Inhabited α] {l : List α} {i : Nat} {x : α} (h : l[i]! = x) (hi : i < l.length) : l[i] = x := by rw [← h, getElem!_pos l i hi]
theorem take_next {α : Type} [Inhabited α] {l : List α} {i : Nat} {x : α} (h : l[i]! = x) (hi : i < l.length) : l.take (i + 1) = l.take i ++ [x] := by
  rw [List.take_succ_eq_append_getElem hi, bang_at h hi]
section
variable {G : World → Prop} (hG : Lasting G)
include hG
theorem Radix_snd (base : Int) : Snd Tryd.prog G 83 [tInt base] (tInt (radix base)) := by
  have htb : Tab.ok Tryd.prog G [] := Tab.nil
  refine snd_of_body (n := 12) (tm := [(0, .t (tInt base))]) (rs := [.tmp 2]) tt_ok Tryd.func83 rfl rfl rfl rfl rfl ?_
  unfold radix
  by_cases h1 : base = 1
  · repeat' (first | (with_reducible first | refine SW_seq ?_ | refine SW_block ?_ | refine SThen_n ?_ | refine SThen_r ?_ | refine SThen_e ?_ | refine SIn_n ?_ | refine SIn_r ?_ | refine SIn_eq ?_ | refine SW_skip ?_ | refine SW_exit ?_ | refine SW_ret ?_ | refine SPost_r ?_) | ((with_reducible refine SIn_ne ?_ ?_); focus decide) | ((with_reducible refine SW_true ?_ ?_); focus exact rfl) | ((with_reducible refine SW_false ?_ ?_); focus exact rfl) | ((first | (with_reducible apply SW_run tt_ok hG htb) | ((with_reducible apply SW_draw rfl tt_ok hG htb); (focus kernel_rfl); (focus (simp only [List.range, List.range.loop, List.size_toArray, List.length_cons, List.length_nil, Nat.reduceAdd])))); focus ((repeat' (first | (with_reducible exact runX_nil) | (with_reducible exact runI_nil) | ((first | (with_reducible apply runX_cons) | (with_reducible apply runI_cons)); focus (simp (discharger := omega) only [go_sem, h1, ↓reduceIte, reduceIte, Nat.reduceEqDiff, Nat.reduceLT, Nat.reduceLeDiff, Nat.reduceAdd, Nat.reduceSub, Nat.reduceMul, Nat.reduceDiv, Nat.reduceMod, Nat.reduceBEq, Int.reduceEq, Int.reduceLT, Int.reduceLE, Int.reduceNeg, Int.reduceToNat, reduceCtorEq]; with_reducible rfl)))); done)))
    exact (by simp (discharger := omega) only [go_sem, h1, ↓reduceIte, reduceIte, Nat.reduceEqDiff, Nat.reduceLT, Nat.reduceLeDiff, Nat.reduceAdd, Nat.reduceSub, Nat.reduceMul, Nat.reduceDiv, Nat.reduceMod, Nat.reduceBEq, Int.reduceEq, Int.reduceLT, Int.reduceLE, Int.reduceNeg, Int.reduceToNat, reduceCtorEq])
  · by_cases h2 : 2 ≤ base
    · by_cases h3 : base ≤ 6
      · repeat' (first | (with_reducible first | refine SW_seq ?_ | refine SW_block ?_ | refine SThen_n ?_ | refine SThen_r ?_ | refine SThen_e ?_ | refine SIn_n ?_ | refine SIn_r ?_ | refine SIn_eq ?_ | refine SW_skip ?_ | refine SW_exit ?_ | refine SW_ret ?_ | refine SPost_r ?_) | ((with_reducible refine SIn_ne ?_ ?_); focus decide) | ((with_reducible refine SW_true ?_ ?_); focus exact rfl) | ((with_reducible refine SW_false ?_ ?_); focus exact rfl) | ((first | (with_reducible apply SW_run tt_ok hG htb) | ((with_reducible apply SW_draw rfl tt_ok hG htb); (focus kernel_rfl); (focus (simp only [List.range, List.range.loop, List.size_toArray, List.length_cons, List.length_nil, Nat.reduceAdd])))); focus ((repeat' (first | (with_reducible exact runX_nil) | (with_reducible exact runI_nil) | ((first | (with_reducible apply runX_cons) | (with_reducible apply runI_cons)); focus (simp (discharger := omega) only [go_sem, ↓reduceIte, reduceIte, Nat.reduceEqDiff, Nat.reduceLT, Nat.reduceLeDiff, Nat.reduceAdd, Nat.reduceSub, Nat.reduceMul, Nat.reduceDiv, Nat.reduceMod, Nat.reduceBEq, Int.reduceEq, Int.reduceLT, Int.reduceLE, Int.reduceNeg, Int.reduceToNat, reduceCtorEq]; with_reducible rfl)))); done)))
        exact (by simp (discharger := omega) only [go_sem, ↓reduceIte, reduceIte, Nat.reduceEqDiff, Nat.reduceLT, Nat.reduceLeDiff, Nat.reduceAdd, Nat.reduceSub, Nat.reduceMul, Nat.reduceDiv, Nat.reduceMod, Nat.reduceBEq, Int.reduceEq, Int.reduceLT, Int.reduceLE, Int.reduceNeg, Int.reduceToNat, reduceCtorEq])
      · repeat' (first | (with_reducible first | refine SW_seq ?_ | refine SW_block ?_ | refine SThen_n ?_ | refine SThen_r ?_ | refine SThen_e ?_ | refine SIn_n ?_ | refine SIn_r ?_ | refine SIn_eq ?_ | refine SW_skip ?_ | refine SW_exit ?_ | refine SW_ret ?_ | refine SPost_r ?_) | ((with_reducible refine SIn_ne ?_ ?_); focus decide) | ((with_reducible refine SW_true ?_ ?_); focus exact rfl) | ((with_reducible refine SW_false ?_ ?_); focus exact rfl) | ((first | (with_reducible apply SW_run tt_ok hG htb) | ((with_reducible apply SW_draw rfl tt_ok hG htb); (focus kernel_rfl); (focus (simp only [List.range, List.range.loop, List.size_toArray, List.length_cons, List.length_nil, Nat.reduceAdd])))); focus ((repeat' (first | (with_reducible exact runX_nil) | (with_reducible exact runI_nil) | ((first | (with_reducible apply runX_cons) | (with_reducible apply runI_cons)); focus (simp (discharger := omega) only [go_sem, ↓reduceIte, reduceIte, Nat.reduceEqDiff, Nat.reduceLT, Nat.reduceLeDiff, Nat.reduceAdd, Nat.reduceSub, Nat.reduceMul, Nat.reduceDiv, Nat.reduceMod, Nat.reduceBEq, Int.reduceEq, Int.reduceLT, Int.reduceLE, Int.reduceNeg, Int.reduceToNat, reduceCtorEq]; with_reducible rfl)))); done)))
        exact (by simp (discharger := omega) only [go_sem, ↓reduceIte, reduceIte, Nat.reduceEqDiff, Nat.reduceLT, Nat.reduceLeDiff, Nat.reduceAdd, Nat.reduceSub, Nat.reduceMul, Nat.reduceDiv, Nat.reduceMod, Nat.reduceBEq, Int.reduceEq, Int.reduceLT, Int.reduceLE, Int.reduceNeg, Int.reduceToNat, reduceCtorEq])
    · repeat' (first | (with_reducible first | refine SW_seq ?_ | refine SW_block ?_ | refine SThen_n ?_ | refine SThen_r ?_ | refine SThen_e ?_ | refine SIn_n ?_ | refine SIn_r ?_ | refine SIn_eq ?_ | refine SW_skip ?_ | refine SW_exit ?_ | refine SW_ret ?_ | refine SPost_r ?_) | ((with_reducible refine SIn_ne ?_ ?_); focus decide) | ((with_reducible refine SW_true ?_ ?_); focus exact rfl) | ((with_reducible refine SW_false ?_ ?_); focus exact rfl) | ((first | (with_reducible apply SW_run tt_ok hG htb) | ((with_reducible apply SW_draw rfl tt_ok hG htb); (focus kernel_rfl); (focus (simp only [List.range, List.range.loop, List.size_toArray, List.length_cons, List.length_nil, Nat.reduceAdd])))); focus ((repeat' (first | (with_reducible exact runX_nil) | (with_reducible exact runI_nil) | ((first | (with_reducible apply runX_cons) | (with_reducible apply runI_cons)); focus (simp (discharger := omega) only [go_sem, ↓reduceIte, reduceIte, Nat.reduceEqDiff, Nat.reduceLT, Nat.reduceLeDiff, Nat.reduceAdd, Nat.reduceSub, Nat.reduceMul, Nat.reduceDiv, Nat.reduceMod, Nat.reduceBEq, Int.reduceEq, Int.reduceLT, Int.reduceLE, Int.reduceNeg, Int.reduceToNat, reduceCtorEq]; with_reducible rfl)))); done)))
      exact (by simp (discharger := omega) only [go_sem, ↓reduceIte, reduceIte, Nat.reduceEqDiff, Nat.reduceLT, Nat.reduceLeDiff, Nat.reduceAdd, Nat.reduceSub, Nat.reduceMul, Nat.reduceDiv, Nat.reduceMod, Nat.reduceBEq, Int.reduceEq, Int.reduceLT, Int.reduceLE, Int.reduceNeg, Int.reduceToNat, reduceCtorEq])
set_option maxHeartbeats 1000000 in
theorem Many_snd (base t : Int) : Snd Tryd.prog G 62 [tInt base, tInt t] (.tup [tInt (manyOf base t), tErr (manyErr base t)]) := by
  have htb := Tab.cons (Radix_snd hG base) Tab.nil
  refine snd_of_body (n := 32) (tm := [(0, .t (tInt base)), (1, .t (tInt t))]) (rs := [.tmp 4, .tmp 5]) tt_ok Tryd.func62 rfl rfl rfl rfl rfl ?_
  unfold manyOf manyErr
  generalize hk : radix base = k at htb ⊢
  by_cases h1 : k = 0
  · subst h1
    repeat' (first | (with_reducible first | refine SW_seq ?_ | refine SW_block ?_ | refine SThen_n ?_ | refine SThen_r ?_ | refine SThen_e ?_ | refine SIn_n ?_ | refine SIn_r ?_ | refine SIn_eq ?_ | refine SW_skip ?_ | refine SW_exit ?_ | refine SW_ret ?_ | refine SPost_r ?_) | ((with_reducible refine SIn_ne ?_ ?_); focus decide) | ((with_reducible refine SW_true ?_ ?_); focus exact rfl) | ((with_reducible refine SW_false ?_ ?_); focus exact rfl) | ((first | (with_reducible apply SW_run tt_ok hG htb) | ((with_reducible apply SW_draw rfl tt_ok hG htb); (focus kernel_rfl); (focus (simp only [List.range, List.range.loop, List.size_toArray, List.length_cons, List.length_nil, Nat.reduceAdd])))); focus ((repeat' (first | (with_reducible exact runX_nil) | (with_reducible exact runI_nil) | ((first | (with_reducible apply runX_cons) | (with_reducible apply runI_cons)); focus (simp (discharger := omega) only [go_sem, ↓reduceIte, reduceIte, Nat.reduceEqDiff, Nat.reduceLT, Nat.reduceLeDiff, Nat.reduceAdd, Nat.reduceSub, Nat.reduceMul, Nat.reduceDiv, Nat.reduceMod, Nat.reduceBEq, Int.reduceEq, Int.reduceLT, Int.reduceLE, Int.reduceNeg, Int.reduceToNat, reduceCtorEq]; with_reducible rfl)))); done)))
    exact (by simp (discharger := omega) only [go_sem, tErr, ↓reduceIte, reduceIte, Nat.reduceEqDiff, Nat.reduceLT, Nat.reduceLeDiff, Nat.reduceAdd, Nat.reduceSub, Nat.reduceMul, Nat.reduceDiv, Nat.reduceMod, Nat.reduceBEq, Int.reduceEq, Int.reduceLT, Int.reduceLE, Int.reduceNeg, Int.reduceToNat, reduceCtorEq])
  · by_cases h2 : t < 0
    · repeat' (first | (with_reducible first | refine SW_seq ?_ | refine SW_block ?_ | refine SThen_n ?_ | refine SThen_r ?_ | refine SThen_e ?_ | refine SIn_n ?_ | refine SIn_r ?_ | refine SIn_eq ?_ | refine SW_skip ?_ | refine SW_exit ?_ | refine SW_ret ?_ | refine SPost_r ?_) | ((with_reducible refine SIn_ne ?_ ?_); focus decide) | ((with_reducible refine SW_true ?_ ?_); focus exact rfl) | ((with_reducible refine SW_false ?_ ?_); focus exact rfl) | ((first | (with_reducible apply SW_run tt_ok hG htb) | ((with_reducible apply SW_draw rfl tt_ok hG htb); (focus kernel_rfl); (focus (simp only [List.range, List.range.loop, List.size_toArray, List.length_cons, List.length_nil, Nat.reduceAdd])))); focus ((repeat' (first | (with_reducible exact runX_nil) | (with_reducible exact runI_nil) | ((first | (with_reducible apply runX_cons) | (with_reducible apply runI_cons)); focus (simp (discharger := omega) only [go_sem, ↓reduceIte, reduceIte, Nat.reduceEqDiff, Nat.reduceLT, Nat.reduceLeDiff, Nat.reduceAdd, Nat.reduceSub, Nat.reduceMul, Nat.reduceDiv, Nat.reduceMod, Nat.reduceBEq, Int.reduceEq, Int.reduceLT, Int.reduceLE, Int.reduceNeg, Int.reduceToNat, reduceCtorEq]; with_reducible rfl)))); done)))
      exact (by simp (discharger := omega) only [go_sem, tErr, ↓reduceIte, reduceIte, Nat.reduceEqDiff, Nat.reduceLT, Nat.reduceLeDiff, Nat.reduceAdd, Nat.reduceSub, Nat.reduceMul, Nat.reduceDiv, Nat.reduceMod, Nat.reduceBEq, Int.reduceEq, Int.reduceLT, Int.reduceLE, Int.reduceNeg, Int.reduceToNat, reduceCtorEq])
    · by_cases h3 : 5 < t
      · repeat' (first | (with_reducible first | refine SW_seq ?_ | refine SW_block ?_ | refine SThen_n ?_ | refine SThen_r ?_ | refine SThen_e ?_ | refine SIn_n ?_ | refine SIn_r ?_ | refine SIn_eq ?_ | refine SW_skip ?_ | refine SW_exit ?_ | refine SW_ret ?_ | refine SPost_r ?_) | ((with_reducible refine SIn_ne ?_ ?_); focus decide) | ((with_reducible refine SW_true ?_ ?_); focus exact rfl) | ((with_reducible refine SW_false ?_ ?_); focus exact rfl) | ((first | (with_reducible apply SW_run tt_ok hG htb) | ((with_reducible apply SW_draw rfl tt_ok hG htb); (focus kernel_rfl); (focus (simp only [List.range, List.range.loop, List.size_toArray, List.length_cons, List.length_nil, Nat.reduceAdd])))); focus ((repeat' (first | (with_reducible exact runX_nil) | (with_reducible exact runI_nil) | ((first | (with_reducible apply runX_cons) | (with_reducible apply runI_cons)); focus (simp (discharger := omega) only [go_sem, ↓reduceIte, reduceIte, Nat.reduceEqDiff, Nat.reduceLT, Nat.reduceLeDiff, Nat.reduceAdd, Nat.reduceSub, Nat.reduceMul, Nat.reduceDiv, Nat.reduceMod, Nat.reduceBEq, Int.reduceEq, Int.reduceLT, Int.reduceLE, Int.reduceNeg, Int.reduceToNat, reduceCtorEq]; with_reducible rfl)))); done)))
        exact (by simp (discharger := omega) only [go_sem, tErr, ↓reduceIte, reduceIte, Nat.reduceEqDiff, Nat.reduceLT, Nat.reduceLeDiff, Nat.reduceAdd, Nat.reduceSub, Nat.reduceMul, Nat.reduceDiv, Nat.reduceMod, Nat.reduceBEq, Int.reduceEq, Int.reduceLT, Int.reduceLE, Int.reduceNeg, Int.reduceToNat, reduceCtorEq])
      · obtain ⟨r2, r6⟩ := radix_two (b := base) (by omega)
        rw [hk] at r2 r6
        obtain ⟨t, rfl⟩ := Int.eq_ofNat_of_zero_le (show 0 ≤ t by omega)
        rw [show (if k = 0 ∨ (t : Int) < 0 ∨ 5 < (t : Int) then (1 : Int) else if 36 < powW k (t : Int).toNat then 3 else 0) = if 36 < powW k t then 3 else 0 by rw [if_neg (by omega)]; rfl]
        repeat' (first | (with_reducible first | refine SW_seq ?_ | refine SW_block ?_ | refine SThen_n ?_ | refine SThen_r ?_ | refine SThen_e ?_ | refine SIn_n ?_ | refine SIn_r ?_ | refine SIn_eq ?_ | refine SW_skip ?_ | refine SW_exit ?_ | refine SW_ret ?_ | refine SPost_r ?_) | ((with_reducible refine SIn_ne ?_ ?_); focus decide) | ((with_reducible refine SW_true ?_ ?_); focus exact rfl) | ((with_reducible refine SW_false ?_ ?_); focus exact rfl) | ((first | (with_reducible apply SW_run tt_ok hG htb) | ((with_reducible apply SW_draw rfl tt_ok hG htb); (focus kernel_rfl); (focus (simp only [List.range, List.range.loop, List.size_toArray, List.length_cons, List.length_nil, Nat.reduceAdd])))); focus ((repeat' (first | (with_reducible exact runX_nil) | (with_reducible exact runI_nil) | ((first | (with_reducible apply runX_cons) | (with_reducible apply runI_cons)); focus (simp (discharger := omega) only [go_sem, ↓reduceIte, reduceIte, Nat.reduceEqDiff, Nat.reduceLT, Nat.reduceLeDiff, Nat.reduceAdd, Nat.reduceSub, Nat.reduceMul, Nat.reduceDiv, Nat.reduceMod, Nat.reduceBEq, Int.reduceEq, Int.reduceLT, Int.reduceLE, Int.reduceNeg, Int.reduceToNat, reduceCtorEq]; with_reducible rfl)))); done)))
        refine SW_loop (fun m s => ∃ i : Nat, m = t - i ∧ s = ⟨32, [(6, .t (tInt k)), (7, .t (tInt (powW k i))), (21, .t (tInt t)), (22, .t (tInt i))], []⟩ ∧ i ≤ t) t ⟨_, Norm.headS (own := []) (keep := [6, 7, 21, 22]) (by simp (discharger := omega) only [go_sem, ↓reduceIte, reduceIte, Nat.reduceEqDiff, Nat.reduceLT, Nat.reduceLeDiff, Nat.reduceAdd, Nat.reduceSub, Nat.reduceMul, Nat.reduceDiv, Nat.reduceMod, Nat.reduceBEq, Int.reduceEq, Int.reduceLT, Int.reduceLE, Int.reduceNeg, Int.reduceToNat, reduceCtorEq]; with_reducible rfl) (by simp only [go_sem, ↓reduceIte, reduceIte, Nat.reduceEqDiff, Nat.reduceLT, Nat.reduceLeDiff, Nat.reduceAdd, Nat.reduceSub, Nat.reduceMul, Nat.reduceDiv, Nat.reduceMod, Nat.reduceBEq, Int.reduceEq, Int.reduceLT, Int.reduceLE, Int.reduceNeg, Int.reduceToNat, reduceCtorEq]; with_reducible rfl) (by simp only [go_sem, ↓reduceIte, reduceIte, Nat.reduceEqDiff, Nat.reduceLT, Nat.reduceLeDiff, Nat.reduceAdd, Nat.reduceSub, Nat.reduceMul, Nat.reduceDiv, Nat.reduceMod, Nat.reduceBEq, Int.reduceEq, Int.reduceLT, Int.reduceLE, Int.reduceNeg, Int.reduceToNat, reduceCtorEq]; with_reducible rfl) (by simp only [go_sem, ↓reduceIte, reduceIte, Nat.reduceEqDiff, Nat.reduceLT, Nat.reduceLeDiff, Nat.reduceAdd, Nat.reduceSub, Nat.reduceMul, Nat.reduceDiv, Nat.reduceMod, Nat.reduceBEq, Int.reduceEq, Int.reduceLT, Int.reduceLE, Int.reduceNeg, Int.reduceToNat, reduceCtorEq]; with_reducible rfl) (by simp only [go_sem, ↓reduceIte, reduceIte, Nat.reduceEqDiff, Nat.reduceLT, Nat.reduceLeDiff, Nat.reduceAdd, Nat.reduceSub, Nat.reduceMul, Nat.reduceDiv, Nat.reduceMod, Nat.reduceBEq, Int.reduceEq, Int.reduceLT, Int.reduceLE, Int.reduceNeg, Int.reduceToNat, reduceCtorEq]; with_reducible rfl), 0, rfl, rfl, Nat.zero_le _⟩ ?_
        rintro m s ⟨i, rfl, rfl, hi⟩
        have hb := powW_bd r2 r6 (j := i) (by omega)
        by_cases hlt : i < t
        · have hb1 : 1 ≤ powW k i * k ∧ powW k i * k ≤ 7776 := powW_bd r2 r6 (j := i + 1) (by omega)
          repeat' (first | (with_reducible first | refine SW_seq ?_ | refine SW_block ?_ | refine SThen_n ?_ | refine SThen_r ?_ | refine SThen_e ?_ | refine SIn_n ?_ | refine SIn_r ?_ | refine SIn_eq ?_ | refine SW_skip ?_ | refine SW_exit ?_ | refine SW_ret ?_ | refine SPost_r ?_) | ((with_reducible refine SIn_ne ?_ ?_); focus decide) | ((with_reducible refine SW_true ?_ ?_); focus exact rfl) | ((with_reducible refine SW_false ?_ ?_); focus exact rfl) | ((first | (with_reducible apply SW_run tt_ok hG htb) | ((with_reducible apply SW_draw rfl tt_ok hG htb); (focus kernel_rfl); (focus (simp only [List.range, List.range.loop, List.size_toArray, List.length_cons, List.length_nil, Nat.reduceAdd])))); focus ((repeat' (first | (with_reducible exact runX_nil) | (with_reducible exact runI_nil) | ((first | (with_reducible apply runX_cons) | (with_reducible apply runI_cons)); focus (simp (discharger := omega) only [go_sem, ↓reduceIte, reduceIte, Nat.reduceEqDiff, Nat.reduceLT, Nat.reduceLeDiff, Nat.reduceAdd, Nat.reduceSub, Nat.reduceMul, Nat.reduceDiv, Nat.reduceMod, Nat.reduceBEq, Int.reduceEq, Int.reduceLT, Int.reduceLE, Int.reduceNeg, Int.reduceToNat, reduceCtorEq]; with_reducible rfl)))); done)))
          exact ⟨t - (i + 1), _, by omega, Norm.headS (own := []) (keep := [6, 7, 21, 22]) (by simp (discharger := omega) only [go_sem, ↓reduceIte, reduceIte, Nat.reduceEqDiff, Nat.reduceLT, Nat.reduceLeDiff, Nat.reduceAdd, Nat.reduceSub, Nat.reduceMul, Nat.reduceDiv, Nat.reduceMod, Nat.reduceBEq, Int.reduceEq, Int.reduceLT, Int.reduceLE, Int.reduceNeg, Int.reduceToNat, reduceCtorEq]; with_reducible rfl) (by simp only [go_sem, ↓reduceIte, reduceIte, Nat.reduceEqDiff, Nat.reduceLT, Nat.reduceLeDiff, Nat.reduceAdd, Nat.reduceSub, Nat.reduceMul, Nat.reduceDiv, Nat.reduceMod, Nat.reduceBEq, Int.reduceEq, Int.reduceLT, Int.reduceLE, Int.reduceNeg, Int.reduceToNat, reduceCtorEq]; with_reducible rfl) (by simp only [go_sem, ↓reduceIte, reduceIte, Nat.reduceEqDiff, Nat.reduceLT, Nat.reduceLeDiff, Nat.reduceAdd, Nat.reduceSub, Nat.reduceMul, Nat.reduceDiv, Nat.reduceMod, Nat.reduceBEq, Int.reduceEq, Int.reduceLT, Int.reduceLE, Int.reduceNeg, Int.reduceToNat, reduceCtorEq]; with_reducible rfl) (by simp only [go_sem, ↓reduceIte, reduceIte, Nat.reduceEqDiff, Nat.reduceLT, Nat.reduceLeDiff, Nat.reduceAdd, Nat.reduceSub, Nat.reduceMul, Nat.reduceDiv, Nat.reduceMod, Nat.reduceBEq, Int.reduceEq, Int.reduceLT, Int.reduceLE, Int.reduceNeg, Int.reduceToNat, reduceCtorEq]; with_reducible rfl) (by simp only [go_sem, ↓reduceIte, reduceIte, Nat.reduceEqDiff, Nat.reduceLT, Nat.reduceLeDiff, Nat.reduceAdd, Nat.reduceSub, Nat.reduceMul, Nat.reduceDiv, Nat.reduceMod, Nat.reduceBEq, Int.reduceEq, Int.reduceLT, Int.reduceLE, Int.reduceNeg, Int.reduceToNat, reduceCtorEq]; with_reducible rfl), i + 1, rfl, rfl, by omega⟩
        · obtain rfl : i = t := by omega
          by_cases h36 : 36 < powW k i
          · repeat' (first | (with_reducible first | refine SW_seq ?_ | refine SW_block ?_ | refine SThen_n ?_ | refine SThen_r ?_ | refine SThen_e ?_ | refine SIn_n ?_ | refine SIn_r ?_ | refine SIn_eq ?_ | refine SW_skip ?_ | refine SW_exit ?_ | refine SW_ret ?_ | refine SPost_r ?_) | ((with_reducible refine SIn_ne ?_ ?_); focus decide) | ((with_reducible refine SW_true ?_ ?_); focus exact rfl) | ((with_reducible refine SW_false ?_ ?_); focus exact rfl) | ((first | (with_reducible apply SW_run tt_ok hG htb) | ((with_reducible apply SW_draw rfl tt_ok hG htb); (focus kernel_rfl); (focus (simp only [List.range, List.range.loop, List.size_toArray, List.length_cons, List.length_nil, Nat.reduceAdd])))); focus ((repeat' (first | (with_reducible exact runX_nil) | (with_reducible exact runI_nil) | ((first | (with_reducible apply runX_cons) | (with_reducible apply runI_cons)); focus (simp (discharger := omega) only [go_sem, ↓reduceIte, reduceIte, Nat.reduceEqDiff, Nat.reduceLT, Nat.reduceLeDiff, Nat.reduceAdd, Nat.reduceSub, Nat.reduceMul, Nat.reduceDiv, Nat.reduceMod, Nat.reduceBEq, Int.reduceEq, Int.reduceLT, Int.reduceLE, Int.reduceNeg, Int.reduceToNat, reduceCtorEq]; with_reducible rfl)))); done)))
            exact (by simp (discharger := omega) only [go_sem, tErr, ↓reduceIte, reduceIte, Nat.reduceEqDiff, Nat.reduceLT, Nat.reduceLeDiff, Nat.reduceAdd, Nat.reduceSub, Nat.reduceMul, Nat.reduceDiv, Nat.reduceMod, Nat.reduceBEq, Int.reduceEq, Int.reduceLT, Int.reduceLE, Int.reduceNeg, Int.reduceToNat, reduceCtorEq])
          · repeat' (first | (with_reducible first | refine SW_seq ?_ | refine SW_block ?_ | refine SThen_n ?_ | refine SThen_r ?_ | refine SThen_e ?_ | refine SIn_n ?_ | refine SIn_r ?_ | refine SIn_eq ?_ | refine SW_skip ?_ | refine SW_exit ?_ | refine SW_ret ?_ | refine SPost_r ?_) | ((with_reducible refine SIn_ne ?_ ?_); focus decide) | ((with_reducible refine SW_true ?_ ?_); focus exact rfl) | ((with_reducible refine SW_false ?_ ?_); focus exact rfl) | ((first | (with_reducible apply SW_run tt_ok hG htb) | ((with_reducible apply SW_draw rfl tt_ok hG htb); (focus kernel_rfl); (focus (simp only [List.range, List.range.loop, List.size_toArray, List.length_cons, List.length_nil, Nat.reduceAdd])))); focus ((repeat' (first | (with_reducible exact runX_nil) | (with_reducible exact runI_nil) | ((first | (with_reducible apply runX_cons) | (with_reducible apply runI_cons)); focus (simp (discharger := omega) only [go_sem, ↓reduceIte, reduceIte, Nat.reduceEqDiff, Nat.reduceLT, Nat.reduceLeDiff, Nat.reduceAdd, Nat.reduceSub, Nat.reduceMul, Nat.reduceDiv, Nat.reduceMod, Nat.reduceBEq, Int.reduceEq, Int.reduceLT, Int.reduceLE, Int.reduceNeg, Int.reduceToNat, reduceCtorEq]; with_reducible rfl)))); done)))
            exact (by simp (discharger := omega) only [go_sem, tErr, ↓reduceIte, reduceIte, Nat.reduceEqDiff, Nat.reduceLT, Nat.reduceLeDiff, Nat.reduceAdd, Nat.reduceSub, Nat.reduceMul, Nat.reduceDiv, Nat.reduceMod, Nat.reduceBEq, Int.reduceEq, Int.reduceLT, Int.reduceLE, Int.reduceNeg, Int.reduceToNat, reduceCtorEq])
end
end Go.Proofs.YtfhncnhkeodngaaDoor
namespace Go.Proofs.YtfhncnhkeodngaaDoor
open Go.RowKit

section
variable {G : World → Prop} (hG : Lasting G)
include hG
end
end Go.Proofs.YtfhncnhkeodngaaDoor
namespace Go.Proofs.YtfhncnhkeodngaaDoor
open Go.RowKit

/-- What a map from looks to classes holds. -/
def entries (κ : Int → ByteArray) (R : List Int) : List (T × T) := R.zipIdx.map fun p => (.str (κ p.1), tNat p.2)
theorem entries_length (κ : Int → ByteArray) (R : List Int) : (entries κ R).length = R.length := by simp [entries]
theorem entries_mem {κ : Int → ByteArray} {R : List Int} {p : T × T} (h : p ∈ entries κ R) : ∃ r ∈ R, p.1 = .str (κ r) := by
  obtain ⟨q, hq, rfl⟩ := List.mem_map.1 h
  have := (List.mem_zipIdx_iff_getElem?.1 (show (q.1, q.2) ∈ R.zipIdx from hq))
  exact ⟨q.1, List.mem_of_getElem? this, rfl⟩
theorem entries_none {κ : Int → ByteArray} {R : List Int} {s : Int} (h : ∀ r ∈ R, κ r ≠ κ s) : ∀ p ∈ entries κ R, p.1 ≠ .str (κ s) := fun p hp e => by
  obtain ⟨r, hr, e2⟩ := entries_mem hp
  rw [e2] at e
  exact h r hr (T.str.inj e)
theorem entries_get_none {κ : Int → ByteArray} {R : List Int} {s : Int} (h : ∀ r ∈ R, κ r ≠ κ s) : mapGet (entries κ R) (.str (κ s)) = none := mapGet_none (entries_none h)
theorem entries_set {κ : Int → ByteArray} {R : List Int} {s : Int} (h : ∀ r ∈ R, κ r ≠ κ s) : mapSet (entries κ R) (.str (κ s)) (tNat R.length) = entries κ (R ++ [s]) := by
  rw [mapSet_none (entries_none h)]; simp [entries, List.zipIdx_append]
theorem entries_get_some {κ : Int → ByteArray} {R : List Int} {s r : Int} {k : Nat} (hd : R.Pairwise fun r q => κ r ≠ κ q) (hk : R[k]? = some r) (he : κ r = κ s) : mapGet (entries κ R) (.str (κ s)) = some (tNat k) := by
  refine mapGet_some (j := k) (p := (.str (κ r), tNat k)) ?_ ?_ (by rw [he])
  · rw [List.pairwise_iff_getElem]
    intro i j hi hj hij e
    simp only [entries, List.getElem_map, List.getElem_zipIdx] at e
    rw [entries_length] at hi hj
    exact List.pairwise_iff_getElem.1 hd i j hi hj hij (T.str.inj e)
  · simp [entries, List.getElem?_map, List.getElem?_zipIdx, hk]
/-- What Shrink hands back. -/
noncomputable def shrinkT (base tracks : Int) (n : Nat) (next : List (List Int)) (ends : List Bool) : T :=
  if (leastRE n next ends).1.length ≤ 80 then .tup [tAuto ⟨base, tracks, (leastRE n next ends).1, (leastRE n next ends).2⟩, .bool true] else .tup [tAuto GAuto.zero, .bool false]
section
variable {G : World → Prop} (hG : Lasting G)
include hG
set_option maxHeartbeats 1000000 in
set_option maxRecDepth 100000 in
theorem Shrink_big (base tracks : Int) {n m : Nat} {next : List (List Int)} {ends : List Bool} (hR : Rows0 n m next) (hm : 0 < m) (hm2 : m ≤ 2000000) (hm3 : (leastRE n next ends).1.length ≤ 65536) (he : ends.length = m) (hn : n ≤ 1000) :
    Snd Tryd.prog G 96 [tInt base, tInt tracks, tIntss next, tBools ends] (shrinkT base tracks n next ends) := by
  have htb : Tab.ok Tryd.prog G [] := Tab.nil
  have hlen := hR.len
  refine snd_of_body (n := 220) (tm := [(0, .t (tInt base)), (1, .t (tInt tracks)), (2, .t (tIntss next)), (3, .t (tBools ends))]) (rs := [.cell 8 51, .tmp 9]) tt_ok Tryd.func96 rfl rfl rfl rfl rfl ?_
  repeat' (first | (with_reducible first | refine SW_seq ?_ | refine SW_block ?_ | refine SThen_n ?_ | refine SThen_r ?_ | refine SThen_e ?_ | refine SIn_n ?_ | refine SIn_r ?_ | refine SIn_eq ?_ | refine SW_skip ?_ | refine SW_exit ?_ | refine SW_ret ?_ | refine SPost_r ?_) | ((with_reducible refine SIn_ne ?_ ?_); focus decide) | ((with_reducible refine SW_true ?_ ?_); focus exact rfl) | ((with_reducible refine SW_false ?_ ?_); focus exact rfl) | ((first | (with_reducible apply SW_run tt_ok hG htb) | ((with_reducible apply SW_draw rfl tt_ok hG htb); (focus kernel_rfl); (focus (simp only [List.range, List.range.loop, List.size_toArray, List.length_cons, List.length_nil, Nat.reduceAdd])))); focus ((repeat' (first | (with_reducible exact runX_nil) | (with_reducible exact runI_nil) | ((first | (with_reducible apply runX_cons) | (with_reducible apply runI_cons)); focus (simp (discharger := omega) only [go_sem, ↓reduceIte, reduceIte, Nat.reduceEqDiff, Nat.reduceLT, Nat.reduceLeDiff, Nat.reduceAdd, Nat.reduceSub, Nat.reduceMul, Nat.reduceDiv, Nat.reduceMod, Nat.reduceBEq, Int.reduceEq, Int.reduceLT, Int.reduceLE, Int.reduceNeg, Int.reduceToNat, reduceCtorEq]; with_reducible rfl)))); done)))
  refine SW_loop (fun k s => ∃ (i : Nat) (out : List Int) (ot st : List T), k = m - i ∧ s = ⟨220, [(0, .t (tInt base)), (1, .t (tInt tracks)), (2, .t (tIntss next)), (3, .t (tBools ends)), (8, .bptr 0 0), (10, .sref 1), (11, .sref 2), (12, .t (tInt i))], [.box [.t (tInt 0), .t (tInt 0), .nil, .nil], .row 3 1 false ot, .row 4 1 true st]⟩ ∧
      ot = out.map tInt ∧ st = (seenOf m out).map T.bool ∧ i ≤ out.length ∧ MetOk m out ∧ Bfs next n out i 0) m ⟨_, Norm.headS (own := [(10, 3, 1, false), (11, 4, 1, true)]) (keep := [0, 1, 2, 3, 8, 10, 11, 12]) (by simp (discharger := omega) only [go_sem, ↓reduceIte, reduceIte, Nat.reduceEqDiff, Nat.reduceLT, Nat.reduceLeDiff, Nat.reduceAdd, Nat.reduceSub, Nat.reduceMul, Nat.reduceDiv, Nat.reduceMod, Nat.reduceBEq, Int.reduceEq, Int.reduceLT, Int.reduceLE, Int.reduceNeg, Int.reduceToNat, reduceCtorEq]; with_reducible rfl) (by simp only [go_sem, ↓reduceIte, reduceIte, Nat.reduceEqDiff, Nat.reduceLT, Nat.reduceLeDiff, Nat.reduceAdd, Nat.reduceSub, Nat.reduceMul, Nat.reduceDiv, Nat.reduceMod, Nat.reduceBEq, Int.reduceEq, Int.reduceLT, Int.reduceLE, Int.reduceNeg, Int.reduceToNat, reduceCtorEq]; with_reducible rfl) (by simp only [go_sem, ↓reduceIte, reduceIte, Nat.reduceEqDiff, Nat.reduceLT, Nat.reduceLeDiff, Nat.reduceAdd, Nat.reduceSub, Nat.reduceMul, Nat.reduceDiv, Nat.reduceMod, Nat.reduceBEq, Int.reduceEq, Int.reduceLT, Int.reduceLE, Int.reduceNeg, Int.reduceToNat, reduceCtorEq]; with_reducible rfl) (by simp only [go_sem, ↓reduceIte, reduceIte, Nat.reduceEqDiff, Nat.reduceLT, Nat.reduceLeDiff, Nat.reduceAdd, Nat.reduceSub, Nat.reduceMul, Nat.reduceDiv, Nat.reduceMod, Nat.reduceBEq, Int.reduceEq, Int.reduceLT, Int.reduceLE, Int.reduceNeg, Int.reduceToNat, reduceCtorEq]; with_reducible rfl) (by simp only [go_sem, ↓reduceIte, reduceIte, Nat.reduceEqDiff, Nat.reduceLT, Nat.reduceLeDiff, Nat.reduceAdd, Nat.reduceSub, Nat.reduceMul, Nat.reduceDiv, Nat.reduceMod, Nat.reduceBEq, Int.reduceEq, Int.reduceLT, Int.reduceLE, Int.reduceNeg, Int.reduceToNat, reduceCtorEq]; with_reducible rfl), 0, [0], _, _, rfl, rfl, rfl, ?_⟩ ?_
  · refine ⟨?_, by simp, ⟨by simp, fun s hs => by simp at hs; subst hs; omega⟩, Bfs.start _ _⟩
    have := seenOf_set m [] 0
    rw [List.nil_append] at this
    rw [show ((0 : Nat) : Int) = 0 from rfl] at this
    rw [← this, seenOf_nil, List.map_set, List.map_replicate, hlen]
  · rintro k s ⟨i, out, ot, st, rfl, rfl, rfl, rfl, hi, hmo, hbf⟩
    have hol := hmo.len
    by_cases hlt : i < out.length
    · have hs : 0 ≤ out[i]! ∧ out[i]! < (m : Int) := by rw [getElem!_pos out i hlt]; exact hmo.ok _ (List.getElem_mem hlt)
      obtain ⟨row, hrow⟩ : ∃ row, next[out[i]!.toNat]! = row := ⟨_, rfl⟩
      have hrl : out[i]!.toNat < next.length := by omega
      have hrm : row ∈ next := by rw [← hrow, getElem!_pos next _ hrl]; exact List.getElem_mem hrl
      have hrn : row.length = n := hR.row _ hrm
      have hnx : ∀ l, nx next out[i]! l = row.getD l 0 := fun l => by unfold nx rowOf; rw [getD_lt hrl, ← hrow, getElem!_pos next _ hrl]
      have hio : out[i]? = some out[i]! := by rw [getElem!_pos out i hlt]; exact List.getElem?_eq_getElem hlt
      repeat' (first | (with_reducible first | refine SW_seq ?_ | refine SW_block ?_ | refine SThen_n ?_ | refine SThen_r ?_ | refine SThen_e ?_ | refine SIn_n ?_ | refine SIn_r ?_ | refine SIn_eq ?_ | refine SW_skip ?_ | refine SW_exit ?_ | refine SW_ret ?_ | refine SPost_r ?_) | ((with_reducible refine SIn_ne ?_ ?_); focus decide) | ((with_reducible refine SW_true ?_ ?_); focus exact rfl) | ((with_reducible refine SW_false ?_ ?_); focus exact rfl) | ((first | (with_reducible apply SW_run tt_ok hG htb) | ((with_reducible apply SW_draw rfl tt_ok hG htb); (focus kernel_rfl); (focus (simp only [List.range, List.range.loop, List.size_toArray, List.length_cons, List.length_nil, Nat.reduceAdd])))); focus ((repeat' (first | (with_reducible exact runX_nil) | (with_reducible exact runI_nil) | ((first | (with_reducible apply runX_cons) | (with_reducible apply runI_cons)); focus (simp (discharger := omega) only [go_sem, hrow, ↓reduceIte, reduceIte, Nat.reduceEqDiff, Nat.reduceLT, Nat.reduceLeDiff, Nat.reduceAdd, Nat.reduceSub, Nat.reduceMul, Nat.reduceDiv, Nat.reduceMod, Nat.reduceBEq, Int.reduceEq, Int.reduceLT, Int.reduceLE, Int.reduceNeg, Int.reduceToNat, reduceCtorEq]; with_reducible rfl)))); done)))
      generalize out[i]! = r at hs hrow hrl hnx hio
      refine SW_loop (fun k s => ∃ (l : Nat) (o : List Int) (ot st : List T), k = n - l ∧ s = ⟨220, [(0, .t (tInt base)), (1, .t (tInt tracks)), (2, .t (tIntss next)), (3, .t (tBools ends)), (8, .bptr 0 0), (10, .sref 1), (11, .sref 2), (12, .t (tInt i)), (52, .t (tInts row)), (53, .t (tInt row.length)), (54, .t (tInt l))], [.box [.t (tInt 0), .t (tInt 0), .nil, .nil], .row 3 1 false ot, .row 4 1 true st]⟩ ∧
          ot = o.map tInt ∧ st = (seenOf m o).map T.bool ∧ l ≤ n ∧ MetOk m o ∧ o[i]? = some r ∧ Bfs next n o i l) n ⟨_, Norm.headS (own := [(10, 3, 1, false), (11, 4, 1, true)]) (keep := [0, 1, 2, 3, 8, 10, 11, 12, 52, 53, 54]) (by simp (discharger := omega) only [go_sem, ↓reduceIte, reduceIte, Nat.reduceEqDiff, Nat.reduceLT, Nat.reduceLeDiff, Nat.reduceAdd, Nat.reduceSub, Nat.reduceMul, Nat.reduceDiv, Nat.reduceMod, Nat.reduceBEq, Int.reduceEq, Int.reduceLT, Int.reduceLE, Int.reduceNeg, Int.reduceToNat, reduceCtorEq]; with_reducible rfl) (by simp only [go_sem, ↓reduceIte, reduceIte, Nat.reduceEqDiff, Nat.reduceLT, Nat.reduceLeDiff, Nat.reduceAdd, Nat.reduceSub, Nat.reduceMul, Nat.reduceDiv, Nat.reduceMod, Nat.reduceBEq, Int.reduceEq, Int.reduceLT, Int.reduceLE, Int.reduceNeg, Int.reduceToNat, reduceCtorEq]; with_reducible rfl) (by simp only [go_sem, ↓reduceIte, reduceIte, Nat.reduceEqDiff, Nat.reduceLT, Nat.reduceLeDiff, Nat.reduceAdd, Nat.reduceSub, Nat.reduceMul, Nat.reduceDiv, Nat.reduceMod, Nat.reduceBEq, Int.reduceEq, Int.reduceLT, Int.reduceLE, Int.reduceNeg, Int.reduceToNat, reduceCtorEq]; with_reducible rfl) (by simp only [go_sem, ↓reduceIte, reduceIte, Nat.reduceEqDiff, Nat.reduceLT, Nat.reduceLeDiff, Nat.reduceAdd, Nat.reduceSub, Nat.reduceMul, Nat.reduceDiv, Nat.reduceMod, Nat.reduceBEq, Int.reduceEq, Int.reduceLT, Int.reduceLE, Int.reduceNeg, Int.reduceToNat, reduceCtorEq]; with_reducible rfl) (by simp only [go_sem, ↓reduceIte, reduceIte, Nat.reduceEqDiff, Nat.reduceLT, Nat.reduceLeDiff, Nat.reduceAdd, Nat.reduceSub, Nat.reduceMul, Nat.reduceDiv, Nat.reduceMod, Nat.reduceBEq, Int.reduceEq, Int.reduceLT, Int.reduceLE, Int.reduceNeg, Int.reduceToNat, reduceCtorEq]; with_reducible rfl), 0, out, _, _, rfl, rfl, rfl, rfl, Nat.zero_le _, hmo, hio, hbf⟩ ?_
      clear hmo hbf hio hlt hi hol
      rintro k s ⟨l, o, ot, st, rfl, rfl, rfl, rfl, hl, hmo, hio, hbf⟩
      have hol := hmo.len
      have hil := (List.getElem?_eq_some_iff.1 hio).1
      have hsl := seenOf_length m o
      by_cases hlt : l < n
      · have hll : l < row.length := by omega
        obtain ⟨u, hul⟩ : ∃ u, row[l]! = u := ⟨_, rfl⟩
        have hu : 0 ≤ u ∧ u < (m : Int) := by rw [← hul, getElem!_pos row l hll]; exact hR.ok _ hrm _ (List.getElem_mem hll)
        have hnxl : nx next r l = u := by rw [hnx, getD_lt hll, ← hul, getElem!_pos row l hll]
        obtain ⟨j, rfl⟩ : ∃ j : Nat, u = j := ⟨u.toNat, by omega⟩
        have hsn : (seenOf m o)[j]! = decide ((j : Int) ∈ o) := by
          rw [getElem!_pos _ _ (by omega), seenOf_at]
        have hset := seenOf_set m o j
        generalize hsne : seenOf m o = sn at hsn hsl hset
        by_cases hm1 : (j : Int) ∈ o
        · rw [decide_eq_true hm1] at hsn
          repeat' (first | (with_reducible first | refine SW_seq ?_ | refine SW_block ?_ | refine SThen_n ?_ | refine SThen_r ?_ | refine SThen_e ?_ | refine SIn_n ?_ | refine SIn_r ?_ | refine SIn_eq ?_ | refine SW_skip ?_ | refine SW_exit ?_ | refine SW_ret ?_ | refine SPost_r ?_) | ((with_reducible refine SIn_ne ?_ ?_); focus decide) | ((with_reducible refine SW_true ?_ ?_); focus exact rfl) | ((with_reducible refine SW_false ?_ ?_); focus exact rfl) | ((first | (with_reducible apply SW_run tt_ok hG htb) | ((with_reducible apply SW_draw rfl tt_ok hG htb); (focus kernel_rfl); (focus (simp only [List.range, List.range.loop, List.size_toArray, List.length_cons, List.length_nil, Nat.reduceAdd])))); focus ((repeat' (first | (with_reducible exact runX_nil) | (with_reducible exact runI_nil) | ((first | (with_reducible apply runX_cons) | (with_reducible apply runI_cons)); focus (simp (discharger := omega) only [go_sem, hsn, hul, ↓reduceIte, reduceIte, Nat.reduceEqDiff, Nat.reduceLT, Nat.reduceLeDiff, Nat.reduceAdd, Nat.reduceSub, Nat.reduceMul, Nat.reduceDiv, Nat.reduceMod, Nat.reduceBEq, Int.reduceEq, Int.reduceLT, Int.reduceLE, Int.reduceNeg, Int.reduceToNat, reduceCtorEq]; with_reducible rfl)))); done)))
          exact ⟨n - (l + 1), _, by omega, Norm.headS (own := [(10, 3, 1, false), (11, 4, 1, true)]) (keep := [0, 1, 2, 3, 8, 10, 11, 12, 52, 53, 54]) (by simp (discharger := omega) only [go_sem, ↓reduceIte, reduceIte, Nat.reduceEqDiff, Nat.reduceLT, Nat.reduceLeDiff, Nat.reduceAdd, Nat.reduceSub, Nat.reduceMul, Nat.reduceDiv, Nat.reduceMod, Nat.reduceBEq, Int.reduceEq, Int.reduceLT, Int.reduceLE, Int.reduceNeg, Int.reduceToNat, reduceCtorEq]; with_reducible rfl) (by simp only [go_sem, ↓reduceIte, reduceIte, Nat.reduceEqDiff, Nat.reduceLT, Nat.reduceLeDiff, Nat.reduceAdd, Nat.reduceSub, Nat.reduceMul, Nat.reduceDiv, Nat.reduceMod, Nat.reduceBEq, Int.reduceEq, Int.reduceLT, Int.reduceLE, Int.reduceNeg, Int.reduceToNat, reduceCtorEq]; with_reducible rfl) (by simp only [go_sem, ↓reduceIte, reduceIte, Nat.reduceEqDiff, Nat.reduceLT, Nat.reduceLeDiff, Nat.reduceAdd, Nat.reduceSub, Nat.reduceMul, Nat.reduceDiv, Nat.reduceMod, Nat.reduceBEq, Int.reduceEq, Int.reduceLT, Int.reduceLE, Int.reduceNeg, Int.reduceToNat, reduceCtorEq]; with_reducible rfl) (by simp only [go_sem, ↓reduceIte, reduceIte, Nat.reduceEqDiff, Nat.reduceLT, Nat.reduceLeDiff, Nat.reduceAdd, Nat.reduceSub, Nat.reduceMul, Nat.reduceDiv, Nat.reduceMod, Nat.reduceBEq, Int.reduceEq, Int.reduceLT, Int.reduceLE, Int.reduceNeg, Int.reduceToNat, reduceCtorEq]; with_reducible rfl) (by simp only [go_sem, ↓reduceIte, reduceIte, Nat.reduceEqDiff, Nat.reduceLT, Nat.reduceLeDiff, Nat.reduceAdd, Nat.reduceSub, Nat.reduceMul, Nat.reduceDiv, Nat.reduceMod, Nat.reduceBEq, Int.reduceEq, Int.reduceLT, Int.reduceLE, Int.reduceNeg, Int.reduceToNat, reduceCtorEq]; with_reducible rfl), l + 1, o, _, _, rfl, rfl, rfl, by rw [hsne], by omega, hmo, hio, hbf.skip hio hnxl hm1⟩
        · rw [decide_eq_false hm1] at hsn
          repeat' (first | (with_reducible first | refine SW_seq ?_ | refine SW_block ?_ | refine SThen_n ?_ | refine SThen_r ?_ | refine SThen_e ?_ | refine SIn_n ?_ | refine SIn_r ?_ | refine SIn_eq ?_ | refine SW_skip ?_ | refine SW_exit ?_ | refine SW_ret ?_ | refine SPost_r ?_) | ((with_reducible refine SIn_ne ?_ ?_); focus decide) | ((with_reducible refine SW_true ?_ ?_); focus exact rfl) | ((with_reducible refine SW_false ?_ ?_); focus exact rfl) | ((first | (with_reducible apply SW_run tt_ok hG htb) | ((with_reducible apply SW_draw rfl tt_ok hG htb); (focus kernel_rfl); (focus (simp only [List.range, List.range.loop, List.size_toArray, List.length_cons, List.length_nil, Nat.reduceAdd])))); focus ((repeat' (first | (with_reducible exact runX_nil) | (with_reducible exact runI_nil) | ((first | (with_reducible apply runX_cons) | (with_reducible apply runI_cons)); focus (simp (discharger := omega) only [go_sem, hsn, hul, ↓reduceIte, reduceIte, Nat.reduceEqDiff, Nat.reduceLT, Nat.reduceLeDiff, Nat.reduceAdd, Nat.reduceSub, Nat.reduceMul, Nat.reduceDiv, Nat.reduceMod, Nat.reduceBEq, Int.reduceEq, Int.reduceLT, Int.reduceLE, Int.reduceNeg, Int.reduceToNat, reduceCtorEq]; with_reducible rfl)))); done)))
          exact ⟨n - (l + 1), _, by omega, Norm.headS (own := [(10, 3, 1, false), (11, 4, 1, true)]) (keep := [0, 1, 2, 3, 8, 10, 11, 12, 52, 53, 54]) (by simp (discharger := omega) only [go_sem, ↓reduceIte, reduceIte, Nat.reduceEqDiff, Nat.reduceLT, Nat.reduceLeDiff, Nat.reduceAdd, Nat.reduceSub, Nat.reduceMul, Nat.reduceDiv, Nat.reduceMod, Nat.reduceBEq, Int.reduceEq, Int.reduceLT, Int.reduceLE, Int.reduceNeg, Int.reduceToNat, reduceCtorEq]; with_reducible rfl) (by simp only [go_sem, ↓reduceIte, reduceIte, Nat.reduceEqDiff, Nat.reduceLT, Nat.reduceLeDiff, Nat.reduceAdd, Nat.reduceSub, Nat.reduceMul, Nat.reduceDiv, Nat.reduceMod, Nat.reduceBEq, Int.reduceEq, Int.reduceLT, Int.reduceLE, Int.reduceNeg, Int.reduceToNat, reduceCtorEq]; with_reducible rfl) (by simp only [go_sem, ↓reduceIte, reduceIte, Nat.reduceEqDiff, Nat.reduceLT, Nat.reduceLeDiff, Nat.reduceAdd, Nat.reduceSub, Nat.reduceMul, Nat.reduceDiv, Nat.reduceMod, Nat.reduceBEq, Int.reduceEq, Int.reduceLT, Int.reduceLE, Int.reduceNeg, Int.reduceToNat, reduceCtorEq]; with_reducible rfl) (by simp only [go_sem, ↓reduceIte, reduceIte, Nat.reduceEqDiff, Nat.reduceLT, Nat.reduceLeDiff, Nat.reduceAdd, Nat.reduceSub, Nat.reduceMul, Nat.reduceDiv, Nat.reduceMod, Nat.reduceBEq, Int.reduceEq, Int.reduceLT, Int.reduceLE, Int.reduceNeg, Int.reduceToNat, reduceCtorEq]; with_reducible rfl) (by simp only [go_sem, ↓reduceIte, reduceIte, Nat.reduceEqDiff, Nat.reduceLT, Nat.reduceLeDiff, Nat.reduceAdd, Nat.reduceSub, Nat.reduceMul, Nat.reduceDiv, Nat.reduceMod, Nat.reduceBEq, Int.reduceEq, Int.reduceLT, Int.reduceLE, Int.reduceNeg, Int.reduceToNat, reduceCtorEq]; with_reducible rfl), l + 1, o ++ [(j : Int)], _, _, rfl, rfl, by simp [tInt], by
            rw [← hset, List.map_set], by omega, hmo.snoc hu hm1, by rw [List.getElem?_append_left hil]; exact hio, hbf.snoc hlt hio hnxl hm1⟩
      · obtain rfl : l = n := by omega
        repeat' (first | (with_reducible first | refine SW_seq ?_ | refine SW_block ?_ | refine SThen_n ?_ | refine SThen_r ?_ | refine SThen_e ?_ | refine SIn_n ?_ | refine SIn_r ?_ | refine SIn_eq ?_ | refine SW_skip ?_ | refine SW_exit ?_ | refine SW_ret ?_ | refine SPost_r ?_) | ((with_reducible refine SIn_ne ?_ ?_); focus decide) | ((with_reducible refine SW_true ?_ ?_); focus exact rfl) | ((with_reducible refine SW_false ?_ ?_); focus exact rfl) | ((first | (with_reducible apply SW_run tt_ok hG htb) | ((with_reducible apply SW_draw rfl tt_ok hG htb); (focus kernel_rfl); (focus (simp only [List.range, List.range.loop, List.size_toArray, List.length_cons, List.length_nil, Nat.reduceAdd])))); focus ((repeat' (first | (with_reducible exact runX_nil) | (with_reducible exact runI_nil) | ((first | (with_reducible apply runX_cons) | (with_reducible apply runI_cons)); focus (simp (discharger := omega) only [go_sem, ↓reduceIte, reduceIte, Nat.reduceEqDiff, Nat.reduceLT, Nat.reduceLeDiff, Nat.reduceAdd, Nat.reduceSub, Nat.reduceMul, Nat.reduceDiv, Nat.reduceMod, Nat.reduceBEq, Int.reduceEq, Int.reduceLT, Int.reduceLE, Int.reduceNeg, Int.reduceToNat, reduceCtorEq]; with_reducible rfl)))); done)))
        exact ⟨m - (i + 1), _, by omega, Norm.headS (own := [(10, 3, 1, false), (11, 4, 1, true)]) (keep := [0, 1, 2, 3, 8, 10, 11, 12]) (by simp (discharger := omega) only [go_sem, ↓reduceIte, reduceIte, Nat.reduceEqDiff, Nat.reduceLT, Nat.reduceLeDiff, Nat.reduceAdd, Nat.reduceSub, Nat.reduceMul, Nat.reduceDiv, Nat.reduceMod, Nat.reduceBEq, Int.reduceEq, Int.reduceLT, Int.reduceLE, Int.reduceNeg, Int.reduceToNat, reduceCtorEq]; with_reducible rfl) (by simp only [go_sem, ↓reduceIte, reduceIte, Nat.reduceEqDiff, Nat.reduceLT, Nat.reduceLeDiff, Nat.reduceAdd, Nat.reduceSub, Nat.reduceMul, Nat.reduceDiv, Nat.reduceMod, Nat.reduceBEq, Int.reduceEq, Int.reduceLT, Int.reduceLE, Int.reduceNeg, Int.reduceToNat, reduceCtorEq]; with_reducible rfl) (by simp only [go_sem, ↓reduceIte, reduceIte, Nat.reduceEqDiff, Nat.reduceLT, Nat.reduceLeDiff, Nat.reduceAdd, Nat.reduceSub, Nat.reduceMul, Nat.reduceDiv, Nat.reduceMod, Nat.reduceBEq, Int.reduceEq, Int.reduceLT, Int.reduceLE, Int.reduceNeg, Int.reduceToNat, reduceCtorEq]; with_reducible rfl) (by simp only [go_sem, ↓reduceIte, reduceIte, Nat.reduceEqDiff, Nat.reduceLT, Nat.reduceLeDiff, Nat.reduceAdd, Nat.reduceSub, Nat.reduceMul, Nat.reduceDiv, Nat.reduceMod, Nat.reduceBEq, Int.reduceEq, Int.reduceLT, Int.reduceLE, Int.reduceNeg, Int.reduceToNat, reduceCtorEq]; with_reducible rfl) (by simp only [go_sem, ↓reduceIte, reduceIte, Nat.reduceEqDiff, Nat.reduceLT, Nat.reduceLeDiff, Nat.reduceAdd, Nat.reduceSub, Nat.reduceMul, Nat.reduceDiv, Nat.reduceMod, Nat.reduceBEq, Int.reduceEq, Int.reduceLT, Int.reduceLE, Int.reduceNeg, Int.reduceToNat, reduceCtorEq]; with_reducible rfl), i + 1, o, _, _, rfl, rfl, rfl, rfl, by omega, hmo, hbf.line⟩
    · have hie : i = out.length := by omega
      subst hie
      clear hi hlt
      repeat' (first | (with_reducible first | refine SW_seq ?_ | refine SW_block ?_ | refine SThen_n ?_ | refine SThen_r ?_ | refine SThen_e ?_ | refine SIn_n ?_ | refine SIn_r ?_ | refine SIn_eq ?_ | refine SW_skip ?_ | refine SW_exit ?_ | refine SW_ret ?_ | refine SPost_r ?_) | ((with_reducible refine SIn_ne ?_ ?_); focus decide) | ((with_reducible refine SW_true ?_ ?_); focus exact rfl) | ((with_reducible refine SW_false ?_ ?_); focus exact rfl) | ((first | (with_reducible apply SW_run tt_ok hG htb) | ((with_reducible apply SW_draw rfl tt_ok hG htb); (focus kernel_rfl); (focus (simp only [List.range, List.range.loop, List.size_toArray, List.length_cons, List.length_nil, Nat.reduceAdd])))); focus ((repeat' (first | (with_reducible exact runX_nil) | (with_reducible exact runI_nil) | ((first | (with_reducible apply runX_cons) | (with_reducible apply runI_cons)); focus (simp (discharger := omega) only [go_sem, ↓reduceIte, reduceIte, Nat.reduceEqDiff, Nat.reduceLT, Nat.reduceLeDiff, Nat.reduceAdd, Nat.reduceSub, Nat.reduceMul, Nat.reduceDiv, Nat.reduceMod, Nat.reduceBEq, Int.reduceEq, Int.reduceLT, Int.reduceLE, Int.reduceNeg, Int.reduceToNat, reduceCtorEq]; with_reducible rfl)))); done)))
      refine SW_loop (fun k s => ∃ (i : Nat) (cls : List Nat) (ct : List T), k = m - i ∧ s = ⟨220, [(0, .t (tInt base)), (1, .t (tInt tracks)), (2, .t (tIntss next)), (3, .t (tBools ends)), (8, .bptr 0 0), (10, .sref 1), (15, .sref 2), (74, .sref 1), (75, .t (tInt out.length)), (76, .t (tInt i))], [.box [.t (tInt 0), .t (tInt 0), .nil, .nil], .row 3 1 false (out.map tInt), .row 3 1 true ct]⟩ ∧
          ct = cls.map tNat ∧ cls.length = m ∧ i ≤ out.length ∧ ∀ s : Int, 0 ≤ s → s < m → clf cls s = if s ∈ out.take i ∧ endOf ends s = true then 1 else 0) m ⟨_, Norm.headS (own := [(10, 3, 1, false), (15, 3, 1, true)]) (keep := [0, 1, 2, 3, 8, 10, 15, 74, 75, 76]) (by simp (discharger := omega) only [go_sem, ↓reduceIte, reduceIte, Nat.reduceEqDiff, Nat.reduceLT, Nat.reduceLeDiff, Nat.reduceAdd, Nat.reduceSub, Nat.reduceMul, Nat.reduceDiv, Nat.reduceMod, Nat.reduceBEq, Int.reduceEq, Int.reduceLT, Int.reduceLE, Int.reduceNeg, Int.reduceToNat, reduceCtorEq]; with_reducible rfl) (by simp only [go_sem, ↓reduceIte, reduceIte, Nat.reduceEqDiff, Nat.reduceLT, Nat.reduceLeDiff, Nat.reduceAdd, Nat.reduceSub, Nat.reduceMul, Nat.reduceDiv, Nat.reduceMod, Nat.reduceBEq, Int.reduceEq, Int.reduceLT, Int.reduceLE, Int.reduceNeg, Int.reduceToNat, reduceCtorEq]; with_reducible rfl) (by simp only [go_sem, ↓reduceIte, reduceIte, Nat.reduceEqDiff, Nat.reduceLT, Nat.reduceLeDiff, Nat.reduceAdd, Nat.reduceSub, Nat.reduceMul, Nat.reduceDiv, Nat.reduceMod, Nat.reduceBEq, Int.reduceEq, Int.reduceLT, Int.reduceLE, Int.reduceNeg, Int.reduceToNat, reduceCtorEq]; with_reducible rfl) (by simp only [go_sem, ↓reduceIte, reduceIte, Nat.reduceEqDiff, Nat.reduceLT, Nat.reduceLeDiff, Nat.reduceAdd, Nat.reduceSub, Nat.reduceMul, Nat.reduceDiv, Nat.reduceMod, Nat.reduceBEq, Int.reduceEq, Int.reduceLT, Int.reduceLE, Int.reduceNeg, Int.reduceToNat, reduceCtorEq]; with_reducible rfl) (by simp only [go_sem, ↓reduceIte, reduceIte, Nat.reduceEqDiff, Nat.reduceLT, Nat.reduceLeDiff, Nat.reduceAdd, Nat.reduceSub, Nat.reduceMul, Nat.reduceDiv, Nat.reduceMod, Nat.reduceBEq, Int.reduceEq, Int.reduceLT, Int.reduceLE, Int.reduceNeg, Int.reduceToNat, reduceCtorEq]; with_reducible rfl), 0, List.replicate m 0, _, rfl, rfl, by rw [List.map_replicate, hlen]; rfl, by simp, Nat.zero_le _, fun s h1 h2 => by
            unfold clf
            rw [if_pos h1, getD_lt (by simp; omega)]; simp⟩ ?_
      rintro k s ⟨i, cls, ct, rfl, rfl, rfl, hcl, hi, hcs⟩
      by_cases hlt : i < out.length
      · obtain ⟨r, hor⟩ : ∃ r, out[i]! = r := ⟨_, rfl⟩
        have hio : out[i]? = some r := by rw [← hor, getElem!_pos out i hlt]; exact List.getElem?_eq_getElem hlt
        have hs : 0 ≤ r ∧ r < (m : Int) := hmo.ok _ (List.mem_of_getElem? hio)
        have htk : out.take (i + 1) = out.take i ++ [r] := by
          rw [List.take_succ_eq_append_getElem hlt]
          rw [List.getElem?_eq_getElem hlt] at hio
          rw [Option.some.inj hio]
        have hend : ends[r.toNat]! = endOf ends r := by unfold endOf; rw [getD_lt (by omega), getElem!_pos ends _ (by omega)]
        by_cases hee : endOf ends r = true
        · rw [hee] at hend
          repeat' (first | (with_reducible first | refine SW_seq ?_ | refine SW_block ?_ | refine SThen_n ?_ | refine SThen_r ?_ | refine SThen_e ?_ | refine SIn_n ?_ | refine SIn_r ?_ | refine SIn_eq ?_ | refine SW_skip ?_ | refine SW_exit ?_ | refine SW_ret ?_ | refine SPost_r ?_) | ((with_reducible refine SIn_ne ?_ ?_); focus decide) | ((with_reducible refine SW_true ?_ ?_); focus exact rfl) | ((with_reducible refine SW_false ?_ ?_); focus exact rfl) | ((first | (with_reducible apply SW_run tt_ok hG htb) | ((with_reducible apply SW_draw rfl tt_ok hG htb); (focus kernel_rfl); (focus (simp only [List.range, List.range.loop, List.size_toArray, List.length_cons, List.length_nil, Nat.reduceAdd])))); focus ((repeat' (first | (with_reducible exact runX_nil) | (with_reducible exact runI_nil) | ((first | (with_reducible apply runX_cons) | (with_reducible apply runI_cons)); focus (simp (discharger := omega) only [go_sem, hor, hend, ↓reduceIte, reduceIte, Nat.reduceEqDiff, Nat.reduceLT, Nat.reduceLeDiff, Nat.reduceAdd, Nat.reduceSub, Nat.reduceMul, Nat.reduceDiv, Nat.reduceMod, Nat.reduceBEq, Int.reduceEq, Int.reduceLT, Int.reduceLE, Int.reduceNeg, Int.reduceToNat, reduceCtorEq]; with_reducible rfl)))); done)))
          obtain ⟨c1, c2⟩ := clf_set (cls := cls) (r := r) hs.1 (by omega) 1
          exact ⟨m - (i + 1), _, by omega, Norm.headS (own := [(10, 3, 1, false), (15, 3, 1, true)]) (keep := [0, 1, 2, 3, 8, 10, 15, 74, 75, 76]) (by simp (discharger := omega) only [go_sem, ↓reduceIte, reduceIte, Nat.reduceEqDiff, Nat.reduceLT, Nat.reduceLeDiff, Nat.reduceAdd, Nat.reduceSub, Nat.reduceMul, Nat.reduceDiv, Nat.reduceMod, Nat.reduceBEq, Int.reduceEq, Int.reduceLT, Int.reduceLE, Int.reduceNeg, Int.reduceToNat, reduceCtorEq]; with_reducible rfl) (by simp only [go_sem, ↓reduceIte, reduceIte, Nat.reduceEqDiff, Nat.reduceLT, Nat.reduceLeDiff, Nat.reduceAdd, Nat.reduceSub, Nat.reduceMul, Nat.reduceDiv, Nat.reduceMod, Nat.reduceBEq, Int.reduceEq, Int.reduceLT, Int.reduceLE, Int.reduceNeg, Int.reduceToNat, reduceCtorEq]; with_reducible rfl) (by simp only [go_sem, ↓reduceIte, reduceIte, Nat.reduceEqDiff, Nat.reduceLT, Nat.reduceLeDiff, Nat.reduceAdd, Nat.reduceSub, Nat.reduceMul, Nat.reduceDiv, Nat.reduceMod, Nat.reduceBEq, Int.reduceEq, Int.reduceLT, Int.reduceLE, Int.reduceNeg, Int.reduceToNat, reduceCtorEq]; with_reducible rfl) (by simp only [go_sem, ↓reduceIte, reduceIte, Nat.reduceEqDiff, Nat.reduceLT, Nat.reduceLeDiff, Nat.reduceAdd, Nat.reduceSub, Nat.reduceMul, Nat.reduceDiv, Nat.reduceMod, Nat.reduceBEq, Int.reduceEq, Int.reduceLT, Int.reduceLE, Int.reduceNeg, Int.reduceToNat, reduceCtorEq]; with_reducible rfl) (by simp only [go_sem, ↓reduceIte, reduceIte, Nat.reduceEqDiff, Nat.reduceLT, Nat.reduceLeDiff, Nat.reduceAdd, Nat.reduceSub, Nat.reduceMul, Nat.reduceDiv, Nat.reduceMod, Nat.reduceBEq, Int.reduceEq, Int.reduceLT, Int.reduceLE, Int.reduceNeg, Int.reduceToNat, reduceCtorEq]; with_reducible rfl), i + 1, cls.set r.toNat 1, _, rfl, rfl, by rw [List.map_set]; rfl, by simpa using hcl, by omega, fun s h1 h2 => by
            rw [htk]
            by_cases e : s = r
            · subst e; rw [c1]; simp [hee]
            · rw [c2 s e, hcs s h1 h2]; simp [e]⟩
        · have hee : endOf ends r = false := by simpa using hee
          rw [hee] at hend
          repeat' (first | (with_reducible first | refine SW_seq ?_ | refine SW_block ?_ | refine SThen_n ?_ | refine SThen_r ?_ | refine SThen_e ?_ | refine SIn_n ?_ | refine SIn_r ?_ | refine SIn_eq ?_ | refine SW_skip ?_ | refine SW_exit ?_ | refine SW_ret ?_ | refine SPost_r ?_) | ((with_reducible refine SIn_ne ?_ ?_); focus decide) | ((with_reducible refine SW_true ?_ ?_); focus exact rfl) | ((with_reducible refine SW_false ?_ ?_); focus exact rfl) | ((first | (with_reducible apply SW_run tt_ok hG htb) | ((with_reducible apply SW_draw rfl tt_ok hG htb); (focus kernel_rfl); (focus (simp only [List.range, List.range.loop, List.size_toArray, List.length_cons, List.length_nil, Nat.reduceAdd])))); focus ((repeat' (first | (with_reducible exact runX_nil) | (with_reducible exact runI_nil) | ((first | (with_reducible apply runX_cons) | (with_reducible apply runI_cons)); focus (simp (discharger := omega) only [go_sem, hor, hend, ↓reduceIte, reduceIte, Nat.reduceEqDiff, Nat.reduceLT, Nat.reduceLeDiff, Nat.reduceAdd, Nat.reduceSub, Nat.reduceMul, Nat.reduceDiv, Nat.reduceMod, Nat.reduceBEq, Int.reduceEq, Int.reduceLT, Int.reduceLE, Int.reduceNeg, Int.reduceToNat, reduceCtorEq]; with_reducible rfl)))); done)))
          exact ⟨m - (i + 1), _, by omega, Norm.headS (own := [(10, 3, 1, false), (15, 3, 1, true)]) (keep := [0, 1, 2, 3, 8, 10, 15, 74, 75, 76]) (by simp (discharger := omega) only [go_sem, ↓reduceIte, reduceIte, Nat.reduceEqDiff, Nat.reduceLT, Nat.reduceLeDiff, Nat.reduceAdd, Nat.reduceSub, Nat.reduceMul, Nat.reduceDiv, Nat.reduceMod, Nat.reduceBEq, Int.reduceEq, Int.reduceLT, Int.reduceLE, Int.reduceNeg, Int.reduceToNat, reduceCtorEq]; with_reducible rfl) (by simp only [go_sem, ↓reduceIte, reduceIte, Nat.reduceEqDiff, Nat.reduceLT, Nat.reduceLeDiff, Nat.reduceAdd, Nat.reduceSub, Nat.reduceMul, Nat.reduceDiv, Nat.reduceMod, Nat.reduceBEq, Int.reduceEq, Int.reduceLT, Int.reduceLE, Int.reduceNeg, Int.reduceToNat, reduceCtorEq]; with_reducible rfl) (by simp only [go_sem, ↓reduceIte, reduceIte, Nat.reduceEqDiff, Nat.reduceLT, Nat.reduceLeDiff, Nat.reduceAdd, Nat.reduceSub, Nat.reduceMul, Nat.reduceDiv, Nat.reduceMod, Nat.reduceBEq, Int.reduceEq, Int.reduceLT, Int.reduceLE, Int.reduceNeg, Int.reduceToNat, reduceCtorEq]; with_reducible rfl) (by simp only [go_sem, ↓reduceIte, reduceIte, Nat.reduceEqDiff, Nat.reduceLT, Nat.reduceLeDiff, Nat.reduceAdd, Nat.reduceSub, Nat.reduceMul, Nat.reduceDiv, Nat.reduceMod, Nat.reduceBEq, Int.reduceEq, Int.reduceLT, Int.reduceLE, Int.reduceNeg, Int.reduceToNat, reduceCtorEq]; with_reducible rfl) (by simp only [go_sem, ↓reduceIte, reduceIte, Nat.reduceEqDiff, Nat.reduceLT, Nat.reduceLeDiff, Nat.reduceAdd, Nat.reduceSub, Nat.reduceMul, Nat.reduceDiv, Nat.reduceMod, Nat.reduceBEq, Int.reduceEq, Int.reduceLT, Int.reduceLE, Int.reduceNeg, Int.reduceToNat, reduceCtorEq]; with_reducible rfl), i + 1, cls, _, rfl, rfl, rfl, hcl, by omega, fun s h1 h2 => by
            rw [htk, hcs s h1 h2]
            by_cases e : s = r
            · subst e; simp [hee]
            · simp [e]⟩
      · have hie : i = out.length := by omega
        subst hie
        rw [List.take_length] at hcs
        clear hi hlt
        repeat' (first | (with_reducible first | refine SW_seq ?_ | refine SW_block ?_ | refine SThen_n ?_ | refine SThen_r ?_ | refine SThen_e ?_ | refine SIn_n ?_ | refine SIn_r ?_ | refine SIn_eq ?_ | refine SW_skip ?_ | refine SW_exit ?_ | refine SW_ret ?_ | refine SPost_r ?_) | ((with_reducible refine SIn_ne ?_ ?_); focus decide) | ((with_reducible refine SW_true ?_ ?_); focus exact rfl) | ((with_reducible refine SW_false ?_ ?_); focus exact rfl) | ((first | (with_reducible apply SW_run tt_ok hG htb) | ((with_reducible apply SW_draw rfl tt_ok hG htb); (focus kernel_rfl); (focus (simp only [List.range, List.range.loop, List.size_toArray, List.length_cons, List.length_nil, Nat.reduceAdd])))); focus ((repeat' (first | (with_reducible exact runX_nil) | (with_reducible exact runI_nil) | ((first | (with_reducible apply runX_cons) | (with_reducible apply runI_cons)); focus (simp (discharger := omega) only [go_sem, ↓reduceIte, reduceIte, Nat.reduceEqDiff, Nat.reduceLT, Nat.reduceLeDiff, Nat.reduceAdd, Nat.reduceSub, Nat.reduceMul, Nat.reduceDiv, Nat.reduceMod, Nat.reduceBEq, Int.reduceEq, Int.reduceLT, Int.reduceLE, Int.reduceNeg, Int.reduceToNat, reduceCtorEq]; with_reducible rfl)))); done)))
        refine SW_loop (fun k s => ∃ (many : Nat) (cls : List Nat), k = m + 1 - many ∧ s = ⟨220, [(0, .t (tInt base)), (1, .t (tInt tracks)), (2, .t (tIntss next)), (3, .t (tBools ends)), (8, .bptr 0 0), (10, .sref 1), (15, .sref 2), (18, .t (tNat many))], [.box [.t (tInt 0), .t (tInt 0), .nil, .nil], .row 3 1 false (out.map tInt), .row 3 1 false (cls.map tNat)]⟩ ∧
            cls.length = m ∧ many ≤ m ∧ RInv next ends n out (clf cls) many ∧ (∀ s, s ∈ out → clf cls s < 65536) ∧ ∀ s t, s ∈ out → t ∈ out → clf cls s = clf cls t → endOf ends s = endOf ends t) (m + 1) ⟨_, Norm.headS (own := [(10, 3, 1, false), (15, 3, 1, false)]) (keep := [0, 1, 2, 3, 8, 10, 15, 18]) (by simp (discharger := omega) only [go_sem, ↓reduceIte, reduceIte, Nat.reduceEqDiff, Nat.reduceLT, Nat.reduceLeDiff, Nat.reduceAdd, Nat.reduceSub, Nat.reduceMul, Nat.reduceDiv, Nat.reduceMod, Nat.reduceBEq, Int.reduceEq, Int.reduceLT, Int.reduceLE, Int.reduceNeg, Int.reduceToNat, reduceCtorEq]; with_reducible rfl) (by simp only [go_sem, ↓reduceIte, reduceIte, Nat.reduceEqDiff, Nat.reduceLT, Nat.reduceLeDiff, Nat.reduceAdd, Nat.reduceSub, Nat.reduceMul, Nat.reduceDiv, Nat.reduceMod, Nat.reduceBEq, Int.reduceEq, Int.reduceLT, Int.reduceLE, Int.reduceNeg, Int.reduceToNat, reduceCtorEq]; with_reducible rfl) (by simp only [go_sem, ↓reduceIte, reduceIte, Nat.reduceEqDiff, Nat.reduceLT, Nat.reduceLeDiff, Nat.reduceAdd, Nat.reduceSub, Nat.reduceMul, Nat.reduceDiv, Nat.reduceMod, Nat.reduceBEq, Int.reduceEq, Int.reduceLT, Int.reduceLE, Int.reduceNeg, Int.reduceToNat, reduceCtorEq]; with_reducible rfl) (by simp only [go_sem, ↓reduceIte, reduceIte, Nat.reduceEqDiff, Nat.reduceLT, Nat.reduceLeDiff, Nat.reduceAdd, Nat.reduceSub, Nat.reduceMul, Nat.reduceDiv, Nat.reduceMod, Nat.reduceBEq, Int.reduceEq, Int.reduceLT, Int.reduceLE, Int.reduceNeg, Int.reduceToNat, reduceCtorEq]; with_reducible rfl) (by simp only [go_sem, ↓reduceIte, reduceIte, Nat.reduceEqDiff, Nat.reduceLT, Nat.reduceLeDiff, Nat.reduceAdd, Nat.reduceSub, Nat.reduceMul, Nat.reduceDiv, Nat.reduceMod, Nat.reduceBEq, Int.reduceEq, Int.reduceLT, Int.reduceLE, Int.reduceNeg, Int.reduceToNat, reduceCtorEq]; with_reducible rfl), 0, cls, rfl, rfl, hcl, Nat.zero_le _, ?_, ?_, ?_⟩ ?_
        · refine RInv.start fun s t hs ht e => ?_
          have h1 := hmo.ok s hs
          have h2 := hmo.ok t ht
          rw [hcs s h1.1 h1.2, hcs t h2.1 h2.2, e]; simp [hs, ht]
        · intro s hs
          have h1 := hmo.ok s hs
          rw [hcs s h1.1 h1.2]; split <;> omega
        · intro s t hs ht e
          have h1 := hmo.ok s hs
          have h2 := hmo.ok t ht
          rw [hcs s h1.1 h1.2, hcs t h2.1 h2.2] at e
          simp only [hs, ht, true_and] at e
          cases e1 : endOf ends s <;> cases e2 : endOf ends t <;> simp_all
        clear hcs hcl cls
        rintro k s ⟨many, cls, rfl, rfl, hcl, hmany, hinv, h16, hce⟩
        have hlook := key_looks (ends := ends) hR hmo hbf h16 hce
        repeat' (first | (with_reducible first | refine SW_seq ?_ | refine SW_block ?_ | refine SThen_n ?_ | refine SThen_r ?_ | refine SThen_e ?_ | refine SIn_n ?_ | refine SIn_r ?_ | refine SIn_eq ?_ | refine SW_skip ?_ | refine SW_exit ?_ | refine SW_ret ?_ | refine SPost_r ?_) | ((with_reducible refine SIn_ne ?_ ?_); focus decide) | ((with_reducible refine SW_true ?_ ?_); focus exact rfl) | ((with_reducible refine SW_false ?_ ?_); focus exact rfl) | ((first | (with_reducible apply SW_run tt_ok hG htb) | ((with_reducible apply SW_draw rfl tt_ok hG htb); (focus kernel_rfl); (focus (simp only [List.range, List.range.loop, List.size_toArray, List.length_cons, List.length_nil, Nat.reduceAdd])))); focus ((repeat' (first | (with_reducible exact runX_nil) | (with_reducible exact runI_nil) | ((first | (with_reducible apply runX_cons) | (with_reducible apply runI_cons)); focus (simp (discharger := omega) only [go_sem, ↓reduceIte, reduceIte, Nat.reduceEqDiff, Nat.reduceLT, Nat.reduceLeDiff, Nat.reduceAdd, Nat.reduceSub, Nat.reduceMul, Nat.reduceDiv, Nat.reduceMod, Nat.reduceBEq, Int.reduceEq, Int.reduceLT, Int.reduceLE, Int.reduceNeg, Int.reduceToNat, reduceCtorEq]; with_reducible rfl)))); done)))
        refine SW_loop (fun k s => ∃ (i : Nat) (frs : List Nat) (R : List Int) (es : List (T × T)) (ft kt : List T), k = m - i ∧ s = ⟨220, [(0, .t (tInt base)), (1, .t (tInt tracks)), (2, .t (tIntss next)), (3, .t (tBools ends)), (8, .bptr 0 0), (10, .sref 1), (15, .sref 2), (18, .t (tNat many)), (19, .map 3), (20, .sref 4), (21, .sref 5), (92, .sref 1), (93, .t (tInt out.length)), (94, .t (tInt i))], [.box [.t (tInt 0), .t (tInt 0), .nil, .nil], .row 3 1 false (out.map tInt), .row 3 1 false (cls.map tNat), .map .str es, .row 3 1 true ft, .row 5 1 true kt]⟩ ∧
            es = entries (fun s => bytesStr (keyOf' next (clf cls) s)) R ∧ ft = frs.map tNat ∧ frs.length = m ∧ i ≤ out.length ∧ Numd (out.take i) (fun s => bytesStr (keyOf' next (clf cls) s)) (clf frs) R) m ⟨_, Norm.headS (own := [(10, 3, 1, false), (15, 3, 1, false), (20, 3, 1, true), (21, 5, 1, true)]) (keep := [0, 1, 2, 3, 8, 10, 15, 18, 19, 20, 21, 92, 93, 94]) (by simp (discharger := omega) only [go_sem, ↓reduceIte, reduceIte, Nat.reduceEqDiff, Nat.reduceLT, Nat.reduceLeDiff, Nat.reduceAdd, Nat.reduceSub, Nat.reduceMul, Nat.reduceDiv, Nat.reduceMod, Nat.reduceBEq, Int.reduceEq, Int.reduceLT, Int.reduceLE, Int.reduceNeg, Int.reduceToNat, reduceCtorEq]; with_reducible rfl) (by simp only [go_sem, ↓reduceIte, reduceIte, Nat.reduceEqDiff, Nat.reduceLT, Nat.reduceLeDiff, Nat.reduceAdd, Nat.reduceSub, Nat.reduceMul, Nat.reduceDiv, Nat.reduceMod, Nat.reduceBEq, Int.reduceEq, Int.reduceLT, Int.reduceLE, Int.reduceNeg, Int.reduceToNat, reduceCtorEq]; with_reducible rfl) (by simp only [go_sem, ↓reduceIte, reduceIte, Nat.reduceEqDiff, Nat.reduceLT, Nat.reduceLeDiff, Nat.reduceAdd, Nat.reduceSub, Nat.reduceMul, Nat.reduceDiv, Nat.reduceMod, Nat.reduceBEq, Int.reduceEq, Int.reduceLT, Int.reduceLE, Int.reduceNeg, Int.reduceToNat, reduceCtorEq]; with_reducible rfl) (by simp only [go_sem, ↓reduceIte, reduceIte, Nat.reduceEqDiff, Nat.reduceLT, Nat.reduceLeDiff, Nat.reduceAdd, Nat.reduceSub, Nat.reduceMul, Nat.reduceDiv, Nat.reduceMod, Nat.reduceBEq, Int.reduceEq, Int.reduceLT, Int.reduceLE, Int.reduceNeg, Int.reduceToNat, reduceCtorEq]; with_reducible rfl) (by simp only [go_sem, ↓reduceIte, reduceIte, Nat.reduceEqDiff, Nat.reduceLT, Nat.reduceLeDiff, Nat.reduceAdd, Nat.reduceSub, Nat.reduceMul, Nat.reduceDiv, Nat.reduceMod, Nat.reduceBEq, Int.reduceEq, Int.reduceLT, Int.reduceLE, Int.reduceNeg, Int.reduceToNat, reduceCtorEq]; with_reducible rfl), 0, List.replicate m 0, [], _, _, _, rfl, rfl, rfl, by rw [List.map_replicate, hlen]; rfl, by simp, Nat.zero_le _, by rw [List.take_zero]; exact Numd.start _ _⟩ ?_
        rintro k s ⟨i, frs, R, es, ft, kt, rfl, rfl, hes, rfl, hfl, hi, hN⟩
        by_cases hlt : i < out.length
        · obtain ⟨r, hor⟩ : ∃ r, out[i]! = r := ⟨_, rfl⟩
          have hio : out[i]? = some r := by rw [← hor, getElem!_pos out i hlt]; exact List.getElem?_eq_getElem hlt
          have hrm : r ∈ out := List.mem_of_getElem? hio
          have hs : 0 ≤ r ∧ r < (m : Int) := hmo.ok _ hrm
          have hnr : r ∉ out.take i := fun hm => by
            obtain ⟨q, hq, e⟩ := List.mem_iff_getElem.1 hm
            simp only [List.getElem_take] at e
            rw [List.getElem?_eq_getElem hlt] at hio
            have := nodup_inj hmo.nd (by simp at hq; omega) hlt (e.trans (Option.some.inj hio).symm)
            simp at hq; omega
          have htk : out.take (i + 1) = out.take i ++ [r] := by
            rw [List.take_succ_eq_append_getElem hlt]
            rw [List.getElem?_eq_getElem hlt] at hio
            rw [Option.some.inj hio]
          obtain ⟨row, hrow⟩ : ∃ row, next[r.toNat]! = row := ⟨_, rfl⟩
          have hrl : r.toNat < next.length := by omega
          have hrow2 : rowOf next r = row := by unfold rowOf; rw [getD_lt hrl, ← hrow, getElem!_pos next _ hrl]
          have hrmem : row ∈ next := by rw [← hrow, getElem!_pos next _ hrl]; exact List.getElem_mem hrl
          have hrn : row.length = n := hR.row _ hrmem
          obtain ⟨c, hc⟩ : ∃ c, cls[r.toNat]! = c := ⟨_, rfl⟩
          have hc2 : clf cls r = c := by rw [← clf_at hs.1 (by omega), hc]
          have hc16 : c < 65536 := by rw [← hc2]; exact h16 r hrm
          have hhi := u8hi hc16
          have hh2 : IntKind.u8.wrap ((c : Int).fdiv 256) = (c : Int) / 256 := by simpa [IntKind.bits] using hhi
          repeat' (first | (with_reducible first | refine SW_seq ?_ | refine SW_block ?_ | refine SThen_n ?_ | refine SThen_r ?_ | refine SThen_e ?_ | refine SIn_n ?_ | refine SIn_r ?_ | refine SIn_eq ?_ | refine SW_skip ?_ | refine SW_exit ?_ | refine SW_ret ?_ | refine SPost_r ?_) | ((with_reducible refine SIn_ne ?_ ?_); focus decide) | ((with_reducible refine SW_true ?_ ?_); focus exact rfl) | ((with_reducible refine SW_false ?_ ?_); focus exact rfl) | ((first | (with_reducible apply SW_run tt_ok hG htb) | ((with_reducible apply SW_draw rfl tt_ok hG htb); (focus kernel_rfl); (focus (simp only [List.range, List.range.loop, List.size_toArray, List.length_cons, List.length_nil, Nat.reduceAdd])))); focus ((repeat' (first | (with_reducible exact runX_nil) | (with_reducible exact runI_nil) | ((first | (with_reducible apply runX_cons) | (with_reducible apply runI_cons)); focus (simp (discharger := omega) only [go_sem, hor, hrow, hc, u8lo, hhi, ↓reduceIte, reduceIte, Nat.reduceEqDiff, Nat.reduceLT, Nat.reduceLeDiff, Nat.reduceAdd, Nat.reduceSub, Nat.reduceMul, Nat.reduceDiv, Nat.reduceMod, Nat.reduceBEq, Int.reduceEq, Int.reduceLT, Int.reduceLE, Int.reduceNeg, Int.reduceToNat, reduceCtorEq]; with_reducible rfl)))); done)))
          refine SW_loop (fun k s => ∃ (l : Nat) (kt : List T), k = n - l ∧ s = ⟨220, [(0, .t (tInt base)), (1, .t (tInt tracks)), (2, .t (tIntss next)), (3, .t (tBools ends)), (8, .bptr 0 0), (10, .sref 1), (15, .sref 2), (18, .t (tNat many)), (19, .map 3), (20, .sref 4), (21, .sref 5), (23, .t (tInt r)), (92, .sref 1), (93, .t (tInt out.length)), (94, .t (tInt i)), (116, .t (tInts row)), (117, .t (tInt row.length)), (118, .t (tInt l))], [.box [.t (tInt 0), .t (tInt 0), .nil, .nil], .row 3 1 false (out.map tInt), .row 3 1 false (cls.map tNat), .map .str es, .row 3 1 true (frs.map tNat), .row 5 1 true kt]⟩ ∧
              l ≤ n ∧ kt = (byt c ++ (row.take l).flatMap fun t => byt (clf cls t)).map tByte) n ⟨_, Norm.headS (own := [(10, 3, 1, false), (15, 3, 1, false), (20, 3, 1, true), (21, 5, 1, true)]) (keep := [0, 1, 2, 3, 8, 10, 15, 18, 19, 20, 21, 23, 92, 93, 94, 116, 117, 118]) (by simp (discharger := omega) only [go_sem, ↓reduceIte, reduceIte, Nat.reduceEqDiff, Nat.reduceLT, Nat.reduceLeDiff, Nat.reduceAdd, Nat.reduceSub, Nat.reduceMul, Nat.reduceDiv, Nat.reduceMod, Nat.reduceBEq, Int.reduceEq, Int.reduceLT, Int.reduceLE, Int.reduceNeg, Int.reduceToNat, reduceCtorEq]; with_reducible rfl) (by simp only [go_sem, ↓reduceIte, reduceIte, Nat.reduceEqDiff, Nat.reduceLT, Nat.reduceLeDiff, Nat.reduceAdd, Nat.reduceSub, Nat.reduceMul, Nat.reduceDiv, Nat.reduceMod, Nat.reduceBEq, Int.reduceEq, Int.reduceLT, Int.reduceLE, Int.reduceNeg, Int.reduceToNat, reduceCtorEq]; with_reducible rfl) (by simp only [go_sem, ↓reduceIte, reduceIte, Nat.reduceEqDiff, Nat.reduceLT, Nat.reduceLeDiff, Nat.reduceAdd, Nat.reduceSub, Nat.reduceMul, Nat.reduceDiv, Nat.reduceMod, Nat.reduceBEq, Int.reduceEq, Int.reduceLT, Int.reduceLE, Int.reduceNeg, Int.reduceToNat, reduceCtorEq]; with_reducible rfl) (by simp only [go_sem, ↓reduceIte, reduceIte, Nat.reduceEqDiff, Nat.reduceLT, Nat.reduceLeDiff, Nat.reduceAdd, Nat.reduceSub, Nat.reduceMul, Nat.reduceDiv, Nat.reduceMod, Nat.reduceBEq, Int.reduceEq, Int.reduceLT, Int.reduceLE, Int.reduceNeg, Int.reduceToNat, reduceCtorEq]; with_reducible rfl) (by simp only [go_sem, ↓reduceIte, reduceIte, Nat.reduceEqDiff, Nat.reduceLT, Nat.reduceLeDiff, Nat.reduceAdd, Nat.reduceSub, Nat.reduceMul, Nat.reduceDiv, Nat.reduceMod, Nat.reduceBEq, Int.reduceEq, Int.reduceLT, Int.reduceLE, Int.reduceNeg, Int.reduceToNat, reduceCtorEq]; with_reducible rfl), 0, _, rfl, rfl, Nat.zero_le _, by simp [byt, tByte, hh2]⟩ ?_
          rintro k s ⟨l, kt, rfl, rfl, hl, rfl⟩
          by_cases hlt2 : l < n
          · obtain ⟨u, hul⟩ : ∃ u, row[l]! = u := ⟨_, rfl⟩
            have hul2 : row[l]? = some u := by rw [← hul, getElem!_pos row l (by omega)]; exact List.getElem?_eq_getElem (by omega)
            have hnx : nx next r l = u := by unfold nx; rw [hrow2, List.getD_eq_getElem?_getD, hul2]; rfl
            have hum : u ∈ out := by rw [← hnx]; exact hbf.closed r hrm l hlt2
            have hu : 0 ≤ u ∧ u < (m : Int) := hmo.ok _ hum
            obtain ⟨d, hd⟩ : ∃ d, cls[u.toNat]! = d := ⟨_, rfl⟩
            have hd2 : clf cls u = d := by rw [← clf_at hu.1 (by omega), hd]
            have hd16 : d < 65536 := by rw [← hd2]; exact h16 u hum
            have hdhi := u8hi hd16
            have hd2' : IntKind.u8.wrap ((d : Int).fdiv 256) = (d : Int) / 256 := by simpa [IntKind.bits] using hdhi
            have hll : l < row.length := by omega
            have hkl : ((byt c ++ (row.take l).flatMap fun t => byt (clf cls t)).length : Nat) ≤ 2002 := by
              rw [List.length_append, byt_len, List.length_take]
              simp [byt]; omega
            have htk2 : row.take (l + 1) = row.take l ++ [u] := by
              rw [List.take_succ_eq_append_getElem hll]
              rw [List.getElem?_eq_getElem hll] at hul2
              rw [Option.some.inj hul2]
            generalize hkx : (byt c ++ (row.take l).flatMap fun t => byt (clf cls t)) = kx at hkl ⊢
            repeat' (first | (with_reducible first | refine SW_seq ?_ | refine SW_block ?_ | refine SThen_n ?_ | refine SThen_r ?_ | refine SThen_e ?_ | refine SIn_n ?_ | refine SIn_r ?_ | refine SIn_eq ?_ | refine SW_skip ?_ | refine SW_exit ?_ | refine SW_ret ?_ | refine SPost_r ?_) | ((with_reducible refine SIn_ne ?_ ?_); focus decide) | ((with_reducible refine SW_true ?_ ?_); focus exact rfl) | ((with_reducible refine SW_false ?_ ?_); focus exact rfl) | ((first | (with_reducible apply SW_run tt_ok hG htb) | ((with_reducible apply SW_draw rfl tt_ok hG htb); (focus kernel_rfl); (focus (simp only [List.range, List.range.loop, List.size_toArray, List.length_cons, List.length_nil, Nat.reduceAdd])))); focus ((repeat' (first | (with_reducible exact runX_nil) | (with_reducible exact runI_nil) | ((first | (with_reducible apply runX_cons) | (with_reducible apply runI_cons)); focus (simp (discharger := omega) only [go_sem, hul, hd, u8lo, hdhi, ↓reduceIte, reduceIte, Nat.reduceEqDiff, Nat.reduceLT, Nat.reduceLeDiff, Nat.reduceAdd, Nat.reduceSub, Nat.reduceMul, Nat.reduceDiv, Nat.reduceMod, Nat.reduceBEq, Int.reduceEq, Int.reduceLT, Int.reduceLE, Int.reduceNeg, Int.reduceToNat, reduceCtorEq]; with_reducible rfl)))); done)))
            exact ⟨n - (l + 1), _, by omega, Norm.headS (own := [(10, 3, 1, false), (15, 3, 1, false), (20, 3, 1, true), (21, 5, 1, true)]) (keep := [0, 1, 2, 3, 8, 10, 15, 18, 19, 20, 21, 23, 92, 93, 94, 116, 117, 118]) (by simp (discharger := omega) only [go_sem, ↓reduceIte, reduceIte, Nat.reduceEqDiff, Nat.reduceLT, Nat.reduceLeDiff, Nat.reduceAdd, Nat.reduceSub, Nat.reduceMul, Nat.reduceDiv, Nat.reduceMod, Nat.reduceBEq, Int.reduceEq, Int.reduceLT, Int.reduceLE, Int.reduceNeg, Int.reduceToNat, reduceCtorEq]; with_reducible rfl) (by simp only [go_sem, ↓reduceIte, reduceIte, Nat.reduceEqDiff, Nat.reduceLT, Nat.reduceLeDiff, Nat.reduceAdd, Nat.reduceSub, Nat.reduceMul, Nat.reduceDiv, Nat.reduceMod, Nat.reduceBEq, Int.reduceEq, Int.reduceLT, Int.reduceLE, Int.reduceNeg, Int.reduceToNat, reduceCtorEq]; with_reducible rfl) (by simp only [go_sem, ↓reduceIte, reduceIte, Nat.reduceEqDiff, Nat.reduceLT, Nat.reduceLeDiff, Nat.reduceAdd, Nat.reduceSub, Nat.reduceMul, Nat.reduceDiv, Nat.reduceMod, Nat.reduceBEq, Int.reduceEq, Int.reduceLT, Int.reduceLE, Int.reduceNeg, Int.reduceToNat, reduceCtorEq]; with_reducible rfl) (by simp only [go_sem, ↓reduceIte, reduceIte, Nat.reduceEqDiff, Nat.reduceLT, Nat.reduceLeDiff, Nat.reduceAdd, Nat.reduceSub, Nat.reduceMul, Nat.reduceDiv, Nat.reduceMod, Nat.reduceBEq, Int.reduceEq, Int.reduceLT, Int.reduceLE, Int.reduceNeg, Int.reduceToNat, reduceCtorEq]; with_reducible rfl) (by simp only [go_sem, ↓reduceIte, reduceIte, Nat.reduceEqDiff, Nat.reduceLT, Nat.reduceLeDiff, Nat.reduceAdd, Nat.reduceSub, Nat.reduceMul, Nat.reduceDiv, Nat.reduceMod, Nat.reduceBEq, Int.reduceEq, Int.reduceLT, Int.reduceLE, Int.reduceNeg, Int.reduceToNat, reduceCtorEq]; with_reducible rfl), l + 1, _, rfl, rfl, by omega, by
              rw [htk2, List.flatMap_append, ← List.append_assoc, hkx, List.map_append]
              simp [hd2, byt, tByte, hd2']⟩
          · obtain rfl : l = n := by omega
            rw [List.take_of_length_le (by omega)]
            have hkey : (byt c ++ row.flatMap fun t => byt (clf cls t)) = keyOf' next (clf cls) r := by unfold keyOf'; rw [hc2, hrow2]
            have hkl : ((byt c ++ row.flatMap fun t => byt (clf cls t)).length : Nat) ≤ 2002 := by
              rw [List.length_append, byt_len]; simp [byt]; omega
            rw [hkey] at hkl ⊢
            obtain ⟨ks, hks⟩ : ∃ ks, bytesStr (keyOf' next (clf cls) r) = ks := ⟨_, rfl⟩
            have hsz : ks.size ≤ 2002 := by rw [← hks]; simpa [bytesStr, ByteArray.size] using hkl
            have hstr : (⟨((keyOf' next (clf cls) r).map fun n => UInt8.ofNat n.toNat).toArray⟩ : ByteArray) = ks := hks
            generalize keyOf' next (clf cls) r = kx at hstr ⊢
            have hel : es.length = R.length := by rw [hes, entries_length]
            by_cases hx : ∃ (k : Nat) (q : Int), R[k]? = some q ∧ bytesStr (keyOf' next (clf cls) q) = bytesStr (keyOf' next (clf cls) r)
            · obtain ⟨k, q, hk1, hk2⟩ := hx
              have hget : mapGet es (.str ks) = some (tNat k) := by
                rw [hes, ← hks]; exact entries_get_some hN.distinct hk1 hk2
              obtain ⟨c1, c2⟩ := clf_set (cls := frs) (r := r) hs.1 (by omega) k
              repeat' (first | (with_reducible first | refine SW_seq ?_ | refine SW_block ?_ | refine SThen_n ?_ | refine SThen_r ?_ | refine SThen_e ?_ | refine SIn_n ?_ | refine SIn_r ?_ | refine SIn_eq ?_ | refine SW_skip ?_ | refine SW_exit ?_ | refine SW_ret ?_ | refine SPost_r ?_) | ((with_reducible refine SIn_ne ?_ ?_); focus decide) | ((with_reducible refine SW_true ?_ ?_); focus exact rfl) | ((with_reducible refine SW_false ?_ ?_); focus exact rfl) | ((first | (with_reducible apply SW_run tt_ok hG htb) | ((with_reducible apply SW_draw rfl tt_ok hG htb); (focus kernel_rfl); (focus (simp only [List.range, List.range.loop, List.size_toArray, List.length_cons, List.length_nil, Nat.reduceAdd])))); focus ((repeat' (first | (with_reducible exact runX_nil) | (with_reducible exact runI_nil) | ((first | (with_reducible apply runX_cons) | (with_reducible apply runI_cons)); focus (simp (discharger := omega) only [go_sem, bytesOf_map, hstr, hget, ↓reduceIte, reduceIte, Nat.reduceEqDiff, Nat.reduceLT, Nat.reduceLeDiff, Nat.reduceAdd, Nat.reduceSub, Nat.reduceMul, Nat.reduceDiv, Nat.reduceMod, Nat.reduceBEq, Int.reduceEq, Int.reduceLT, Int.reduceLE, Int.reduceNeg, Int.reduceToNat, reduceCtorEq]; with_reducible rfl)))); done)))
              exact ⟨m - (i + 1), _, by omega, Norm.headS (own := [(10, 3, 1, false), (15, 3, 1, false), (20, 3, 1, true), (21, 5, 1, true)]) (keep := [0, 1, 2, 3, 8, 10, 15, 18, 19, 20, 21, 92, 93, 94]) (by simp (discharger := omega) only [go_sem, ↓reduceIte, reduceIte, Nat.reduceEqDiff, Nat.reduceLT, Nat.reduceLeDiff, Nat.reduceAdd, Nat.reduceSub, Nat.reduceMul, Nat.reduceDiv, Nat.reduceMod, Nat.reduceBEq, Int.reduceEq, Int.reduceLT, Int.reduceLE, Int.reduceNeg, Int.reduceToNat, reduceCtorEq]; with_reducible rfl) (by simp only [go_sem, ↓reduceIte, reduceIte, Nat.reduceEqDiff, Nat.reduceLT, Nat.reduceLeDiff, Nat.reduceAdd, Nat.reduceSub, Nat.reduceMul, Nat.reduceDiv, Nat.reduceMod, Nat.reduceBEq, Int.reduceEq, Int.reduceLT, Int.reduceLE, Int.reduceNeg, Int.reduceToNat, reduceCtorEq]; with_reducible rfl) (by simp only [go_sem, ↓reduceIte, reduceIte, Nat.reduceEqDiff, Nat.reduceLT, Nat.reduceLeDiff, Nat.reduceAdd, Nat.reduceSub, Nat.reduceMul, Nat.reduceDiv, Nat.reduceMod, Nat.reduceBEq, Int.reduceEq, Int.reduceLT, Int.reduceLE, Int.reduceNeg, Int.reduceToNat, reduceCtorEq]; with_reducible rfl) (by simp only [go_sem, ↓reduceIte, reduceIte, Nat.reduceEqDiff, Nat.reduceLT, Nat.reduceLeDiff, Nat.reduceAdd, Nat.reduceSub, Nat.reduceMul, Nat.reduceDiv, Nat.reduceMod, Nat.reduceBEq, Int.reduceEq, Int.reduceLT, Int.reduceLE, Int.reduceNeg, Int.reduceToNat, reduceCtorEq]; with_reducible rfl) (by simp only [go_sem, ↓reduceIte, reduceIte, Nat.reduceEqDiff, Nat.reduceLT, Nat.reduceLeDiff, Nat.reduceAdd, Nat.reduceSub, Nat.reduceMul, Nat.reduceDiv, Nat.reduceMod, Nat.reduceBEq, Int.reduceEq, Int.reduceLT, Int.reduceLE, Int.reduceNeg, Int.reduceToNat, reduceCtorEq]; with_reducible rfl), i + 1, frs.set r.toNat k, R, es, _, _, rfl, rfl, hes, by rw [List.map_set]; rfl, by simpa using hfl, by omega, by rw [htk]; exact hN.old hnr hk1 hk2 c2 c1⟩
            · have hno : ∀ q ∈ R, bytesStr (keyOf' next (clf cls) q) ≠ bytesStr (keyOf' next (clf cls) r) := fun q hq e => by
                obtain ⟨k, hk⟩ := List.mem_iff_getElem?.1 hq
                exact hx ⟨k, q, hk, e⟩
              have hget : mapGet es (.str ks) = none := by
                rw [hes, ← hks]; exact entries_get_none (κ := fun s => bytesStr (keyOf' next (clf cls) s)) hno
              have hset : mapSet es (.str ks) (tNat R.length) = entries (fun s => bytesStr (keyOf' next (clf cls) s)) (R ++ [r]) := by
                rw [hes, ← hks]; exact entries_set (κ := fun s => bytesStr (keyOf' next (clf cls) s)) hno
              obtain ⟨c1, c2⟩ := clf_set (cls := frs) (r := r) hs.1 (by omega) R.length
              repeat' (first | (with_reducible first | refine SW_seq ?_ | refine SW_block ?_ | refine SThen_n ?_ | refine SThen_r ?_ | refine SThen_e ?_ | refine SIn_n ?_ | refine SIn_r ?_ | refine SIn_eq ?_ | refine SW_skip ?_ | refine SW_exit ?_ | refine SW_ret ?_ | refine SPost_r ?_) | ((with_reducible refine SIn_ne ?_ ?_); focus decide) | ((with_reducible refine SW_true ?_ ?_); focus exact rfl) | ((with_reducible refine SW_false ?_ ?_); focus exact rfl) | ((first | (with_reducible apply SW_run tt_ok hG htb) | ((with_reducible apply SW_draw rfl tt_ok hG htb); (focus kernel_rfl); (focus (simp only [List.range, List.range.loop, List.size_toArray, List.length_cons, List.length_nil, Nat.reduceAdd])))); focus ((repeat' (first | (with_reducible exact runX_nil) | (with_reducible exact runI_nil) | ((first | (with_reducible apply runX_cons) | (with_reducible apply runI_cons)); focus (simp (discharger := omega) only [go_sem, bytesOf_map, hstr, hget, hel, ↓reduceIte, reduceIte, Nat.reduceEqDiff, Nat.reduceLT, Nat.reduceLeDiff, Nat.reduceAdd, Nat.reduceSub, Nat.reduceMul, Nat.reduceDiv, Nat.reduceMod, Nat.reduceBEq, Int.reduceEq, Int.reduceLT, Int.reduceLE, Int.reduceNeg, Int.reduceToNat, reduceCtorEq]; with_reducible rfl)))); done)))
              exact ⟨m - (i + 1), _, by omega, Norm.headS (own := [(10, 3, 1, false), (15, 3, 1, false), (20, 3, 1, true), (21, 5, 1, true)]) (keep := [0, 1, 2, 3, 8, 10, 15, 18, 19, 20, 21, 92, 93, 94]) (by simp (discharger := omega) only [go_sem, ↓reduceIte, reduceIte, Nat.reduceEqDiff, Nat.reduceLT, Nat.reduceLeDiff, Nat.reduceAdd, Nat.reduceSub, Nat.reduceMul, Nat.reduceDiv, Nat.reduceMod, Nat.reduceBEq, Int.reduceEq, Int.reduceLT, Int.reduceLE, Int.reduceNeg, Int.reduceToNat, reduceCtorEq]; with_reducible rfl) (by simp only [go_sem, ↓reduceIte, reduceIte, Nat.reduceEqDiff, Nat.reduceLT, Nat.reduceLeDiff, Nat.reduceAdd, Nat.reduceSub, Nat.reduceMul, Nat.reduceDiv, Nat.reduceMod, Nat.reduceBEq, Int.reduceEq, Int.reduceLT, Int.reduceLE, Int.reduceNeg, Int.reduceToNat, reduceCtorEq]; with_reducible rfl) (by simp only [go_sem, ↓reduceIte, reduceIte, Nat.reduceEqDiff, Nat.reduceLT, Nat.reduceLeDiff, Nat.reduceAdd, Nat.reduceSub, Nat.reduceMul, Nat.reduceDiv, Nat.reduceMod, Nat.reduceBEq, Int.reduceEq, Int.reduceLT, Int.reduceLE, Int.reduceNeg, Int.reduceToNat, reduceCtorEq]; with_reducible rfl) (by simp only [go_sem, ↓reduceIte, reduceIte, Nat.reduceEqDiff, Nat.reduceLT, Nat.reduceLeDiff, Nat.reduceAdd, Nat.reduceSub, Nat.reduceMul, Nat.reduceDiv, Nat.reduceMod, Nat.reduceBEq, Int.reduceEq, Int.reduceLT, Int.reduceLE, Int.reduceNeg, Int.reduceToNat, reduceCtorEq]; with_reducible rfl) (by simp only [go_sem, ↓reduceIte, reduceIte, Nat.reduceEqDiff, Nat.reduceLT, Nat.reduceLeDiff, Nat.reduceAdd, Nat.reduceSub, Nat.reduceMul, Nat.reduceDiv, Nat.reduceMod, Nat.reduceBEq, Int.reduceEq, Int.reduceLT, Int.reduceLE, Int.reduceNeg, Int.reduceToNat, reduceCtorEq]; with_reducible rfl), i + 1, frs.set r.toNat R.length, R ++ [r], _, _, _, rfl, rfl, hset, by rw [List.map_set]; rfl, by simpa using hfl, by omega, by rw [htk]; exact hN.new hnr hno c2 c1⟩
        · have hie : i = out.length := by omega
          subst hie
          rw [List.take_length] at hN
          clear hi hlt
          have hel : es.length = R.length := by rw [hes, entries_length]
          have hmore := hinv.more hN hlook
          have hbig : R.length ≤ 65536 := by
            have h1 := hinv.bound hR hm hbf hlook (Q := R) (fun r hr => hN.mem hr) hN.distinct
            omega
          have hbound : R.length ≤ m := by
            have h1 := hinv.bound hR hm hbf hlook (Q := R) (fun r hr => hN.mem hr) hN.distinct
            have h2 := (leastRE_spec (ends := ends) hR hm).2
            omega
          by_cases hRm : R.length = many
          · have hdone := hinv.done hR hm hmo hbf hN hlook hRm
            have hre := leastRE_eq hR hm hdone
            have hclR : ∀ s, s ∈ out → clf frs s < R.length := fun s hs => hN.lt hs
            clear hinv hlook h16 hce hmore hes
            repeat' (first | (with_reducible first | refine SW_seq ?_ | refine SW_block ?_ | refine SThen_n ?_ | refine SThen_r ?_ | refine SThen_e ?_ | refine SIn_n ?_ | refine SIn_r ?_ | refine SIn_eq ?_ | refine SW_skip ?_ | refine SW_exit ?_ | refine SW_ret ?_ | refine SPost_r ?_) | ((with_reducible refine SIn_ne ?_ ?_); focus decide) | ((with_reducible refine SW_true ?_ ?_); focus exact rfl) | ((with_reducible refine SW_false ?_ ?_); focus exact rfl) | ((first | (with_reducible apply SW_run tt_ok hG htb) | ((with_reducible apply SW_draw rfl tt_ok hG htb); (focus kernel_rfl); (focus (simp only [List.range, List.range.loop, List.size_toArray, List.length_cons, List.length_nil, Nat.reduceAdd])))); focus ((repeat' (first | (with_reducible exact runX_nil) | (with_reducible exact runI_nil) | ((first | (with_reducible apply runX_cons) | (with_reducible apply runI_cons)); focus (simp (discharger := omega) only [go_sem, hel, hRm, ↓reduceIte, reduceIte, Nat.reduceEqDiff, Nat.reduceLT, Nat.reduceLeDiff, Nat.reduceAdd, Nat.reduceSub, Nat.reduceMul, Nat.reduceDiv, Nat.reduceMod, Nat.reduceBEq, Int.reduceEq, Int.reduceLT, Int.reduceLE, Int.reduceNeg, Int.reduceToNat, reduceCtorEq]; with_reducible rfl)))); done)))
            have hRl : (leftRows next (clf frs) R).length = R.length := by simp [leftRows]
            have hEl : (leftEnds ends R).length = R.length := by simp [leftEnds]
            refine SW_loop (fun k s => ∃ (i q : Nat) (nt et : List T), k = m - i ∧ s = ⟨220, [(2, .t (tIntss next)), (3, .t (tBools ends)), (8, .bptr 0 0), (10, .sref 1), (15, .sref 2), (28, .bptr 3 0), (167, .sref 1), (168, .t (tInt out.length)), (169, .t (tInt i))], [.box [.t (tInt 0), .t (tInt 0), .nil, .nil], .row 3 1 false (out.map tInt), .row 3 1 false (frs.map tNat), .box [.t (tInt base), .t (tInt tracks), .sref 4, .sref 5], .row 22 1 true nt, .row 4 1 true et]⟩ ∧
                nt = ((leftRows next (clf frs) R).take q).map tInts ∧ et = ((leftEnds ends R).take q).map T.bool ∧ i ≤ out.length ∧ q ≤ R.length ∧ q ≤ 80 ∧ ∀ s, s ∈ out.take i → clf frs s < q) m
              ⟨_, (Norm.ownB (j := 6) (off := 2) (e := 22) (sz := 1) rfl rfl Nat.one_pos).trans ((Norm.ownB (j := 6) (off := 3) (e := 4) (sz := 1) rfl rfl Nat.one_pos).trans (Norm.headS (own := [(10, 3, 1, false), (15, 3, 1, false)]) (keep := [2, 3, 8, 10, 15, 28, 167, 168, 169]) (by simp (discharger := omega) only [go_sem, ↓reduceIte, reduceIte, Nat.reduceEqDiff, Nat.reduceLT, Nat.reduceLeDiff, Nat.reduceAdd, Nat.reduceSub, Nat.reduceMul, Nat.reduceDiv, Nat.reduceMod, Nat.reduceBEq, Int.reduceEq, Int.reduceLT, Int.reduceLE, Int.reduceNeg, Int.reduceToNat, reduceCtorEq]; with_reducible rfl) (by simp only [go_sem, ↓reduceIte, reduceIte, Nat.reduceEqDiff, Nat.reduceLT, Nat.reduceLeDiff, Nat.reduceAdd, Nat.reduceSub, Nat.reduceMul, Nat.reduceDiv, Nat.reduceMod, Nat.reduceBEq, Int.reduceEq, Int.reduceLT, Int.reduceLE, Int.reduceNeg, Int.reduceToNat, reduceCtorEq]; with_reducible rfl) (by simp only [go_sem, ↓reduceIte, reduceIte, Nat.reduceEqDiff, Nat.reduceLT, Nat.reduceLeDiff, Nat.reduceAdd, Nat.reduceSub, Nat.reduceMul, Nat.reduceDiv, Nat.reduceMod, Nat.reduceBEq, Int.reduceEq, Int.reduceLT, Int.reduceLE, Int.reduceNeg, Int.reduceToNat, reduceCtorEq]; with_reducible rfl) (by simp only [go_sem, ↓reduceIte, reduceIte, Nat.reduceEqDiff, Nat.reduceLT, Nat.reduceLeDiff, Nat.reduceAdd, Nat.reduceSub, Nat.reduceMul, Nat.reduceDiv, Nat.reduceMod, Nat.reduceBEq, Int.reduceEq, Int.reduceLT, Int.reduceLE, Int.reduceNeg, Int.reduceToNat, reduceCtorEq]; with_reducible rfl) (by simp only [go_sem, ↓reduceIte, reduceIte, Nat.reduceEqDiff, Nat.reduceLT, Nat.reduceLeDiff, Nat.reduceAdd, Nat.reduceSub, Nat.reduceMul, Nat.reduceDiv, Nat.reduceMod, Nat.reduceBEq, Int.reduceEq, Int.reduceLT, Int.reduceLE, Int.reduceNeg, Int.reduceToNat, reduceCtorEq]; with_reducible rfl))), 0, 0, _, _, rfl, rfl, by simp, by simp, Nat.zero_le _, Nat.zero_le _, Nat.zero_le _, fun s hs => by simp at hs⟩ ?_
            rintro k s ⟨i, q, nt, et, rfl, rfl, hnt, het, hi, hq, hq80, hall⟩
            have hnl : nt.length = q := by rw [hnt]; simp; omega
            have hel2 : et.length = q := by rw [het]; simp; omega
            by_cases hlt : i < out.length
            · obtain ⟨r, hor⟩ : ∃ r, out[i]! = r := ⟨_, rfl⟩
              have hio : out[i]? = some r := by rw [← hor, getElem!_pos out i hlt]; exact List.getElem?_eq_getElem hlt
              have hrm : r ∈ out := List.mem_of_getElem? hio
              have hs : 0 ≤ r ∧ r < (m : Int) := hmo.ok _ hrm
              have htk : out.take (i + 1) = out.take i ++ [r] := by
                rw [List.take_succ_eq_append_getElem hlt]
                rw [List.getElem?_eq_getElem hlt] at hio
                rw [Option.some.inj hio]
              obtain ⟨c, hc⟩ : ∃ c, frs[r.toNat]! = c := ⟨_, rfl⟩
              have hc2 : clf frs r = c := by rw [← clf_at hs.1 (by omega), hc]
              have hcR : c < R.length := by rw [← hc2]; exact hclR r hrm
              have hle : c ≤ q := by
                rcases Nat.lt_or_ge q c with hqc | hqc
                · exfalso
                  have hqR : q < R.length := by omega
                  obtain ⟨i0, a1, a2, a3⟩ := hN.first q _ (List.getElem?_eq_getElem hqR)
                  rcases Nat.lt_trichotomy i i0 with h | h | h
                  · have := a3 i r h hio; omega
                  · subst h; rw [hio] at a1; have := Option.some.inj a1; rw [← this, hc2] at a2; omega
                  · have : R[q] ∈ out.take i := List.mem_of_getElem? (by rw [List.getElem?_take, if_pos h]; exact a1)
                    have := hall _ this; omega
                · exact hqc
              by_cases hcq : c < q
              · repeat' (first | (with_reducible first | refine SW_seq ?_ | refine SW_block ?_ | refine SThen_n ?_ | refine SThen_r ?_ | refine SThen_e ?_ | refine SIn_n ?_ | refine SIn_r ?_ | refine SIn_eq ?_ | refine SW_skip ?_ | refine SW_exit ?_ | refine SW_ret ?_ | refine SPost_r ?_) | ((with_reducible refine SIn_ne ?_ ?_); focus decide) | ((with_reducible refine SW_true ?_ ?_); focus exact rfl) | ((with_reducible refine SW_false ?_ ?_); focus exact rfl) | ((first | (with_reducible apply SW_run tt_ok hG htb) | ((with_reducible apply SW_draw rfl tt_ok hG htb); (focus kernel_rfl); (focus (simp only [List.range, List.range.loop, List.size_toArray, List.length_cons, List.length_nil, Nat.reduceAdd])))); focus ((repeat' (first | (with_reducible exact runX_nil) | (with_reducible exact runI_nil) | ((first | (with_reducible apply runX_cons) | (with_reducible apply runI_cons)); focus (simp (discharger := omega) only [go_sem, hor, hc, hnl, ↓reduceIte, reduceIte, Nat.reduceEqDiff, Nat.reduceLT, Nat.reduceLeDiff, Nat.reduceAdd, Nat.reduceSub, Nat.reduceMul, Nat.reduceDiv, Nat.reduceMod, Nat.reduceBEq, Int.reduceEq, Int.reduceLT, Int.reduceLE, Int.reduceNeg, Int.reduceToNat, reduceCtorEq]; with_reducible rfl)))); done)))
                exact ⟨m - (i + 1), _, by omega, Norm.headS (own := [(10, 3, 1, false), (15, 3, 1, false)]) (keep := [2, 3, 8, 10, 15, 28, 167, 168, 169]) (by simp (discharger := omega) only [go_sem, ↓reduceIte, reduceIte, Nat.reduceEqDiff, Nat.reduceLT, Nat.reduceLeDiff, Nat.reduceAdd, Nat.reduceSub, Nat.reduceMul, Nat.reduceDiv, Nat.reduceMod, Nat.reduceBEq, Int.reduceEq, Int.reduceLT, Int.reduceLE, Int.reduceNeg, Int.reduceToNat, reduceCtorEq]; with_reducible rfl) (by simp only [go_sem, ↓reduceIte, reduceIte, Nat.reduceEqDiff, Nat.reduceLT, Nat.reduceLeDiff, Nat.reduceAdd, Nat.reduceSub, Nat.reduceMul, Nat.reduceDiv, Nat.reduceMod, Nat.reduceBEq, Int.reduceEq, Int.reduceLT, Int.reduceLE, Int.reduceNeg, Int.reduceToNat, reduceCtorEq]; with_reducible rfl) (by simp only [go_sem, ↓reduceIte, reduceIte, Nat.reduceEqDiff, Nat.reduceLT, Nat.reduceLeDiff, Nat.reduceAdd, Nat.reduceSub, Nat.reduceMul, Nat.reduceDiv, Nat.reduceMod, Nat.reduceBEq, Int.reduceEq, Int.reduceLT, Int.reduceLE, Int.reduceNeg, Int.reduceToNat, reduceCtorEq]; with_reducible rfl) (by simp only [go_sem, ↓reduceIte, reduceIte, Nat.reduceEqDiff, Nat.reduceLT, Nat.reduceLeDiff, Nat.reduceAdd, Nat.reduceSub, Nat.reduceMul, Nat.reduceDiv, Nat.reduceMod, Nat.reduceBEq, Int.reduceEq, Int.reduceLT, Int.reduceLE, Int.reduceNeg, Int.reduceToNat, reduceCtorEq]; with_reducible rfl) (by simp only [go_sem, ↓reduceIte, reduceIte, Nat.reduceEqDiff, Nat.reduceLT, Nat.reduceLeDiff, Nat.reduceAdd, Nat.reduceSub, Nat.reduceMul, Nat.reduceDiv, Nat.reduceMod, Nat.reduceBEq, Int.reduceEq, Int.reduceLT, Int.reduceLE, Int.reduceNeg, Int.reduceToNat, reduceCtorEq]; with_reducible rfl), i + 1, q, nt, et, rfl, rfl, hnt, het, by omega, hq, hq80, fun s hs' => by
                  rw [htk] at hs'
                  rcases List.mem_append.1 hs' with h | h
                  · exact hall s h
                  · simp at h; subst h; omega⟩
              · obtain rfl : c = q := by omega
                have hRq : R[c] = r := by
                  obtain ⟨i0, a1, a2, a3⟩ := hN.first c _ (List.getElem?_eq_getElem hcR)
                  rcases Nat.lt_trichotomy i i0 with h | h | h
                  · have := a3 i r h hio; omega
                  · subst h; rw [hio] at a1; exact (Option.some.inj a1).symm
                  · have : R[c] ∈ out.take i := List.mem_of_getElem? (by rw [List.getElem?_take, if_pos h]; exact a1)
                    have := hall _ this; omega
                by_cases h80 : c = 80
                · have hT : shrinkT base tracks n next ends = .tup [tAuto GAuto.zero, .bool false] := by
                    unfold shrinkT; rw [hre, if_neg (by simp only [hRl]; omega)]
                  rw [hT]
                  repeat' (first | (with_reducible first | refine SW_seq ?_ | refine SW_block ?_ | refine SThen_n ?_ | refine SThen_r ?_ | refine SThen_e ?_ | refine SIn_n ?_ | refine SIn_r ?_ | refine SIn_eq ?_ | refine SW_skip ?_ | refine SW_exit ?_ | refine SW_ret ?_ | refine SPost_r ?_) | ((with_reducible refine SIn_ne ?_ ?_); focus decide) | ((with_reducible refine SW_true ?_ ?_); focus exact rfl) | ((with_reducible refine SW_false ?_ ?_); focus exact rfl) | ((first | (with_reducible apply SW_run tt_ok hG htb) | ((with_reducible apply SW_draw rfl tt_ok hG htb); (focus kernel_rfl); (focus (simp only [List.range, List.range.loop, List.size_toArray, List.length_cons, List.length_nil, Nat.reduceAdd])))); focus ((repeat' (first | (with_reducible exact runX_nil) | (with_reducible exact runI_nil) | ((first | (with_reducible apply runX_cons) | (with_reducible apply runI_cons)); focus (simp (discharger := omega) only [go_sem, hor, hc, hnl, h80, ↓reduceIte, reduceIte, Nat.reduceEqDiff, Nat.reduceLT, Nat.reduceLeDiff, Nat.reduceAdd, Nat.reduceSub, Nat.reduceMul, Nat.reduceDiv, Nat.reduceMod, Nat.reduceBEq, Int.reduceEq, Int.reduceLT, Int.reduceLE, Int.reduceNeg, Int.reduceToNat, reduceCtorEq]; with_reducible rfl)))); done)))
                  exact (by simp (discharger := omega) only [go_sem, tAuto, GAuto.zero, ↓reduceIte, reduceIte, Nat.reduceEqDiff, Nat.reduceLT, Nat.reduceLeDiff, Nat.reduceAdd, Nat.reduceSub, Nat.reduceMul, Nat.reduceDiv, Nat.reduceMod, Nat.reduceBEq, Int.reduceEq, Int.reduceLT, Int.reduceLE, Int.reduceNeg, Int.reduceToNat, reduceCtorEq])
                · obtain ⟨row, hrow⟩ : ∃ row, next[r.toNat]! = row := ⟨_, rfl⟩
                  have hrl : r.toNat < next.length := by omega
                  have hrow2 : rowOf next r = row := by unfold rowOf; rw [getD_lt hrl, ← hrow, getElem!_pos next _ hrl]
                  have hrmem : row ∈ next := by rw [← hrow, getElem!_pos next _ hrl]; exact List.getElem_mem hrl
                  have hrn : row.length = n := hR.row _ hrmem
                  have hend : ends[r.toNat]! = endOf ends r := by unfold endOf; rw [getD_lt (by omega), getElem!_pos ends _ (by omega)]
                  repeat' (first | (with_reducible first | refine SW_seq ?_ | refine SW_block ?_ | refine SThen_n ?_ | refine SThen_r ?_ | refine SThen_e ?_ | refine SIn_n ?_ | refine SIn_r ?_ | refine SIn_eq ?_ | refine SW_skip ?_ | refine SW_exit ?_ | refine SW_ret ?_ | refine SPost_r ?_) | ((with_reducible refine SIn_ne ?_ ?_); focus decide) | ((with_reducible refine SW_true ?_ ?_); focus exact rfl) | ((with_reducible refine SW_false ?_ ?_); focus exact rfl) | ((first | (with_reducible apply SW_run tt_ok hG htb) | ((with_reducible apply SW_draw rfl tt_ok hG htb); (focus kernel_rfl); (focus (simp only [List.range, List.range.loop, List.size_toArray, List.length_cons, List.length_nil, Nat.reduceAdd])))); focus ((repeat' (first | (with_reducible exact runX_nil) | (with_reducible exact runI_nil) | ((first | (with_reducible apply runX_cons) | (with_reducible apply runI_cons)); focus (simp (discharger := omega) only [go_sem, hor, hc, hnl, h80, hrow, ↓reduceIte, reduceIte, Nat.reduceEqDiff, Nat.reduceLT, Nat.reduceLeDiff, Nat.reduceAdd, Nat.reduceSub, Nat.reduceMul, Nat.reduceDiv, Nat.reduceMod, Nat.reduceBEq, Int.reduceEq, Int.reduceLT, Int.reduceLE, Int.reduceNeg, Int.reduceToNat, reduceCtorEq]; with_reducible rfl)))); done)))
                  refine SW_loop (fun k s => ∃ (l : Nat) (rt : List T), k = n - l ∧ s = ⟨220, [(2, .t (tIntss next)), (3, .t (tBools ends)), (8, .bptr 0 0), (10, .sref 1), (15, .sref 2), (28, .bptr 3 0), (167, .sref 1), (168, .t (tInt out.length)), (169, .t (tInt i)), (30, .t (tInt r)), (31, .sref 4), (189, .t (tInts row)), (190, .t (tInt row.length)), (191, .t (tInt l))], [.box [.t (tInt 0), .t (tInt 0), .nil, .nil], .row 3 1 false (out.map tInt), .row 3 1 false (frs.map tNat), .box [.t (tInt base), .t (tInt tracks), .sref 5, .sref 6], .row 3 1 true rt, .row 22 1 true nt, .row 4 1 true et]⟩ ∧
                      l ≤ n ∧ rt = (row.take l).map fun t => tNat (clf frs t)) n ⟨_, Norm.headS (own := [(10, 3, 1, false), (15, 3, 1, false), (31, 3, 1, true)]) (keep := [2, 3, 8, 10, 15, 28, 167, 168, 169, 30, 31, 189, 190, 191]) (by simp (discharger := omega) only [go_sem, ↓reduceIte, reduceIte, Nat.reduceEqDiff, Nat.reduceLT, Nat.reduceLeDiff, Nat.reduceAdd, Nat.reduceSub, Nat.reduceMul, Nat.reduceDiv, Nat.reduceMod, Nat.reduceBEq, Int.reduceEq, Int.reduceLT, Int.reduceLE, Int.reduceNeg, Int.reduceToNat, reduceCtorEq]; with_reducible rfl) (by simp only [go_sem, ↓reduceIte, reduceIte, Nat.reduceEqDiff, Nat.reduceLT, Nat.reduceLeDiff, Nat.reduceAdd, Nat.reduceSub, Nat.reduceMul, Nat.reduceDiv, Nat.reduceMod, Nat.reduceBEq, Int.reduceEq, Int.reduceLT, Int.reduceLE, Int.reduceNeg, Int.reduceToNat, reduceCtorEq]; with_reducible rfl) (by simp only [go_sem, ↓reduceIte, reduceIte, Nat.reduceEqDiff, Nat.reduceLT, Nat.reduceLeDiff, Nat.reduceAdd, Nat.reduceSub, Nat.reduceMul, Nat.reduceDiv, Nat.reduceMod, Nat.reduceBEq, Int.reduceEq, Int.reduceLT, Int.reduceLE, Int.reduceNeg, Int.reduceToNat, reduceCtorEq]; with_reducible rfl) (by simp only [go_sem, ↓reduceIte, reduceIte, Nat.reduceEqDiff, Nat.reduceLT, Nat.reduceLeDiff, Nat.reduceAdd, Nat.reduceSub, Nat.reduceMul, Nat.reduceDiv, Nat.reduceMod, Nat.reduceBEq, Int.reduceEq, Int.reduceLT, Int.reduceLE, Int.reduceNeg, Int.reduceToNat, reduceCtorEq]; with_reducible rfl) (by simp only [go_sem, ↓reduceIte, reduceIte, Nat.reduceEqDiff, Nat.reduceLT, Nat.reduceLeDiff, Nat.reduceAdd, Nat.reduceSub, Nat.reduceMul, Nat.reduceDiv, Nat.reduceMod, Nat.reduceBEq, Int.reduceEq, Int.reduceLT, Int.reduceLE, Int.reduceNeg, Int.reduceToNat, reduceCtorEq]; with_reducible rfl), 0, _, rfl, rfl, Nat.zero_le _, rfl⟩ ?_
                  rintro k s ⟨l, rt, rfl, rfl, hl, hrt⟩
                  have hrtl : rt.length = l := by rw [hrt]; simp; omega
                  by_cases hlt2 : l < n
                  · obtain ⟨u, hul⟩ : ∃ u, row[l]! = u := ⟨_, rfl⟩
                    have hll : l < row.length := by omega
                    have hul2 : row[l]? = some u := by rw [← hul, getElem!_pos row l hll]; exact List.getElem?_eq_getElem hll
                    have hu : 0 ≤ u ∧ u < (m : Int) := hR.ok _ hrmem _ (List.mem_of_getElem? hul2)
                    obtain ⟨d, hd⟩ : ∃ d, frs[u.toNat]! = d := ⟨_, rfl⟩
                    have hd2 : clf frs u = d := by rw [← clf_at hu.1 (by omega), hd]
                    have htk2 : row.take (l + 1) = row.take l ++ [u] := by
                      rw [List.take_succ_eq_append_getElem hll]
                      rw [List.getElem?_eq_getElem hll] at hul2
                      rw [Option.some.inj hul2]
                    repeat' (first | (with_reducible first | refine SW_seq ?_ | refine SW_block ?_ | refine SThen_n ?_ | refine SThen_r ?_ | refine SThen_e ?_ | refine SIn_n ?_ | refine SIn_r ?_ | refine SIn_eq ?_ | refine SW_skip ?_ | refine SW_exit ?_ | refine SW_ret ?_ | refine SPost_r ?_) | ((with_reducible refine SIn_ne ?_ ?_); focus decide) | ((with_reducible refine SW_true ?_ ?_); focus exact rfl) | ((with_reducible refine SW_false ?_ ?_); focus exact rfl) | ((first | (with_reducible apply SW_run tt_ok hG htb) | ((with_reducible apply SW_draw rfl tt_ok hG htb); (focus kernel_rfl); (focus (simp only [List.range, List.range.loop, List.size_toArray, List.length_cons, List.length_nil, Nat.reduceAdd])))); focus ((repeat' (first | (with_reducible exact runX_nil) | (with_reducible exact runI_nil) | ((first | (with_reducible apply runX_cons) | (with_reducible apply runI_cons)); focus (simp (discharger := omega) only [go_sem, hul, hd, ↓reduceIte, reduceIte, Nat.reduceEqDiff, Nat.reduceLT, Nat.reduceLeDiff, Nat.reduceAdd, Nat.reduceSub, Nat.reduceMul, Nat.reduceDiv, Nat.reduceMod, Nat.reduceBEq, Int.reduceEq, Int.reduceLT, Int.reduceLE, Int.reduceNeg, Int.reduceToNat, reduceCtorEq]; with_reducible rfl)))); done)))
                    exact ⟨n - (l + 1), _, by omega, Norm.headS (own := [(10, 3, 1, false), (15, 3, 1, false), (31, 3, 1, true)]) (keep := [2, 3, 8, 10, 15, 28, 167, 168, 169, 30, 31, 189, 190, 191]) (by simp (discharger := omega) only [go_sem, ↓reduceIte, reduceIte, Nat.reduceEqDiff, Nat.reduceLT, Nat.reduceLeDiff, Nat.reduceAdd, Nat.reduceSub, Nat.reduceMul, Nat.reduceDiv, Nat.reduceMod, Nat.reduceBEq, Int.reduceEq, Int.reduceLT, Int.reduceLE, Int.reduceNeg, Int.reduceToNat, reduceCtorEq]; with_reducible rfl) (by simp only [go_sem, ↓reduceIte, reduceIte, Nat.reduceEqDiff, Nat.reduceLT, Nat.reduceLeDiff, Nat.reduceAdd, Nat.reduceSub, Nat.reduceMul, Nat.reduceDiv, Nat.reduceMod, Nat.reduceBEq, Int.reduceEq, Int.reduceLT, Int.reduceLE, Int.reduceNeg, Int.reduceToNat, reduceCtorEq]; with_reducible rfl) (by simp only [go_sem, ↓reduceIte, reduceIte, Nat.reduceEqDiff, Nat.reduceLT, Nat.reduceLeDiff, Nat.reduceAdd, Nat.reduceSub, Nat.reduceMul, Nat.reduceDiv, Nat.reduceMod, Nat.reduceBEq, Int.reduceEq, Int.reduceLT, Int.reduceLE, Int.reduceNeg, Int.reduceToNat, reduceCtorEq]; with_reducible rfl) (by simp only [go_sem, ↓reduceIte, reduceIte, Nat.reduceEqDiff, Nat.reduceLT, Nat.reduceLeDiff, Nat.reduceAdd, Nat.reduceSub, Nat.reduceMul, Nat.reduceDiv, Nat.reduceMod, Nat.reduceBEq, Int.reduceEq, Int.reduceLT, Int.reduceLE, Int.reduceNeg, Int.reduceToNat, reduceCtorEq]; with_reducible rfl) (by simp only [go_sem, ↓reduceIte, reduceIte, Nat.reduceEqDiff, Nat.reduceLT, Nat.reduceLeDiff, Nat.reduceAdd, Nat.reduceSub, Nat.reduceMul, Nat.reduceDiv, Nat.reduceMod, Nat.reduceBEq, Int.reduceEq, Int.reduceLT, Int.reduceLE, Int.reduceNeg, Int.reduceToNat, reduceCtorEq]; with_reducible rfl), l + 1, _, rfl, rfl, by omega, by rw [htk2, hrt]; simp [hd2, tNat]⟩
                  · obtain rfl : l = n := by omega
                    rw [List.take_of_length_le (by omega)] at hrt
                    repeat' (first | (with_reducible first | refine SW_seq ?_ | refine SW_block ?_ | refine SThen_n ?_ | refine SThen_r ?_ | refine SThen_e ?_ | refine SIn_n ?_ | refine SIn_r ?_ | refine SIn_eq ?_ | refine SW_skip ?_ | refine SW_exit ?_ | refine SW_ret ?_ | refine SPost_r ?_) | ((with_reducible refine SIn_ne ?_ ?_); focus decide) | ((with_reducible refine SW_true ?_ ?_); focus exact rfl) | ((with_reducible refine SW_false ?_ ?_); focus exact rfl) | ((first | (with_reducible apply SW_run tt_ok hG htb) | ((with_reducible apply SW_draw rfl tt_ok hG htb); (focus kernel_rfl); (focus (simp only [List.range, List.range.loop, List.size_toArray, List.length_cons, List.length_nil, Nat.reduceAdd])))); focus ((repeat' (first | (with_reducible exact runX_nil) | (with_reducible exact runI_nil) | ((first | (with_reducible apply runX_cons) | (with_reducible apply runI_cons)); focus (simp (discharger := omega) only [go_sem, hor, hend, ↓reduceIte, reduceIte, Nat.reduceEqDiff, Nat.reduceLT, Nat.reduceLeDiff, Nat.reduceAdd, Nat.reduceSub, Nat.reduceMul, Nat.reduceDiv, Nat.reduceMod, Nat.reduceBEq, Int.reduceEq, Int.reduceLT, Int.reduceLE, Int.reduceNeg, Int.reduceToNat, reduceCtorEq]; with_reducible rfl)))); done)))
                    have hlr : (leftRows next (clf frs) R).take (c + 1) = (leftRows next (clf frs) R).take c ++ [row.map fun t => (clf frs t : Int)] := by
                      rw [List.take_succ_eq_append_getElem (by omega)]
                      congr 1
                      simp [leftRows, hRq, hrow2]
                    have hle2 : (leftEnds ends R).take (c + 1) = (leftEnds ends R).take c ++ [endOf ends r] := by
                      rw [List.take_succ_eq_append_getElem (by omega)]
                      congr 1
                      simp [leftEnds, hRq]
                    exact ⟨m - (i + 1), _, by omega, Norm.headS (own := [(10, 3, 1, false), (15, 3, 1, false)]) (keep := [2, 3, 8, 10, 15, 28, 167, 168, 169]) (by simp (discharger := omega) only [go_sem, ↓reduceIte, reduceIte, Nat.reduceEqDiff, Nat.reduceLT, Nat.reduceLeDiff, Nat.reduceAdd, Nat.reduceSub, Nat.reduceMul, Nat.reduceDiv, Nat.reduceMod, Nat.reduceBEq, Int.reduceEq, Int.reduceLT, Int.reduceLE, Int.reduceNeg, Int.reduceToNat, reduceCtorEq]; with_reducible rfl) (by simp only [go_sem, ↓reduceIte, reduceIte, Nat.reduceEqDiff, Nat.reduceLT, Nat.reduceLeDiff, Nat.reduceAdd, Nat.reduceSub, Nat.reduceMul, Nat.reduceDiv, Nat.reduceMod, Nat.reduceBEq, Int.reduceEq, Int.reduceLT, Int.reduceLE, Int.reduceNeg, Int.reduceToNat, reduceCtorEq]; with_reducible rfl) (by simp only [go_sem, ↓reduceIte, reduceIte, Nat.reduceEqDiff, Nat.reduceLT, Nat.reduceLeDiff, Nat.reduceAdd, Nat.reduceSub, Nat.reduceMul, Nat.reduceDiv, Nat.reduceMod, Nat.reduceBEq, Int.reduceEq, Int.reduceLT, Int.reduceLE, Int.reduceNeg, Int.reduceToNat, reduceCtorEq]; with_reducible rfl) (by simp only [go_sem, ↓reduceIte, reduceIte, Nat.reduceEqDiff, Nat.reduceLT, Nat.reduceLeDiff, Nat.reduceAdd, Nat.reduceSub, Nat.reduceMul, Nat.reduceDiv, Nat.reduceMod, Nat.reduceBEq, Int.reduceEq, Int.reduceLT, Int.reduceLE, Int.reduceNeg, Int.reduceToNat, reduceCtorEq]; with_reducible rfl) (by simp only [go_sem, ↓reduceIte, reduceIte, Nat.reduceEqDiff, Nat.reduceLT, Nat.reduceLeDiff, Nat.reduceAdd, Nat.reduceSub, Nat.reduceMul, Nat.reduceDiv, Nat.reduceMod, Nat.reduceBEq, Int.reduceEq, Int.reduceLT, Int.reduceLE, Int.reduceNeg, Int.reduceToNat, reduceCtorEq]; with_reducible rfl), i + 1, c + 1, _, _, rfl, rfl, by rw [hlr, List.map_append, ← hnt, hrt]; simp [tInts, tNat, tInt], by rw [hle2, List.map_append, ← het]; rfl, by omega, by omega, by omega, fun s hs' => by
                      rw [htk] at hs'
                      rcases List.mem_append.1 hs' with h | h
                      · have := hall s h; omega
                      · simp at h; subst h; omega⟩
            · have hie : i = out.length := by omega
              subst hie
              rw [List.take_length] at hall
              have hqR : q = R.length := by
                rcases Nat.lt_or_ge q R.length with h | h
                · have := hall _ (hN.mem (List.getElem_mem h))
                  rw [hN.cl_of (List.getElem?_eq_getElem h)] at this; omega
                · omega
              rw [List.take_of_length_le (by omega)] at hnt het
              have hT : shrinkT base tracks n next ends = .tup [tAuto ⟨base, tracks, leftRows next (clf frs) R, leftEnds ends R⟩, .bool true] := by
                unfold shrinkT; rw [hre, if_pos (by simp only [hRl]; omega)]
              rw [hT]
              repeat' (first | (with_reducible first | refine SW_seq ?_ | refine SW_block ?_ | refine SThen_n ?_ | refine SThen_r ?_ | refine SThen_e ?_ | refine SIn_n ?_ | refine SIn_r ?_ | refine SIn_eq ?_ | refine SW_skip ?_ | refine SW_exit ?_ | refine SW_ret ?_ | refine SPost_r ?_) | ((with_reducible refine SIn_ne ?_ ?_); focus decide) | ((with_reducible refine SW_true ?_ ?_); focus exact rfl) | ((with_reducible refine SW_false ?_ ?_); focus exact rfl) | ((first | (with_reducible apply SW_run tt_ok hG htb) | ((with_reducible apply SW_draw rfl tt_ok hG htb); (focus kernel_rfl); (focus (simp only [List.range, List.range.loop, List.size_toArray, List.length_cons, List.length_nil, Nat.reduceAdd])))); focus ((repeat' (first | (with_reducible exact runX_nil) | (with_reducible exact runI_nil) | ((first | (with_reducible apply runX_cons) | (with_reducible apply runI_cons)); focus (simp (discharger := omega) only [go_sem, ↓reduceIte, reduceIte, Nat.reduceEqDiff, Nat.reduceLT, Nat.reduceLeDiff, Nat.reduceAdd, Nat.reduceSub, Nat.reduceMul, Nat.reduceDiv, Nat.reduceMod, Nat.reduceBEq, Int.reduceEq, Int.reduceLT, Int.reduceLE, Int.reduceNeg, Int.reduceToNat, reduceCtorEq]; with_reducible rfl)))); done)))
              subst hnt het
              exact (by simp (discharger := omega) only [go_sem, tAuto, ↓reduceIte, reduceIte, Nat.reduceEqDiff, Nat.reduceLT, Nat.reduceLeDiff, Nat.reduceAdd, Nat.reduceSub, Nat.reduceMul, Nat.reduceDiv, Nat.reduceMod, Nat.reduceBEq, Int.reduceEq, Int.reduceLT, Int.reduceLE, Int.reduceNeg, Int.reduceToNat, reduceCtorEq])
          · repeat' (first | (with_reducible first | refine SW_seq ?_ | refine SW_block ?_ | refine SThen_n ?_ | refine SThen_r ?_ | refine SThen_e ?_ | refine SIn_n ?_ | refine SIn_r ?_ | refine SIn_eq ?_ | refine SW_skip ?_ | refine SW_exit ?_ | refine SW_ret ?_ | refine SPost_r ?_) | ((with_reducible refine SIn_ne ?_ ?_); focus decide) | ((with_reducible refine SW_true ?_ ?_); focus exact rfl) | ((with_reducible refine SW_false ?_ ?_); focus exact rfl) | ((first | (with_reducible apply SW_run tt_ok hG htb) | ((with_reducible apply SW_draw rfl tt_ok hG htb); (focus kernel_rfl); (focus (simp only [List.range, List.range.loop, List.size_toArray, List.length_cons, List.length_nil, Nat.reduceAdd])))); focus ((repeat' (first | (with_reducible exact runX_nil) | (with_reducible exact runI_nil) | ((first | (with_reducible apply runX_cons) | (with_reducible apply runI_cons)); focus (simp (discharger := omega) only [go_sem, hel, hRm, ↓reduceIte, reduceIte, Nat.reduceEqDiff, Nat.reduceLT, Nat.reduceLeDiff, Nat.reduceAdd, Nat.reduceSub, Nat.reduceMul, Nat.reduceDiv, Nat.reduceMod, Nat.reduceBEq, Int.reduceEq, Int.reduceLT, Int.reduceLE, Int.reduceNeg, Int.reduceToNat, reduceCtorEq]; with_reducible rfl)))); done)))
            exact ⟨m + 1 - R.length, _, by omega, Norm.headS (own := [(10, 3, 1, false), (15, 3, 1, false)]) (keep := [0, 1, 2, 3, 8, 10, 15, 18]) (by simp (discharger := omega) only [go_sem, ↓reduceIte, reduceIte, Nat.reduceEqDiff, Nat.reduceLT, Nat.reduceLeDiff, Nat.reduceAdd, Nat.reduceSub, Nat.reduceMul, Nat.reduceDiv, Nat.reduceMod, Nat.reduceBEq, Int.reduceEq, Int.reduceLT, Int.reduceLE, Int.reduceNeg, Int.reduceToNat, reduceCtorEq]; with_reducible rfl) (by simp only [go_sem, ↓reduceIte, reduceIte, Nat.reduceEqDiff, Nat.reduceLT, Nat.reduceLeDiff, Nat.reduceAdd, Nat.reduceSub, Nat.reduceMul, Nat.reduceDiv, Nat.reduceMod, Nat.reduceBEq, Int.reduceEq, Int.reduceLT, Int.reduceLE, Int.reduceNeg, Int.reduceToNat, reduceCtorEq]; with_reducible rfl) (by simp only [go_sem, ↓reduceIte, reduceIte, Nat.reduceEqDiff, Nat.reduceLT, Nat.reduceLeDiff, Nat.reduceAdd, Nat.reduceSub, Nat.reduceMul, Nat.reduceDiv, Nat.reduceMod, Nat.reduceBEq, Int.reduceEq, Int.reduceLT, Int.reduceLE, Int.reduceNeg, Int.reduceToNat, reduceCtorEq]; with_reducible rfl) (by simp only [go_sem, ↓reduceIte, reduceIte, Nat.reduceEqDiff, Nat.reduceLT, Nat.reduceLeDiff, Nat.reduceAdd, Nat.reduceSub, Nat.reduceMul, Nat.reduceDiv, Nat.reduceMod, Nat.reduceBEq, Int.reduceEq, Int.reduceLT, Int.reduceLE, Int.reduceNeg, Int.reduceToNat, reduceCtorEq]; with_reducible rfl) (by simp only [go_sem, ↓reduceIte, reduceIte, Nat.reduceEqDiff, Nat.reduceLT, Nat.reduceLeDiff, Nat.reduceAdd, Nat.reduceSub, Nat.reduceMul, Nat.reduceDiv, Nat.reduceMod, Nat.reduceBEq, Int.reduceEq, Int.reduceLT, Int.reduceLE, Int.reduceNeg, Int.reduceToNat, reduceCtorEq]; with_reducible rfl), R.length, frs, rfl, rfl, hfl, hbound, hinv.step hbf hN hlook, fun s hs => by have := hN.lt hs; omega, fun s t hs ht e => hlook.ofEnds s t hs ht ((hN.eq_iff hs ht).1 e)⟩
theorem Shrink_snd (base tracks : Int) {n m : Nat} {next : List (List Int)} {ends : List Bool} (hR : Rows0 n m next) (hm : 0 < m) (hm2 : m ≤ 65536) (he : ends.length = m) (hn : n ≤ 1000) :
    Snd Tryd.prog G 96 [tInt base, tInt tracks, tIntss next, tBools ends] (shrinkT base tracks n next ends) :=
  Shrink_big hG base tracks hR hm (by omega) (Nat.le_trans (leastRE_spec (ends := ends) hR hm).2 hm2) he hn
end
end Go.Proofs.YtfhncnhkeodngaaDoor
namespace Go.Proofs.YtfhncnhkeodngaaDoor
open Go.RowKit

section
variable {G : World → Prop} (hG : Lasting G)
include hG
end
end Go.Proofs.YtfhncnhkeodngaaDoor
namespace Go.Proofs.YtfhncnhkeodngaaDoor
open Go.RowKit

section
variable {σ : Type} {f : σ → T}
def keyEntries (f : σ → T) (l : List σ) : List (T × T) := l.zipIdx.map fun p => (f p.1, tNat p.2)
theorem keyEntries_length (l : List σ) : (keyEntries f l).length = l.length := by simp [keyEntries]
theorem keyEntries_mem {l : List σ} {p : T × T} (h : p ∈ keyEntries f l) : ∃ r ∈ l, p.1 = f r := by
  obtain ⟨q, hq, rfl⟩ := List.mem_map.1 h
  have := (List.mem_zipIdx_iff_getElem?.1 (show (q.1, q.2) ∈ l.zipIdx from hq))
  exact ⟨q.1, List.mem_of_getElem? this, rfl⟩
theorem keyEntries_none (hf : ∀ p q, f p = f q → p = q) {l : List σ} {s : σ} (h : s ∉ l) : ∀ p ∈ keyEntries f l, p.1 ≠ f s := fun p hp e => by
  obtain ⟨r, hr, e2⟩ := keyEntries_mem hp
  rw [e2] at e
  exact h (hf _ _ e ▸ hr)
theorem keyEntries_get_none (hf : ∀ p q, f p = f q → p = q) {l : List σ} {s : σ} (h : s ∉ l) : mapGet (keyEntries f l) (f s) = none := mapGet_none (keyEntries_none hf h)
theorem keyEntries_set (hf : ∀ p q, f p = f q → p = q) {l : List σ} {s : σ} (h : s ∉ l) : mapSet (keyEntries f l) (f s) (tNat l.length) = keyEntries f (l ++ [s]) := by
  rw [mapSet_none (keyEntries_none hf h)]; simp [keyEntries, List.zipIdx_append]
theorem keyEntries_get_some (hf : ∀ p q, f p = f q → p = q) {l : List σ} {s : σ} {k : Nat} (hd : l.Nodup) (hk : l[k]? = some s) : mapGet (keyEntries f l) (f s) = some (tNat k) := by
  refine mapGet_some (j := k) (p := (f s, tNat k)) ?_ ?_ rfl
  · rw [List.pairwise_iff_getElem]
    intro i j hi hj hij e
    simp only [keyEntries, List.getElem_map, List.getElem_zipIdx] at e
    rw [keyEntries_length] at hi hj
    have := nodup_inj hd hi hj (hf _ _ e)
    omega
  · simp [keyEntries, List.getElem?_map, List.getElem?_zipIdx, hk]
theorem nodup_snoc {l : List σ} {s : σ} (h : l.Nodup) (hs : s ∉ l) : (l ++ [s]).Nodup := by
  rw [List.nodup_append]
  exact ⟨h, by simp, fun c hc d hd => by simp at hd; subst hd; rintro rfl; exact hs hc⟩
end
/-- What a round over letters has met: numbers of what the letters lead to. -/
structure Met1 {σ : Type} (δ : σ → Nat → σ) (s : σ) (met met' : List σ) (q : List Nat) (l : Nat) : Prop where
  pre : met <+: met'
  len : q.length = l
  at' : ∀ j, j < l → ∃ k : Nat, q[j]? = some k ∧ met'[k]? = some (δ s j)
section
variable {σ : Type} {δ : σ → Nat → σ} {s : σ} {met met' : List σ} {q : List Nat} {l : Nat}
theorem Met1.start : Met1 δ s met met [] 0 := ⟨List.prefix_refl _, rfl, fun j hj => by omega⟩
theorem Met1.old (h : Met1 δ s met met' q l) {k : Nat} (hk : met'[k]? = some (δ s l)) : Met1 δ s met met' (q ++ [k]) (l + 1) :=
  ⟨h.pre, by simp [h.len], fun j hj => by
    by_cases e : j = l
    · subst e; exact ⟨k, by rw [List.getElem?_append_right (by rw [h.len]; exact Nat.le_refl _), h.len, Nat.sub_self]; rfl, hk⟩
    · obtain ⟨k', h1, h2⟩ := h.at' j (by omega)
      exact ⟨k', by rw [List.getElem?_append_left (by rw [h.len]; omega)]; exact h1, h2⟩⟩
theorem Met1.new (h : Met1 δ s met met' q l) : Met1 δ s met (met' ++ [δ s l]) (q ++ [met'.length]) (l + 1) :=
  ⟨h.pre.trans (List.prefix_append _ _), by simp [h.len], fun j hj => by
    by_cases e : j = l
    · subst e; exact ⟨met'.length, by rw [List.getElem?_append_right (by rw [h.len]; exact Nat.le_refl _), h.len, Nat.sub_self]; rfl, by simp⟩
    · obtain ⟨k', h1, h2⟩ := h.at' j (by omega)
      exact ⟨k', by rw [List.getElem?_append_left (by rw [h.len]; omega)]; exact h1, by rw [List.getElem?_append_left (List.getElem?_eq_some_iff.1 h2).1]; exact h2⟩⟩
theorem Met1.fin {rows : List (List Int)} {n i : Nat} (h : Met1 δ s met met' q n) (hex : Expl δ n met rows) (hi : rows.length = i) (hs : met[i]? = some s) : Expl δ n met' (rows ++ [q.map fun (k : Nat) => (k : Int)]) :=
  (hex.grow h.pre).snoc (by simpa using h.len) (s := s) (by rw [hi]; exact pre_get h.pre hs) fun j hj => by
    obtain ⟨k, h1, h2⟩ := h.at' j hj
    exact ⟨k, by rw [List.getElem?_map, h1]; rfl, h2⟩
theorem Met1.take (h : Met1 δ s met met' q l) {i : Nat} (hs : met[i]? = some s) : met'.take (i + 1) = met.take i ++ [s] := by
  have h1 := pre_get h.pre hs
  have hlt := (List.getElem?_eq_some_iff.1 h1).1
  have hlt0 := (List.getElem?_eq_some_iff.1 hs).1
  rw [List.take_succ_eq_append_getElem hlt]
  rw [List.getElem?_eq_getElem hlt] at h1
  rw [Option.some.inj h1]
  obtain ⟨t, rfl⟩ := h.pre
  rw [List.take_append_of_le_length (by omega)]
end
end Go.Proofs.YtfhncnhkeodngaaDoor
namespace Go.Proofs.YtfhncnhkeodngaaDoor
open Go.RowKit

def tPair (p : Int × Int) : T := .agg [.int .i64 p.1, .int .i64 p.2]
theorem tPair_inj {p q : Int × Int} (h : tPair p = tPair q) : p = q := by
  simp only [tPair, T.agg.injEq, List.cons.injEq, T.int.injEq, true_and, and_true] at h
  exact Prod.ext h.1 h.2
section
variable {G : World → Prop} (hG : Lasting G)
include hG
end
end Go.Proofs.YtfhncnhkeodngaaDoor
namespace Go.Proofs.YtfhncnhkeodngaaDoor
open Go.RowKit

section
variable {G : World → Prop} (hG : Lasting G)
include hG
end
end Go.Proofs.YtfhncnhkeodngaaDoor
namespace Go.Proofs.YtfhncnhkeodngaaDoor

/-- The language of an automaton. -/
def lng (a : GAuto) : List Nat → Bool := lang a.next a.ends 0
/-- It is the least automaton of a language. -/
structure IsLeast (a : GAuto) (n : Nat) (base tracks : Int) (L : List Nat → Bool) : Prop where
  base : a.base = base
  tracks : a.tracks = tracks
  least : Least n a.next a.ends L
theorem IsLeast.unique {a b : GAuto} {n : Nat} {base tracks : Int} {L L' : List Nat → Bool} (h : IsLeast a n base tracks L) (h' : IsLeast b n base tracks L') (hL : ∀ w, Ltr n w → L w = L' w) : a = b := by
  have := (h.least.lang_congr hL).unique h'.least
  cases a; cases b
  simp only [GAuto.mk.injEq]
  exact ⟨h.base.trans h'.base.symm, h.tracks.trans h'.tracks.symm, this.1, this.2⟩
theorem Least.length_pos {n : Nat} {N : List (List Int)} {E : List Bool} {L : List Nat → Bool} (h : Least n N E L) : 0 < N.length := h.canon.m0
theorem Least.not {n : Nat} {N : List (List Int)} {E : List Bool} {L : List Nat → Bool} (h : Least n N E L) : Least n N (E.map (!·)) fun w => !L w := by
  have key : ∀ k, k < N.length → (E.map (!·)).getD k false = !E.getD k false := fun k hk => by
    have := h.len
    rw [getD_lt (by simp; omega), getD_lt (by omega)]; simp
  have hrun : ∀ (w : List Nat) (s : Nat), s < N.length → Ltr n w → runN (fun k l => ((N.getD k []).getD l 0).toNat) s w < N.length := by
    intro w
    induction w with
    | nil => intro s hs _; exact hs
    | cons l w ih => intro s hs hw; exact ih _ (h.canon.lt s l hs (hw l List.mem_cons_self)) fun x hx => hw x (List.mem_cons_of_mem _ hx)
  refine ⟨by simp [h.len], h.row, h.pos, h.canon.m0, h.canon.lt, fun w hw => ?_, h.canon.rg, h.canon.reach, fun s t hs ht hh => h.canon.red s t hs ht fun w hw => ?_⟩
  · rw [key _ (hrun w 0 h.canon.m0 hw)]; exact congrArg _ (h.canon.lang w hw)
  · have := hh w hw
    rw [key _ (hrun w s hs hw), key _ (hrun w t ht hw)] at this
    simpa using this
/-- One state alone. -/
theorem least_const (n : Nat) (c : Bool) : Least n [List.replicate n 0] [c] fun _ => c := by
  have hd : ∀ s l : Nat, ((([List.replicate n (0 : Int)]).getD s []).getD l 0).toNat = 0 := fun s l => by
    match s with
    | 0 => simp [List.getD_eq_getElem?_getD, List.getElem?_replicate]; split <;> simp
    | s + 1 => simp
  have hr : ∀ w : List Nat, runN (fun k l => ((([List.replicate n (0 : Int)]).getD k []).getD l 0).toNat) 0 w = 0 := fun w => by
    induction w with
    | nil => rfl
    | cons l w ih => show runN _ ((([List.replicate n (0 : Int)]).getD 0 []).getD l 0).toNat w = 0; rw [hd]; exact ih
  refine ⟨rfl, fun r hr => by simp at hr; subst hr; simp, fun r hr x hx => by simp at hr; subst hr; simp at hx; omega, by simp, fun s l hs hl => by simp only [hd]; simp, fun w hw => by rw [hr]; rfl, fun s l hs hl t h0 ht => by simp only [hd] at ht; omega, fun t h0 ht => by simp at ht; omega, fun s t hs ht _ => by simp at hs ht; omega⟩
/-- A least automaton takes the words of its language. -/
theorem IsLeast.lng {a : GAuto} {n : Nat} {base tracks : Int} {L : List Nat → Bool} (h : IsLeast a n base tracks L) {w : List Nat} (hw : Ltr n w) : Go.Proofs.YtfhncnhkeodngaaDoor.lng a w = L w := h.least.takes hw
end Go.Proofs.YtfhncnhkeodngaaDoor
namespace Go.Proofs.YtfhncnhkeodngaaDoor

def walkOk (c : Nat → Nat → Bool) : Nat → List Nat → Bool
  | _, [] => true
  | s, l :: w => !c s l && walkOk c l w
def chain (c : Nat → Nat → Bool) : List Nat → Bool
  | [] => true
  | x :: w => walkOk c x w
theorem walkOk_congr {c c' : Nat → Nat → Bool} {n : Nat} (h : ∀ s l, s < n → l < n → c s l = c' s l) : ∀ (w : List Nat) (s : Nat), s < n → Ltr n w → walkOk c s w = walkOk c' s w
  | [], _, _, _ => rfl
  | l :: w, s, hs, hw => by
    have hl := hw l List.mem_cons_self
    show (!c s l && walkOk c l w) = (!c' s l && walkOk c' l w)
    rw [h s l hs hl, walkOk_congr h w l hl fun x hx => hw x (List.mem_cons_of_mem _ hx)]
theorem chain_congr {c c' : Nat → Nat → Bool} {n : Nat} (h : ∀ s l, s < n → l < n → c s l = c' s l) {w : List Nat} (hw : Ltr n w) : chain c w = chain c' w := by
  cases w with
  | nil => rfl
  | cons x w => exact walkOk_congr h w x (hw x List.mem_cons_self) fun y hy => hw y (List.mem_cons_of_mem _ hy)
theorem walkOk_free {c : Nat → Nat → Bool} (h : ∀ s l, c s l = false) : ∀ (w : List Nat) (s : Nat), walkOk c s w = true
  | [], _ => rfl
  | l :: w, s => by rw [walkOk, h, walkOk_free h w l]; rfl
theorem chain_free {c : Nat → Nat → Bool} (h : ∀ s l, c s l = false) (w : List Nat) : chain c w = true := by
  cases w with
  | nil => rfl
  | cons x w => exact walkOk_free h w x

theorem map_range_take {α : Type} (f : Nat → α) {m k : Nat} (h : k < m) : ((List.range m).map f).take (k + 1) = ((List.range m).map f).take k ++ [f k] := by
  rw [List.take_succ_eq_append_getElem (by simpa using h)]; simp
/-- Rows out of a function. -/
def tabN (m n : Nat) (d : Nat → Nat → Nat) : List (List Int) := (List.range m).map fun s => (List.range n).map fun l => (d s l : Int)
def tabE (m : Nat) (e : Nat → Bool) : List Bool := (List.range m).map e
theorem tab_rows {m n : Nat} {d : Nat → Nat → Nat} (h : ∀ s l, s < m → l < n → d s l < m) : Rows0 n m (tabN m n d) := by
  refine ⟨by simp [tabN], fun r hr => ?_, fun r hr x hx => ?_⟩
  · obtain ⟨s, _, rfl⟩ := List.mem_map.1 hr
    simp
  · obtain ⟨s, hs, rfl⟩ := List.mem_map.1 hr
    obtain ⟨l, hl, rfl⟩ := List.mem_map.1 hx
    have := h s l (List.mem_range.1 hs) (List.mem_range.1 hl)
    omega
theorem tab_nx {m n : Nat} {d : Nat → Nat → Nat} {s l : Nat} (hs : s < m) (hl : l < n) : nx (tabN m n d) (s : Int) l = (d s l : Nat) := by
  unfold nx rowOf tabN
  have e : ((List.range m).map fun s => (List.range n).map fun l => (d s l : Int)).getD s [] = (List.range n).map fun l => (d s l : Int) := by
    rw [getD_lt (by simpa using hs)]; simp
  rw [Int.toNat_natCast, e, getD_lt (by simpa using hl)]
  simp
theorem tab_run {m n : Nat} {d : Nat → Nat → Nat} (h : ∀ s l, s < m → l < n → d s l < m) : ∀ (w : List Nat) (s : Nat), s < m → Ltr n w → runS (tabN m n d) (s : Int) w = (runN d s w : Nat) ∧ runN d s w < m
  | [], s, hs, _ => ⟨rfl, hs⟩
  | l :: w, s, hs, hw => by
    have hl := hw l List.mem_cons_self
    show runS (tabN m n d) (nx (tabN m n d) (s : Int) l) w = (runN d (d s l) w : Nat) ∧ runN d (d s l) w < m
    rw [tab_nx hs hl]
    exact tab_run h w _ (h s l hs hl) fun x hx => hw x (List.mem_cons_of_mem _ hx)
theorem tab_lang {m n : Nat} {d : Nat → Nat → Nat} {e : Nat → Bool} (h : ∀ s l, s < m → l < n → d s l < m) {s : Nat} (hs : s < m) {w : List Nat} (hw : Ltr n w) : lang (tabN m n d) (tabE m e) (s : Int) w = e (runN d s w) := by
  obtain ⟨h1, h2⟩ := tab_run h w s hs hw
  unfold lang endOf
  rw [h1, Int.toNat_natCast, getD_lt (by simpa [tabE] using h2)]
  simp [tabE]

/-- The program's machine: a state is the last letter; one more is where it went wrong. -/
def rightD (n : Nat) (c : Nat → Nat → Bool) (s l : Nat) : Nat := if s = n ∨ c s l = true then n else l
theorem rightD_lt {n : Nat} {c : Nat → Nat → Bool} (s l : Nat) (_hs : s < n + 1) (hl : l < n) : rightD n c s l < n + 1 := by unfold rightD; split <;> omega
theorem rightD_dead {n : Nat} {c : Nat → Nat → Bool} : ∀ w : List Nat, runN (rightD n c) n w = n
  | [] => rfl
  | l :: w => by show runN _ (rightD n c n l) w = n; rw [show rightD n c n l = n by simp [rightD]]; exact rightD_dead w
theorem rightD_walk {n : Nat} {c : Nat → Nat → Bool} : ∀ (w : List Nat) (s : Nat), s < n → Ltr n w → decide (runN (rightD n c) s w < n) = walkOk c s w
  | [], s, hs, _ => by simp [runN, walkOk, hs]
  | l :: w, s, hs, hw => by
    have hl := hw l List.mem_cons_self
    show decide (runN _ (rightD n c s l) w < n) = (!c s l && walkOk c l w)
    cases hc : c s l with
    | true =>
      rw [show rightD n c s l = n by simp [rightD, hc], rightD_dead]; simp
    | false =>
      rw [show rightD n c s l = l by rw [rightD, if_neg]; simp [hc]; omega, rightD_walk w l hl fun x hx => hw x (List.mem_cons_of_mem _ hx)]; simp
/-- The reference's: a state for none, for each last letter, and for what went wrong. -/
def allD (n : Nat) (c : Nat → Nat → Bool) (s l : Nat) : Nat := if s = n + 1 ∨ (0 < s ∧ c (s - 1) l = true) then n + 1 else l + 1
theorem allD_lt {n : Nat} {c : Nat → Nat → Bool} (s l : Nat) (_hs : s < n + 2) (hl : l < n) : allD n c s l < n + 2 := by unfold allD; split <;> omega
theorem allD_dead {n : Nat} {c : Nat → Nat → Bool} : ∀ w : List Nat, runN (allD n c) (n + 1) w = n + 1
  | [] => rfl
  | l :: w => by show runN _ (allD n c (n + 1) l) w = n + 1; rw [show allD n c (n + 1) l = n + 1 by simp [allD]]; exact allD_dead w
theorem allD_walk {n : Nat} {c : Nat → Nat → Bool} : ∀ (w : List Nat) (s : Nat), s < n → Ltr n w → decide (runN (allD n c) (s + 1) w ≤ n) = walkOk c s w
  | [], s, hs, _ => decide_eq_true (show s + 1 ≤ n from hs)
  | l :: w, s, hs, hw => by
    have hl := hw l List.mem_cons_self
    show decide (runN _ (allD n c (s + 1) l) w ≤ n) = (!c s l && walkOk c l w)
    cases hc : c s l with
    | true =>
      rw [show allD n c (s + 1) l = n + 1 by simp [allD, hc], allD_dead]; simp
    | false =>
      rw [show allD n c (s + 1) l = l + 1 by rw [allD, if_neg]; simp [hc]; omega, allD_walk w l hl fun x hx => hw x (List.mem_cons_of_mem _ hx)]; simp
theorem allD_chain {n : Nat} {c : Nat → Nat → Bool} {w : List Nat} (hw : Ltr n w) : decide (runN (allD n c) 0 w ≤ n) = chain c w := by
  cases w with
  | nil => simp [runN, chain]
  | cons x w =>
    have hx := hw x List.mem_cons_self
    show decide (runN _ (allD n c 0 x) w ≤ n) = walkOk c x w
    rw [show allD n c 0 x = x + 1 by simp [allD]]
    exact allD_walk w x hx fun y hy => hw y (List.mem_cons_of_mem _ hy)

/-- Two letters that have a digit 1 on the same track, in base Fib. -/
def clash (base : Int) (t s l : Nat) : Bool := base == 1 && (List.range t).any fun k => digitAt (radix base) t (s : Int) k == 1 && digitAt (radix base) t (l : Int) k == 1
theorem clash_chk : ((List.range 6).all fun t => (List.range (2 ^ t)).all fun s => (List.range (2 ^ t)).all fun l => ((s &&& l) != 0) == clash 1 t s l) = true := by kernel_rfl
theorem clash_and {t s l : Nat} (ht : t ≤ 5) (hs : s < 2 ^ t) (hl : l < 2 ^ t) : ((s &&& l) != 0) = clash 1 t s l := by
  have h := clash_chk
  simp only [List.all_eq_true, List.mem_range, beq_iff_eq] at h
  exact h t (by omega) s hs l hl
theorem clash_other {base : Int} (h : base ≠ 1) (t s l : Nat) : clash base t s l = false := by simp [clash, h]

/-- A word whose digits are right on each track. -/
def rightWd (base : Int) (t : Nat) (w : List Nat) : Bool := chain (clash base t) w

def rightNext (n : Nat) : List (List Int) := tabN (n + 1) n (rightD n fun s l => s &&& l != 0)
def rightEnds (n : Nat) : List Bool := tabE (n + 1) fun s => decide (s < n)
theorem right_rows (n : Nat) : Rows0 n (n + 1) (rightNext n) := tab_rows rightD_lt
theorem right_lang {t n : Nat} (ht : t ≤ 5) (hn : n = 2 ^ t) {w : List Nat} (hw : Ltr n w) : lang (rightNext n) (rightEnds n) 0 w = rightWd 1 t w := by
  have hp : 0 < n := by rw [hn]; exact Nat.two_pow_pos t
  have h := tab_lang (e := fun s => decide (s < n)) (rightD_lt (n := n) (c := fun s l => s &&& l != 0)) (s := 0) (by omega) hw
  refine h.trans ?_
  show decide (runN _ 0 w < n) = _
  rw [rightD_walk w 0 hp hw]
  unfold rightWd
  rw [chain_congr (c' := fun s l => s &&& l != 0) (n := n) (fun s l hs hl => (clash_and ht (by omega) (by omega)).symm) hw]
  cases w with
  | nil => rfl
  | cons x w => show (!(0 &&& x != 0) && walkOk _ x w) = walkOk _ x w; simp
noncomputable def allRE (base : Int) (n : Nat) : List (List Int) × List Bool := if base = 1 then leastRE n (rightNext n) (rightEnds n) else ([List.replicate n 0], [true])
noncomputable def allA (base tracks : Int) : GAuto := if manyErr base tracks = 0 then ⟨base, tracks, (allRE base (manyOf base tracks).toNat).1, (allRE base (manyOf base tracks).toNat).2⟩ else GAuto.zero
theorem powW_two (t : Nat) : powW 2 t = ((2 ^ t : Nat) : Int) := by
  induction t with
  | zero => rfl
  | succ t ih => show powW 2 t * 2 = _; rw [ih]; rw [Nat.pow_succ]; omega
/-- All right words: what it is. -/
theorem allA_isLeast {base : Int} {t n : Nat} (h0 : manyErr base t = 0) (hn : manyOf base t = n) : IsLeast (allA base t) n base t (rightWd base t) ∧ (allA base t).next.length ≤ 37 := by
  obtain ⟨r0, t0, t5, p36, hm⟩ := many_ok h0
  have hn36 : n ≤ 36 := by omega
  unfold allA
  rw [if_pos h0, hn, Int.toNat_natCast]
  by_cases h1 : base = 1
  · subst h1
    have e : n = 2 ^ t := by
      have h2 : radix 1 = 2 := rfl
      rw [h2, powW_two, Int.toNat_natCast] at hm; omega
    have h := leastRE_spec (ends := rightEnds n) (right_rows n) (by omega)
    unfold allRE
    rw [if_pos rfl]
    exact ⟨⟨rfl, rfl, h.1.lang_congr fun w hw => right_lang (by omega) e hw⟩, by have := h.2; simp only; omega⟩
  · unfold allRE
    rw [if_neg h1]
    exact ⟨⟨rfl, rfl, (least_const n true).lang_congr fun w _ => (chain_free (clash_other h1 t) w).symm⟩, by simp⟩
theorem many_nat {base tracks : Int} (h0 : manyErr base tracks = 0) : ∃ t n : Nat, tracks = t ∧ manyOf base t = n ∧ t ≤ 5 ∧ 0 < n ∧ n ≤ 36 := by
  obtain ⟨r0, t0, t5, p36, hm⟩ := many_ok h0
  obtain ⟨t, rfl⟩ := Int.eq_ofNat_of_zero_le t0
  have := powW_pos (radix_two r0).1 (t : Int).toNat
  exact ⟨t, (manyOf base t).toNat, rfl, by omega, by omega, by omega, by omega⟩
theorem allA_good {base : Int} {t n : Nat} (h0 : manyErr base t = 0) (hn : manyOf base t = n) : Good (allA base t) n (allA base t).next.length := by
  obtain ⟨h, h37⟩ := allA_isLeast h0 hn
  obtain ⟨r0, t0, t5, p36, hm⟩ := many_ok h0
  have hp := powW_pos (radix_two r0).1 (t : Int).toNat
  exact ⟨by rw [h.base, h.tracks]; exact h0, by rw [h.base, h.tracks]; exact hn, by omega, by omega, h.least.length_pos, by omega, h.least.len, h.least.rows⟩
/-- The reference's rows. -/
def allNext (base : Int) (t n : Nat) : List (List Int) := tabN (n + 2) n (allD n (clash base t))
def allEnds (n : Nat) : List Bool := tabE (n + 2) fun s => decide (s ≤ n)
theorem all_rows (base : Int) (t n : Nat) : Rows0 n (n + 2) (allNext base t n) := tab_rows allD_lt
theorem all_lang (base : Int) (t : Nat) {n : Nat} {w : List Nat} (hw : Ltr n w) : lang (allNext base t n) (allEnds n) 0 w = rightWd base t w :=
  (tab_lang (e := fun s => decide (s ≤ n)) (allD_lt (n := n) (c := clash base t)) (s := 0) (by omega) hw).trans (allD_chain hw)
theorem all_least {base : Int} {t n : Nat} (h0 : manyErr base t = 0) (hn : manyOf base t = n) : leastRE n (allNext base t n) (allEnds n) = ((allA base t).next, (allA base t).ends) :=
  leastRE_eq (all_rows base t n) (by omega) ((allA_isLeast h0 hn).1.least.lang_congr fun _ hw => (all_lang base t hw).symm)
end Go.Proofs.YtfhncnhkeodngaaDoor
namespace Go.Proofs.YtfhncnhkeodngaaDoor
open Go.RowKit

theorem and64' {s l : Nat} (hs : s < 1000) (hl : l < 1000) : IntKind.i64.wrap ((BitVec.ofInt 64 (s : Int) &&& BitVec.ofInt 64 (l : Int)).toNat : Int) = ((s &&& l : Nat) : Int) := by
  have h1 : (BitVec.ofInt 64 (s : Int) &&& BitVec.ofInt 64 (l : Int)).toNat = s &&& l := by
    rw [BitVec.ofInt_natCast, BitVec.ofInt_natCast, BitVec.toNat_and, BitVec.toNat_ofNat, BitVec.toNat_ofNat, Nat.mod_eq_of_lt (by omega), Nat.mod_eq_of_lt (by omega)]
  rw [h1]
  have : s &&& l ≤ s := Nat.and_le_left
  exact wrap_i64 _ (by omega)
/-- The same, as the walk writes it. -/
theorem and64 {s l : Nat} (hs : s < 1000) (hl : l < 1000) : IntKind.i64.wrap ((@BitVec.toNat 64 (@HAnd.hAnd (BitVec 64) (BitVec 64) (BitVec 64) (@instHAndOfAndOp (BitVec IntKind.i64.bits) (@BitVec.instAndOp IntKind.i64.bits)) (BitVec.ofInt 64 (s : Int)) (BitVec.ofInt 64 (l : Int))) : Nat) : Int) = ((s &&& l : Nat) : Int) := and64' hs hl
section
variable {G : World → Prop} (hG : Lasting G)
include hG
set_option maxHeartbeats 4000000 in
set_option maxRecDepth 100000 in
theorem All_snd (base tracks : Int) : Snd Tryd.prog G 95 [tInt base, tInt tracks] (.tup [tAuto (allA base tracks), tErr (manyErr base tracks)]) := by
  have c1 := Many_snd hG base tracks
  refine snd_of_body (n := 81) (tm := [(0, .t (tInt base)), (1, .t (tInt tracks))]) (rs := [.cell 4 51, .tmp 5]) tt_ok Tryd.func95 rfl rfl rfl rfl rfl ?_
  unfold allA
  by_cases h0 : manyErr base tracks = 0
  · obtain ⟨t, n, rfl, hn, ht5, hn0, hn36⟩ := many_nat h0
    rw [h0, hn] at c1
    rw [if_pos h0, h0, hn, Int.toNat_natCast]
    have htb := Tab.cons c1 Tab.nil
    by_cases h1 : base = 1
    · subst h1
      have hS := Shrink_snd (G := G) (ends := rightEnds n) hG 1 t (right_rows n) (by omega) (by omega) (by simp [rightEnds, tabE]) (by omega)
      have hle := (leastRE_spec (ends := rightEnds n) (right_rows n) (by omega)).2
      have hT : shrinkT 1 t n (rightNext n) (rightEnds n) = .tup [tAuto ⟨1, t, (leastRE n (rightNext n) (rightEnds n)).1, (leastRE n (rightNext n) (rightEnds n)).2⟩, .bool true] := by
        unfold shrinkT; rw [if_pos (by omega)]
      rw [hT] at hS
      unfold allRE
      rw [if_pos rfl]
      generalize (⟨1, t, (leastRE n (rightNext n) (rightEnds n)).1, (leastRE n (rightNext n) (rightEnds n)).2⟩ : GAuto) = c at hS
      repeat' (first | (with_reducible first | refine SW_seq ?_ | refine SW_block ?_ | refine SThen_n ?_ | refine SThen_r ?_ | refine SThen_e ?_ | refine SIn_n ?_ | refine SIn_r ?_ | refine SIn_eq ?_ | refine SW_skip ?_ | refine SW_exit ?_ | refine SW_ret ?_ | refine SPost_r ?_) | ((with_reducible refine SIn_ne ?_ ?_); focus decide) | ((with_reducible refine SW_true ?_ ?_); focus exact rfl) | ((with_reducible refine SW_false ?_ ?_); focus exact rfl) | ((first | (with_reducible apply SW_run tt_ok hG htb) | ((with_reducible apply SW_draw rfl tt_ok hG htb); (focus kernel_rfl); (focus (simp only [List.range, List.range.loop, List.size_toArray, List.length_cons, List.length_nil, Nat.reduceAdd])))); focus ((repeat' (first | (with_reducible exact runX_nil) | (with_reducible exact runI_nil) | ((first | (with_reducible apply runX_cons) | (with_reducible apply runI_cons)); focus (simp (discharger := omega) only [go_sem, tErr, ↓reduceIte, reduceIte, Nat.reduceEqDiff, Nat.reduceLT, Nat.reduceLeDiff, Nat.reduceAdd, Nat.reduceSub, Nat.reduceMul, Nat.reduceDiv, Nat.reduceMod, Nat.reduceBEq, Int.reduceEq, Int.reduceLT, Int.reduceLE, Int.reduceNeg, Int.reduceToNat, reduceCtorEq]; with_reducible rfl)))); done)))
      refine SW_loop (fun k s => ∃ (i : Nat) (nt et : List T), k = n + 1 - i ∧ s = ⟨81, [(0, .t (tInt 1)), (1, .t (tInt t)), (4, .bptr 0 0), (6, .t (tInt n)), (8, .sref 1), (9, .sref 2), (35, .t (tInt (n + 1))), (36, .t (tInt i))], [.box [.t (tInt 0), .t (tInt 0), .nil, .nil], .row 22 1 false nt, .row 4 1 false et]⟩ ∧
          nt = ((rightNext n).take i).map tInts ∧ et = ((rightEnds n).take i).map T.bool ∧ i ≤ n + 1) (n + 1)
        ⟨_, Norm.headS (own := [(8, 22, 1, false), (9, 4, 1, false)]) (keep := [0, 1, 4, 6, 8, 9, 35, 36]) (by simp (discharger := omega) only [go_sem, ↓reduceIte, reduceIte, Nat.reduceEqDiff, Nat.reduceLT, Nat.reduceLeDiff, Nat.reduceAdd, Nat.reduceSub, Nat.reduceMul, Nat.reduceDiv, Nat.reduceMod, Nat.reduceBEq, Int.reduceEq, Int.reduceLT, Int.reduceLE, Int.reduceNeg, Int.reduceToNat, reduceCtorEq]; with_reducible rfl) (by simp only [go_sem, ↓reduceIte, reduceIte, Nat.reduceEqDiff, Nat.reduceLT, Nat.reduceLeDiff, Nat.reduceAdd, Nat.reduceSub, Nat.reduceMul, Nat.reduceDiv, Nat.reduceMod, Nat.reduceBEq, Int.reduceEq, Int.reduceLT, Int.reduceLE, Int.reduceNeg, Int.reduceToNat, reduceCtorEq]; with_reducible rfl) (by simp only [go_sem, ↓reduceIte, reduceIte, Nat.reduceEqDiff, Nat.reduceLT, Nat.reduceLeDiff, Nat.reduceAdd, Nat.reduceSub, Nat.reduceMul, Nat.reduceDiv, Nat.reduceMod, Nat.reduceBEq, Int.reduceEq, Int.reduceLT, Int.reduceLE, Int.reduceNeg, Int.reduceToNat, reduceCtorEq]; with_reducible rfl) (by simp only [go_sem, ↓reduceIte, reduceIte, Nat.reduceEqDiff, Nat.reduceLT, Nat.reduceLeDiff, Nat.reduceAdd, Nat.reduceSub, Nat.reduceMul, Nat.reduceDiv, Nat.reduceMod, Nat.reduceBEq, Int.reduceEq, Int.reduceLT, Int.reduceLE, Int.reduceNeg, Int.reduceToNat, reduceCtorEq]; with_reducible rfl) (by simp only [go_sem, ↓reduceIte, reduceIte, Nat.reduceEqDiff, Nat.reduceLT, Nat.reduceLeDiff, Nat.reduceAdd, Nat.reduceSub, Nat.reduceMul, Nat.reduceDiv, Nat.reduceMod, Nat.reduceBEq, Int.reduceEq, Int.reduceLT, Int.reduceLE, Int.reduceNeg, Int.reduceToNat, reduceCtorEq]; with_reducible rfl), 0, _, _, rfl, rfl, rfl, rfl, Nat.zero_le _⟩ ?_
      clear htb
      have htb := Tab.cons hS Tab.nil
      rintro k s ⟨i, nt, et, rfl, rfl, hnt, het, hi⟩
      have hntl : nt.length = i := by rw [hnt]; simp [rightNext, tabN]; omega
      have hetl : et.length = i := by rw [het]; simp [rightEnds, tabE]; omega
      by_cases hlt : i < n + 1
      · repeat' (first | (with_reducible first | refine SW_seq ?_ | refine SW_block ?_ | refine SThen_n ?_ | refine SThen_r ?_ | refine SThen_e ?_ | refine SIn_n ?_ | refine SIn_r ?_ | refine SIn_eq ?_ | refine SW_skip ?_ | refine SW_exit ?_ | refine SW_ret ?_ | refine SPost_r ?_) | ((with_reducible refine SIn_ne ?_ ?_); focus decide) | ((with_reducible refine SW_true ?_ ?_); focus exact rfl) | ((with_reducible refine SW_false ?_ ?_); focus exact rfl) | ((first | (with_reducible apply SW_run tt_ok hG htb) | ((with_reducible apply SW_draw rfl tt_ok hG htb); (focus kernel_rfl); (focus (simp only [List.range, List.range.loop, List.size_toArray, List.length_cons, List.length_nil, Nat.reduceAdd])))); focus ((repeat' (first | (with_reducible exact runX_nil) | (with_reducible exact runI_nil) | ((first | (with_reducible apply runX_cons) | (with_reducible apply runI_cons)); focus (simp (discharger := omega) only [go_sem, ↓reduceIte, reduceIte, Nat.reduceEqDiff, Nat.reduceLT, Nat.reduceLeDiff, Nat.reduceAdd, Nat.reduceSub, Nat.reduceMul, Nat.reduceDiv, Nat.reduceMod, Nat.reduceBEq, Int.reduceEq, Int.reduceLT, Int.reduceLE, Int.reduceNeg, Int.reduceToNat, reduceCtorEq]; with_reducible rfl)))); done)))
        refine SW_loop (fun k s => ∃ (l : Nat) (rt : List T), k = n - l ∧ s = ⟨81, [(0, .t (tInt 1)), (1, .t (tInt t)), (4, .bptr 0 0), (6, .t (tInt n)), (8, .sref 1), (9, .sref 2), (10, .t (tInt i)), (11, .sref 3), (35, .t (tInt (n + 1))), (36, .t (tInt i)), (39, .t (tInt n)), (40, .t (tInt l))], [.box [.t (tInt 0), .t (tInt 0), .nil, .nil], .row 22 1 false nt, .row 4 1 false et, .row 3 1 false rt]⟩ ∧
            rt = (((List.range n).map fun l => (rightD n (fun s l => s &&& l != 0) i l : Int)).take l).map tInt ∧ l ≤ n) n
          ⟨_, Norm.headS (own := [(8, 22, 1, false), (9, 4, 1, false), (11, 3, 1, false)]) (keep := [0, 1, 4, 6, 8, 9, 10, 11, 35, 36, 39, 40]) (by simp (discharger := omega) only [go_sem, ↓reduceIte, reduceIte, Nat.reduceEqDiff, Nat.reduceLT, Nat.reduceLeDiff, Nat.reduceAdd, Nat.reduceSub, Nat.reduceMul, Nat.reduceDiv, Nat.reduceMod, Nat.reduceBEq, Int.reduceEq, Int.reduceLT, Int.reduceLE, Int.reduceNeg, Int.reduceToNat, reduceCtorEq]; with_reducible rfl) (by simp only [go_sem, ↓reduceIte, reduceIte, Nat.reduceEqDiff, Nat.reduceLT, Nat.reduceLeDiff, Nat.reduceAdd, Nat.reduceSub, Nat.reduceMul, Nat.reduceDiv, Nat.reduceMod, Nat.reduceBEq, Int.reduceEq, Int.reduceLT, Int.reduceLE, Int.reduceNeg, Int.reduceToNat, reduceCtorEq]; with_reducible rfl) (by simp only [go_sem, ↓reduceIte, reduceIte, Nat.reduceEqDiff, Nat.reduceLT, Nat.reduceLeDiff, Nat.reduceAdd, Nat.reduceSub, Nat.reduceMul, Nat.reduceDiv, Nat.reduceMod, Nat.reduceBEq, Int.reduceEq, Int.reduceLT, Int.reduceLE, Int.reduceNeg, Int.reduceToNat, reduceCtorEq]; with_reducible rfl) (by simp only [go_sem, ↓reduceIte, reduceIte, Nat.reduceEqDiff, Nat.reduceLT, Nat.reduceLeDiff, Nat.reduceAdd, Nat.reduceSub, Nat.reduceMul, Nat.reduceDiv, Nat.reduceMod, Nat.reduceBEq, Int.reduceEq, Int.reduceLT, Int.reduceLE, Int.reduceNeg, Int.reduceToNat, reduceCtorEq]; with_reducible rfl) (by simp only [go_sem, ↓reduceIte, reduceIte, Nat.reduceEqDiff, Nat.reduceLT, Nat.reduceLeDiff, Nat.reduceAdd, Nat.reduceSub, Nat.reduceMul, Nat.reduceDiv, Nat.reduceMod, Nat.reduceBEq, Int.reduceEq, Int.reduceLT, Int.reduceLE, Int.reduceNeg, Int.reduceToNat, reduceCtorEq]; with_reducible rfl), 0, _, rfl, rfl, rfl, Nat.zero_le _⟩ ?_
        rintro k s ⟨l, rt, rfl, rfl, hrt, hl⟩
        have hrtl : rt.length = l := by rw [hrt]; simp; omega
        by_cases hlt2 : l < n
        · have hand := and64 (s := i) (l := l) (by omega) (by omega)
          have htk := map_range_take (fun l => (rightD n (fun s l => s &&& l != 0) i l : Int)) hlt2
          by_cases hin : i = n
          · have hv : rightD n (fun s l => s &&& l != 0) i l = n := by simp [rightD, hin]
            repeat' (first | (with_reducible first | refine SW_seq ?_ | refine SW_block ?_ | refine SThen_n ?_ | refine SThen_r ?_ | refine SThen_e ?_ | refine SIn_n ?_ | refine SIn_r ?_ | refine SIn_eq ?_ | refine SW_skip ?_ | refine SW_exit ?_ | refine SW_ret ?_ | refine SPost_r ?_) | ((with_reducible refine SIn_ne ?_ ?_); focus decide) | ((with_reducible refine SW_true ?_ ?_); focus exact rfl) | ((with_reducible refine SW_false ?_ ?_); focus exact rfl) | ((first | (with_reducible apply SW_run tt_ok hG htb) | ((with_reducible apply SW_draw rfl tt_ok hG htb); (focus kernel_rfl); (focus (simp only [List.range, List.range.loop, List.size_toArray, List.length_cons, List.length_nil, Nat.reduceAdd])))); focus ((repeat' (first | (with_reducible exact runX_nil) | (with_reducible exact runI_nil) | ((first | (with_reducible apply runX_cons) | (with_reducible apply runI_cons)); focus (simp (discharger := omega) only [go_sem, hand, ↓reduceIte, reduceIte, Nat.reduceEqDiff, Nat.reduceLT, Nat.reduceLeDiff, Nat.reduceAdd, Nat.reduceSub, Nat.reduceMul, Nat.reduceDiv, Nat.reduceMod, Nat.reduceBEq, Int.reduceEq, Int.reduceLT, Int.reduceLE, Int.reduceNeg, Int.reduceToNat, reduceCtorEq]; with_reducible rfl)))); done)))
            exact ⟨n - (l + 1), _, by omega, Norm.headS (own := [(8, 22, 1, false), (9, 4, 1, false), (11, 3, 1, false)]) (keep := [0, 1, 4, 6, 8, 9, 10, 11, 35, 36, 39, 40]) (by simp (discharger := omega) only [go_sem, ↓reduceIte, reduceIte, Nat.reduceEqDiff, Nat.reduceLT, Nat.reduceLeDiff, Nat.reduceAdd, Nat.reduceSub, Nat.reduceMul, Nat.reduceDiv, Nat.reduceMod, Nat.reduceBEq, Int.reduceEq, Int.reduceLT, Int.reduceLE, Int.reduceNeg, Int.reduceToNat, reduceCtorEq]; with_reducible rfl) (by simp only [go_sem, ↓reduceIte, reduceIte, Nat.reduceEqDiff, Nat.reduceLT, Nat.reduceLeDiff, Nat.reduceAdd, Nat.reduceSub, Nat.reduceMul, Nat.reduceDiv, Nat.reduceMod, Nat.reduceBEq, Int.reduceEq, Int.reduceLT, Int.reduceLE, Int.reduceNeg, Int.reduceToNat, reduceCtorEq]; with_reducible rfl) (by simp only [go_sem, ↓reduceIte, reduceIte, Nat.reduceEqDiff, Nat.reduceLT, Nat.reduceLeDiff, Nat.reduceAdd, Nat.reduceSub, Nat.reduceMul, Nat.reduceDiv, Nat.reduceMod, Nat.reduceBEq, Int.reduceEq, Int.reduceLT, Int.reduceLE, Int.reduceNeg, Int.reduceToNat, reduceCtorEq]; with_reducible rfl) (by simp only [go_sem, ↓reduceIte, reduceIte, Nat.reduceEqDiff, Nat.reduceLT, Nat.reduceLeDiff, Nat.reduceAdd, Nat.reduceSub, Nat.reduceMul, Nat.reduceDiv, Nat.reduceMod, Nat.reduceBEq, Int.reduceEq, Int.reduceLT, Int.reduceLE, Int.reduceNeg, Int.reduceToNat, reduceCtorEq]; with_reducible rfl) (by simp only [go_sem, ↓reduceIte, reduceIte, Nat.reduceEqDiff, Nat.reduceLT, Nat.reduceLeDiff, Nat.reduceAdd, Nat.reduceSub, Nat.reduceMul, Nat.reduceDiv, Nat.reduceMod, Nat.reduceBEq, Int.reduceEq, Int.reduceLT, Int.reduceLE, Int.reduceNeg, Int.reduceToNat, reduceCtorEq]; with_reducible rfl), l + 1, _, rfl, rfl, by rw [htk, List.map_append, ← hrt, hv]; rfl, by omega⟩
          · by_cases ha : i &&& l = 0
            · have hv : rightD n (fun s l => s &&& l != 0) i l = l := by simp [rightD, hin, ha]
              replace hand := hand.trans (show ((i &&& l : Nat) : Int) = 0 by rw [ha]; rfl)
              repeat' (first | (with_reducible first | refine SW_seq ?_ | refine SW_block ?_ | refine SThen_n ?_ | refine SThen_r ?_ | refine SThen_e ?_ | refine SIn_n ?_ | refine SIn_r ?_ | refine SIn_eq ?_ | refine SW_skip ?_ | refine SW_exit ?_ | refine SW_ret ?_ | refine SPost_r ?_) | ((with_reducible refine SIn_ne ?_ ?_); focus decide) | ((with_reducible refine SW_true ?_ ?_); focus exact rfl) | ((with_reducible refine SW_false ?_ ?_); focus exact rfl) | ((first | (with_reducible apply SW_run tt_ok hG htb) | ((with_reducible apply SW_draw rfl tt_ok hG htb); (focus kernel_rfl); (focus (simp only [List.range, List.range.loop, List.size_toArray, List.length_cons, List.length_nil, Nat.reduceAdd])))); focus ((repeat' (first | (with_reducible exact runX_nil) | (with_reducible exact runI_nil) | ((first | (with_reducible apply runX_cons) | (with_reducible apply runI_cons)); focus (simp (discharger := omega) only [go_sem, hand, ↓reduceIte, reduceIte, Nat.reduceEqDiff, Nat.reduceLT, Nat.reduceLeDiff, Nat.reduceAdd, Nat.reduceSub, Nat.reduceMul, Nat.reduceDiv, Nat.reduceMod, Nat.reduceBEq, Int.reduceEq, Int.reduceLT, Int.reduceLE, Int.reduceNeg, Int.reduceToNat, reduceCtorEq]; with_reducible rfl)))); done)))
              exact ⟨n - (l + 1), _, by omega, Norm.headS (own := [(8, 22, 1, false), (9, 4, 1, false), (11, 3, 1, false)]) (keep := [0, 1, 4, 6, 8, 9, 10, 11, 35, 36, 39, 40]) (by simp (discharger := omega) only [go_sem, ↓reduceIte, reduceIte, Nat.reduceEqDiff, Nat.reduceLT, Nat.reduceLeDiff, Nat.reduceAdd, Nat.reduceSub, Nat.reduceMul, Nat.reduceDiv, Nat.reduceMod, Nat.reduceBEq, Int.reduceEq, Int.reduceLT, Int.reduceLE, Int.reduceNeg, Int.reduceToNat, reduceCtorEq]; with_reducible rfl) (by simp only [go_sem, ↓reduceIte, reduceIte, Nat.reduceEqDiff, Nat.reduceLT, Nat.reduceLeDiff, Nat.reduceAdd, Nat.reduceSub, Nat.reduceMul, Nat.reduceDiv, Nat.reduceMod, Nat.reduceBEq, Int.reduceEq, Int.reduceLT, Int.reduceLE, Int.reduceNeg, Int.reduceToNat, reduceCtorEq]; with_reducible rfl) (by simp only [go_sem, ↓reduceIte, reduceIte, Nat.reduceEqDiff, Nat.reduceLT, Nat.reduceLeDiff, Nat.reduceAdd, Nat.reduceSub, Nat.reduceMul, Nat.reduceDiv, Nat.reduceMod, Nat.reduceBEq, Int.reduceEq, Int.reduceLT, Int.reduceLE, Int.reduceNeg, Int.reduceToNat, reduceCtorEq]; with_reducible rfl) (by simp only [go_sem, ↓reduceIte, reduceIte, Nat.reduceEqDiff, Nat.reduceLT, Nat.reduceLeDiff, Nat.reduceAdd, Nat.reduceSub, Nat.reduceMul, Nat.reduceDiv, Nat.reduceMod, Nat.reduceBEq, Int.reduceEq, Int.reduceLT, Int.reduceLE, Int.reduceNeg, Int.reduceToNat, reduceCtorEq]; with_reducible rfl) (by simp only [go_sem, ↓reduceIte, reduceIte, Nat.reduceEqDiff, Nat.reduceLT, Nat.reduceLeDiff, Nat.reduceAdd, Nat.reduceSub, Nat.reduceMul, Nat.reduceDiv, Nat.reduceMod, Nat.reduceBEq, Int.reduceEq, Int.reduceLT, Int.reduceLE, Int.reduceNeg, Int.reduceToNat, reduceCtorEq]; with_reducible rfl), l + 1, _, rfl, rfl, by rw [htk, List.map_append, ← hrt, hv]; rfl, by omega⟩
            · have hv : rightD n (fun s l => s &&& l != 0) i l = n := by simp [rightD, ha]
              have ha2 : ¬ (((i &&& l : Nat) : Int) = 0) := by omega
              repeat' (first | (with_reducible first | refine SW_seq ?_ | refine SW_block ?_ | refine SThen_n ?_ | refine SThen_r ?_ | refine SThen_e ?_ | refine SIn_n ?_ | refine SIn_r ?_ | refine SIn_eq ?_ | refine SW_skip ?_ | refine SW_exit ?_ | refine SW_ret ?_ | refine SPost_r ?_) | ((with_reducible refine SIn_ne ?_ ?_); focus decide) | ((with_reducible refine SW_true ?_ ?_); focus exact rfl) | ((with_reducible refine SW_false ?_ ?_); focus exact rfl) | ((first | (with_reducible apply SW_run tt_ok hG htb) | ((with_reducible apply SW_draw rfl tt_ok hG htb); (focus kernel_rfl); (focus (simp only [List.range, List.range.loop, List.size_toArray, List.length_cons, List.length_nil, Nat.reduceAdd])))); focus ((repeat' (first | (with_reducible exact runX_nil) | (with_reducible exact runI_nil) | ((first | (with_reducible apply runX_cons) | (with_reducible apply runI_cons)); focus (simp (discharger := omega) only [go_sem, hand, ha2, ↓reduceIte, reduceIte, Nat.reduceEqDiff, Nat.reduceLT, Nat.reduceLeDiff, Nat.reduceAdd, Nat.reduceSub, Nat.reduceMul, Nat.reduceDiv, Nat.reduceMod, Nat.reduceBEq, Int.reduceEq, Int.reduceLT, Int.reduceLE, Int.reduceNeg, Int.reduceToNat, reduceCtorEq]; with_reducible rfl)))); done)))
              exact ⟨n - (l + 1), _, by omega, Norm.headS (own := [(8, 22, 1, false), (9, 4, 1, false), (11, 3, 1, false)]) (keep := [0, 1, 4, 6, 8, 9, 10, 11, 35, 36, 39, 40]) (by simp (discharger := omega) only [go_sem, ↓reduceIte, reduceIte, Nat.reduceEqDiff, Nat.reduceLT, Nat.reduceLeDiff, Nat.reduceAdd, Nat.reduceSub, Nat.reduceMul, Nat.reduceDiv, Nat.reduceMod, Nat.reduceBEq, Int.reduceEq, Int.reduceLT, Int.reduceLE, Int.reduceNeg, Int.reduceToNat, reduceCtorEq]; with_reducible rfl) (by simp only [go_sem, ↓reduceIte, reduceIte, Nat.reduceEqDiff, Nat.reduceLT, Nat.reduceLeDiff, Nat.reduceAdd, Nat.reduceSub, Nat.reduceMul, Nat.reduceDiv, Nat.reduceMod, Nat.reduceBEq, Int.reduceEq, Int.reduceLT, Int.reduceLE, Int.reduceNeg, Int.reduceToNat, reduceCtorEq]; with_reducible rfl) (by simp only [go_sem, ↓reduceIte, reduceIte, Nat.reduceEqDiff, Nat.reduceLT, Nat.reduceLeDiff, Nat.reduceAdd, Nat.reduceSub, Nat.reduceMul, Nat.reduceDiv, Nat.reduceMod, Nat.reduceBEq, Int.reduceEq, Int.reduceLT, Int.reduceLE, Int.reduceNeg, Int.reduceToNat, reduceCtorEq]; with_reducible rfl) (by simp only [go_sem, ↓reduceIte, reduceIte, Nat.reduceEqDiff, Nat.reduceLT, Nat.reduceLeDiff, Nat.reduceAdd, Nat.reduceSub, Nat.reduceMul, Nat.reduceDiv, Nat.reduceMod, Nat.reduceBEq, Int.reduceEq, Int.reduceLT, Int.reduceLE, Int.reduceNeg, Int.reduceToNat, reduceCtorEq]; with_reducible rfl) (by simp only [go_sem, ↓reduceIte, reduceIte, Nat.reduceEqDiff, Nat.reduceLT, Nat.reduceLeDiff, Nat.reduceAdd, Nat.reduceSub, Nat.reduceMul, Nat.reduceDiv, Nat.reduceMod, Nat.reduceBEq, Int.reduceEq, Int.reduceLT, Int.reduceLE, Int.reduceNeg, Int.reduceToNat, reduceCtorEq]; with_reducible rfl), l + 1, _, rfl, rfl, by rw [htk, List.map_append, ← hrt, hv]; rfl, by omega⟩
        · obtain rfl : l = n := by omega
          rw [List.take_of_length_le (by simp)] at hrt
          have htk := map_range_take (fun s => (List.range l).map fun k => (rightD l (fun s l => s &&& l != 0) s k : Int)) hlt
          have htk2 := map_range_take (fun s => decide (s < l)) hlt
          by_cases hin : i < l
          · repeat' (first | (with_reducible first | refine SW_seq ?_ | refine SW_block ?_ | refine SThen_n ?_ | refine SThen_r ?_ | refine SThen_e ?_ | refine SIn_n ?_ | refine SIn_r ?_ | refine SIn_eq ?_ | refine SW_skip ?_ | refine SW_exit ?_ | refine SW_ret ?_ | refine SPost_r ?_) | ((with_reducible refine SIn_ne ?_ ?_); focus decide) | ((with_reducible refine SW_true ?_ ?_); focus exact rfl) | ((with_reducible refine SW_false ?_ ?_); focus exact rfl) | ((first | (with_reducible apply SW_run tt_ok hG htb) | ((with_reducible apply SW_draw rfl tt_ok hG htb); (focus kernel_rfl); (focus (simp only [List.range, List.range.loop, List.size_toArray, List.length_cons, List.length_nil, Nat.reduceAdd])))); focus ((repeat' (first | (with_reducible exact runX_nil) | (with_reducible exact runI_nil) | ((first | (with_reducible apply runX_cons) | (with_reducible apply runI_cons)); focus (simp (discharger := omega) only [go_sem, ↓reduceIte, reduceIte, Nat.reduceEqDiff, Nat.reduceLT, Nat.reduceLeDiff, Nat.reduceAdd, Nat.reduceSub, Nat.reduceMul, Nat.reduceDiv, Nat.reduceMod, Nat.reduceBEq, Int.reduceEq, Int.reduceLT, Int.reduceLE, Int.reduceNeg, Int.reduceToNat, reduceCtorEq]; with_reducible rfl)))); done)))
            exact ⟨l + 1 - (i + 1), _, by omega, Norm.headS (own := [(8, 22, 1, false), (9, 4, 1, false)]) (keep := [0, 1, 4, 6, 8, 9, 35, 36]) (by simp (discharger := omega) only [go_sem, ↓reduceIte, reduceIte, Nat.reduceEqDiff, Nat.reduceLT, Nat.reduceLeDiff, Nat.reduceAdd, Nat.reduceSub, Nat.reduceMul, Nat.reduceDiv, Nat.reduceMod, Nat.reduceBEq, Int.reduceEq, Int.reduceLT, Int.reduceLE, Int.reduceNeg, Int.reduceToNat, reduceCtorEq]; with_reducible rfl) (by simp only [go_sem, ↓reduceIte, reduceIte, Nat.reduceEqDiff, Nat.reduceLT, Nat.reduceLeDiff, Nat.reduceAdd, Nat.reduceSub, Nat.reduceMul, Nat.reduceDiv, Nat.reduceMod, Nat.reduceBEq, Int.reduceEq, Int.reduceLT, Int.reduceLE, Int.reduceNeg, Int.reduceToNat, reduceCtorEq]; with_reducible rfl) (by simp only [go_sem, ↓reduceIte, reduceIte, Nat.reduceEqDiff, Nat.reduceLT, Nat.reduceLeDiff, Nat.reduceAdd, Nat.reduceSub, Nat.reduceMul, Nat.reduceDiv, Nat.reduceMod, Nat.reduceBEq, Int.reduceEq, Int.reduceLT, Int.reduceLE, Int.reduceNeg, Int.reduceToNat, reduceCtorEq]; with_reducible rfl) (by simp only [go_sem, ↓reduceIte, reduceIte, Nat.reduceEqDiff, Nat.reduceLT, Nat.reduceLeDiff, Nat.reduceAdd, Nat.reduceSub, Nat.reduceMul, Nat.reduceDiv, Nat.reduceMod, Nat.reduceBEq, Int.reduceEq, Int.reduceLT, Int.reduceLE, Int.reduceNeg, Int.reduceToNat, reduceCtorEq]; with_reducible rfl) (by simp only [go_sem, ↓reduceIte, reduceIte, Nat.reduceEqDiff, Nat.reduceLT, Nat.reduceLeDiff, Nat.reduceAdd, Nat.reduceSub, Nat.reduceMul, Nat.reduceDiv, Nat.reduceMod, Nat.reduceBEq, Int.reduceEq, Int.reduceLT, Int.reduceLE, Int.reduceNeg, Int.reduceToNat, reduceCtorEq]; with_reducible rfl), i + 1, _, _, rfl, rfl, by rw [rightNext, tabN, htk, List.map_append, hnt, hrt]; rfl, by rw [rightEnds, tabE, htk2, List.map_append, het, decide_eq_true hin]; rfl, by omega⟩
          · repeat' (first | (with_reducible first | refine SW_seq ?_ | refine SW_block ?_ | refine SThen_n ?_ | refine SThen_r ?_ | refine SThen_e ?_ | refine SIn_n ?_ | refine SIn_r ?_ | refine SIn_eq ?_ | refine SW_skip ?_ | refine SW_exit ?_ | refine SW_ret ?_ | refine SPost_r ?_) | ((with_reducible refine SIn_ne ?_ ?_); focus decide) | ((with_reducible refine SW_true ?_ ?_); focus exact rfl) | ((with_reducible refine SW_false ?_ ?_); focus exact rfl) | ((first | (with_reducible apply SW_run tt_ok hG htb) | ((with_reducible apply SW_draw rfl tt_ok hG htb); (focus kernel_rfl); (focus (simp only [List.range, List.range.loop, List.size_toArray, List.length_cons, List.length_nil, Nat.reduceAdd])))); focus ((repeat' (first | (with_reducible exact runX_nil) | (with_reducible exact runI_nil) | ((first | (with_reducible apply runX_cons) | (with_reducible apply runI_cons)); focus (simp (discharger := omega) only [go_sem, ↓reduceIte, reduceIte, Nat.reduceEqDiff, Nat.reduceLT, Nat.reduceLeDiff, Nat.reduceAdd, Nat.reduceSub, Nat.reduceMul, Nat.reduceDiv, Nat.reduceMod, Nat.reduceBEq, Int.reduceEq, Int.reduceLT, Int.reduceLE, Int.reduceNeg, Int.reduceToNat, reduceCtorEq]; with_reducible rfl)))); done)))
            exact ⟨l + 1 - (i + 1), _, by omega, Norm.headS (own := [(8, 22, 1, false), (9, 4, 1, false)]) (keep := [0, 1, 4, 6, 8, 9, 35, 36]) (by simp (discharger := omega) only [go_sem, ↓reduceIte, reduceIte, Nat.reduceEqDiff, Nat.reduceLT, Nat.reduceLeDiff, Nat.reduceAdd, Nat.reduceSub, Nat.reduceMul, Nat.reduceDiv, Nat.reduceMod, Nat.reduceBEq, Int.reduceEq, Int.reduceLT, Int.reduceLE, Int.reduceNeg, Int.reduceToNat, reduceCtorEq]; with_reducible rfl) (by simp only [go_sem, ↓reduceIte, reduceIte, Nat.reduceEqDiff, Nat.reduceLT, Nat.reduceLeDiff, Nat.reduceAdd, Nat.reduceSub, Nat.reduceMul, Nat.reduceDiv, Nat.reduceMod, Nat.reduceBEq, Int.reduceEq, Int.reduceLT, Int.reduceLE, Int.reduceNeg, Int.reduceToNat, reduceCtorEq]; with_reducible rfl) (by simp only [go_sem, ↓reduceIte, reduceIte, Nat.reduceEqDiff, Nat.reduceLT, Nat.reduceLeDiff, Nat.reduceAdd, Nat.reduceSub, Nat.reduceMul, Nat.reduceDiv, Nat.reduceMod, Nat.reduceBEq, Int.reduceEq, Int.reduceLT, Int.reduceLE, Int.reduceNeg, Int.reduceToNat, reduceCtorEq]; with_reducible rfl) (by simp only [go_sem, ↓reduceIte, reduceIte, Nat.reduceEqDiff, Nat.reduceLT, Nat.reduceLeDiff, Nat.reduceAdd, Nat.reduceSub, Nat.reduceMul, Nat.reduceDiv, Nat.reduceMod, Nat.reduceBEq, Int.reduceEq, Int.reduceLT, Int.reduceLE, Int.reduceNeg, Int.reduceToNat, reduceCtorEq]; with_reducible rfl) (by simp only [go_sem, ↓reduceIte, reduceIte, Nat.reduceEqDiff, Nat.reduceLT, Nat.reduceLeDiff, Nat.reduceAdd, Nat.reduceSub, Nat.reduceMul, Nat.reduceDiv, Nat.reduceMod, Nat.reduceBEq, Int.reduceEq, Int.reduceLT, Int.reduceLE, Int.reduceNeg, Int.reduceToNat, reduceCtorEq]; with_reducible rfl), i + 1, _, _, rfl, rfl, by rw [rightNext, tabN, htk, List.map_append, hnt, hrt]; rfl, by rw [rightEnds, tabE, htk2, List.map_append, het, decide_eq_false hin]; rfl, by omega⟩
      · obtain rfl : i = n + 1 := by omega
        rw [List.take_of_length_le (by simp [rightNext, tabN])] at hnt
        rw [List.take_of_length_le (by simp [rightEnds, tabE])] at het
        subst hnt het
        refine SW_norm (Norm.frz 8 rfl rfl) ?_
        refine SW_norm (Norm.frz 9 rfl rfl) ?_
        repeat' (first | (with_reducible first | refine SW_seq ?_ | refine SW_block ?_ | refine SThen_n ?_ | refine SThen_r ?_ | refine SThen_e ?_ | refine SIn_n ?_ | refine SIn_r ?_ | refine SIn_eq ?_ | refine SW_skip ?_ | refine SW_exit ?_ | refine SW_ret ?_ | refine SPost_r ?_) | ((with_reducible refine SIn_ne ?_ ?_); focus decide) | ((with_reducible refine SW_true ?_ ?_); focus exact rfl) | ((with_reducible refine SW_false ?_ ?_); focus exact rfl) | ((first | (with_reducible apply SW_run tt_ok hG htb) | ((with_reducible apply SW_draw rfl tt_ok hG htb); (focus kernel_rfl); (focus (simp only [List.range, List.range.loop, List.size_toArray, List.length_cons, List.length_nil, Nat.reduceAdd])))); focus ((repeat' (first | (with_reducible exact runX_nil) | (with_reducible exact runI_nil) | ((first | (with_reducible apply runX_cons) | (with_reducible apply runI_cons)); focus (simp (discharger := omega) only [go_sem, tAuto, tErr, ↓reduceIte, reduceIte, Nat.reduceEqDiff, Nat.reduceLT, Nat.reduceLeDiff, Nat.reduceAdd, Nat.reduceSub, Nat.reduceMul, Nat.reduceDiv, Nat.reduceMod, Nat.reduceBEq, Int.reduceEq, Int.reduceLT, Int.reduceLE, Int.reduceNeg, Int.reduceToNat, reduceCtorEq]; with_reducible rfl)))); done)))
        exact (by simp (discharger := omega) only [go_sem, tAuto, tErr, ↓reduceIte, reduceIte, Nat.reduceEqDiff, Nat.reduceLT, Nat.reduceLeDiff, Nat.reduceAdd, Nat.reduceSub, Nat.reduceMul, Nat.reduceDiv, Nat.reduceMod, Nat.reduceBEq, Int.reduceEq, Int.reduceLT, Int.reduceLE, Int.reduceNeg, Int.reduceToNat, reduceCtorEq])
    · unfold allRE
      rw [if_neg h1]
      repeat' (first | (with_reducible first | refine SW_seq ?_ | refine SW_block ?_ | refine SThen_n ?_ | refine SThen_r ?_ | refine SThen_e ?_ | refine SIn_n ?_ | refine SIn_r ?_ | refine SIn_eq ?_ | refine SW_skip ?_ | refine SW_exit ?_ | refine SW_ret ?_ | refine SPost_r ?_) | ((with_reducible refine SIn_ne ?_ ?_); focus decide) | ((with_reducible refine SW_true ?_ ?_); focus exact rfl) | ((with_reducible refine SW_false ?_ ?_); focus exact rfl) | ((first | (with_reducible apply SW_run tt_ok hG htb) | ((with_reducible apply SW_draw rfl tt_ok hG htb); (focus kernel_rfl); (focus (simp only [List.range, List.range.loop, List.size_toArray, List.length_cons, List.length_nil, Nat.reduceAdd])))); focus ((repeat' (first | (with_reducible exact runX_nil) | (with_reducible exact runI_nil) | ((first | (with_reducible apply runX_cons) | (with_reducible apply runI_cons)); focus (simp (discharger := omega) only [go_sem, tErr, h1, ↓reduceIte, reduceIte, Nat.reduceEqDiff, Nat.reduceLT, Nat.reduceLeDiff, Nat.reduceAdd, Nat.reduceSub, Nat.reduceMul, Nat.reduceDiv, Nat.reduceMod, Nat.reduceBEq, Int.reduceEq, Int.reduceLT, Int.reduceLE, Int.reduceNeg, Int.reduceToNat, reduceCtorEq]; with_reducible rfl)))); done)))
      exact (by simp (discharger := omega) only [go_sem, tAuto, tErr, List.map_replicate, ↓reduceIte, reduceIte, Nat.reduceEqDiff, Nat.reduceLT, Nat.reduceLeDiff, Nat.reduceAdd, Nat.reduceSub, Nat.reduceMul, Nat.reduceDiv, Nat.reduceMod, Nat.reduceBEq, Int.reduceEq, Int.reduceLT, Int.reduceLE, Int.reduceNeg, Int.reduceToNat, reduceCtorEq])
  · generalize manyErr base tracks = f at c1 h0
    rw [if_neg h0]
    have htb := Tab.cons c1 Tab.nil
    repeat' (first | (with_reducible first | refine SW_seq ?_ | refine SW_block ?_ | refine SThen_n ?_ | refine SThen_r ?_ | refine SThen_e ?_ | refine SIn_n ?_ | refine SIn_r ?_ | refine SIn_eq ?_ | refine SW_skip ?_ | refine SW_exit ?_ | refine SW_ret ?_ | refine SPost_r ?_) | ((with_reducible refine SIn_ne ?_ ?_); focus decide) | ((with_reducible refine SW_true ?_ ?_); focus exact rfl) | ((with_reducible refine SW_false ?_ ?_); focus exact rfl) | ((first | (with_reducible apply SW_run tt_ok hG htb) | ((with_reducible apply SW_draw rfl tt_ok hG htb); (focus kernel_rfl); (focus (simp only [List.range, List.range.loop, List.size_toArray, List.length_cons, List.length_nil, Nat.reduceAdd])))); focus ((repeat' (first | (with_reducible exact runX_nil) | (with_reducible exact runI_nil) | ((first | (with_reducible apply runX_cons) | (with_reducible apply runI_cons)); focus (simp (discharger := omega) only [go_sem, tErr, h0, ↓reduceIte, reduceIte, Nat.reduceEqDiff, Nat.reduceLT, Nat.reduceLeDiff, Nat.reduceAdd, Nat.reduceSub, Nat.reduceMul, Nat.reduceDiv, Nat.reduceMod, Nat.reduceBEq, Int.reduceEq, Int.reduceLT, Int.reduceLE, Int.reduceNeg, Int.reduceToNat, reduceCtorEq]; with_reducible rfl)))); done)))
    exact (by simp (discharger := omega) only [go_sem, tAuto, tErr, GAuto.zero, h0, ↓reduceIte, reduceIte, Nat.reduceEqDiff, Nat.reduceLT, Nat.reduceLeDiff, Nat.reduceAdd, Nat.reduceSub, Nat.reduceMul, Nat.reduceDiv, Nat.reduceMod, Nat.reduceBEq, Int.reduceEq, Int.reduceLT, Int.reduceLE, Int.reduceNeg, Int.reduceToNat, reduceCtorEq])
end
end Go.Proofs.YtfhncnhkeodngaaDoor
namespace Go.Proofs.YtfhncnhkeodngaaDoor
open Go.RowKit

section
variable {G : World → Prop} (hG : Lasting G)
include hG
theorem RRadix_snd (base : Int) : Snd Tryd.prog G 57 [tInt base] (tInt (radix base)) := by
  have htb : Tab.ok Tryd.prog G [] := Tab.nil
  refine snd_of_body (n := 12) (tm := [(0, .t (tInt base))]) (rs := [.tmp 2]) tt_ok Tryd.func57 rfl rfl rfl rfl rfl ?_
  unfold radix
  by_cases h1 : base = 1
  · repeat' (first | (with_reducible first | refine SW_seq ?_ | refine SW_block ?_ | refine SThen_n ?_ | refine SThen_r ?_ | refine SThen_e ?_ | refine SIn_n ?_ | refine SIn_r ?_ | refine SIn_eq ?_ | refine SW_skip ?_ | refine SW_exit ?_ | refine SW_ret ?_ | refine SPost_r ?_) | ((with_reducible refine SIn_ne ?_ ?_); focus decide) | ((with_reducible refine SW_true ?_ ?_); focus exact rfl) | ((with_reducible refine SW_false ?_ ?_); focus exact rfl) | ((first | (with_reducible apply SW_run tt_ok hG htb) | ((with_reducible apply SW_draw rfl tt_ok hG htb); (focus kernel_rfl); (focus (simp only [List.range, List.range.loop, List.size_toArray, List.length_cons, List.length_nil, Nat.reduceAdd])))); focus ((repeat' (first | (with_reducible exact runX_nil) | (with_reducible exact runI_nil) | ((first | (with_reducible apply runX_cons) | (with_reducible apply runI_cons)); focus (simp (discharger := omega) only [go_sem, h1, ↓reduceIte, reduceIte, Nat.reduceEqDiff, Nat.reduceLT, Nat.reduceLeDiff, Nat.reduceAdd, Nat.reduceSub, Nat.reduceMul, Nat.reduceDiv, Nat.reduceMod, Nat.reduceBEq, Int.reduceEq, Int.reduceLT, Int.reduceLE, Int.reduceNeg, Int.reduceToNat, reduceCtorEq]; with_reducible rfl)))); done)))
    exact (by simp (discharger := omega) only [go_sem, h1, ↓reduceIte, reduceIte, Nat.reduceEqDiff, Nat.reduceLT, Nat.reduceLeDiff, Nat.reduceAdd, Nat.reduceSub, Nat.reduceMul, Nat.reduceDiv, Nat.reduceMod, Nat.reduceBEq, Int.reduceEq, Int.reduceLT, Int.reduceLE, Int.reduceNeg, Int.reduceToNat, reduceCtorEq])
  · by_cases h2 : 2 ≤ base
    · by_cases h3 : base ≤ 6
      · repeat' (first | (with_reducible first | refine SW_seq ?_ | refine SW_block ?_ | refine SThen_n ?_ | refine SThen_r ?_ | refine SThen_e ?_ | refine SIn_n ?_ | refine SIn_r ?_ | refine SIn_eq ?_ | refine SW_skip ?_ | refine SW_exit ?_ | refine SW_ret ?_ | refine SPost_r ?_) | ((with_reducible refine SIn_ne ?_ ?_); focus decide) | ((with_reducible refine SW_true ?_ ?_); focus exact rfl) | ((with_reducible refine SW_false ?_ ?_); focus exact rfl) | ((first | (with_reducible apply SW_run tt_ok hG htb) | ((with_reducible apply SW_draw rfl tt_ok hG htb); (focus kernel_rfl); (focus (simp only [List.range, List.range.loop, List.size_toArray, List.length_cons, List.length_nil, Nat.reduceAdd])))); focus ((repeat' (first | (with_reducible exact runX_nil) | (with_reducible exact runI_nil) | ((first | (with_reducible apply runX_cons) | (with_reducible apply runI_cons)); focus (simp (discharger := omega) only [go_sem, ↓reduceIte, reduceIte, Nat.reduceEqDiff, Nat.reduceLT, Nat.reduceLeDiff, Nat.reduceAdd, Nat.reduceSub, Nat.reduceMul, Nat.reduceDiv, Nat.reduceMod, Nat.reduceBEq, Int.reduceEq, Int.reduceLT, Int.reduceLE, Int.reduceNeg, Int.reduceToNat, reduceCtorEq]; with_reducible rfl)))); done)))
        exact (by simp (discharger := omega) only [go_sem, ↓reduceIte, reduceIte, Nat.reduceEqDiff, Nat.reduceLT, Nat.reduceLeDiff, Nat.reduceAdd, Nat.reduceSub, Nat.reduceMul, Nat.reduceDiv, Nat.reduceMod, Nat.reduceBEq, Int.reduceEq, Int.reduceLT, Int.reduceLE, Int.reduceNeg, Int.reduceToNat, reduceCtorEq])
      · repeat' (first | (with_reducible first | refine SW_seq ?_ | refine SW_block ?_ | refine SThen_n ?_ | refine SThen_r ?_ | refine SThen_e ?_ | refine SIn_n ?_ | refine SIn_r ?_ | refine SIn_eq ?_ | refine SW_skip ?_ | refine SW_exit ?_ | refine SW_ret ?_ | refine SPost_r ?_) | ((with_reducible refine SIn_ne ?_ ?_); focus decide) | ((with_reducible refine SW_true ?_ ?_); focus exact rfl) | ((with_reducible refine SW_false ?_ ?_); focus exact rfl) | ((first | (with_reducible apply SW_run tt_ok hG htb) | ((with_reducible apply SW_draw rfl tt_ok hG htb); (focus kernel_rfl); (focus (simp only [List.range, List.range.loop, List.size_toArray, List.length_cons, List.length_nil, Nat.reduceAdd])))); focus ((repeat' (first | (with_reducible exact runX_nil) | (with_reducible exact runI_nil) | ((first | (with_reducible apply runX_cons) | (with_reducible apply runI_cons)); focus (simp (discharger := omega) only [go_sem, ↓reduceIte, reduceIte, Nat.reduceEqDiff, Nat.reduceLT, Nat.reduceLeDiff, Nat.reduceAdd, Nat.reduceSub, Nat.reduceMul, Nat.reduceDiv, Nat.reduceMod, Nat.reduceBEq, Int.reduceEq, Int.reduceLT, Int.reduceLE, Int.reduceNeg, Int.reduceToNat, reduceCtorEq]; with_reducible rfl)))); done)))
        exact (by simp (discharger := omega) only [go_sem, ↓reduceIte, reduceIte, Nat.reduceEqDiff, Nat.reduceLT, Nat.reduceLeDiff, Nat.reduceAdd, Nat.reduceSub, Nat.reduceMul, Nat.reduceDiv, Nat.reduceMod, Nat.reduceBEq, Int.reduceEq, Int.reduceLT, Int.reduceLE, Int.reduceNeg, Int.reduceToNat, reduceCtorEq])
    · repeat' (first | (with_reducible first | refine SW_seq ?_ | refine SW_block ?_ | refine SThen_n ?_ | refine SThen_r ?_ | refine SThen_e ?_ | refine SIn_n ?_ | refine SIn_r ?_ | refine SIn_eq ?_ | refine SW_skip ?_ | refine SW_exit ?_ | refine SW_ret ?_ | refine SPost_r ?_) | ((with_reducible refine SIn_ne ?_ ?_); focus decide) | ((with_reducible refine SW_true ?_ ?_); focus exact rfl) | ((with_reducible refine SW_false ?_ ?_); focus exact rfl) | ((first | (with_reducible apply SW_run tt_ok hG htb) | ((with_reducible apply SW_draw rfl tt_ok hG htb); (focus kernel_rfl); (focus (simp only [List.range, List.range.loop, List.size_toArray, List.length_cons, List.length_nil, Nat.reduceAdd])))); focus ((repeat' (first | (with_reducible exact runX_nil) | (with_reducible exact runI_nil) | ((first | (with_reducible apply runX_cons) | (with_reducible apply runI_cons)); focus (simp (discharger := omega) only [go_sem, ↓reduceIte, reduceIte, Nat.reduceEqDiff, Nat.reduceLT, Nat.reduceLeDiff, Nat.reduceAdd, Nat.reduceSub, Nat.reduceMul, Nat.reduceDiv, Nat.reduceMod, Nat.reduceBEq, Int.reduceEq, Int.reduceLT, Int.reduceLE, Int.reduceNeg, Int.reduceToNat, reduceCtorEq]; with_reducible rfl)))); done)))
      exact (by simp (discharger := omega) only [go_sem, ↓reduceIte, reduceIte, Nat.reduceEqDiff, Nat.reduceLT, Nat.reduceLeDiff, Nat.reduceAdd, Nat.reduceSub, Nat.reduceMul, Nat.reduceDiv, Nat.reduceMod, Nat.reduceBEq, Int.reduceEq, Int.reduceLT, Int.reduceLE, Int.reduceNeg, Int.reduceToNat, reduceCtorEq])
theorem RDigitOf_snd (base : Int) (t : Nat) (l : Int) (i : Nat) (hr : radix base ≠ 0) (ht : t ≤ 5) (hl0 : 0 ≤ l) (hl1 : l ≤ 7776) (hi : i < t) :
    Snd Tryd.prog G 79 [tInt base, tInt t, tInt l, tInt i] (tInt (digitAt (radix base) t l i)) := by
  have htb := Tab.cons (RRadix_snd hG base) Tab.nil
  refine snd_of_body (n := 26) (tm := [(0, .t (tInt base)), (1, .t (tInt t)), (2, .t (tInt l)), (3, .t (tInt i))]) (rs := [.tmp 8]) tt_ok Tryd.func79 rfl rfl rfl rfl rfl ?_
  obtain ⟨r2, r6⟩ := radix_two hr
  unfold digitAt
  generalize radix base = k at *
  repeat' (first | (with_reducible first | refine SW_seq ?_ | refine SW_block ?_ | refine SThen_n ?_ | refine SThen_r ?_ | refine SThen_e ?_ | refine SIn_n ?_ | refine SIn_r ?_ | refine SIn_eq ?_ | refine SW_skip ?_ | refine SW_exit ?_ | refine SW_ret ?_ | refine SPost_r ?_) | ((with_reducible refine SIn_ne ?_ ?_); focus decide) | ((with_reducible refine SW_true ?_ ?_); focus exact rfl) | ((with_reducible refine SW_false ?_ ?_); focus exact rfl) | ((first | (with_reducible apply SW_run tt_ok hG htb) | ((with_reducible apply SW_draw rfl tt_ok hG htb); (focus kernel_rfl); (focus (simp only [List.range, List.range.loop, List.size_toArray, List.length_cons, List.length_nil, Nat.reduceAdd])))); focus ((repeat' (first | (with_reducible exact runX_nil) | (with_reducible exact runI_nil) | ((first | (with_reducible apply runX_cons) | (with_reducible apply runI_cons)); focus (simp (discharger := omega) only [go_sem, ↓reduceIte, reduceIte, Nat.reduceEqDiff, Nat.reduceLT, Nat.reduceLeDiff, Nat.reduceAdd, Nat.reduceSub, Nat.reduceMul, Nat.reduceDiv, Nat.reduceMod, Nat.reduceBEq, Int.reduceEq, Int.reduceLT, Int.reduceLE, Int.reduceNeg, Int.reduceToNat, reduceCtorEq]; with_reducible rfl)))); done)))
  refine SW_loop (fun m s => ∃ (j : Nat) (q : Int), m = j ∧ s = ⟨26, [(2, .t (tInt q)), (3, .t (tInt i)), (9, .t (tInt k)), (10, .t (tInt (i + j : Nat)))], []⟩ ∧ i + j < t ∧ 0 ≤ q ∧ q ≤ 7776 ∧ (unpack k t l).getD i 0 = (unpack k (i + j + 1) q).getD i 0) (t - 1 - i) ⟨_, Norm.headS (own := []) (keep := [2, 3, 9, 10]) (by simp (discharger := omega) only [go_sem, ↓reduceIte, reduceIte, Nat.reduceEqDiff, Nat.reduceLT, Nat.reduceLeDiff, Nat.reduceAdd, Nat.reduceSub, Nat.reduceMul, Nat.reduceDiv, Nat.reduceMod, Nat.reduceBEq, Int.reduceEq, Int.reduceLT, Int.reduceLE, Int.reduceNeg, Int.reduceToNat, reduceCtorEq]; with_reducible rfl) (by simp only [go_sem, ↓reduceIte, reduceIte, Nat.reduceEqDiff, Nat.reduceLT, Nat.reduceLeDiff, Nat.reduceAdd, Nat.reduceSub, Nat.reduceMul, Nat.reduceDiv, Nat.reduceMod, Nat.reduceBEq, Int.reduceEq, Int.reduceLT, Int.reduceLE, Int.reduceNeg, Int.reduceToNat, reduceCtorEq]; with_reducible rfl) (by simp only [go_sem, ↓reduceIte, reduceIte, Nat.reduceEqDiff, Nat.reduceLT, Nat.reduceLeDiff, Nat.reduceAdd, Nat.reduceSub, Nat.reduceMul, Nat.reduceDiv, Nat.reduceMod, Nat.reduceBEq, Int.reduceEq, Int.reduceLT, Int.reduceLE, Int.reduceNeg, Int.reduceToNat, reduceCtorEq]; with_reducible rfl) (by simp only [go_sem, ↓reduceIte, reduceIte, Nat.reduceEqDiff, Nat.reduceLT, Nat.reduceLeDiff, Nat.reduceAdd, Nat.reduceSub, Nat.reduceMul, Nat.reduceDiv, Nat.reduceMod, Nat.reduceBEq, Int.reduceEq, Int.reduceLT, Int.reduceLE, Int.reduceNeg, Int.reduceToNat, reduceCtorEq]; with_reducible rfl) (by simp only [go_sem, ↓reduceIte, reduceIte, Nat.reduceEqDiff, Nat.reduceLT, Nat.reduceLeDiff, Nat.reduceAdd, Nat.reduceSub, Nat.reduceMul, Nat.reduceDiv, Nat.reduceMod, Nat.reduceBEq, Int.reduceEq, Int.reduceLT, Int.reduceLE, Int.reduceNeg, Int.reduceToNat, reduceCtorEq]; with_reducible rfl), t - 1 - i, l, rfl, by rw [show i + (t - 1 - i) = t - 1 by omega, show ((t - 1 : Nat) : Int) = (t : Int) - 1 by omega]; rfl, by omega, hl0, hl1, by rw [show i + (t - 1 - i) + 1 = t by omega]⟩ ?_
  rintro m s ⟨j, q, rfl, rfl, hj, q0, q1, hU⟩
  have e1 : q.tmod k = q % k := Int.tmod_eq_emod_of_nonneg q0
  have e2 : q.tdiv k = q / k := Int.tdiv_eq_ediv_of_nonneg q0
  have q2 : 0 ≤ q % k := Int.emod_nonneg _ (by omega)
  have q3 : 0 ≤ q / k := Int.ediv_nonneg q0 (by omega)
  have q4 : q / k ≤ q := Int.ediv_le_self _ q0
  by_cases hlt : 0 < m
  · obtain ⟨j, rfl⟩ : ∃ j, m = j + 1 := ⟨m - 1, by omega⟩
    have e3 : ((i + (j + 1) : Nat) : Int) - 1 = ((i + j : Nat) : Int) := by omega
    repeat' (first | (with_reducible first | refine SW_seq ?_ | refine SW_block ?_ | refine SThen_n ?_ | refine SThen_r ?_ | refine SThen_e ?_ | refine SIn_n ?_ | refine SIn_r ?_ | refine SIn_eq ?_ | refine SW_skip ?_ | refine SW_exit ?_ | refine SW_ret ?_ | refine SPost_r ?_) | ((with_reducible refine SIn_ne ?_ ?_); focus decide) | ((with_reducible refine SW_true ?_ ?_); focus exact rfl) | ((with_reducible refine SW_false ?_ ?_); focus exact rfl) | ((first | (with_reducible apply SW_run tt_ok hG htb) | ((with_reducible apply SW_draw rfl tt_ok hG htb); (focus kernel_rfl); (focus (simp only [List.range, List.range.loop, List.size_toArray, List.length_cons, List.length_nil, Nat.reduceAdd])))); focus ((repeat' (first | (with_reducible exact runX_nil) | (with_reducible exact runI_nil) | ((first | (with_reducible apply runX_cons) | (with_reducible apply runI_cons)); focus (simp (discharger := omega) only [go_sem, e2, e3, ↓reduceIte, reduceIte, Nat.reduceEqDiff, Nat.reduceLT, Nat.reduceLeDiff, Nat.reduceAdd, Nat.reduceSub, Nat.reduceMul, Nat.reduceDiv, Nat.reduceMod, Nat.reduceBEq, Int.reduceEq, Int.reduceLT, Int.reduceLE, Int.reduceNeg, Int.reduceToNat, reduceCtorEq]; with_reducible rfl)))); done)))
    exact ⟨j, _, by omega, Norm.headS (own := []) (keep := [2, 3, 9, 10]) (by simp (discharger := omega) only [go_sem, ↓reduceIte, reduceIte, Nat.reduceEqDiff, Nat.reduceLT, Nat.reduceLeDiff, Nat.reduceAdd, Nat.reduceSub, Nat.reduceMul, Nat.reduceDiv, Nat.reduceMod, Nat.reduceBEq, Int.reduceEq, Int.reduceLT, Int.reduceLE, Int.reduceNeg, Int.reduceToNat, reduceCtorEq]; with_reducible rfl) (by simp only [go_sem, ↓reduceIte, reduceIte, Nat.reduceEqDiff, Nat.reduceLT, Nat.reduceLeDiff, Nat.reduceAdd, Nat.reduceSub, Nat.reduceMul, Nat.reduceDiv, Nat.reduceMod, Nat.reduceBEq, Int.reduceEq, Int.reduceLT, Int.reduceLE, Int.reduceNeg, Int.reduceToNat, reduceCtorEq]; with_reducible rfl) (by simp only [go_sem, ↓reduceIte, reduceIte, Nat.reduceEqDiff, Nat.reduceLT, Nat.reduceLeDiff, Nat.reduceAdd, Nat.reduceSub, Nat.reduceMul, Nat.reduceDiv, Nat.reduceMod, Nat.reduceBEq, Int.reduceEq, Int.reduceLT, Int.reduceLE, Int.reduceNeg, Int.reduceToNat, reduceCtorEq]; with_reducible rfl) (by simp only [go_sem, ↓reduceIte, reduceIte, Nat.reduceEqDiff, Nat.reduceLT, Nat.reduceLeDiff, Nat.reduceAdd, Nat.reduceSub, Nat.reduceMul, Nat.reduceDiv, Nat.reduceMod, Nat.reduceBEq, Int.reduceEq, Int.reduceLT, Int.reduceLE, Int.reduceNeg, Int.reduceToNat, reduceCtorEq]; with_reducible rfl) (by simp only [go_sem, ↓reduceIte, reduceIte, Nat.reduceEqDiff, Nat.reduceLT, Nat.reduceLeDiff, Nat.reduceAdd, Nat.reduceSub, Nat.reduceMul, Nat.reduceDiv, Nat.reduceMod, Nat.reduceBEq, Int.reduceEq, Int.reduceLT, Int.reduceLE, Int.reduceNeg, Int.reduceToNat, reduceCtorEq]; with_reducible rfl), j, q / k, rfl, rfl, by omega, q3, by omega, by rw [hU]; exact unpack_pre k (i + j + 1) q i (by omega)⟩
  · obtain rfl : m = 0 := by omega
    rw [hU, Nat.add_zero, unpack_last]
    repeat' (first | (with_reducible first | refine SW_seq ?_ | refine SW_block ?_ | refine SThen_n ?_ | refine SThen_r ?_ | refine SThen_e ?_ | refine SIn_n ?_ | refine SIn_r ?_ | refine SIn_eq ?_ | refine SW_skip ?_ | refine SW_exit ?_ | refine SW_ret ?_ | refine SPost_r ?_) | ((with_reducible refine SIn_ne ?_ ?_); focus decide) | ((with_reducible refine SW_true ?_ ?_); focus exact rfl) | ((with_reducible refine SW_false ?_ ?_); focus exact rfl) | ((first | (with_reducible apply SW_run tt_ok hG htb) | ((with_reducible apply SW_draw rfl tt_ok hG htb); (focus kernel_rfl); (focus (simp only [List.range, List.range.loop, List.size_toArray, List.length_cons, List.length_nil, Nat.reduceAdd])))); focus ((repeat' (first | (with_reducible exact runX_nil) | (with_reducible exact runI_nil) | ((first | (with_reducible apply runX_cons) | (with_reducible apply runI_cons)); focus (simp (discharger := omega) only [go_sem, e1, ↓reduceIte, reduceIte, Nat.reduceEqDiff, Nat.reduceLT, Nat.reduceLeDiff, Nat.reduceAdd, Nat.reduceSub, Nat.reduceMul, Nat.reduceDiv, Nat.reduceMod, Nat.reduceBEq, Int.reduceEq, Int.reduceLT, Int.reduceLE, Int.reduceNeg, Int.reduceToNat, reduceCtorEq]; with_reducible rfl)))); done)))
    exact (by simp (discharger := omega) only [go_sem, ↓reduceIte, reduceIte, Nat.reduceEqDiff, Nat.reduceLT, Nat.reduceLeDiff, Nat.reduceAdd, Nat.reduceSub, Nat.reduceMul, Nat.reduceDiv, Nat.reduceMod, Nat.reduceBEq, Int.reduceEq, Int.reduceLT, Int.reduceLE, Int.reduceNeg, Int.reduceToNat, reduceCtorEq])
end
end Go.Proofs.YtfhncnhkeodngaaDoor
namespace Go.Proofs.YtfhncnhkeodngaaDoor
open Go.RowKit

section
variable {G : World → Prop} (hG : Lasting G)
include hG
set_option maxHeartbeats 1000000 in
theorem RLetters_snd (base t : Int) : Snd Tryd.prog G 59 [tInt base, tInt t] (.tup [tInt (manyOf base t), tInt (manyErr base t)]) := by
  have htb := Tab.cons (RRadix_snd hG base) Tab.nil
  refine snd_of_body (n := 32) (tm := [(0, .t (tInt base)), (1, .t (tInt t))]) (rs := [.tmp 4, .tmp 5]) tt_ok Tryd.func59 rfl rfl rfl rfl rfl ?_
  unfold manyOf manyErr
  generalize hk : radix base = k at htb ⊢
  by_cases h1 : k = 0
  · subst h1
    repeat' (first | (with_reducible first | refine SW_seq ?_ | refine SW_block ?_ | refine SThen_n ?_ | refine SThen_r ?_ | refine SThen_e ?_ | refine SIn_n ?_ | refine SIn_r ?_ | refine SIn_eq ?_ | refine SW_skip ?_ | refine SW_exit ?_ | refine SW_ret ?_ | refine SPost_r ?_) | ((with_reducible refine SIn_ne ?_ ?_); focus decide) | ((with_reducible refine SW_true ?_ ?_); focus exact rfl) | ((with_reducible refine SW_false ?_ ?_); focus exact rfl) | ((first | (with_reducible apply SW_run tt_ok hG htb) | ((with_reducible apply SW_draw rfl tt_ok hG htb); (focus kernel_rfl); (focus (simp only [List.range, List.range.loop, List.size_toArray, List.length_cons, List.length_nil, Nat.reduceAdd])))); focus ((repeat' (first | (with_reducible exact runX_nil) | (with_reducible exact runI_nil) | ((first | (with_reducible apply runX_cons) | (with_reducible apply runI_cons)); focus (simp (discharger := omega) only [go_sem, ↓reduceIte, reduceIte, Nat.reduceEqDiff, Nat.reduceLT, Nat.reduceLeDiff, Nat.reduceAdd, Nat.reduceSub, Nat.reduceMul, Nat.reduceDiv, Nat.reduceMod, Nat.reduceBEq, Int.reduceEq, Int.reduceLT, Int.reduceLE, Int.reduceNeg, Int.reduceToNat, reduceCtorEq]; with_reducible rfl)))); done)))
    exact (by simp (discharger := omega) only [go_sem, ↓reduceIte, reduceIte, Nat.reduceEqDiff, Nat.reduceLT, Nat.reduceLeDiff, Nat.reduceAdd, Nat.reduceSub, Nat.reduceMul, Nat.reduceDiv, Nat.reduceMod, Nat.reduceBEq, Int.reduceEq, Int.reduceLT, Int.reduceLE, Int.reduceNeg, Int.reduceToNat, reduceCtorEq])
  · by_cases h2 : t < 0
    · repeat' (first | (with_reducible first | refine SW_seq ?_ | refine SW_block ?_ | refine SThen_n ?_ | refine SThen_r ?_ | refine SThen_e ?_ | refine SIn_n ?_ | refine SIn_r ?_ | refine SIn_eq ?_ | refine SW_skip ?_ | refine SW_exit ?_ | refine SW_ret ?_ | refine SPost_r ?_) | ((with_reducible refine SIn_ne ?_ ?_); focus decide) | ((with_reducible refine SW_true ?_ ?_); focus exact rfl) | ((with_reducible refine SW_false ?_ ?_); focus exact rfl) | ((first | (with_reducible apply SW_run tt_ok hG htb) | ((with_reducible apply SW_draw rfl tt_ok hG htb); (focus kernel_rfl); (focus (simp only [List.range, List.range.loop, List.size_toArray, List.length_cons, List.length_nil, Nat.reduceAdd])))); focus ((repeat' (first | (with_reducible exact runX_nil) | (with_reducible exact runI_nil) | ((first | (with_reducible apply runX_cons) | (with_reducible apply runI_cons)); focus (simp (discharger := omega) only [go_sem, ↓reduceIte, reduceIte, Nat.reduceEqDiff, Nat.reduceLT, Nat.reduceLeDiff, Nat.reduceAdd, Nat.reduceSub, Nat.reduceMul, Nat.reduceDiv, Nat.reduceMod, Nat.reduceBEq, Int.reduceEq, Int.reduceLT, Int.reduceLE, Int.reduceNeg, Int.reduceToNat, reduceCtorEq]; with_reducible rfl)))); done)))
      exact (by simp (discharger := omega) only [go_sem, ↓reduceIte, reduceIte, Nat.reduceEqDiff, Nat.reduceLT, Nat.reduceLeDiff, Nat.reduceAdd, Nat.reduceSub, Nat.reduceMul, Nat.reduceDiv, Nat.reduceMod, Nat.reduceBEq, Int.reduceEq, Int.reduceLT, Int.reduceLE, Int.reduceNeg, Int.reduceToNat, reduceCtorEq])
    · by_cases h3 : 5 < t
      · repeat' (first | (with_reducible first | refine SW_seq ?_ | refine SW_block ?_ | refine SThen_n ?_ | refine SThen_r ?_ | refine SThen_e ?_ | refine SIn_n ?_ | refine SIn_r ?_ | refine SIn_eq ?_ | refine SW_skip ?_ | refine SW_exit ?_ | refine SW_ret ?_ | refine SPost_r ?_) | ((with_reducible refine SIn_ne ?_ ?_); focus decide) | ((with_reducible refine SW_true ?_ ?_); focus exact rfl) | ((with_reducible refine SW_false ?_ ?_); focus exact rfl) | ((first | (with_reducible apply SW_run tt_ok hG htb) | ((with_reducible apply SW_draw rfl tt_ok hG htb); (focus kernel_rfl); (focus (simp only [List.range, List.range.loop, List.size_toArray, List.length_cons, List.length_nil, Nat.reduceAdd])))); focus ((repeat' (first | (with_reducible exact runX_nil) | (with_reducible exact runI_nil) | ((first | (with_reducible apply runX_cons) | (with_reducible apply runI_cons)); focus (simp (discharger := omega) only [go_sem, ↓reduceIte, reduceIte, Nat.reduceEqDiff, Nat.reduceLT, Nat.reduceLeDiff, Nat.reduceAdd, Nat.reduceSub, Nat.reduceMul, Nat.reduceDiv, Nat.reduceMod, Nat.reduceBEq, Int.reduceEq, Int.reduceLT, Int.reduceLE, Int.reduceNeg, Int.reduceToNat, reduceCtorEq]; with_reducible rfl)))); done)))
        exact (by simp (discharger := omega) only [go_sem, ↓reduceIte, reduceIte, Nat.reduceEqDiff, Nat.reduceLT, Nat.reduceLeDiff, Nat.reduceAdd, Nat.reduceSub, Nat.reduceMul, Nat.reduceDiv, Nat.reduceMod, Nat.reduceBEq, Int.reduceEq, Int.reduceLT, Int.reduceLE, Int.reduceNeg, Int.reduceToNat, reduceCtorEq])
      · obtain ⟨r2, r6⟩ := radix_two (b := base) (by omega)
        rw [hk] at r2 r6
        obtain ⟨t, rfl⟩ := Int.eq_ofNat_of_zero_le (show 0 ≤ t by omega)
        rw [show (if k = 0 ∨ (t : Int) < 0 ∨ 5 < (t : Int) then (1 : Int) else if 36 < powW k (t : Int).toNat then 3 else 0) = if 36 < powW k t then 3 else 0 by rw [if_neg (by omega)]; rfl]
        repeat' (first | (with_reducible first | refine SW_seq ?_ | refine SW_block ?_ | refine SThen_n ?_ | refine SThen_r ?_ | refine SThen_e ?_ | refine SIn_n ?_ | refine SIn_r ?_ | refine SIn_eq ?_ | refine SW_skip ?_ | refine SW_exit ?_ | refine SW_ret ?_ | refine SPost_r ?_) | ((with_reducible refine SIn_ne ?_ ?_); focus decide) | ((with_reducible refine SW_true ?_ ?_); focus exact rfl) | ((with_reducible refine SW_false ?_ ?_); focus exact rfl) | ((first | (with_reducible apply SW_run tt_ok hG htb) | ((with_reducible apply SW_draw rfl tt_ok hG htb); (focus kernel_rfl); (focus (simp only [List.range, List.range.loop, List.size_toArray, List.length_cons, List.length_nil, Nat.reduceAdd])))); focus ((repeat' (first | (with_reducible exact runX_nil) | (with_reducible exact runI_nil) | ((first | (with_reducible apply runX_cons) | (with_reducible apply runI_cons)); focus (simp (discharger := omega) only [go_sem, ↓reduceIte, reduceIte, Nat.reduceEqDiff, Nat.reduceLT, Nat.reduceLeDiff, Nat.reduceAdd, Nat.reduceSub, Nat.reduceMul, Nat.reduceDiv, Nat.reduceMod, Nat.reduceBEq, Int.reduceEq, Int.reduceLT, Int.reduceLE, Int.reduceNeg, Int.reduceToNat, reduceCtorEq]; with_reducible rfl)))); done)))
        refine SW_loop (fun m s => ∃ i : Nat, m = t - i ∧ s = ⟨32, [(1, .t (tInt t)), (6, .t (tInt k)), (7, .t (tInt (powW k i))), (8, .t (tInt i))], []⟩ ∧ i ≤ t) t ⟨_, Norm.headS (own := []) (keep := [1, 6, 7, 8]) (by simp (discharger := omega) only [go_sem, ↓reduceIte, reduceIte, Nat.reduceEqDiff, Nat.reduceLT, Nat.reduceLeDiff, Nat.reduceAdd, Nat.reduceSub, Nat.reduceMul, Nat.reduceDiv, Nat.reduceMod, Nat.reduceBEq, Int.reduceEq, Int.reduceLT, Int.reduceLE, Int.reduceNeg, Int.reduceToNat, reduceCtorEq]; with_reducible rfl) (by simp only [go_sem, ↓reduceIte, reduceIte, Nat.reduceEqDiff, Nat.reduceLT, Nat.reduceLeDiff, Nat.reduceAdd, Nat.reduceSub, Nat.reduceMul, Nat.reduceDiv, Nat.reduceMod, Nat.reduceBEq, Int.reduceEq, Int.reduceLT, Int.reduceLE, Int.reduceNeg, Int.reduceToNat, reduceCtorEq]; with_reducible rfl) (by simp only [go_sem, ↓reduceIte, reduceIte, Nat.reduceEqDiff, Nat.reduceLT, Nat.reduceLeDiff, Nat.reduceAdd, Nat.reduceSub, Nat.reduceMul, Nat.reduceDiv, Nat.reduceMod, Nat.reduceBEq, Int.reduceEq, Int.reduceLT, Int.reduceLE, Int.reduceNeg, Int.reduceToNat, reduceCtorEq]; with_reducible rfl) (by simp only [go_sem, ↓reduceIte, reduceIte, Nat.reduceEqDiff, Nat.reduceLT, Nat.reduceLeDiff, Nat.reduceAdd, Nat.reduceSub, Nat.reduceMul, Nat.reduceDiv, Nat.reduceMod, Nat.reduceBEq, Int.reduceEq, Int.reduceLT, Int.reduceLE, Int.reduceNeg, Int.reduceToNat, reduceCtorEq]; with_reducible rfl) (by simp only [go_sem, ↓reduceIte, reduceIte, Nat.reduceEqDiff, Nat.reduceLT, Nat.reduceLeDiff, Nat.reduceAdd, Nat.reduceSub, Nat.reduceMul, Nat.reduceDiv, Nat.reduceMod, Nat.reduceBEq, Int.reduceEq, Int.reduceLT, Int.reduceLE, Int.reduceNeg, Int.reduceToNat, reduceCtorEq]; with_reducible rfl), 0, rfl, rfl, Nat.zero_le _⟩ ?_
        rintro m s ⟨i, rfl, rfl, hi⟩
        have hb := powW_bd r2 r6 (j := i) (by omega)
        by_cases hlt : i < t
        · have hb1 : 1 ≤ powW k i * k ∧ powW k i * k ≤ 7776 := powW_bd r2 r6 (j := i + 1) (by omega)
          repeat' (first | (with_reducible first | refine SW_seq ?_ | refine SW_block ?_ | refine SThen_n ?_ | refine SThen_r ?_ | refine SThen_e ?_ | refine SIn_n ?_ | refine SIn_r ?_ | refine SIn_eq ?_ | refine SW_skip ?_ | refine SW_exit ?_ | refine SW_ret ?_ | refine SPost_r ?_) | ((with_reducible refine SIn_ne ?_ ?_); focus decide) | ((with_reducible refine SW_true ?_ ?_); focus exact rfl) | ((with_reducible refine SW_false ?_ ?_); focus exact rfl) | ((first | (with_reducible apply SW_run tt_ok hG htb) | ((with_reducible apply SW_draw rfl tt_ok hG htb); (focus kernel_rfl); (focus (simp only [List.range, List.range.loop, List.size_toArray, List.length_cons, List.length_nil, Nat.reduceAdd])))); focus ((repeat' (first | (with_reducible exact runX_nil) | (with_reducible exact runI_nil) | ((first | (with_reducible apply runX_cons) | (with_reducible apply runI_cons)); focus (simp (discharger := omega) only [go_sem, ↓reduceIte, reduceIte, Nat.reduceEqDiff, Nat.reduceLT, Nat.reduceLeDiff, Nat.reduceAdd, Nat.reduceSub, Nat.reduceMul, Nat.reduceDiv, Nat.reduceMod, Nat.reduceBEq, Int.reduceEq, Int.reduceLT, Int.reduceLE, Int.reduceNeg, Int.reduceToNat, reduceCtorEq]; with_reducible rfl)))); done)))
          exact ⟨t - (i + 1), _, by omega, Norm.headS (own := []) (keep := [1, 6, 7, 8]) (by simp (discharger := omega) only [go_sem, ↓reduceIte, reduceIte, Nat.reduceEqDiff, Nat.reduceLT, Nat.reduceLeDiff, Nat.reduceAdd, Nat.reduceSub, Nat.reduceMul, Nat.reduceDiv, Nat.reduceMod, Nat.reduceBEq, Int.reduceEq, Int.reduceLT, Int.reduceLE, Int.reduceNeg, Int.reduceToNat, reduceCtorEq]; with_reducible rfl) (by simp only [go_sem, ↓reduceIte, reduceIte, Nat.reduceEqDiff, Nat.reduceLT, Nat.reduceLeDiff, Nat.reduceAdd, Nat.reduceSub, Nat.reduceMul, Nat.reduceDiv, Nat.reduceMod, Nat.reduceBEq, Int.reduceEq, Int.reduceLT, Int.reduceLE, Int.reduceNeg, Int.reduceToNat, reduceCtorEq]; with_reducible rfl) (by simp only [go_sem, ↓reduceIte, reduceIte, Nat.reduceEqDiff, Nat.reduceLT, Nat.reduceLeDiff, Nat.reduceAdd, Nat.reduceSub, Nat.reduceMul, Nat.reduceDiv, Nat.reduceMod, Nat.reduceBEq, Int.reduceEq, Int.reduceLT, Int.reduceLE, Int.reduceNeg, Int.reduceToNat, reduceCtorEq]; with_reducible rfl) (by simp only [go_sem, ↓reduceIte, reduceIte, Nat.reduceEqDiff, Nat.reduceLT, Nat.reduceLeDiff, Nat.reduceAdd, Nat.reduceSub, Nat.reduceMul, Nat.reduceDiv, Nat.reduceMod, Nat.reduceBEq, Int.reduceEq, Int.reduceLT, Int.reduceLE, Int.reduceNeg, Int.reduceToNat, reduceCtorEq]; with_reducible rfl) (by simp only [go_sem, ↓reduceIte, reduceIte, Nat.reduceEqDiff, Nat.reduceLT, Nat.reduceLeDiff, Nat.reduceAdd, Nat.reduceSub, Nat.reduceMul, Nat.reduceDiv, Nat.reduceMod, Nat.reduceBEq, Int.reduceEq, Int.reduceLT, Int.reduceLE, Int.reduceNeg, Int.reduceToNat, reduceCtorEq]; with_reducible rfl), i + 1, rfl, rfl, by omega⟩
        · obtain rfl : i = t := by omega
          by_cases h36 : 36 < powW k i
          · repeat' (first | (with_reducible first | refine SW_seq ?_ | refine SW_block ?_ | refine SThen_n ?_ | refine SThen_r ?_ | refine SThen_e ?_ | refine SIn_n ?_ | refine SIn_r ?_ | refine SIn_eq ?_ | refine SW_skip ?_ | refine SW_exit ?_ | refine SW_ret ?_ | refine SPost_r ?_) | ((with_reducible refine SIn_ne ?_ ?_); focus decide) | ((with_reducible refine SW_true ?_ ?_); focus exact rfl) | ((with_reducible refine SW_false ?_ ?_); focus exact rfl) | ((first | (with_reducible apply SW_run tt_ok hG htb) | ((with_reducible apply SW_draw rfl tt_ok hG htb); (focus kernel_rfl); (focus (simp only [List.range, List.range.loop, List.size_toArray, List.length_cons, List.length_nil, Nat.reduceAdd])))); focus ((repeat' (first | (with_reducible exact runX_nil) | (with_reducible exact runI_nil) | ((first | (with_reducible apply runX_cons) | (with_reducible apply runI_cons)); focus (simp (discharger := omega) only [go_sem, ↓reduceIte, reduceIte, Nat.reduceEqDiff, Nat.reduceLT, Nat.reduceLeDiff, Nat.reduceAdd, Nat.reduceSub, Nat.reduceMul, Nat.reduceDiv, Nat.reduceMod, Nat.reduceBEq, Int.reduceEq, Int.reduceLT, Int.reduceLE, Int.reduceNeg, Int.reduceToNat, reduceCtorEq]; with_reducible rfl)))); done)))
            exact (by simp (discharger := omega) only [go_sem, ↓reduceIte, reduceIte, Nat.reduceEqDiff, Nat.reduceLT, Nat.reduceLeDiff, Nat.reduceAdd, Nat.reduceSub, Nat.reduceMul, Nat.reduceDiv, Nat.reduceMod, Nat.reduceBEq, Int.reduceEq, Int.reduceLT, Int.reduceLE, Int.reduceNeg, Int.reduceToNat, reduceCtorEq])
          · repeat' (first | (with_reducible first | refine SW_seq ?_ | refine SW_block ?_ | refine SThen_n ?_ | refine SThen_r ?_ | refine SThen_e ?_ | refine SIn_n ?_ | refine SIn_r ?_ | refine SIn_eq ?_ | refine SW_skip ?_ | refine SW_exit ?_ | refine SW_ret ?_ | refine SPost_r ?_) | ((with_reducible refine SIn_ne ?_ ?_); focus decide) | ((with_reducible refine SW_true ?_ ?_); focus exact rfl) | ((with_reducible refine SW_false ?_ ?_); focus exact rfl) | ((first | (with_reducible apply SW_run tt_ok hG htb) | ((with_reducible apply SW_draw rfl tt_ok hG htb); (focus kernel_rfl); (focus (simp only [List.range, List.range.loop, List.size_toArray, List.length_cons, List.length_nil, Nat.reduceAdd])))); focus ((repeat' (first | (with_reducible exact runX_nil) | (with_reducible exact runI_nil) | ((first | (with_reducible apply runX_cons) | (with_reducible apply runI_cons)); focus (simp (discharger := omega) only [go_sem, ↓reduceIte, reduceIte, Nat.reduceEqDiff, Nat.reduceLT, Nat.reduceLeDiff, Nat.reduceAdd, Nat.reduceSub, Nat.reduceMul, Nat.reduceDiv, Nat.reduceMod, Nat.reduceBEq, Int.reduceEq, Int.reduceLT, Int.reduceLE, Int.reduceNeg, Int.reduceToNat, reduceCtorEq]; with_reducible rfl)))); done)))
            exact (by simp (discharger := omega) only [go_sem, ↓reduceIte, reduceIte, Nat.reduceEqDiff, Nat.reduceLT, Nat.reduceLeDiff, Nat.reduceAdd, Nat.reduceSub, Nat.reduceMul, Nat.reduceDiv, Nat.reduceMod, Nat.reduceBEq, Int.reduceEq, Int.reduceLT, Int.reduceLE, Int.reduceNeg, Int.reduceToNat, reduceCtorEq])
end
end Go.Proofs.YtfhncnhkeodngaaDoor
namespace Go.Proofs.YtfhncnhkeodngaaDoor

/-- The least rows and ends of a language. -/
noncomputable def leastL (n : Nat) (L : List Nat → Bool) : List (List Int) × List Bool := open Classical in if h : ∃ p : List (List Int) × List Bool, Least n p.1 p.2 L then Classical.choose h else ([], [])
theorem leastL_eq {n : Nat} {N : List (List Int)} {E : List Bool} {L : List Nat → Bool} (h : Least n N E L) : leastL n L = (N, E) := by
  have hx : ∃ p : List (List Int) × List Bool, Least n p.1 p.2 L := ⟨(N, E), h⟩
  unfold leastL
  rw [dif_pos hx]
  have := (Classical.choose_spec hx).unique h
  exact Prod.ext this.1 this.2
theorem leastL_congr {n : Nat} {L L' : List Nat → Bool} (h : ∀ w, Ltr n w → L w = L' w) : leastL n L = leastL n L' := by
  by_cases hx : ∃ p : List (List Int) × List Bool, Least n p.1 p.2 L
  · obtain ⟨⟨N, E⟩, hp⟩ := hx
    rw [leastL_eq hp, leastL_eq (hp.lang_congr h)]
  · have hy : ¬ ∃ p : List (List Int) × List Bool, Least n p.1 p.2 L' := fun ⟨p, hp⟩ => hx ⟨p, hp.lang_congr fun w hw => (h w hw).symm⟩
    unfold leastL
    rw [dif_neg hx, dif_neg hy]
theorem leastRE_L {n m : Nat} {next : List (List Int)} {ends : List Bool} {L : List Nat → Bool} (hR : Rows0 n m next) (hm : 0 < m) (h : ∀ w, Ltr n w → lang next ends 0 w = L w) : leastRE n next ends = leastL n L :=
  (leastL_eq ((leastRE_spec (ends := ends) hR hm).1.lang_congr h)).symm
noncomputable def errL (n : Nat) (L : List Nat → Bool) : Int := if 80 < (leastL n L).1.length then 3 else 0
noncomputable def autoL (base t : Int) (n : Nat) (L : List Nat → Bool) : GAuto := if errL n L = 0 then ⟨base, t, (leastL n L).1, (leastL n L).2⟩ else GAuto.zero
theorem errL_cases (n : Nat) (L : List Nat → Bool) : errL n L = 0 ∨ errL n L = 3 := by unfold errL; split <;> simp
/-- Some table takes this language. -/
def Regular (n : Nat) (L : List Nat → Bool) : Prop := ∃ N E, Least n N E L
theorem Regular.of {n m : Nat} {next : List (List Int)} {ends : List Bool} {L : List Nat → Bool} (hR : Rows0 n m next) (hm : 0 < m) (h : ∀ w, Ltr n w → lang next ends 0 w = L w) : Regular n L :=
  ⟨_, _, (leastRE_spec (ends := ends) hR hm).1.lang_congr h⟩
theorem Regular.least {n : Nat} {L : List Nat → Bool} (h : Regular n L) : Least n (leastL n L).1 (leastL n L).2 L := by
  obtain ⟨N, E, h⟩ := h
  rw [leastL_eq h]; exact h
/-- A least automaton has no more states than words have kinds. -/
theorem Least.bound {n : Nat} {N : List (List Int)} {E : List Bool} {L : List Nat → Bool} (h : Least n N E L) (K : Nat) (κ : List Nat → Nat) (hκ : ∀ v, Ltr n v → κ v < K)
    (hres : ∀ v w, Ltr n v → Ltr n w → κ v = κ w → ∀ x, Ltr n x → L (v ++ x) = L (w ++ x)) : N.length ≤ K := by
  have hreach : ∀ k s, s ≤ k → s < N.length → ∃ v, Ltr n v ∧ runN (fun k l => ((N.getD k []).getD l 0).toNat) 0 v = s := by
    intro k
    induction k with
    | zero => intro s hs _; exact ⟨[], fun _ h => by simp at h, by rw [show s = 0 by omega]; rfl⟩
    | succ k ih =>
      intro s hs hlt
      by_cases h0 : s = 0
      · subst h0; exact ⟨[], fun _ h => by simp at h, rfl⟩
      · obtain ⟨q, l, hq, hl, e⟩ := h.canon.reach s (by omega) hlt
        obtain ⟨v, hv, ev⟩ := ih q (by omega) (by omega)
        refine ⟨v ++ [l], fun x hx => ?_, ?_⟩
        · rcases List.mem_append.1 hx with hx | hx
          · exact hv x hx
          · simp at hx; subst hx; exact hl
        · unfold runN at ev ⊢
          rw [List.foldl_append, ev]; exact e
  have hr : ∀ s, ∃ v, s < N.length → Ltr n v ∧ runN (fun k l => ((N.getD k []).getD l 0).toNat) 0 v = s := fun s => by
    by_cases hs : s < N.length
    · obtain ⟨v, hv⟩ := hreach s s (Nat.le_refl _) hs
      exact ⟨v, fun _ => hv⟩
    · exact ⟨[], fun h => (hs h).elim⟩
  obtain ⟨f, hf⟩ := Classical.axiomOfChoice hr
  have := nodup_boundN K ((List.range N.length).map fun s => κ (f s)) (by
    refine List.pairwise_map.2 (List.nodup_range.imp_of_mem fun {s q} hs hq hne e => hne ?_)
    have hs := List.mem_range.1 hs
    have hq := List.mem_range.1 hq
    obtain ⟨h1, h2⟩ := hf s hs
    obtain ⟨h3, h4⟩ := hf q hq
    refine h.canon.red s q hs hq fun x hx => ?_
    have := hres _ _ h1 h3 e x hx
    have app : ∀ v, Ltr n v → Ltr n (v ++ x) := fun v hv y hy => by
      rcases List.mem_append.1 hy with hy | hy
      · exact hv y hy
      · exact hx y hy
    rw [← h.canon.lang _ (app _ h1), ← h.canon.lang _ (app _ h3)] at this
    unfold runN at this h2 h4 ⊢
    rw [List.foldl_append, List.foldl_append, h2, h4] at this
    exact this) fun k hk => by
      obtain ⟨s, hs, rfl⟩ := List.mem_map.1 hk
      exact hκ _ (hf s (List.mem_range.1 hs)).1
  simpa using this

/-- Rows with ends, as an automaton over tracks. -/
def rowsA (base t : Int) (next : List (List Int)) (ends : List Bool) : GAuto := ⟨base, t, next, ends⟩
theorem tk8 (x y : Bool) : tk 8 x y = (x && y) := by cases x <;> cases y <;> decide
section
variable {base : Int} {t n m : Nat} {next : List (List Int)} {ends : List Bool}
theorem rgt_table (h0 : manyErr base t = 0) (hn : manyOf base t = n) (hR : Rows0 n m next) (hm : 0 < m) : Rows0 n (prodPairs (rowsA base t next ends) (allA base t)).length (prodNext (rowsA base t next ends) (allA base t) n) ∧ 0 < (prodPairs (rowsA base t next ends) (allA base t)).length := by
  have g := allA_good h0 hn
  refine ⟨(prod_expl (a := rowsA base t next ends) hR g.rows).table (prod_len _ _ _), ?_⟩
  rw [prodPairs_length]
  have := g.m0
  have hl : (rowsA base t next ends).next.length = m := hR.len
  rw [hl]
  exact Nat.mul_pos hm this
theorem rgt_pend (h0 : manyErr base t = 0) (hn : manyOf base t = n) {w : List Nat} (hw : Ltr n w) :
    pend (rowsA base t next ends) (allA base t) 8 (w.foldl (pst (rowsA base t next ends) (allA base t)) (0, 0)) = (lang next ends 0 w && rightWd base t w) := by
  rw [pend_run, tk8]
  have := (allA_isLeast h0 hn).1.lng hw
  unfold lng at this
  rw [this]
  rfl
theorem rgt_lang (h0 : manyErr base t = 0) (hn : manyOf base t = n) (hR : Rows0 n m next) (hm : 0 < m) {w : List Nat} (hw : Ltr n w) :
    lang (prodNext (rowsA base t next ends) (allA base t) n) (prodEnds (rowsA base t next ends) (allA base t) 8) 0 w = (lang next ends 0 w && rightWd base t w) := by
  have g := allA_good h0 hn
  have hz := prod_zero (a := rowsA base t next ends) (b := allA base t) (by show 0 < next.length; rw [hR.len]; exact hm) g.m0
  rw [(prod_expl (a := rowsA base t next ends) hR g.rows).lang (prod_len _ _ _) hz (prod_ends _ _ 8) hw, rgt_pend h0 hn hw]
end

/-- Rows with a state ahead that waits for what is no 0. -/
def lateRow (r : List Int) : List Int := (List.range r.length).map fun x => if x = 0 then 0 else r.getD x 0 + 1
def late (next : List (List Int)) : List (List Int) := lateRow (next.getD 0 []) :: next.map fun r => r.map (· + 1)
section
variable {k m : Nat} {next : List (List Int)}
end

/-- A table over pairs, each letter read as one of the first, and as one of the second. -/
def gst (A B : List (List Int)) (f g : Nat → Nat) (s : Int × Int) (l : Nat) : Int × Int := (nx A s.1 (f l), nx B s.2 (g l))
def gPairs (ma mb : Nat) : List (Int × Int) := (List.range ma).flatMap fun (x : Nat) => (List.range mb).map fun (y : Nat) => ((x : Int), (y : Int))
def gRow (A B : List (List Int)) (f g : Nat → Nat) (n : Nat) (p : Int × Int) : List Int := (List.range n).map fun l => nx A p.1 (f l) * (B.length : Int) + nx B p.2 (g l)
def gNext (A B : List (List Int)) (f g : Nat → Nat) (n : Nat) : List (List Int) := (gPairs A.length B.length).map (gRow A B f g n)
theorem gst_run (A B : List (List Int)) (f g : Nat → Nat) : ∀ (w : List Nat) (s : Int × Int), w.foldl (gst A B f g) s = (runS A s.1 (w.map f), runS B s.2 (w.map g))
  | [], _ => rfl
  | l :: w, s => by
    show w.foldl (gst A B f g) (gst A B f g s l) = _
    rw [gst_run A B f g w]; rfl
section
variable {A B : List (List Int)} {f g : Nat → Nat} {n n1 n2 ma mb : Nat}
theorem gPairs_get {x y : Nat} (hx : x < ma) (hy : y < mb) : (gPairs ma mb)[x * mb + y]? = some ((x : Int), (y : Int)) := flatMap_range_get (fun x y => ((x : Int), (y : Int))) mb _ x y hx hy
theorem gPairs_length (ma mb : Nat) : (gPairs ma mb).length = ma * mb := by
  unfold gPairs
  induction ma with
  | zero => simp
  | succ k ih => rw [List.range_succ, List.flatMap_append, List.length_append, ih]; simp [Nat.add_mul]
theorem gPairs_mem {p : Int × Int} (h : p ∈ gPairs ma mb) : (0 ≤ p.1 ∧ p.1 < (ma : Int)) ∧ 0 ≤ p.2 ∧ p.2 < (mb : Int) := by
  obtain ⟨x, hx, h⟩ := List.mem_flatMap.1 h
  obtain ⟨y, hy, rfl⟩ := List.mem_map.1 h
  have := List.mem_range.1 hx
  have := List.mem_range.1 hy
  simp only; omega
theorem g_expl (hA : Rows0 n1 ma A) (hB : Rows0 n2 mb B) (hf : ∀ l, l < n → f l < n1) (hg : ∀ l, l < n → g l < n2) : Expl (gst A B f g) n (gPairs A.length B.length) (gNext A B f g n) := fun i r hr => by
  rw [gNext, List.getElem?_map, Option.map_eq_some_iff] at hr
  obtain ⟨p, hp, rfl⟩ := hr
  obtain ⟨h1, h2⟩ := gPairs_mem (List.mem_of_getElem? hp)
  refine ⟨by simp [gRow], p, hp, fun l hl => ?_⟩
  have e1 := nx_ok hA (s := p.1) (by rw [← hA.len]; exact h1) (hf l hl)
  have e2 := nx_ok hB (s := p.2) (by rw [← hB.len]; exact h2) (hg l hl)
  obtain ⟨x, hx⟩ : ∃ x : Nat, nx A p.1 (f l) = x := ⟨(nx A p.1 (f l)).toNat, by omega⟩
  obtain ⟨y, hy⟩ : ∃ y : Nat, nx B p.2 (g l) = y := ⟨(nx B p.2 (g l)).toNat, by omega⟩
  refine ⟨x * B.length + y, ?_, ?_⟩
  · simp only [gRow, List.getElem?_map, List.getElem?_range hl, Option.map_some, hx, hy]
    congr 1
  · have := gPairs_get (ma := A.length) (mb := B.length) (x := x) (y := y) (by rw [hA.len]; omega) (by rw [hB.len]; omega)
    rw [this]; simp [gst, hx, hy]
theorem g_len : (gNext A B f g n).length = (gPairs A.length B.length).length := by simp [gNext]
theorem g_zero (ha : 0 < A.length) (hb : 0 < B.length) : (gPairs A.length B.length)[0]? = some (0, 0) := by
  have := gPairs_get (x := 0) (y := 0) ha hb
  simpa using this
theorem g_lang (hA : Rows0 n1 ma A) (hB : Rows0 n2 mb B) (ha : 0 < ma) (hb : 0 < mb) (hf : ∀ l, l < n → f l < n1) (hg : ∀ l, l < n → g l < n2) (E : Int × Int → Bool) {w : List Nat} (hw : Ltr n w) :
    lang (gNext A B f g n) ((gPairs A.length B.length).map E) 0 w = E (runS A 0 (w.map f), runS B 0 (w.map g)) := by
  rw [(g_expl hA hB hf hg).lang g_len (g_zero (by rw [hA.len]; exact ha) (by rw [hB.len]; exact hb)) (E := E) (fun i s h => by rw [List.getElem?_map, h]; rfl) hw, gst_run]
end
end Go.Proofs.YtfhncnhkeodngaaDoor
namespace Go.Proofs.YtfhncnhkeodngaaDoor

/-- What was read so far counts at, and what it would count a place lower (of Fib); behind one more letter. -/
def lnStep (base : Int) (p : Int × Int) (e : Int) : Int × Int := if base = 1 then (p.1 + p.2 + e, p.1 + e) else (p.1 * base + e, 0)
def lnCap (far : Int) (q : Int × Int) : Int × Int := if far < q.1 then (far + 1, 0) else if q.1 < -far then (-far - 1, 0) else q
def lnCut (far base : Int) (p : Int × Int) (e : Int) : Int × Int := if p = (far + 1, 0) ∨ p = (-far - 1, 0) then p else lnCap far (lnStep base p e)
def lnEnd (less : Bool) (c : Int) (p : Int × Int) : Bool := if less then decide (p.1 + c < 0) else decide (p.1 + c = 0)

/-- Sums over places. -/
def dotN (coefs : List Int) (f : Nat → Int) : Nat → Int
  | 0 => 0
  | i + 1 => dotN coefs f i + coefs.getD i 0 * f i
def posN (coefs : List Int) : Nat → Int := dotN (coefs.map fun c => max c 0) fun _ => 1
def negN (coefs : List Int) : Nat → Int := dotN (coefs.map fun c => max (-c) 0) fun _ => 1
def absN (coefs : List Int) : Nat → Int := dotN (coefs.map fun c => max c (-c)) fun _ => 1
theorem getD_map0 (f : Int → Int) (h0 : f 0 = 0) (l : List Int) (i : Nat) : (l.map f).getD i 0 = f (l.getD i 0) := by
  rw [List.getD_eq_getElem?_getD, List.getElem?_map, List.getD_eq_getElem?_getD]
  cases l[i]? with
  | none => exact h0.symm
  | some x => rfl
theorem posN_succ (coefs : List Int) (i : Nat) : posN coefs (i + 1) = posN coefs i + max (coefs.getD i 0) 0 := by
  show posN coefs i + (coefs.map fun c => max c 0).getD i 0 * 1 = _
  rw [getD_map0 (fun c => max c 0) (by decide), Int.mul_one]
theorem negN_succ (coefs : List Int) (i : Nat) : negN coefs (i + 1) = negN coefs i + max (-(coefs.getD i 0)) 0 := by
  show negN coefs i + (coefs.map fun c => max (-c) 0).getD i 0 * 1 = _
  rw [getD_map0 (fun c => max (-c) 0) (by decide), Int.mul_one]
theorem absN_succ (coefs : List Int) (i : Nat) : absN coefs (i + 1) = absN coefs i + max (coefs.getD i 0) (-(coefs.getD i 0)) := by
  show absN coefs i + (coefs.map fun c => max c (-c)).getD i 0 * 1 = _
  rw [getD_map0 (fun c => max c (-c)) (by decide), Int.mul_one]
theorem posneg (coefs : List Int) : ∀ i, posN coefs i + negN coefs i = absN coefs i ∧ 0 ≤ posN coefs i ∧ 0 ≤ negN coefs i
  | 0 => ⟨rfl, Int.le_refl _, Int.le_refl _⟩
  | i + 1 => by
    have := posneg coefs i
    rw [posN_succ, negN_succ, absN_succ]
    omega
theorem absN_mono (coefs : List Int) : ∀ {i j : Nat}, i ≤ j → absN coefs i ≤ absN coefs j
  | i, 0, h => by rw [show i = 0 by omega]; exact Int.le_refl _
  | i, j + 1, h => by
    by_cases e : i = j + 1
    · rw [e]; exact Int.le_refl _
    · have := absN_mono coefs (show i ≤ j by omega)
      rw [absN_succ]; omega
theorem absN_ge (coefs : List Int) {i j : Nat} (h : i < j) : -(absN coefs j) ≤ coefs.getD i 0 ∧ coefs.getD i 0 ≤ absN coefs j := by
  have h1 := absN_mono coefs (show i + 1 ≤ j from h)
  have h2 := (posneg coefs i).2
  have h3 := (posneg coefs i).1
  rw [absN_succ] at h1
  omega
theorem dotN_bd (coefs : List Int) {f : Nat → Int} {r : Int} : ∀ i, (∀ j, j < i → 0 ≤ f j ∧ f j ≤ r) → -(negN coefs i * r) ≤ dotN coefs f i ∧ dotN coefs f i ≤ posN coefs i * r
  | 0, _ => by simp [dotN, posN, negN]
  | i + 1, h => by
    obtain ⟨h1, h2⟩ := dotN_bd coefs (f := f) (r := r) i fun j hj => h j (by omega)
    obtain ⟨h3, h4⟩ := h i (by omega)
    rw [posN_succ, negN_succ, Int.add_mul, Int.add_mul]
    show -(_ + _) ≤ dotN coefs f i + coefs.getD i 0 * f i ∧ dotN coefs f i + coefs.getD i 0 * f i ≤ _
    generalize coefs.getD i 0 = c
    by_cases hc : 0 ≤ c
    · have e1 : c * f i ≤ c * r := Int.mul_le_mul_of_nonneg_left h4 hc
      have e2 : 0 ≤ c * f i := Int.mul_nonneg hc h3
      rw [show max c 0 = c by omega, show max (-c) 0 = 0 by omega, Int.zero_mul]
      omega
    · have e1 : (-c) * f i ≤ (-c) * r := Int.mul_le_mul_of_nonneg_left h4 (by omega)
      have e2 : 0 ≤ (-c) * f i := Int.mul_nonneg (by omega) h3
      have e3 : (-c) * f i = -(c * f i) := Int.neg_mul _ _
      rw [show max c 0 = 0 by omega, show max (-c) 0 = -c by omega, Int.zero_mul]
      omega

structure LJ (S : Int) (q : Int × Int) : Prop where
  a : ¬ (3 * S < q.1 ∧ q.2 < 0)
  b : ¬ (q.1 < S ∧ 3 * S < q.2)
  c : ¬ (2 * S < q.1 ∧ q.2 < -2 * S)
  d : ¬ (q.1 < -S ∧ 4 * S < q.2)
  a' : ¬ (q.1 < -3 * S ∧ 0 < q.2)
  b' : ¬ (-S < q.1 ∧ q.2 < -3 * S)
  c' : ¬ (q.1 < -2 * S ∧ 2 * S < q.2)
  d' : ¬ (S < q.1 ∧ q.2 < -4 * S)
theorem LJ.zero {S : Int} (hS : 0 ≤ S) : LJ S (0, 0) := by constructor <;> simp only <;> omega
theorem LJ.step {S : Int} {q : Int × Int} {e : Int} (hS : 0 ≤ S) (h : LJ S q) (he : -S ≤ e ∧ e ≤ S) : LJ S (q.1 + q.2 + e, q.1 + e) := by
  obtain ⟨a, b, c, d, a', b', c', d'⟩ := h
  constructor <;> simp only <;> omega
theorem LJ.neg {S : Int} {q : Int × Int} (h : LJ S q) : LJ S (-q.1, -q.2) := by
  obtain ⟨a, b, c, d, a', b', c', d'⟩ := h
  constructor <;> simp only <;> omega
/-- So far above that it stays there. -/
def High (base S k : Int) (q : Int × Int) : Prop := if base = 1 then (3 * S + k < q.1 ∧ 0 ≤ q.2) ∨ (2 * S + k < q.1 ∧ S ≤ q.2) else S + k < q.1
theorem High.gt {base S k : Int} {q : Int × Int} (hS : 0 ≤ S) (h : High base S k q) : k < q.1 := by
  unfold High at h
  split at h <;> omega
theorem lnStep_neg (base : Int) (q : Int × Int) (e : Int) : lnStep base (-q.1, -q.2) (-e) = (-(lnStep base q e).1, -(lnStep base q e).2) := by
  unfold lnStep
  split
  · ext <;> simp only <;> omega
  · ext
    · simp only; rw [Int.neg_mul]; omega
    · simp
/-- What a letter may add. -/
def lnOk (base S e : Int) : Prop := -(S * (radix base - 1)) ≤ e ∧ e ≤ S * (radix base - 1)
theorem lnOk.neg {base S e : Int} (h : lnOk base S e) : lnOk base S (-e) := by unfold lnOk at *; omega
theorem lnOk.fib {S e : Int} (h : lnOk 1 S e) : -S ≤ e ∧ e ≤ S := by
  have h2 : radix 1 - 1 = 1 := rfl
  unfold lnOk at h
  rw [h2] at h; omega
theorem radix_ne {base : Int} (hr : radix base ≠ 0) (h : base ≠ 1) : radix base = base ∧ 2 ≤ base ∧ base ≤ 6 := by
  rcases radix_pos hr with h1 | h1
  · exact (h h1.1).elim
  · exact ⟨h1.2.2, h1.1, h1.2.1⟩
theorem High.step {base S k : Int} {q : Int × Int} {e : Int} (hr : radix base ≠ 0) (hS : 0 ≤ S) (hk : 0 ≤ k) (h : High base S k q) (he : lnOk base S e) : High base S k (lnStep base q e) := by
  unfold High lnStep at *
  by_cases h1 : base = 1
  · subst h1
    have := he.fib
    simp only [if_true] at h ⊢
    omega
  · obtain ⟨e1, e2, e3⟩ := radix_ne hr h1
    unfold lnOk at he
    rw [e1] at he
    simp only [if_neg h1] at h ⊢
    have h2 : 0 ≤ (q.1 - S) * (base - 1) := Int.mul_nonneg (by omega) (by omega)
    rw [Int.sub_mul, Int.mul_sub, Int.mul_one] at h2
    omega
theorem High.enter {base S k far : Int} {q : Int × Int} (hS : 0 ≤ S) (hk : 0 ≤ k) (hfar : 3 * S + k ≤ far) (hJ : base = 1 → LJ S q) (h : far < q.1) : High base S k q := by
  unfold High
  split
  · have := (hJ ‹_›).a
    omega
  · omega
/-- The cut off state, and the one that is not. -/
def LnRel (base far S k : Int) (p q : Int × Int) : Prop :=
  (p = q ∧ -far ≤ q.1 ∧ q.1 ≤ far ∧ (base = 1 → LJ S q)) ∨ (p = (far + 1, 0) ∧ High base S k q) ∨ (p = (-far - 1, 0) ∧ High base S k (-q.1, -q.2))
theorem LnRel.zero {base far S k : Int} (hS : 0 ≤ S) (hf : 0 ≤ far) : LnRel base far S k (0, 0) (0, 0) := .inl ⟨rfl, by simp only; omega, by simp only; omega, fun _ => .zero hS⟩
theorem LnRel.step {base far S k : Int} {p q : Int × Int} {e : Int} (hr : radix base ≠ 0) (hS : 0 ≤ S) (hk : 0 ≤ k) (hfar : 3 * S + k ≤ far) (h : LnRel base far S k p q) (he : lnOk base S e) : LnRel base far S k (lnCut far base p e) (lnStep base q e) := by
  rcases h with ⟨rfl, h1, h2, h3⟩ | ⟨rfl, h1⟩ | ⟨rfl, h1⟩
  · have hn : ¬ (p = (far + 1, 0) ∨ p = (-far - 1, 0)) := by
      rintro (e | e) <;> rw [e] at h1 h2 <;> simp only at h1 h2 <;> omega
    have hJ : base = 1 → LJ S (lnStep base p e) := fun hb => by
      subst hb
      have := (h3 rfl).step hS he.fib
      exact this
    unfold lnCut
    rw [if_neg hn]
    unfold lnCap
    split
    · exact .inr (.inl ⟨rfl, High.enter hS hk hfar hJ ‹_›⟩)
    · split
      · exact .inr (.inr ⟨rfl, High.enter hS hk hfar (fun hb => (hJ hb).neg) (by simp only; omega)⟩)
      · exact .inl ⟨rfl, by omega, by omega, hJ⟩
  · unfold lnCut
    rw [if_pos (.inl rfl)]
    exact .inr (.inl ⟨rfl, h1.step hr hS hk he⟩)
  · unfold lnCut
    rw [if_pos (.inr rfl)]
    refine .inr (.inr ⟨rfl, ?_⟩)
    have := h1.step hr hS hk he.neg
    rwa [lnStep_neg] at this
theorem LnRel.fin {base far S k c : Int} {p q : Int × Int} (hS : 0 ≤ S) (hfar : 3 * S + k ≤ far) (hc : -k ≤ c ∧ c ≤ k) (less : Bool) (h : LnRel base far S k p q) : lnEnd less c p = lnEnd less c q := by
  rcases h with ⟨rfl, _⟩ | ⟨rfl, h1⟩ | ⟨rfl, h1⟩
  · rfl
  · have := h1.gt hS
    unfold lnEnd
    split <;> simp only [decide_eq_decide] <;> omega
  · have := h1.gt hS
    simp only at this
    unfold lnEnd
    split <;> simp only [decide_eq_decide] <;> omega
def lnRun (base : Int) (add : Nat → Int) (w : List Nat) : Int × Int := w.foldl (fun p l => lnStep base p (add l)) (0, 0)
def lnCutRun (far base : Int) (add : Nat → Int) (w : List Nat) : Int × Int := w.foldl (fun p l => lnCut far base p (add l)) (0, 0)
theorem ln_rel {base far S k : Int} {n : Nat} {add : Nat → Int} (hr : radix base ≠ 0) (hS : 0 ≤ S) (hk : 0 ≤ k) (hfar : 3 * S + k ≤ far) (ha : ∀ l, l < n → lnOk base S (add l)) (w : List Nat) (hw : Ltr n w) : LnRel base far S k (lnCutRun far base add w) (lnRun base add w) := by
  unfold lnCutRun lnRun
  have : ∀ (w : List Nat) (p q : Int × Int), Ltr n w → LnRel base far S k p q → LnRel base far S k (w.foldl (fun p l => lnCut far base p (add l)) p) (w.foldl (fun p l => lnStep base p (add l)) q) := by
    intro w
    induction w with
    | nil => exact fun _ _ _ h => h
    | cons l w ih => exact fun p q hw h => ih _ _ (fun x hx => hw x (List.mem_cons_of_mem _ hx)) (h.step hr hS hk hfar (ha l (hw l List.mem_cons_self)))
  exact this w _ _ hw (.zero hS (by omega))
/-- It ends as if it were not cut off. -/
theorem ln_end {base far S k c : Int} {n : Nat} {add : Nat → Int} (hr : radix base ≠ 0) (hS : 0 ≤ S) (hk : 0 ≤ k) (hfar : 3 * S + k ≤ far) (hc : -k ≤ c ∧ c ≤ k) (ha : ∀ l, l < n → lnOk base S (add l)) (less : Bool) {w : List Nat} (hw : Ltr n w) : lnEnd less c (lnCutRun far base add w) = lnEnd less c (lnRun base add w) :=
  (ln_rel hr hS hk hfar ha w hw).fin hS hfar hc less

/-- Where a cut off state lies. -/
structure LnPt (base far S B : Int) (p : Int × Int) : Prop where
  x : -far - 1 ≤ p.1 ∧ p.1 ≤ far + 1
  y : -B ≤ p.2 ∧ p.2 ≤ B
  z : base ≠ 1 → p.2 = 0
  j : p = (far + 1, 0) ∨ p = (-far - 1, 0) ∨ (-far ≤ p.1 ∧ p.1 ≤ far ∧ (base = 1 → LJ S p))
theorem LnPt.zero {base far S B : Int} (hS : 0 ≤ S) (hf : 0 ≤ far) (hB : 0 ≤ B) : LnPt base far S B (0, 0) :=
  ⟨by simp only; omega, by simp only; omega, fun _ => rfl, .inr (.inr ⟨by simp only; omega, by simp only; omega, fun _ => .zero hS⟩)⟩
theorem LnPt.step {base far S B : Int} {p : Int × Int} {e : Int} (hS : 0 ≤ S) (hf : 0 ≤ far) (hB : far + S ≤ B ∨ (far + 1 ≤ B ∧ 4 * S ≤ far)) (h : LnPt base far S B p) (he : lnOk base S e) : LnPt base far S B (lnCut far base p e) := by
  by_cases hn : p = (far + 1, 0) ∨ p = (-far - 1, 0)
  · unfold lnCut; rw [if_pos hn]; exact h
  · obtain ⟨h1, h2, h3⟩ : -far ≤ p.1 ∧ p.1 ≤ far ∧ (base = 1 → LJ S p) := by
      rcases h.j with e | e | e
      · exact (hn (.inl e)).elim
      · exact (hn (.inr e)).elim
      · exact e
    have hJ : base = 1 → LJ S (lnStep base p e) := fun hb => by
      subst hb
      exact (h3 rfl).step hS he.fib
    have hB0 : 0 ≤ B := by omega
    unfold lnCut
    rw [if_neg hn]
    unfold lnCap
    split
    · exact ⟨by simp only; omega, by simp only; omega, fun _ => rfl, .inl rfl⟩
    · split
      · exact ⟨by simp only; omega, by simp only; omega, fun _ => rfl, .inr (.inl rfl)⟩
      · refine ⟨by omega, ?_, fun hb => ?_, .inr (.inr ⟨by omega, by omega, hJ⟩)⟩
        · by_cases hb : base = 1
          · subst hb
            have he := he.fib
            have h4 := h3 rfl
            have ea := h4.a
            have ea' := h4.a'
            rename_i h5 h6
            simp only [lnStep, if_true] at h5 h6 ⊢
            omega
          · simp only [lnStep, if_neg hb]; omega
        · simp only [lnStep, if_neg hb]
/-- Different states are no more than there are places. -/
theorem ln_count {A B : Nat} {l : List (Int × Int)} (hn : l.Nodup) (h : ∀ p ∈ l, (-(A : Int) ≤ p.1 ∧ p.1 ≤ A) ∧ -(B : Int) ≤ p.2 ∧ p.2 ≤ B) : l.length ≤ (2 * A + 1) * (2 * B + 1) := by
  have := pairs_bound (ma := 2 * A + 1) (mb := 2 * B + 1) (l := l.map fun p => (p.1 + A, p.2 + B)) (List.pairwise_map.2 (hn.imp fun {p q} hne e => hne (by
    simp only [Prod.mk.injEq] at e
    exact Prod.ext (by omega) (by omega)))) fun p hp => by
      obtain ⟨q, hq, rfl⟩ := List.mem_map.1 hp
      have := h q hq
      simp only; omega
  simpa using this
end Go.Proofs.YtfhncnhkeodngaaDoor
namespace Go.Proofs.YtfhncnhkeodngaaDoor

def lastL (s : Nat) (v : List Nat) : Nat := v.foldl (fun _ l => l) s
theorem walkOk_append {c : Nat → Nat → Bool} : ∀ (v x : List Nat) (s : Nat), walkOk c s (v ++ x) = (walkOk c s v && walkOk c (lastL s v) x)
  | [], x, s => by simp [walkOk, lastL]
  | l :: v, x, s => by
    show (!c s l && walkOk c l (v ++ x)) = ((!c s l && walkOk c l v) && walkOk c (lastL l v) x)
    rw [walkOk_append v x l, Bool.and_assoc]
theorem chain_walk {c : Nat → Nat → Bool} (h : ∀ l, c 0 l = false) (w : List Nat) : chain c w = walkOk c 0 w := by
  cases w with
  | nil => rfl
  | cons l w => show _ = (!c 0 l && walkOk c l w); rw [h l]; rfl
theorem unpack_zero (k : Int) : ∀ t : Nat, ∀ x ∈ unpack k t 0, x = 0
  | 0, x, h => by simp [unpack] at h
  | t + 1, x, h => by
    have ih := unpack_zero k t
    simp only [unpack, Int.zero_ediv, Int.zero_emod] at h
    rcases List.mem_append.1 h with h | h
    · exact ih x h
    · simpa using h
theorem clash_zero (base : Int) (t l : Nat) : clash base t 0 l = false := by
  unfold clash
  rw [Bool.and_eq_false_iff]
  right
  rw [List.any_eq_false]
  intro k _
  have : digitAt (radix base) t ((0 : Nat) : Int) k = 0 := by
    unfold digitAt
    rw [List.getD_eq_getElem?_getD]
    cases h : (unpack (radix base) t ((0 : Nat) : Int))[k]? with
    | none => rfl
    | some x => exact unpack_zero (radix base) t x (List.mem_of_getElem? h)
  rw [this]; simp
theorem rightWd_walk (base : Int) (t : Nat) (w : List Nat) : rightWd base t w = walkOk (clash base t) 0 w := chain_walk (clash_zero base t) w
theorem rightWd_append (base : Int) (t : Nat) (v x : List Nat) : rightWd base t (v ++ x) = (rightWd base t v && walkOk (clash base t) (lastL 0 v) x) := by
  rw [rightWd_walk, rightWd_walk, walkOk_append]
theorem lastL_lt {n : Nat} : ∀ (v : List Nat) (s : Nat), s < n → Ltr n v → lastL s v < n
  | [], s, h, _ => h
  | l :: v, _, _, hv => lastL_lt v l (hv l List.mem_cons_self) fun x hx => hv x (List.mem_cons_of_mem _ hx)

section
variable {n : Nat} {add : Nat → Int} {P N : Int}
/-- Near a line. -/
def Strip (P N : Int) (q : Int × Int) : Prop := -(3 + 56 * N + 35 * P) ≤ 89 * q.2 - 55 * q.1 ∧ 89 * q.2 - 55 * q.1 ≤ 3 + 56 * P + 35 * N
theorem Strip.step {q : Int × Int} {e : Int} (h0 : 0 ≤ P ∧ 0 ≤ N) (h : Strip P N q) (hq : -97 ≤ q.1 ∧ q.1 ≤ 97) (he : -N ≤ e ∧ e ≤ P) : Strip P N (q.1 + q.2 + e, q.1 + e) := by
  unfold Strip at *
  simp only
  omega
def InStrip (P N : Int) (p : Int × Int) : Prop := Strip P N p ∧ -96 ≤ p.1 ∧ p.1 ≤ 96 ∨ p = (97, 0) ∨ p = (-97, 0)
theorem lnCut_96 (p : Int × Int) (e : Int) : lnCut 96 1 p e = if p = (97, 0) ∨ p = (-97, 0) then p else lnCap 96 (p.1 + p.2 + e, p.1 + e) := rfl
theorem InStrip.step {p : Int × Int} {e : Int} (h0 : 0 ≤ P ∧ 0 ≤ N) (h : InStrip P N p) (he : -N ≤ e ∧ e ≤ P) : InStrip P N (lnCut 96 1 p e) := by
  rw [lnCut_96]
  by_cases hn : p = (97, 0) ∨ p = (-97, 0)
  · rw [if_pos hn]; exact .inr hn
  · have hs : Strip P N p ∧ -96 ≤ p.1 ∧ p.1 ≤ 96 := by
      rcases h with h | h
      · exact h
      · exact (hn h).elim
    rw [if_neg hn]
    have := hs.1.step h0 ⟨by omega, by omega⟩ he
    unfold lnCap
    split
    · exact .inr (.inl rfl)
    · split
      · exact .inr (.inr rfl)
      · exact .inl ⟨this, by omega, by omega⟩
theorem ln_strip (h0 : 0 ≤ P ∧ 0 ≤ N) (ha : ∀ l, l < n → -N ≤ add l ∧ add l ≤ P) : ∀ (w : List Nat) (p : Int × Int), Ltr n w → InStrip P N p → InStrip P N (w.foldl (fun p l => lnCut 96 1 p (add l)) p)
  | [], _, _, h => h
  | l :: w, p, hw, h => ln_strip h0 ha w _ (fun x hx => hw x (List.mem_cons_of_mem _ hx)) (h.step h0 (ha l (hw l List.mem_cons_self)))
def runFrom1 (add : Nat → Int) (q : Int × Int) (w : List Nat) : Int × Int := w.foldl (fun p l => lnStep 1 p (add l)) q
theorem high_run {S k : Int} (hS : 0 ≤ S) (hk : 0 ≤ k) (ha : ∀ l, l < n → lnOk 1 S (add l)) : ∀ (x : List Nat) (q : Int × Int), Ltr n x → High 1 S k q → High 1 S k (runFrom1 add q x)
  | [], _, _, h => h
  | l :: x, q, hx, h => high_run hS hk ha x _ (fun y hy => hx y (List.mem_cons_of_mem _ hy)) (h.step (by decide) hS hk (ha l (hx l List.mem_cons_self)))
theorem runFrom1_neg (add : Nat → Int) : ∀ (x : List Nat) (q : Int × Int), runFrom1 (fun l => -(add l)) (-q.1, -q.2) x = (-(runFrom1 add q x).1, -(runFrom1 add q x).2)
  | [], _ => rfl
  | l :: x, q => by
    show runFrom1 (fun l => -(add l)) (lnStep 1 (-q.1, -q.2) (-(add l))) x = _
    rw [lnStep_neg]
    exact runFrom1_neg add x _
/-- Above 72 it stays above 60. -/
theorem above {S : Int} (hS : 0 ≤ S ∧ S ≤ 12) (h0 : 0 ≤ P ∧ 0 ≤ N ∧ P + N = S) (ha : ∀ l, l < n → -N ≤ add l ∧ add l ≤ P) {q : Int × Int} (hq : High 1 S 60 q ∨ (72 < q.1 ∧ Strip P N q)) {x : List Nat} (hx : Ltr n x) : 60 < (runFrom1 add q x).1 := by
  have ha' : ∀ l, l < n → lnOk 1 S (add l) := fun l hl => by
    have := ha l hl
    have h2 : radix 1 - 1 = 1 := rfl
    unfold lnOk; rw [h2]; omega
  rcases hq with hq | ⟨h1, h2⟩
  · exact (high_run hS.1 (by omega) ha' x q hx hq).gt hS.1
  · cases x with
    | nil => show 60 < q.1; omega
    | cons l x =>
      have h3 := ha l (hx l List.mem_cons_self)
      unfold Strip at h2
      have : High 1 S 60 (lnStep 1 q (add l)) := by
        unfold High lnStep
        simp only [if_true]
        right
        omega
      exact (high_run hS.1 (by omega) ha' x _ (fun y hy => hx y (List.mem_cons_of_mem _ hy)) this).gt hS.1
theorem Strip.neg {q : Int × Int} (h : Strip P N q) : Strip N P (-q.1, -q.2) := by unfold Strip at *; simp only; omega
theorem below {S : Int} (hS : 0 ≤ S ∧ S ≤ 12) (h0 : 0 ≤ P ∧ 0 ≤ N ∧ P + N = S) (ha : ∀ l, l < n → -N ≤ add l ∧ add l ≤ P) {q : Int × Int} (hq : High 1 S 60 (-q.1, -q.2) ∨ (q.1 < -72 ∧ Strip P N q)) {x : List Nat} (hx : Ltr n x) : (runFrom1 add q x).1 < -60 := by
  have := above (P := N) (N := P) (add := fun l => -(add l)) (q := (-q.1, -q.2)) hS ⟨h0.2.1, h0.1, by omega⟩ (fun l hl => by have := ha l hl; omega) (by
    rcases hq with h | ⟨h1, h2⟩
    · exact .inl h
    · exact .inr ⟨by simp only; omega, h2.neg⟩) hx
  rw [runFrom1_neg] at this
  simp only at this
  omega
/-- What kind of word. -/
def lnKind (t : Nat) (add : Nat → Int) (P N : Int) (v : List Nat) : Nat :=
  if rightWd 1 t v = false then 0
  else if 72 < (lnCutRun 96 1 add v).1 then 1 + lastL 0 v
  else if (lnCutRun 96 1 add v).1 < -72 then 33 + lastL 0 v
  else 65 + (((lnCutRun 96 1 add v).1 + 72).toNat * 13 + ((lnCutRun 96 1 add v).2 - (55 * (lnCutRun 96 1 add v).1 - (3 + 56 * N + 35 * P) + 88) / 89).toNat) * 32 + lastL 0 v
theorem lnRun_append (add : Nat → Int) (v x : List Nat) : lnRun 1 add (v ++ x) = runFrom1 add (lnRun 1 add v) x := by
  unfold lnRun runFrom1; rw [List.foldl_append]
theorem ln_kinds {t : Nat} {S c : Int} (hS : 0 ≤ S ∧ S ≤ 12) (h0 : 0 ≤ P ∧ 0 ≤ N ∧ P + N = S) (ha : ∀ l, l < n → -N ≤ add l ∧ add l ≤ P) (hc : -60 ≤ c ∧ c ≤ 60) (hn : 0 < n ∧ n ≤ 32) (less : Bool)
    {X : List (List Int)} {E : List Bool} (h : Least n X E fun w => lnEnd less c (lnRun 1 add w) && rightWd 1 t w) : X.length ≤ 65536 := by
  have ha' : ∀ l, l < n → lnOk 1 S (add l) := fun l hl => by
    have := ha l hl
    have h2 : radix 1 - 1 = 1 := rfl
    unfold lnOk; rw [h2]; omega
  have hst : ∀ v, Ltr n v → (Strip P N (lnCutRun 96 1 add v) ∧ -96 ≤ (lnCutRun 96 1 add v).1 ∧ (lnCutRun 96 1 add v).1 ≤ 96 ∨ lnCutRun 96 1 add v = (97, 0) ∨ lnCutRun 96 1 add v = (-97, 0)) := fun v hv =>
    ln_strip ⟨h0.1, h0.2.1⟩ ha v _ hv (.inl ⟨by unfold Strip; simp only; omega, by simp only; omega, by simp only; omega⟩)
  have hrl : ∀ v, Ltr n v → LnRel 1 96 S 60 (lnCutRun 96 1 add v) (lnRun 1 add v) := fun v hv => ln_rel (by decide) hS.1 (by omega) (by omega) ha' v hv
  have hup : ∀ v, Ltr n v → 72 < (lnCutRun 96 1 add v).1 → High 1 S 60 (lnRun 1 add v) ∨ (72 < (lnRun 1 add v).1 ∧ Strip P N (lnRun 1 add v)) := fun v hv h1 => by
    rcases hrl v hv with ⟨e, h2, h3, _⟩ | ⟨e, h2⟩ | ⟨e, h2⟩
    · rw [e] at h1
      have h4 := hst v hv
      rw [e] at h4
      refine .inr ⟨h1, ?_⟩
      rcases h4 with h4 | h4 | h4
      · exact h4.1
      · rw [h4] at h3; simp only at h3; omega
      · rw [h4] at h2; simp only at h2; omega
    · exact .inl h2
    · rw [e] at h1; simp only at h1; omega
  have hdn : ∀ v, Ltr n v → (lnCutRun 96 1 add v).1 < -72 → High 1 S 60 (-(lnRun 1 add v).1, -(lnRun 1 add v).2) ∨ ((lnRun 1 add v).1 < -72 ∧ Strip P N (lnRun 1 add v)) := fun v hv h1 => by
    rcases hrl v hv with ⟨e, h2, h3, _⟩ | ⟨e, h2⟩ | ⟨e, h2⟩
    · rw [e] at h1
      have h4 := hst v hv
      rw [e] at h4
      refine .inr ⟨h1, ?_⟩
      rcases h4 with h4 | h4 | h4
      · exact h4.1
      · rw [h4] at h3; simp only at h3; omega
      · rw [h4] at h2; simp only at h2; omega
    · rw [e] at h1; simp only at h1; omega
    · exact .inl h2
  have hmid : ∀ v, Ltr n v → ¬ 72 < (lnCutRun 96 1 add v).1 → ¬ (lnCutRun 96 1 add v).1 < -72 → lnCutRun 96 1 add v = lnRun 1 add v ∧ Strip P N (lnCutRun 96 1 add v) := fun v hv h1 h2 => by
    refine ⟨?_, ?_⟩
    · rcases hrl v hv with ⟨e, _⟩ | ⟨e, _⟩ | ⟨e, _⟩
      · exact e
      · rw [e] at h1; simp only at h1; omega
      · rw [e] at h2; simp only at h2; omega
    · rcases hst v hv with h | e | e
      · exact h.1
      · rw [e] at h1; simp only at h1; omega
      · rw [e] at h2; simp only at h2; omega
  have hlast : ∀ v, Ltr n v → lastL 0 v < 32 := fun v hv => Nat.lt_of_lt_of_le (lastL_lt v 0 hn.1 hv) hn.2
  refine Nat.le_trans (h.bound 60385 (lnKind t add P N) (fun v hv => ?_) fun v w hv hw e x hx => ?_) (by omega)
  · have hl := hlast v hv
    unfold lnKind
    split
    · omega
    · split
      · omega
      · split
        · omega
        · have h1 := (hmid v hv ‹_› ‹_›).2
          unfold Strip at h1
          omega
  · have hlv := hlast v hv
    have hlw := hlast w hw
    simp only [lnRun_append, rightWd_append]
    have kind : ∀ v, Ltr n v → (rightWd 1 t v = false ∧ lnKind t add P N v = 0) ∨ (rightWd 1 t v = true ∧ 72 < (lnCutRun 96 1 add v).1 ∧ lnKind t add P N v = 1 + lastL 0 v) ∨ (rightWd 1 t v = true ∧ (lnCutRun 96 1 add v).1 < -72 ∧ lnKind t add P N v = 33 + lastL 0 v) ∨
        (rightWd 1 t v = true ∧ ¬ 72 < (lnCutRun 96 1 add v).1 ∧ ¬ (lnCutRun 96 1 add v).1 < -72 ∧ lnKind t add P N v = 65 + (((lnCutRun 96 1 add v).1 + 72).toNat * 13 + ((lnCutRun 96 1 add v).2 - (55 * (lnCutRun 96 1 add v).1 - (3 + 56 * N + 35 * P) + 88) / 89).toNat) * 32 + lastL 0 v) := fun v hv => by
      cases hr : rightWd 1 t v with
      | false => exact .inl ⟨rfl, by unfold lnKind; rw [if_pos hr]⟩
      | true =>
        have hr' : ¬ rightWd 1 t v = false := by rw [hr]; decide
        by_cases h1 : 72 < (lnCutRun 96 1 add v).1
        · exact .inr (.inl ⟨rfl, h1, by unfold lnKind; rw [if_neg hr', if_pos h1]⟩)
        · by_cases h2 : (lnCutRun 96 1 add v).1 < -72
          · exact .inr (.inr (.inl ⟨rfl, h2, by unfold lnKind; rw [if_neg hr', if_neg h1, if_pos h2]⟩))
          · exact .inr (.inr (.inr ⟨rfl, h1, h2, by unfold lnKind; rw [if_neg hr', if_neg h1, if_neg h2]⟩))
    have kv := kind v hv
    have kw := kind w hw
    clear kind
    have fin_up : ∀ q : Int × Int, 60 < q.1 → lnEnd less c q = false := fun q hq => by
      unfold lnEnd
      split <;> simp only [decide_eq_false_iff_not] <;> omega
    have fin_dn : ∀ q : Int × Int, q.1 < -60 → lnEnd less c q = less := fun q hq => by
      unfold lnEnd
      cases less
      · simp only [Bool.false_eq_true, if_false, decide_eq_false_iff_not]; omega
      · simp only [if_true, decide_eq_true_eq]; omega
    rcases kv with ⟨r1, k1⟩ | ⟨r1, a1, k1⟩ | ⟨r1, a1, k1⟩ | ⟨r1, a1, b1, k1⟩ <;> rcases kw with ⟨r2, k2⟩ | ⟨r2, a2, k2⟩ | ⟨r2, a2, k2⟩ | ⟨r2, a2, b2, k2⟩ <;> (try (exfalso; omega))
    · rw [r1, r2]; simp
    · rw [fin_up _ (above hS h0 ha (hup v hv a1) hx), fin_up _ (above hS h0 ha (hup w hw a2) hx)]
      simp
    · rw [fin_dn _ (below hS h0 ha (hdn v hv a1) hx), fin_dn _ (below hS h0 ha (hdn w hw a2) hx), r1, r2, show lastL 0 v = lastL 0 w by omega]
    · obtain ⟨e1, s1⟩ := hmid v hv a1 b1
      obtain ⟨e2, s2⟩ := hmid w hw a2 b2
      unfold Strip at s1 s2
      have hx1 : (lnCutRun 96 1 add v).1 = (lnCutRun 96 1 add w).1 := by omega
      have hl : lastL 0 v = lastL 0 w := by omega
      have hx2 : (lnCutRun 96 1 add v).2 = (lnCutRun 96 1 add w).2 := by
        rw [hx1] at k1 s1
        omega
      rw [← e1, ← e2, r1, r2, hl, Prod.ext hx1 hx2]
end
end Go.Proofs.YtfhncnhkeodngaaDoor
namespace Go.Proofs.YtfhncnhkeodngaaDoor

section
variable {n n' m : Nat} {next : List (List Int)} {to : List Int}
end
theorem digitAt_ok {k : Int} (hk : 2 ≤ k) (t : Nat) (l : Int) (i : Nat) : 0 ≤ digitAt k t l i ∧ digitAt k t l i < k := by
  unfold digitAt
  by_cases h : i < (unpack k t l).length
  · rw [getD_lt h]; exact unpack_ok hk t l _ (List.getElem_mem h)
  · rw [List.getD_eq_getElem?_getD, List.getElem?_eq_none (by omega)]
    simp only [Option.getD_none]; omega
end Go.Proofs.YtfhncnhkeodngaaDoor
namespace Go.Proofs.YtfhncnhkeodngaaDoor

def szAll (coefs : List Int) : Bool := coefs.all fun c => decide (-12 ≤ c ∧ c ≤ 12)
def szW (coefs : List Int) : Int := coefs.foldl (fun s c => IntKind.i64.wrap (s + max c (-c))) 0
def sizeA (coefs : List Int) : Int := absN coefs coefs.length
theorem absN_le {coefs : List Int} (h : szAll coefs = true) : ∀ i, absN coefs i ≤ 12 * (i : Int)
  | 0 => by simp [absN, dotN]
  | i + 1 => by
    have ih := absN_le h i
    rw [absN_succ]
    have : -12 ≤ coefs.getD i 0 ∧ coefs.getD i 0 ≤ 12 := by
      rw [List.getD_eq_getElem?_getD]
      cases hc : coefs[i]? with
      | none => simp
      | some c => simpa using List.all_eq_true.1 h c (List.mem_of_getElem? hc)
    omega
theorem szW_take {coefs : List Int} (h : szAll coefs = true) (hl : coefs.length ≤ 1000) : ∀ i, i ≤ coefs.length → szW (coefs.take i) = absN coefs i
  | 0, _ => rfl
  | i + 1, hi => by
    have ih := szW_take h hl i (by omega)
    have hb := absN_le h (i + 1)
    have h0 := (posneg coefs i).1
    have h1 := (posneg coefs i).2
    rw [List.take_succ_eq_append_getElem (by omega)]
    unfold szW at ih ⊢
    rw [List.foldl_append, ih, absN_succ] at *
    simp only [List.foldl_cons, List.foldl_nil]
    rw [getD_lt (by omega)] at hb ⊢
    exact wrap_i64 _ (by omega)
theorem szW_eq {coefs : List Int} (h : szAll coefs = true) (hl : coefs.length ≤ 1000) : szW coefs = sizeA coefs := by
  have := szW_take h hl coefs.length (Nat.le_refl _)
  rwa [List.take_length] at this
theorem szAll_not {coefs : List Int} (h : szAll coefs = false) : 12 < sizeA coefs := by
  unfold szAll at h
  rw [List.all_eq_false] at h
  obtain ⟨c, hc, h2⟩ := h
  obtain ⟨i, hi, rfl⟩ := List.mem_iff_getElem.1 hc
  have := absN_ge coefs hi
  rw [getD_lt hi] at this
  simp only [decide_eq_true_eq] at h2
  unfold sizeA
  omega
theorem szAll_of {coefs : List Int} (h : sizeA coefs ≤ 12) : szAll coefs = true := by
  cases h2 : szAll coefs with
  | true => rfl
  | false => have := szAll_not h2; omega
def addL (base : Int) (coefs : List Int) (l : Nat) : Int := dotN coefs (fun i => digitAt (radix base) coefs.length (l : Int) i) coefs.length
def lineL (base : Int) (coefs : List Int) (c : Int) (less : Bool) (w : List Nat) : Bool := lnEnd less c (lnRun base (addL base coefs) w) && rightWd base coefs.length w
def lineFault (base : Int) (coefs : List Int) (c : Int) : Int := if manyErr base coefs.length ≠ 0 then manyErr base coefs.length else if 12 < sizeA coefs ∨ c < -60 ∨ 60 < c then 1 else 0
noncomputable def lineErr (base : Int) (coefs : List Int) (c : Int) (less : Bool) : Int := if lineFault base coefs c ≠ 0 then lineFault base coefs c else errL (manyOf base coefs.length).toNat (lineL base coefs c less)
noncomputable def lineOf (base : Int) (coefs : List Int) (c : Int) (less : Bool) : GAuto := if lineFault base coefs c ≠ 0 then .zero else autoL base coefs.length (manyOf base coefs.length).toNat (lineL base coefs c less)
structure LineOk (base : Int) (coefs : List Int) (c : Int) (n : Nat) : Prop where
  many : manyErr base coefs.length = 0
  n_eq : manyOf base coefs.length = n
  r : radix base ≠ 0
  t5 : coefs.length ≤ 5
  n0 : 0 < n
  n36 : n ≤ 36
  sz : 0 ≤ sizeA coefs ∧ sizeA coefs ≤ 12
  c60 : -60 ≤ c ∧ c ≤ 60
theorem line_ok {base : Int} {coefs : List Int} {c : Int} (h : lineFault base coefs c = 0) : LineOk base coefs c (manyOf base coefs.length).toNat := by
  unfold lineFault at h
  split at h
  · omega
  · rename_i h1
    have h1 : manyErr base coefs.length = 0 := Classical.not_not.1 h1
    split at h
    · omega
    · rename_i h2
      obtain ⟨t, n, e, hn, ht5, hn0, hn36⟩ := many_nat h1
      rw [← e] at hn
      have h3 := (posneg coefs coefs.length).1
      have h4 := (posneg coefs coefs.length).2
      refine ⟨h1, by omega, (many_ok h1).1, by omega, by omega, by omega, ⟨?_, by omega⟩, by omega⟩
      unfold sizeA; omega
section
variable {base : Int} {coefs : List Int} {c : Int} {n : Nat}
theorem LineOk.add (g : LineOk base coefs c n) (l : Nat) : -(negN coefs coefs.length * (radix base - 1)) ≤ addL base coefs l ∧ addL base coefs l ≤ posN coefs coefs.length * (radix base - 1) :=
  dotN_bd coefs (r := radix base - 1) _ fun j _ => by
    have := digitAt_ok (radix_two g.r).1 coefs.length (l : Int) j
    omega
theorem LineOk.lnOk (g : LineOk base coefs c n) (l : Nat) : lnOk base (sizeA coefs) (addL base coefs l) := by
  have h := g.add l
  have h1 := (posneg coefs coefs.length).1
  obtain ⟨h2, h3⟩ := (posneg coefs coefs.length).2
  have hr := (radix_two g.r).1
  have h4 : posN coefs coefs.length * (radix base - 1) ≤ sizeA coefs * (radix base - 1) := Int.mul_le_mul_of_nonneg_right (by unfold sizeA; omega) (by omega)
  have h5 : negN coefs coefs.length * (radix base - 1) ≤ sizeA coefs * (radix base - 1) := Int.mul_le_mul_of_nonneg_right (by unfold sizeA; omega) (by omega)
  unfold Go.Proofs.YtfhncnhkeodngaaDoor.lnOk
  omega
/-- Of base Fib there are not too many kinds of words. -/
theorem LineOk.kinds (g : LineOk base coefs c n) (hb : base = 1) (less : Bool) {X : List (List Int)} {E : List Bool} (h : Least n X E (lineL base coefs c less)) : X.length ≤ 65536 := by
  subst hb
  have h1 := (posneg coefs coefs.length).1
  obtain ⟨h2, h3⟩ := (posneg coefs coefs.length).2
  have hs := g.sz
  unfold sizeA at hs
  have hn32 : n ≤ 32 := by
    obtain ⟨_, _, _, _, hm⟩ := many_ok g.many
    have h2 : radix 1 = 2 := rfl
    rw [h2, powW_two, Int.toNat_natCast, g.n_eq] at hm
    have h5 : n = 2 ^ coefs.length := by omega
    rw [h5]
    exact Nat.pow_le_pow_right (by omega) g.t5
  refine ln_kinds (n := n) (P := posN coefs coefs.length) (N := negN coefs coefs.length) (S := sizeA coefs) (t := coefs.length) (c := c) ⟨hs.1, hs.2⟩ ⟨h2, h3, h1⟩ (fun l hl => ?_) g.c60 ⟨g.n0, hn32⟩ less h
  have := g.add l
  have h2 : radix 1 - 1 = 1 := rfl
  rw [h2] at this
  omega
end
end Go.Proofs.YtfhncnhkeodngaaDoor
namespace Go.Proofs.YtfhncnhkeodngaaDoor
open Go.RowKit

theorem shrinkT_L {base tracks : Int} {n m : Nat} {next : List (List Int)} {ends : List Bool} {L : List Nat → Bool} (hR : Rows0 n m next) (hm : 0 < m) (h : ∀ w, Ltr n w → lang next ends 0 w = L w) :
    shrinkT base tracks n next ends = .tup [tAuto (autoL base tracks n L), .bool (decide (errL n L = 0))] := by
  by_cases h80 : 80 < (leastL n L).1.length
  · have e : errL n L = 3 := by unfold errL; rw [if_pos h80]
    unfold shrinkT autoL
    rw [leastRE_L hR hm h, if_neg (by omega), e, if_neg (show ¬ (3 : Int) = 0 by decide)]; rfl
  · have e : errL n L = 0 := by unfold errL; rw [if_neg h80]
    unfold shrinkT autoL
    rw [leastRE_L hR hm h, if_pos (by omega), e, if_pos rfl]; rfl
end Go.Proofs.YtfhncnhkeodngaaDoor
