/- Plain laws, data behind worlds, and contracts of functions, for the last text. No conditions. -/
import Derived.Test.YtfhncnhkeodngaaDoorM3
import Derived.Test.YtfhncnhkeodngaaDoorChecked
set_option linter.unusedSimpArgs false
set_option linter.unusedVariables false
set_option linter.unnecessarySimpa false
set_option linter.unusedSectionVars false
namespace Go.Proofs.YtfhncnhkeodngaaDoor
open Go.RowKit

def tt0 : Nat → Option TI
  | 1 => some ⟨.plain, 1, 8, [.t .undef], false⟩
  | 2 => some ⟨.int .i64, 1, 8, [.t (.int .i64 0)], false⟩
  | 3 => some ⟨.int .i64, 1, 8, [.t (.int .i64 0)], false⟩
  | 4 => some ⟨.bool, 1, 1, [.t (.bool false)], false⟩
  | 5 => some ⟨.int .u8, 1, 1, [.t (.int .u8 0)], false⟩
  | 6 => some ⟨.int .u8, 1, 1, [.t (.int .u8 0)], false⟩
  | 7 => some ⟨.struct [(0, 1), (1, 1), (2, 1), (3, 1)], 4, 24, [.t (.int .i64 0), .t (.int .i64 0), .t (.bool false), .t (.int .u8 0)], false⟩
  | _ => none
def tt1 : Nat → Option TI
  | 8 => some ⟨.struct [(0, 1), (1, 1), (2, 1), (3, 1)], 4, 24, [.t (.int .i64 0), .t (.int .i64 0), .t (.bool false), .t (.int .u8 0)], false⟩
  | 9 => some ⟨.str, 1, 16, [.t (.str ByteArray.empty)], false⟩
  | 10 => some ⟨.str, 1, 16, [.t (.str ByteArray.empty)], false⟩
  | 11 => some ⟨.str, 1, 16, [.t (.str ByteArray.empty)], false⟩
  | 12 => some ⟨.int .u64, 1, 8, [.t (.int .u64 0)], false⟩
  | 13 => some ⟨.struct [(0, 1), (1, 1)], 2, 24, [.t (.str ByteArray.empty), .t (.int .u64 0)], false⟩
  | 14 => some ⟨.struct [(0, 1), (1, 1)], 2, 24, [.t (.str ByteArray.empty), .t (.int .u64 0)], false⟩
  | 15 => some ⟨.plain, 1, 8, [.t .undef], false⟩
  | _ => none
def tt2 : Nat → Option TI
  | 16 => some ⟨.plain, 1, 8, [.t .undef], false⟩
  | 17 => some ⟨.plain, 1, 8, [.t .undef], false⟩
  | 18 => some ⟨.struct [(0, 1)], 1, 8, [.t .undef], false⟩
  | 19 => some ⟨.struct [(0, 1)], 1, 8, [.t .undef], false⟩
  | 20 => some ⟨.iface, 1, 16, [.t .nilI], false⟩
  | 21 => some ⟨.int .i32, 1, 4, [.t (.int .i32 0)], false⟩
  | 22 => some ⟨.slice 3, 1, 24, [.nil], false⟩
  | 23 => some ⟨.slice 35, 1, 24, [.nil], false⟩
  | _ => none
def tt3 : Nat → Option TI
  | 24 => some ⟨.struct [(0, 1), (1, 1), (2, 1), (3, 1), (4, 1)], 5, 88, [.t (.int .i64 0), .t (.int .i64 0), .nil, .nil, .nil], false⟩
  | 25 => some ⟨.struct [(0, 1), (1, 1), (2, 1), (3, 1), (4, 1)], 5, 88, [.t (.int .i64 0), .t (.int .i64 0), .nil, .nil, .nil], false⟩
  | 26 => some ⟨.int .i64, 1, 8, [.t (.int .i64 0)], false⟩
  | 28 => some ⟨.plain, 1, 8, [.t .undef], false⟩
  | 29 => some ⟨.iface, 1, 16, [.t .nilI], false⟩
  | 30 => some ⟨.iface, 1, 16, [.t .nilI], false⟩
  | _ => none
def tt4 : Nat → Option TI
  | 32 => some ⟨.plain, 1, 8, [.t .undef], false⟩
  | 33 => some ⟨.plain, 1, 8, [.t .undef], false⟩
  | 34 => some ⟨.plain, 1, 8, [.t .undef], false⟩
  | 35 => some ⟨.slice 22, 1, 24, [.nil], false⟩
  | 36 => some ⟨.struct [(0, 1), (1, 1), (2, 1)], 3, 56, [.t (.int .i64 0), .nil, .nil], false⟩
  | 37 => some ⟨.struct [(0, 1), (1, 1), (2, 1)], 3, 56, [.t (.int .i64 0), .nil, .nil], false⟩
  | 39 => some ⟨.plain, 1, 8, [.t .undef], false⟩
  | _ => none
def tt5 : Nat → Option TI
  | 41 => some ⟨.plain, 1, 8, [.t .undef], false⟩
  | 42 => some ⟨.plain, 1, 8, [.t .undef], false⟩
  | 43 => some ⟨.plain, 1, 8, [.t .undef], false⟩
  | 44 => some ⟨.plain, 1, 8, [.t .undef], false⟩
  | 45 => some ⟨.plain, 1, 8, [.t .undef], false⟩
  | 47 => some ⟨.plain, 1, 8, [.t .undef], false⟩
  | _ => none
def tt6 : Nat → Option TI
  | 48 => some ⟨.plain, 1, 8, [.t .undef], false⟩
  | 49 => some ⟨.slice 4, 1, 24, [.nil], false⟩
  | 50 => some ⟨.struct [(0, 1), (1, 1), (2, 1), (3, 1)], 4, 64, [.t (.int .i64 0), .t (.int .i64 0), .nil, .nil], false⟩
  | 51 => some ⟨.struct [(0, 1), (1, 1), (2, 1), (3, 1)], 4, 64, [.t (.int .i64 0), .t (.int .i64 0), .nil, .nil], false⟩
  | 52 => some ⟨.plain, 1, 8, [.t .undef], false⟩
  | 54 => some ⟨.plain, 1, 8, [.t .undef], false⟩
  | 55 => some ⟨.plain, 1, 8, [.t .undef], false⟩
  | _ => none
def tt7 : Nat → Option TI
  | 56 => some ⟨.plain, 1, 8, [.t .undef], false⟩
  | 58 => some ⟨.plain, 1, 8, [.t .undef], false⟩
  | 59 => some ⟨.plain, 1, 8, [.t .undef], false⟩
  | 60 => some ⟨.plain, 1, 8, [.t .undef], false⟩
  | 61 => some ⟨.slice 111, 1, 24, [.nil], false⟩
  | 62 => some ⟨.plain, 1, 8, [.t .undef], false⟩
  | 63 => some ⟨.plain, 1, 8, [.t .undef], false⟩
  | _ => none
def tt8 : Nat → Option TI
  | 64 => some ⟨.plain, 1, 8, [.t .undef], false⟩
  | 66 => some ⟨.plain, 1, 8, [.t .undef], false⟩
  | 67 => some ⟨.plain, 1, 8, [.t .undef], false⟩
  | 69 => some ⟨.plain, 1, 8, [.t .undef], false⟩
  | 71 => some ⟨.plain, 1, 8, [.t .undef], false⟩
  | _ => none
def tt9 : Nat → Option TI
  | 72 => some ⟨.plain, 1, 8, [.t .undef], false⟩
  | 73 => some ⟨.plain, 1, 8, [.t .undef], false⟩
  | 74 => some ⟨.plain, 1, 8, [.t .undef], false⟩
  | 75 => some ⟨.plain, 1, 8, [.t .undef], false⟩
  | 76 => some ⟨.plain, 1, 8, [.t .undef], false⟩
  | 78 => some ⟨.plain, 1, 8, [.t .undef], false⟩
  | _ => none
def tt10 : Nat → Option TI
  | 80 => some ⟨.plain, 1, 8, [.t .undef], false⟩
  | 81 => some ⟨.plain, 1, 8, [.t .undef], false⟩
  | 82 => some ⟨.plain, 1, 8, [.t .undef], false⟩
  | 83 => some ⟨.plain, 1, 8, [.t .undef], false⟩
  | 84 => some ⟨.plain, 1, 8, [.t .undef], false⟩
  | 86 => some ⟨.plain, 1, 8, [.t .undef], false⟩
  | 87 => some ⟨.plain, 1, 8, [.t .undef], false⟩
  | _ => none
def tt11 : Nat → Option TI
  | 88 => some ⟨.plain, 1, 8, [.t .undef], false⟩
  | 89 => some ⟨.plain, 1, 8, [.t .undef], false⟩
  | 90 => some ⟨.plain, 1, 8, [.t .undef], false⟩
  | 91 => some ⟨.plain, 1, 8, [.t .undef], false⟩
  | 92 => some ⟨.plain, 1, 8, [.t .undef], false⟩
  | 93 => some ⟨.plain, 1, 8, [.t .undef], false⟩
  | 94 => some ⟨.plain, 1, 8, [.t .undef], false⟩
  | 95 => some ⟨.plain, 1, 8, [.t .undef], false⟩
  | _ => none
def tt12 : Nat → Option TI
  | 96 => some ⟨.plain, 1, 8, [.t .undef], false⟩
  | 97 => some ⟨.plain, 1, 8, [.t .undef], false⟩
  | 98 => some ⟨.plain, 1, 8, [.t .undef], false⟩
  | 99 => some ⟨.plain, 1, 8, [.t .undef], false⟩
  | 100 => some ⟨.plain, 1, 8, [.t .undef], false⟩
  | 101 => some ⟨.plain, 1, 8, [.t .undef], false⟩
  | 102 => some ⟨.plain, 1, 8, [.t .undef], false⟩
  | 103 => some ⟨.plain, 1, 8, [.t .undef], false⟩
  | _ => none
def tt13 : Nat → Option TI
  | 104 => some ⟨.plain, 1, 8, [.t .undef], false⟩
  | 105 => some ⟨.plain, 1, 8, [.t .undef], false⟩
  | 106 => some ⟨.plain, 1, 8, [.t .undef], false⟩
  | 107 => some ⟨.plain, 1, 8, [.t .undef], false⟩
  | 108 => some ⟨.plain, 1, 8, [.t .undef], false⟩
  | 109 => some ⟨.plain, 1, 8, [.t .undef], false⟩
  | 110 => some ⟨.struct [(0, 1), (1, 1), (2, 1), (3, 1), (4, 1), (5, 1), (6, 1)], 7, 72, [.t (.int .i64 0), .t (.int .i64 0), .t (.int .i64 0), .t (.int .i64 0), .t (.int .i64 0), .t (.int .i64 0), .nil], false⟩
  | 111 => some ⟨.struct [(0, 1), (1, 1), (2, 1), (3, 1), (4, 1), (5, 1), (6, 1)], 7, 72, [.t (.int .i64 0), .t (.int .i64 0), .t (.int .i64 0), .t (.int .i64 0), .t (.int .i64 0), .t (.int .i64 0), .nil], false⟩
  | _ => none
def tt14 : Nat → Option TI
  | 112 => some ⟨.plain, 1, 8, [.t .undef], false⟩
  | 113 => some ⟨.plain, 1, 8, [.t .undef], false⟩
  | 114 => some ⟨.array 5 4, 5, 5, [.t (.bool false), .t (.bool false), .t (.bool false), .t (.bool false), .t (.bool false)], false⟩
  | 115 => some ⟨.array 5 4, 5, 5, [.t (.bool false), .t (.bool false), .t (.bool false), .t (.bool false), .t (.bool false)], false⟩
  | 117 => some ⟨.plain, 1, 8, [.t .undef], false⟩
  | 118 => some ⟨.plain, 1, 8, [.t .undef], false⟩
  | 119 => some ⟨.array 5 3, 5, 40, [.t (.int .i64 0), .t (.int .i64 0), .t (.int .i64 0), .t (.int .i64 0), .t (.int .i64 0)], false⟩
  | _ => none
def tt15 : Nat → Option TI
  | 121 => some ⟨.plain, 1, 8, [.t .undef], false⟩
  | 122 => some ⟨.plain, 1, 8, [.t .undef], false⟩
  | 123 => some ⟨.plain, 1, 8, [.t .undef], false⟩
  | 124 => some ⟨.plain, 1, 8, [.t .undef], false⟩
  | 125 => some ⟨.plain, 1, 8, [.t .undef], false⟩
  | 126 => some ⟨.plain, 1, 8, [.t .undef], false⟩
  | 127 => some ⟨.plain, 1, 8, [.t .undef], false⟩
  | _ => none
def tt16 : Nat → Option TI
  | 128 => some ⟨.plain, 1, 8, [.t .undef], false⟩
  | 129 => some ⟨.plain, 1, 8, [.t .undef], false⟩
  | 130 => some ⟨.struct [(0, 1), (1, 1)], 2, 16, [.t (.int .i64 0), .t (.int .i64 0)], true⟩
  | 131 => some ⟨.struct [(0, 1), (1, 1)], 2, 16, [.t (.int .i64 0), .t (.int .i64 0)], true⟩
  | 132 => some ⟨.plain, 1, 8, [.t .undef], false⟩
  | 133 => some ⟨.map (.ints 2) 131 3, 1, 8, [.t .undef], false⟩
  | 134 => some ⟨.slice 131, 1, 24, [.nil], false⟩
  | 135 => some ⟨.plain, 1, 8, [.t .undef], false⟩
  | _ => none
def tt17 : Nat → Option TI
  | 136 => some ⟨.plain, 1, 8, [.t .undef], false⟩
  | 137 => some ⟨.plain, 1, 8, [.t .undef], false⟩
  | 138 => some ⟨.plain, 1, 8, [.t .undef], false⟩
  | 139 => some ⟨.plain, 1, 8, [.t .undef], false⟩
  | 140 => some ⟨.plain, 1, 8, [.t .undef], false⟩
  | 141 => some ⟨.plain, 1, 8, [.t .undef], false⟩
  | 142 => some ⟨.plain, 1, 8, [.t .undef], false⟩
  | 143 => some ⟨.plain, 1, 8, [.t .undef], false⟩
  | _ => none
def tt18 : Nat → Option TI
  | 144 => some ⟨.plain, 1, 8, [.t .undef], false⟩
  | 146 => some ⟨.plain, 1, 8, [.t .undef], false⟩
  | 147 => some ⟨.plain, 1, 8, [.t .undef], false⟩
  | 148 => some ⟨.array 3 3, 3, 24, [.t (.int .i64 0), .t (.int .i64 0), .t (.int .i64 0)], false⟩
  | 149 => some ⟨.array 3 3, 3, 24, [.t (.int .i64 0), .t (.int .i64 0), .t (.int .i64 0)], false⟩
  | 150 => some ⟨.map (.ints 3) 149 3, 1, 8, [.t .undef], false⟩
  | 151 => some ⟨.slice 149, 1, 24, [.nil], false⟩
  | _ => none
def tt19 : Nat → Option TI
  | 152 => some ⟨.struct [(0, 1), (1, 1)], 2, 16, [.t (.int .i64 0), .t (.int .i64 0)], true⟩
  | 153 => some ⟨.struct [(0, 1), (1, 1)], 2, 16, [.t (.int .i64 0), .t (.int .i64 0)], true⟩
  | 154 => some ⟨.map (.ints 2) 153 3, 1, 8, [.t .undef], false⟩
  | 155 => some ⟨.slice 153, 1, 24, [.nil], false⟩
  | 157 => some ⟨.int .u64, 1, 8, [.t (.int .u64 0)], false⟩
  | 158 => some ⟨.struct [(0, 1), (1, 1), (2, 1)], 3, 24, [.t .undef, .t .undef, .t (.int .u64 0)], false⟩
  | 159 => some ⟨.struct [(0, 1), (1, 1), (2, 1)], 3, 24, [.t .undef, .t .undef, .t (.int .u64 0)], false⟩
  | _ => none
def tt20 : Nat → Option TI
  | 160 => some ⟨.plain, 1, 8, [.t .undef], false⟩
  | 161 => some ⟨.iface, 1, 16, [.t .nilI], false⟩
  | 162 => some ⟨.iface, 1, 16, [.t .nilI], false⟩
  | 163 => some ⟨.plain, 1, 8, [.t .undef], false⟩
  | 164 => some ⟨.int .u8, 1, 1, [.t (.int .u8 0)], false⟩
  | 165 => some ⟨.plain, 1, 8, [.t .undef], false⟩
  | 166 => some ⟨.plain, 1, 8, [.t .undef], false⟩
  | 167 => some ⟨.plain, 1, 8, [.t .undef], false⟩
  | _ => none
def tt21 : Nat → Option TI
  | 168 => some ⟨.plain, 1, 8, [.t .undef], false⟩
  | 169 => some ⟨.array 64 3, 64, 512, [.t (.int .i64 0), .t (.int .i64 0), .t (.int .i64 0), .t (.int .i64 0), .t (.int .i64 0), .t (.int .i64 0), .t (.int .i64 0), .t (.int .i64 0), .t (.int .i64 0), .t (.int .i64 0), .t (.int .i64 0), .t (.int .i64 0), .t (.int .i64 0), .t (.int .i64 0), .t (.int .i64 0), .t (.int .i64 0), .t (.int .i64 0), .t (.int .i64 0), .t (.int .i64 0), .t (.int .i64 0), .t (.int .i64 0), .t (.int .i64 0), .t (.int .i64 0), .t (.int .i64 0), .t (.int .i64 0), .t (.int .i64 0), .t (.int .i64 0), .t (.int .i64 0), .t (.int .i64 0), .t (.int .i64 0), .t (.int .i64 0), .t (.int .i64 0), .t (.int .i64 0), .t (.int .i64 0), .t (.int .i64 0), .t (.int .i64 0), .t (.int .i64 0), .t (.int .i64 0), .t (.int .i64 0), .t (.int .i64 0), .t (.int .i64 0), .t (.int .i64 0), .t (.int .i64 0), .t (.int .i64 0), .t (.int .i64 0), .t (.int .i64 0), .t (.int .i64 0), .t (.int .i64 0), .t (.int .i64 0), .t (.int .i64 0), .t (.int .i64 0), .t (.int .i64 0), .t (.int .i64 0), .t (.int .i64 0), .t (.int .i64 0), .t (.int .i64 0), .t (.int .i64 0), .t (.int .i64 0), .t (.int .i64 0), .t (.int .i64 0), .t (.int .i64 0), .t (.int .i64 0), .t (.int .i64 0), .t (.int .i64 0)], false⟩
  | 170 => some ⟨.plain, 1, 8, [.t .undef], false⟩
  | 171 => some ⟨.plain, 1, 8, [.t .undef], false⟩
  | 172 => some ⟨.map (.str) 9 3, 1, 8, [.t .undef], false⟩
  | 173 => some ⟨.slice 5, 1, 24, [.nil], false⟩
  | 174 => some ⟨.int .u64, 1, 8, [.t (.int .u64 0)], false⟩
  | 175 => some ⟨.struct [(0, 1)], 1, 8, [.t .undef], false⟩
  | _ => none
def tt22 : Nat → Option TI
  | 176 => some ⟨.struct [(0, 1)], 1, 8, [.t .undef], false⟩
  | 177 => some ⟨.plain, 1, 8, [.t .undef], false⟩
  | 178 => some ⟨.plain, 1, 8, [.t .undef], false⟩
  | 179 => some ⟨.plain, 1, 8, [.t .undef], false⟩
  | 180 => some ⟨.plain, 1, 8, [.t .undef], false⟩
  | 181 => some ⟨.iface, 1, 16, [.t .nilI], false⟩
  | 183 => some ⟨.plain, 1, 8, [.t .undef], false⟩
  | _ => none
def tt23 : Nat → Option TI
  | 184 => some ⟨.iface, 1, 16, [.t .nilI], false⟩
  | 185 => some ⟨.plain, 1, 8, [.t .undef], false⟩
  | 186 => some ⟨.iface, 1, 16, [.t .nilI], false⟩
  | 187 => some ⟨.slice 30, 1, 24, [.nil], false⟩
  | 188 => some ⟨.plain, 1, 8, [.t .undef], false⟩
  | 189 => some ⟨.plain, 1, 8, [.t .undef], false⟩
  | 190 => some ⟨.struct [(0, 1), (1, 1), (2, 1), (3, 1)], 4, 40, [.t .undef, .t .undef, .t .undef, .t (.str ByteArray.empty)], false⟩
  | 191 => some ⟨.struct [(0, 1), (1, 1), (2, 1), (3, 1)], 4, 40, [.t .undef, .t .undef, .t .undef, .t (.str ByteArray.empty)], false⟩
  | _ => none
def tt24 : Nat → Option TI
  | 195 => some ⟨.plain, 1, 8, [.t .undef], false⟩
  | 196 => some ⟨.plain, 1, 8, [.t .undef], false⟩
  | 197 => some ⟨.int .u32, 1, 4, [.t (.int .u32 0)], false⟩
  | 198 => some ⟨.int .u8, 1, 1, [.t (.int .u8 0)], false⟩
  | 199 => some ⟨.plain, 1, 8, [.t .undef], false⟩
  | _ => none
def tt25 : Nat → Option TI
  | 200 => some ⟨.plain, 1, 8, [.t .undef], false⟩
  | 201 => some ⟨.int .i32, 1, 4, [.t (.int .i32 0)], false⟩
  | 202 => some ⟨.int .i32, 1, 4, [.t (.int .i32 0)], false⟩
  | 203 => some ⟨.struct [(0, 1), (1, 1), (2, 1), (3, 1), (4, 1), (5, 1), (6, 1), (7, 1), (8, 1), (9, 1), (10, 1)], 11, 48, [.t (.int .u64 0), .t (.int .u64 0), .t (.int .u32 0), .t (.int .u8 0), .t (.int .u8 0), .t (.int .u8 0), .t (.int .u8 0), .t .undef, .t .undef, .t (.int .i32 0), .t (.int .i32 0)], false⟩
  | 204 => some ⟨.struct [(0, 1), (1, 1), (2, 1), (3, 1), (4, 1), (5, 1), (6, 1), (7, 1), (8, 1), (9, 1), (10, 1)], 11, 48, [.t (.int .u64 0), .t (.int .u64 0), .t (.int .u32 0), .t (.int .u8 0), .t (.int .u8 0), .t (.int .u8 0), .t (.int .u8 0), .t .undef, .t .undef, .t (.int .i32 0), .t (.int .i32 0)], false⟩
  | 205 => some ⟨.plain, 1, 8, [.t .undef], false⟩
  | 206 => some ⟨.plain, 1, 8, [.t .undef], false⟩
  | 207 => some ⟨.struct [(0, 1), (1, 1)], 2, 24, [.t (.str ByteArray.empty), .t (.int .u8 0)], false⟩
  | _ => none
def tt26 : Nat → Option TI
  | 208 => some ⟨.struct [(0, 1), (1, 1)], 2, 24, [.t (.str ByteArray.empty), .t (.int .u8 0)], false⟩
  | 209 => some ⟨.plain, 1, 8, [.t .undef], false⟩
  | 210 => some ⟨.plain, 1, 8, [.t .undef], false⟩
  | 211 => some ⟨.int .u16, 1, 2, [.t (.int .u16 0)], false⟩
  | 212 => some ⟨.struct [(0, 1), (1, 1), (2, 1), (3, 1), (4, 1)], 5, 16, [.t (.int .i32 0), .t (.int .u16 0), .t (.int .u16 0), .t (.int .u32 0), .t (.int .u32 0)], false⟩
  | 213 => some ⟨.struct [(0, 1), (1, 1), (2, 1), (3, 1), (4, 1)], 5, 16, [.t (.int .i32 0), .t (.int .u16 0), .t (.int .u16 0), .t (.int .u32 0), .t (.int .u32 0)], false⟩
  | 214 => some ⟨.slice 217, 1, 24, [.nil], false⟩
  | 215 => some ⟨.int .i32, 1, 4, [.t (.int .i32 0)], false⟩
  | _ => none
def tt27 : Nat → Option TI
  | 216 => some ⟨.struct [(0, 1), (1, 1), (2, 1), (3, 1)], 4, 16, [.t (.int .i32 0), .t (.int .i32 0), .t (.int .i32 0), .t (.int .i32 0)], false⟩
  | 217 => some ⟨.struct [(0, 1), (1, 1), (2, 1), (3, 1)], 4, 16, [.t (.int .i32 0), .t (.int .i32 0), .t (.int .i32 0), .t (.int .i32 0)], false⟩
  | 218 => some ⟨.plain, 1, 8, [.t .undef], false⟩
  | _ => none
def tts0 (n : Nat) : Nat → Option TI
  | 0 => tt0 n
  | 1 => tt1 n
  | 2 => tt2 n
  | 3 => tt3 n
  | 4 => tt4 n
  | 5 => tt5 n
  | 6 => tt6 n
  | 7 => tt7 n
  | _ => none
def tts1 (n : Nat) : Nat → Option TI
  | 8 => tt8 n
  | 9 => tt9 n
  | 10 => tt10 n
  | 11 => tt11 n
  | 12 => tt12 n
  | 13 => tt13 n
  | 14 => tt14 n
  | 15 => tt15 n
  | _ => none
def tts2 (n : Nat) : Nat → Option TI
  | 16 => tt16 n
  | 17 => tt17 n
  | 18 => tt18 n
  | 19 => tt19 n
  | 20 => tt20 n
  | 21 => tt21 n
  | 22 => tt22 n
  | 23 => tt23 n
  | _ => none
def tts3 (n : Nat) : Nat → Option TI
  | 24 => tt24 n
  | 25 => tt25 n
  | 26 => tt26 n
  | 27 => tt27 n
  | _ => none
def tt (n : Nat) : Option TI := match n / 64 with
  | 0 => tts0 n (n / 8)
  | 1 => tts1 n (n / 8)
  | 2 => tts2 n (n / 8)
  | 3 => tts3 n (n / 8)
  | _ => none
set_option maxRecDepth 100000
theorem laid : laidOutB Tryd.prog = true := by kernel_rfl
theorem small : Tryd.prog.types.size + 2 ≤ 10000 := of_decide_eq_true (by kernel_rfl)
theorem tt0_ok : TTok Tryd.prog tt0 := by
  intro t i h
  unfold tt0 at h
  split at h <;> first
    | (cases h; exact chkTI_ok laid small (by kernel_rfl))
    | cases h
theorem tt1_ok : TTok Tryd.prog tt1 := by
  intro t i h
  unfold tt1 at h
  split at h <;> first
    | (cases h; exact chkTI_ok laid small (by kernel_rfl))
    | cases h
theorem tt2_ok : TTok Tryd.prog tt2 := by
  intro t i h
  unfold tt2 at h
  split at h <;> first
    | (cases h; exact chkTI_ok laid small (by kernel_rfl))
    | cases h
theorem tt3_ok : TTok Tryd.prog tt3 := by
  intro t i h
  unfold tt3 at h
  split at h <;> first
    | (cases h; exact chkTI_ok laid small (by kernel_rfl))
    | cases h
theorem tt4_ok : TTok Tryd.prog tt4 := by
  intro t i h
  unfold tt4 at h
  split at h <;> first
    | (cases h; exact chkTI_ok laid small (by kernel_rfl))
    | cases h
theorem tt5_ok : TTok Tryd.prog tt5 := by
  intro t i h
  unfold tt5 at h
  split at h <;> first
    | (cases h; exact chkTI_ok laid small (by kernel_rfl))
    | cases h
theorem tt6_ok : TTok Tryd.prog tt6 := by
  intro t i h
  unfold tt6 at h
  split at h <;> first
    | (cases h; exact chkTI_ok laid small (by kernel_rfl))
    | cases h
theorem tt7_ok : TTok Tryd.prog tt7 := by
  intro t i h
  unfold tt7 at h
  split at h <;> first
    | (cases h; exact chkTI_ok laid small (by kernel_rfl))
    | cases h
theorem tt8_ok : TTok Tryd.prog tt8 := by
  intro t i h
  unfold tt8 at h
  split at h <;> first
    | (cases h; exact chkTI_ok laid small (by kernel_rfl))
    | cases h
theorem tt9_ok : TTok Tryd.prog tt9 := by
  intro t i h
  unfold tt9 at h
  split at h <;> first
    | (cases h; exact chkTI_ok laid small (by kernel_rfl))
    | cases h
theorem tt10_ok : TTok Tryd.prog tt10 := by
  intro t i h
  unfold tt10 at h
  split at h <;> first
    | (cases h; exact chkTI_ok laid small (by kernel_rfl))
    | cases h
theorem tt11_ok : TTok Tryd.prog tt11 := by
  intro t i h
  unfold tt11 at h
  split at h <;> first
    | (cases h; exact chkTI_ok laid small (by kernel_rfl))
    | cases h
theorem tt12_ok : TTok Tryd.prog tt12 := by
  intro t i h
  unfold tt12 at h
  split at h <;> first
    | (cases h; exact chkTI_ok laid small (by kernel_rfl))
    | cases h
theorem tt13_ok : TTok Tryd.prog tt13 := by
  intro t i h
  unfold tt13 at h
  split at h <;> first
    | (cases h; exact chkTI_ok laid small (by kernel_rfl))
    | cases h
theorem tt14_ok : TTok Tryd.prog tt14 := by
  intro t i h
  unfold tt14 at h
  split at h <;> first
    | (cases h; exact chkTI_ok laid small (by kernel_rfl))
    | cases h
theorem tt15_ok : TTok Tryd.prog tt15 := by
  intro t i h
  unfold tt15 at h
  split at h <;> first
    | (cases h; exact chkTI_ok laid small (by kernel_rfl))
    | cases h
theorem tt16_ok : TTok Tryd.prog tt16 := by
  intro t i h
  unfold tt16 at h
  split at h <;> first
    | (cases h; exact chkTI_ok laid small (by kernel_rfl))
    | cases h
theorem tt17_ok : TTok Tryd.prog tt17 := by
  intro t i h
  unfold tt17 at h
  split at h <;> first
    | (cases h; exact chkTI_ok laid small (by kernel_rfl))
    | cases h
theorem tt18_ok : TTok Tryd.prog tt18 := by
  intro t i h
  unfold tt18 at h
  split at h <;> first
    | (cases h; exact chkTI_ok laid small (by kernel_rfl))
    | cases h
theorem tt19_ok : TTok Tryd.prog tt19 := by
  intro t i h
  unfold tt19 at h
  split at h <;> first
    | (cases h; exact chkTI_ok laid small (by kernel_rfl))
    | cases h
theorem tt20_ok : TTok Tryd.prog tt20 := by
  intro t i h
  unfold tt20 at h
  split at h <;> first
    | (cases h; exact chkTI_ok laid small (by kernel_rfl))
    | cases h
theorem tt21_ok : TTok Tryd.prog tt21 := by
  intro t i h
  unfold tt21 at h
  split at h <;> first
    | (cases h; exact chkTI_ok laid small (by kernel_rfl))
    | cases h
theorem tt22_ok : TTok Tryd.prog tt22 := by
  intro t i h
  unfold tt22 at h
  split at h <;> first
    | (cases h; exact chkTI_ok laid small (by kernel_rfl))
    | cases h
theorem tt23_ok : TTok Tryd.prog tt23 := by
  intro t i h
  unfold tt23 at h
  split at h <;> first
    | (cases h; exact chkTI_ok laid small (by kernel_rfl))
    | cases h
theorem tt24_ok : TTok Tryd.prog tt24 := by
  intro t i h
  unfold tt24 at h
  split at h <;> first
    | (cases h; exact chkTI_ok laid small (by kernel_rfl))
    | cases h
theorem tt25_ok : TTok Tryd.prog tt25 := by
  intro t i h
  unfold tt25 at h
  split at h <;> first
    | (cases h; exact chkTI_ok laid small (by kernel_rfl))
    | cases h
theorem tt26_ok : TTok Tryd.prog tt26 := by
  intro t i h
  unfold tt26 at h
  split at h <;> first
    | (cases h; exact chkTI_ok laid small (by kernel_rfl))
    | cases h
theorem tt27_ok : TTok Tryd.prog tt27 := by
  intro t i h
  unfold tt27 at h
  split at h <;> first
    | (cases h; exact chkTI_ok laid small (by kernel_rfl))
    | cases h
theorem tts0_ok (k : Nat) : TTok Tryd.prog (fun n => tts0 n k) := by
  intro t i h
  unfold tts0 at h
  split at h <;> first
    | exact tt0_ok _ _ h
    | exact tt1_ok _ _ h
    | exact tt2_ok _ _ h
    | exact tt3_ok _ _ h
    | exact tt4_ok _ _ h
    | exact tt5_ok _ _ h
    | exact tt6_ok _ _ h
    | exact tt7_ok _ _ h
    | cases h
theorem tts1_ok (k : Nat) : TTok Tryd.prog (fun n => tts1 n k) := by
  intro t i h
  unfold tts1 at h
  split at h <;> first
    | exact tt8_ok _ _ h
    | exact tt9_ok _ _ h
    | exact tt10_ok _ _ h
    | exact tt11_ok _ _ h
    | exact tt12_ok _ _ h
    | exact tt13_ok _ _ h
    | exact tt14_ok _ _ h
    | exact tt15_ok _ _ h
    | cases h
theorem tts2_ok (k : Nat) : TTok Tryd.prog (fun n => tts2 n k) := by
  intro t i h
  unfold tts2 at h
  split at h <;> first
    | exact tt16_ok _ _ h
    | exact tt17_ok _ _ h
    | exact tt18_ok _ _ h
    | exact tt19_ok _ _ h
    | exact tt20_ok _ _ h
    | exact tt21_ok _ _ h
    | exact tt22_ok _ _ h
    | exact tt23_ok _ _ h
    | cases h
theorem tts3_ok (k : Nat) : TTok Tryd.prog (fun n => tts3 n k) := by
  intro t i h
  unfold tts3 at h
  split at h <;> first
    | exact tt24_ok _ _ h
    | exact tt25_ok _ _ h
    | exact tt26_ok _ _ h
    | exact tt27_ok _ _ h
    | cases h
theorem tt_ok : TTok Tryd.prog tt := by
  intro t i h
  unfold tt at h
  split at h <;> first
    | exact tts0_ok _ _ _ h
    | exact tts1_ok _ _ _ h
    | exact tts2_ok _ _ _ h
    | exact tts3_ok _ _ _ h
    | cases h
end Go.Proofs.YtfhncnhkeodngaaDoor
namespace Go.Proofs.YtfhncnhkeodngaaDoor
open Go.RowKit

attribute [go_sem] nLe nNle nLt nNlt nEq nNe iLe iNle iLt iNlt iEq iNe
attribute [go_sem] runOps stepOp stepOp0 stepOp1 evalOp dstOk St.ev.eq_1 St.ev.eq_2 St.ev.eq_3 St.ev.eq_4 ofConst St.get
attribute [go_sem] St.put look T.bin isConst mkFn allT St.len St.lst St.obj St.load loadT loadS
attribute [go_sem] mkAgg TK.isAgg St.index treeIndex SV.plus T.cells T.max2 T.min2 fillS SV.storable T.storable SV.cells
attribute [go_sem] St.litS idxOk zipFrz frz frzC frzL St.append St.appLen scrub St.bd SV.ren renL
attribute [go_sem] Ob.ren St.store T.put TI.zT SV.toT0 List.length_replicate List.getElem?_replicate Nat.one_mul Nat.mul_one List.isEmpty_cons List.isEmpty_nil or_self
attribute [go_sem] true_or or_true false_or or_false and_self decide_eq_true_eq if_true if_false ite_true ite_false Option.getD_some Option.getD_none
attribute [go_sem] Option.map_some Option.map_none Option.bind_some Option.bind_none decide_true decide_false Bool.true_and Bool.and_true Bool.false_and Bool.and_false Bool.not_true Bool.not_false
attribute [go_sem] beq_self_eq_true List.getElem?_cons_zero List.getElem?_cons_succ List.map_cons List.map_nil List.cons_append List.nil_append List.length_cons List.length_nil List.toList_toArray true_and and_true
attribute [go_sem] false_and and_false List.all_cons List.all_nil List.drop_zero List.drop_succ_cons List.take_succ_cons List.take_zero List.head?_cons List.set_cons_zero List.set_cons_succ Bool.or_true
attribute [go_sem] Bool.true_or Bool.or_false Bool.false_or ne_eq not_true_eq_false not_false_eq_true Nat.zero_add List.getElem?_toArray tInt tNat tInts tBools
attribute [go_sem] tIntss wrap_i64 List.getElem?_map List.length_map Int.toNat_natCast List.all_map stepX stepX0 evalX St.callR findCo
attribute [go_sem] St.litQ St.sliceQ St.rdL St.rd St.trL St.tr T.flatData flatAll lookR St.mapUp St.slice strSlice
attribute [go_sem] T.okKey T.inR bytesOf eq_self stepI quietOp St.ownAll St.own setSlot true_implies implies_true false_implies
attribute [go_sem] keepL reach addNew refsL SV.refs Ob.refs List.append_nil List.mem_cons List.not_mem_nil List.getElem?_nil posIn St.resL
attribute [go_sem] St.res1 St.gc St.head
theorem gb_a (l : List Int) (k : Nat) (h : k < l.length) : l[k]? = some l[k]! := get_bang l k h
theorem gb_b (l : List Bool) (k : Nat) (h : k < l.length) : l[k]? = some l[k]! := get_bang l k h
theorem gb_c (l : List (List Int)) (k : Nat) (h : k < l.length) : l[k]? = some l[k]! := get_bang l k h
theorem gb_d (l : List Nat) (k : Nat) (h : k < l.length) : l[k]? = some l[k]! := get_bang l k h
theorem gb_e (l : List T) (k : Nat) (h : k < l.length) : l[k]? = some l[k]! := get_bang l k h
theorem gb_f (l : List (List (List Int))) (k : Nat) (h : k < l.length) : l[k]? = some l[k]! := get_bang l k h
theorem gb_g (l : List (List Bool)) (k : Nat) (h : k < l.length) : l[k]? = some l[k]! := get_bang l k h
theorem gb_h (l : List (List Nat)) (k : Nat) (h : k < l.length) : l[k]? = some l[k]! := get_bang l k h
theorem gb_i (l : List (List (List (List Int)))) (k : Nat) (h : k < l.length) : l[k]? = some l[k]! := get_bang l k h
theorem gb_j (l : List (Int × Int)) (k : Nat) (h : k < l.length) : l[k]? = some l[k]! := get_bang l k h
theorem gb_k (l : List (Nat × Nat)) (k : Nat) (h : k < l.length) : l[k]? = some l[k]! := get_bang l k h
theorem gb_l (l : List UInt8) (k : Nat) (h : k < l.length) : l[k]? = some l[k]! := get_bang l k h
theorem gb_m (l : List (List T)) (k : Nat) (h : k < l.length) : l[k]? = some l[k]! := get_bang l k h
theorem gb_n (l : List String) (k : Nat) (h : k < l.length) : l[k]? = some l[k]! := get_bang l k h
theorem gb_o (l : List (Int × Int × Int)) (k : Nat) (h : k < l.length) : l[k]? = some l[k]! := get_bang l k h
theorem gb_p (l : List (T × T)) (k : Nat) (h : k < l.length) : l[k]? = some l[k]! := get_bang l k h
theorem gb_q (l : List (List (Int × Int))) (k : Nat) (h : k < l.length) : l[k]? = some l[k]! := get_bang l k h
theorem gb_r (l : List (Nat × Nat × Nat)) (k : Nat) (h : k < l.length) : l[k]? = some l[k]! := get_bang l k h
theorem gb_s (l : List (List UInt8)) (k : Nat) (h : k < l.length) : l[k]? = some l[k]! := get_bang l k h
theorem gb_t (l : List (List (T × T))) (k : Nat) (h : k < l.length) : l[k]? = some l[k]! := get_bang l k h
theorem gb_u (l : List (List (Int × Int))) (k : Nat) (h : k < l.length) : l[k]? = some l[k]! := get_bang l k h
attribute [go_sem] gb_a gb_b gb_c gb_d gb_e gb_f gb_g gb_h gb_i gb_j gb_k gb_l gb_m gb_n gb_o gb_p gb_q gb_r gb_s gb_t gb_u
attribute [go_sem] T.beqA eqIs SV.gd Option.some.injEq
attribute [go_sem] St.sliceA T.isCell stepA allocAt List.lookup
attribute [go_sem] St.res tt tts0 tts1 tts2 tts3 tt0 tt1 tt2 tt3 tt4 tt5 tt6 tt7 tt8 tt9 tt10 tt11 tt12 tt13 tt14 tt15 tt16 tt17 tt18 tt19 tt20 tt21 tt22 tt23 tt24 tt25 tt26 tt27
end Go.Proofs.YtfhncnhkeodngaaDoor
namespace Go.Proofs.YtfhncnhkeodngaaDoor
open Go.RowKit

def tErr (e : Int) : T := if e = 0 then .nilI else .iface 26 (.int .i64 e)
def tAuto (a : GAuto) : T := .agg [tInt a.base, tInt a.tracks, tIntss a.next, tBools a.ends]
def I64s (l : List Int) : Prop := ∀ x ∈ l, I64 x
structure I64A (a : GAuto) : Prop where
  base : I64 a.base
  tracks : I64 a.tracks
  next : ∀ r ∈ a.next, I64s r
section
variable {P : Program} {G : World → Prop}
theorem enter_of {f : Nat} {fn : Func} {c : Code} (hf : P.funcs[f]? = some fn) (hb : fn.body = some c) (hn : (fn.name == "runtime.NumGoroutine") = false) (vs : Array Value) (w : World) : (callFunc f vs).run P w = .ok (.enter f vs) w := by
  unfold callFunc
  rw [Sem.run_bind, run_program, Result.andThen_ok]
  simp only [hf, hn, hb, Option.isNone_some, Bool.false_eq_true, if_false]
  rfl
theorem snd2 {f : Nat} {fn : Func} {c : Code} {x y r : T} (hf : P.funcs[f]? = some fn) (hb : fn.body = some c) (hn : (fn.name == "runtime.NumGoroutine") = false)
    (h : ∀ (S : Nat → Prop) (w : World) (v u : Value), G w → (∀ b, S b → b < w.heap.size) → RepT S w x v → RepT S w y u → ∃ V, Calls P f #[v, u] w (fun e w' => e = .returned V ∧ Below w.heap.size w w') ∧ ∀ S w, RepT S w r V) : Snd P G f [x, y] r := by
  refine ⟨enter_of hf hb hn, fun S w vs hG hs hr => ?_⟩
  obtain ⟨l⟩ := vs
  match l, hs with
  | [v0, v1], _ =>
    obtain ⟨V, h1, h2⟩ := h (fun b => S b ∧ b < w.heap.size) w v0 v1 hG (fun b hb => hb.2) ((hr 0 _ v0 rfl rfl).keep ⟨Nat.le_refl _, fun b hb hlt => ⟨rfl, hb, hlt⟩⟩) ((hr 1 _ v1 rfl rfl).keep ⟨Nat.le_refl _, fun b hb hlt => ⟨rfl, hb, hlt⟩⟩)
    exact h1.mono fun e w' hq => ⟨V, hq.1, h2 _ _, hq.2⟩
end
theorem intInv {S : Nat → Prop} {w : World} {n : Int} {v : Value} (h : RepT S w (tInt n) v) : v = .int .i64 n := by cases h; rfl
theorem bang_get {α : Type} [Inhabited α] {l : List α} {i : Nat} {x : α} (h : l[i]! = x) (hi : i < l.length) : l[i]? = some x := by rw [← h, getElem!_pos l i hi]; exact List.getElem?_eq_getElem hi
theorem bang_mem {α : Type} [Inhabited α] {l : List α} {i : Nat} {x : α} (h : l[i]! = x) (hi : i < l.length) : x ∈ l := List.mem_of_getElem? (bang_get h hi)
theorem bang_D {α : Type} [Inhabited α] {l : List α} {i : Nat} {x d : α} (h : l[i]! = x) (hi : i < l.length) : l.getD i d = x := by rw [getD_lt hi, ← h, getElem!_pos l i hi]
theorem bang_at {α : Type} [Inhabited α] {l : List α} {i : Nat} {x : α} (h : l[i]! = x) (hi : i < l.length) : l[i] = x := by rw [← h, getElem!_pos l i hi]
theorem take_next {α : Type} [Inhabited α] {l : List α} {i : Nat} {x : α} (h : l[i]! = x) (hi : i < l.length) : l.take (i + 1) = l.take i ++ [x] := by
  rw [List.take_succ_eq_append_getElem hi, bang_at h hi]
section
variable {G : World → Prop} (hG : Lasting G)
include hG
theorem Radix_snd (base : Int) : Snd Tryd.prog G 83 [tInt base] (tInt (radix base)) := by
  have htb : Tab.ok Tryd.prog G [] := Tab.nil
  refine snd_of_body (n := 12) (tm := [(0, .t (tInt base))]) (rs := [.tmp 2]) tt_ok Tryd.func83 rfl rfl rfl rfl rfl ?_
  unfold radix
  by_cases h1 : base = 1
  · repeat' (first | (with_reducible first | refine SW_seq ?_ | refine SW_block ?_ | refine SThen_n ?_ | refine SThen_r ?_ | refine SThen_e ?_ | refine SIn_n ?_ | refine SIn_r ?_ | refine SIn_eq ?_ | refine SW_skip ?_ | refine SW_exit ?_ | refine SW_ret ?_ | refine SPost_r ?_) | ((with_reducible refine SIn_ne ?_ ?_); focus decide) | ((with_reducible refine SW_true ?_ ?_); focus exact rfl) | ((with_reducible refine SW_false ?_ ?_); focus exact rfl) | ((first | (with_reducible apply SW_run tt_ok hG htb) | ((with_reducible apply SW_draw rfl tt_ok hG htb); (focus kernel_rfl); (focus (simp only [List.range, List.range.loop, List.size_toArray, List.length_cons, List.length_nil, Nat.reduceAdd])))); focus ((repeat' (first | (with_reducible exact runX_nil) | (with_reducible exact runI_nil) | ((first | (with_reducible apply runX_cons) | (with_reducible apply runI_cons)); focus (simp (discharger := omega) only [go_sem, h1, ↓reduceIte, reduceIte, Nat.reduceEqDiff, Nat.reduceLT, Nat.reduceLeDiff, Nat.reduceAdd, Nat.reduceSub, Nat.reduceMul, Nat.reduceDiv, Nat.reduceMod, Nat.reduceBEq, Int.reduceEq, Int.reduceLT, Int.reduceLE, Int.reduceNeg, Int.reduceToNat, reduceCtorEq]; with_reducible rfl)))); done)))
    exact (by simp (discharger := omega) only [go_sem, h1, ↓reduceIte, reduceIte, Nat.reduceEqDiff, Nat.reduceLT, Nat.reduceLeDiff, Nat.reduceAdd, Nat.reduceSub, Nat.reduceMul, Nat.reduceDiv, Nat.reduceMod, Nat.reduceBEq, Int.reduceEq, Int.reduceLT, Int.reduceLE, Int.reduceNeg, Int.reduceToNat, reduceCtorEq])
  · by_cases h2 : 2 ≤ base
    · by_cases h3 : base ≤ 6
      · repeat' (first | (with_reducible first | refine SW_seq ?_ | refine SW_block ?_ | refine SThen_n ?_ | refine SThen_r ?_ | refine SThen_e ?_ | refine SIn_n ?_ | refine SIn_r ?_ | refine SIn_eq ?_ | refine SW_skip ?_ | refine SW_exit ?_ | refine SW_ret ?_ | refine SPost_r ?_) | ((with_reducible refine SIn_ne ?_ ?_); focus decide) | ((with_reducible refine SW_true ?_ ?_); focus exact rfl) | ((with_reducible refine SW_false ?_ ?_); focus exact rfl) | ((first | (with_reducible apply SW_run tt_ok hG htb) | ((with_reducible apply SW_draw rfl tt_ok hG htb); (focus kernel_rfl); (focus (simp only [List.range, List.range.loop, List.size_toArray, List.length_cons, List.length_nil, Nat.reduceAdd])))); focus ((repeat' (first | (with_reducible exact runX_nil) | (with_reducible exact runI_nil) | ((first | (with_reducible apply runX_cons) | (with_reducible apply runI_cons)); focus (simp (discharger := omega) only [go_sem, ↓reduceIte, reduceIte, Nat.reduceEqDiff, Nat.reduceLT, Nat.reduceLeDiff, Nat.reduceAdd, Nat.reduceSub, Nat.reduceMul, Nat.reduceDiv, Nat.reduceMod, Nat.reduceBEq, Int.reduceEq, Int.reduceLT, Int.reduceLE, Int.reduceNeg, Int.reduceToNat, reduceCtorEq]; with_reducible rfl)))); done)))
        exact (by simp (discharger := omega) only [go_sem, ↓reduceIte, reduceIte, Nat.reduceEqDiff, Nat.reduceLT, Nat.reduceLeDiff, Nat.reduceAdd, Nat.reduceSub, Nat.reduceMul, Nat.reduceDiv, Nat.reduceMod, Nat.reduceBEq, Int.reduceEq, Int.reduceLT, Int.reduceLE, Int.reduceNeg, Int.reduceToNat, reduceCtorEq])
      · repeat' (first | (with_reducible first | refine SW_seq ?_ | refine SW_block ?_ | refine SThen_n ?_ | refine SThen_r ?_ | refine SThen_e ?_ | refine SIn_n ?_ | refine SIn_r ?_ | refine SIn_eq ?_ | refine SW_skip ?_ | refine SW_exit ?_ | refine SW_ret ?_ | refine SPost_r ?_) | ((with_reducible refine SIn_ne ?_ ?_); focus decide) | ((with_reducible refine SW_true ?_ ?_); focus exact rfl) | ((with_reducible refine SW_false ?_ ?_); focus exact rfl) | ((first | (with_reducible apply SW_run tt_ok hG htb) | ((with_reducible apply SW_draw rfl tt_ok hG htb); (focus kernel_rfl); (focus (simp only [List.range, List.range.loop, List.size_toArray, List.length_cons, List.length_nil, Nat.reduceAdd])))); focus ((repeat' (first | (with_reducible exact runX_nil) | (with_reducible exact runI_nil) | ((first | (with_reducible apply runX_cons) | (with_reducible apply runI_cons)); focus (simp (discharger := omega) only [go_sem, ↓reduceIte, reduceIte, Nat.reduceEqDiff, Nat.reduceLT, Nat.reduceLeDiff, Nat.reduceAdd, Nat.reduceSub, Nat.reduceMul, Nat.reduceDiv, Nat.reduceMod, Nat.reduceBEq, Int.reduceEq, Int.reduceLT, Int.reduceLE, Int.reduceNeg, Int.reduceToNat, reduceCtorEq]; with_reducible rfl)))); done)))
        exact (by simp (discharger := omega) only [go_sem, ↓reduceIte, reduceIte, Nat.reduceEqDiff, Nat.reduceLT, Nat.reduceLeDiff, Nat.reduceAdd, Nat.reduceSub, Nat.reduceMul, Nat.reduceDiv, Nat.reduceMod, Nat.reduceBEq, Int.reduceEq, Int.reduceLT, Int.reduceLE, Int.reduceNeg, Int.reduceToNat, reduceCtorEq])
    · repeat' (first | (with_reducible first | refine SW_seq ?_ | refine SW_block ?_ | refine SThen_n ?_ | refine SThen_r ?_ | refine SThen_e ?_ | refine SIn_n ?_ | refine SIn_r ?_ | refine SIn_eq ?_ | refine SW_skip ?_ | refine SW_exit ?_ | refine SW_ret ?_ | refine SPost_r ?_) | ((with_reducible refine SIn_ne ?_ ?_); focus decide) | ((with_reducible refine SW_true ?_ ?_); focus exact rfl) | ((with_reducible refine SW_false ?_ ?_); focus exact rfl) | ((first | (with_reducible apply SW_run tt_ok hG htb) | ((with_reducible apply SW_draw rfl tt_ok hG htb); (focus kernel_rfl); (focus (simp only [List.range, List.range.loop, List.size_toArray, List.length_cons, List.length_nil, Nat.reduceAdd])))); focus ((repeat' (first | (with_reducible exact runX_nil) | (with_reducible exact runI_nil) | ((first | (with_reducible apply runX_cons) | (with_reducible apply runI_cons)); focus (simp (discharger := omega) only [go_sem, ↓reduceIte, reduceIte, Nat.reduceEqDiff, Nat.reduceLT, Nat.reduceLeDiff, Nat.reduceAdd, Nat.reduceSub, Nat.reduceMul, Nat.reduceDiv, Nat.reduceMod, Nat.reduceBEq, Int.reduceEq, Int.reduceLT, Int.reduceLE, Int.reduceNeg, Int.reduceToNat, reduceCtorEq]; with_reducible rfl)))); done)))
      exact (by simp (discharger := omega) only [go_sem, ↓reduceIte, reduceIte, Nat.reduceEqDiff, Nat.reduceLT, Nat.reduceLeDiff, Nat.reduceAdd, Nat.reduceSub, Nat.reduceMul, Nat.reduceDiv, Nat.reduceMod, Nat.reduceBEq, Int.reduceEq, Int.reduceLT, Int.reduceLE, Int.reduceNeg, Int.reduceToNat, reduceCtorEq])
set_option maxHeartbeats 1000000 in
theorem Many_snd (base t : Int) : Snd Tryd.prog G 62 [tInt base, tInt t] (.tup [tInt (manyOf base t), tErr (manyErr base t)]) := by
  have htb := Tab.cons (Radix_snd hG base) Tab.nil
  refine snd_of_body (n := 32) (tm := [(0, .t (tInt base)), (1, .t (tInt t))]) (rs := [.tmp 4, .tmp 5]) tt_ok Tryd.func62 rfl rfl rfl rfl rfl ?_
  unfold manyOf manyErr
  generalize hk : radix base = k at htb ⊢
  by_cases h1 : k = 0
  · subst h1
    repeat' (first | (with_reducible first | refine SW_seq ?_ | refine SW_block ?_ | refine SThen_n ?_ | refine SThen_r ?_ | refine SThen_e ?_ | refine SIn_n ?_ | refine SIn_r ?_ | refine SIn_eq ?_ | refine SW_skip ?_ | refine SW_exit ?_ | refine SW_ret ?_ | refine SPost_r ?_) | ((with_reducible refine SIn_ne ?_ ?_); focus decide) | ((with_reducible refine SW_true ?_ ?_); focus exact rfl) | ((with_reducible refine SW_false ?_ ?_); focus exact rfl) | ((first | (with_reducible apply SW_run tt_ok hG htb) | ((with_reducible apply SW_draw rfl tt_ok hG htb); (focus kernel_rfl); (focus (simp only [List.range, List.range.loop, List.size_toArray, List.length_cons, List.length_nil, Nat.reduceAdd])))); focus ((repeat' (first | (with_reducible exact runX_nil) | (with_reducible exact runI_nil) | ((first | (with_reducible apply runX_cons) | (with_reducible apply runI_cons)); focus (simp (discharger := omega) only [go_sem, ↓reduceIte, reduceIte, Nat.reduceEqDiff, Nat.reduceLT, Nat.reduceLeDiff, Nat.reduceAdd, Nat.reduceSub, Nat.reduceMul, Nat.reduceDiv, Nat.reduceMod, Nat.reduceBEq, Int.reduceEq, Int.reduceLT, Int.reduceLE, Int.reduceNeg, Int.reduceToNat, reduceCtorEq]; with_reducible rfl)))); done)))
    exact (by simp (discharger := omega) only [go_sem, tErr, ↓reduceIte, reduceIte, Nat.reduceEqDiff, Nat.reduceLT, Nat.reduceLeDiff, Nat.reduceAdd, Nat.reduceSub, Nat.reduceMul, Nat.reduceDiv, Nat.reduceMod, Nat.reduceBEq, Int.reduceEq, Int.reduceLT, Int.reduceLE, Int.reduceNeg, Int.reduceToNat, reduceCtorEq])
  · by_cases h2 : t < 0
    · repeat' (first | (with_reducible first | refine SW_seq ?_ | refine SW_block ?_ | refine SThen_n ?_ | refine SThen_r ?_ | refine SThen_e ?_ | refine SIn_n ?_ | refine SIn_r ?_ | refine SIn_eq ?_ | refine SW_skip ?_ | refine SW_exit ?_ | refine SW_ret ?_ | refine SPost_r ?_) | ((with_reducible refine SIn_ne ?_ ?_); focus decide) | ((with_reducible refine SW_true ?_ ?_); focus exact rfl) | ((with_reducible refine SW_false ?_ ?_); focus exact rfl) | ((first | (with_reducible apply SW_run tt_ok hG htb) | ((with_reducible apply SW_draw rfl tt_ok hG htb); (focus kernel_rfl); (focus (simp only [List.range, List.range.loop, List.size_toArray, List.length_cons, List.length_nil, Nat.reduceAdd])))); focus ((repeat' (first | (with_reducible exact runX_nil) | (with_reducible exact runI_nil) | ((first | (with_reducible apply runX_cons) | (with_reducible apply runI_cons)); focus (simp (discharger := omega) only [go_sem, ↓reduceIte, reduceIte, Nat.reduceEqDiff, Nat.reduceLT, Nat.reduceLeDiff, Nat.reduceAdd, Nat.reduceSub, Nat.reduceMul, Nat.reduceDiv, Nat.reduceMod, Nat.reduceBEq, Int.reduceEq, Int.reduceLT, Int.reduceLE, Int.reduceNeg, Int.reduceToNat, reduceCtorEq]; with_reducible rfl)))); done)))
      exact (by simp (discharger := omega) only [go_sem, tErr, ↓reduceIte, reduceIte, Nat.reduceEqDiff, Nat.reduceLT, Nat.reduceLeDiff, Nat.reduceAdd, Nat.reduceSub, Nat.reduceMul, Nat.reduceDiv, Nat.reduceMod, Nat.reduceBEq, Int.reduceEq, Int.reduceLT, Int.reduceLE, Int.reduceNeg, Int.reduceToNat, reduceCtorEq])
    · by_cases h3 : 5 < t
      · repeat' (first | (with_reducible first | refine SW_seq ?_ | refine SW_block ?_ | refine SThen_n ?_ | refine SThen_r ?_ | refine SThen_e ?_ | refine SIn_n ?_ | refine SIn_r ?_ | refine SIn_eq ?_ | refine SW_skip ?_ | refine SW_exit ?_ | refine SW_ret ?_ | refine SPost_r ?_) | ((with_reducible refine SIn_ne ?_ ?_); focus decide) | ((with_reducible refine SW_true ?_ ?_); focus exact rfl) | ((with_reducible refine SW_false ?_ ?_); focus exact rfl) | ((first | (with_reducible apply SW_run tt_ok hG htb) | ((with_reducible apply SW_draw rfl tt_ok hG htb); (focus kernel_rfl); (focus (simp only [List.range, List.range.loop, List.size_toArray, List.length_cons, List.length_nil, Nat.reduceAdd])))); focus ((repeat' (first | (with_reducible exact runX_nil) | (with_reducible exact runI_nil) | ((first | (with_reducible apply runX_cons) | (with_reducible apply runI_cons)); focus (simp (discharger := omega) only [go_sem, ↓reduceIte, reduceIte, Nat.reduceEqDiff, Nat.reduceLT, Nat.reduceLeDiff, Nat.reduceAdd, Nat.reduceSub, Nat.reduceMul, Nat.reduceDiv, Nat.reduceMod, Nat.reduceBEq, Int.reduceEq, Int.reduceLT, Int.reduceLE, Int.reduceNeg, Int.reduceToNat, reduceCtorEq]; with_reducible rfl)))); done)))
        exact (by simp (discharger := omega) only [go_sem, tErr, ↓reduceIte, reduceIte, Nat.reduceEqDiff, Nat.reduceLT, Nat.reduceLeDiff, Nat.reduceAdd, Nat.reduceSub, Nat.reduceMul, Nat.reduceDiv, Nat.reduceMod, Nat.reduceBEq, Int.reduceEq, Int.reduceLT, Int.reduceLE, Int.reduceNeg, Int.reduceToNat, reduceCtorEq])
      · obtain ⟨r2, r6⟩ := radix_two (b := base) (by omega)
        rw [hk] at r2 r6
        obtain ⟨t, rfl⟩ := Int.eq_ofNat_of_zero_le (show 0 ≤ t by omega)
        rw [show (if k = 0 ∨ (t : Int) < 0 ∨ 5 < (t : Int) then (1 : Int) else if 36 < powW k (t : Int).toNat then 3 else 0) = if 36 < powW k t then 3 else 0 by rw [if_neg (by omega)]; rfl]
        repeat' (first | (with_reducible first | refine SW_seq ?_ | refine SW_block ?_ | refine SThen_n ?_ | refine SThen_r ?_ | refine SThen_e ?_ | refine SIn_n ?_ | refine SIn_r ?_ | refine SIn_eq ?_ | refine SW_skip ?_ | refine SW_exit ?_ | refine SW_ret ?_ | refine SPost_r ?_) | ((with_reducible refine SIn_ne ?_ ?_); focus decide) | ((with_reducible refine SW_true ?_ ?_); focus exact rfl) | ((with_reducible refine SW_false ?_ ?_); focus exact rfl) | ((first | (with_reducible apply SW_run tt_ok hG htb) | ((with_reducible apply SW_draw rfl tt_ok hG htb); (focus kernel_rfl); (focus (simp only [List.range, List.range.loop, List.size_toArray, List.length_cons, List.length_nil, Nat.reduceAdd])))); focus ((repeat' (first | (with_reducible exact runX_nil) | (with_reducible exact runI_nil) | ((first | (with_reducible apply runX_cons) | (with_reducible apply runI_cons)); focus (simp (discharger := omega) only [go_sem, ↓reduceIte, reduceIte, Nat.reduceEqDiff, Nat.reduceLT, Nat.reduceLeDiff, Nat.reduceAdd, Nat.reduceSub, Nat.reduceMul, Nat.reduceDiv, Nat.reduceMod, Nat.reduceBEq, Int.reduceEq, Int.reduceLT, Int.reduceLE, Int.reduceNeg, Int.reduceToNat, reduceCtorEq]; with_reducible rfl)))); done)))
        refine SW_loop (fun m s => ∃ i : Nat, m = t - i ∧ s = ⟨32, [(6, .t (tInt k)), (7, .t (tInt (powW k i))), (21, .t (tInt t)), (22, .t (tInt i))], []⟩ ∧ i ≤ t) t ⟨_, Norm.headS (own := []) (keep := [6, 7, 21, 22]) (by simp (discharger := omega) only [go_sem, ↓reduceIte, reduceIte, Nat.reduceEqDiff, Nat.reduceLT, Nat.reduceLeDiff, Nat.reduceAdd, Nat.reduceSub, Nat.reduceMul, Nat.reduceDiv, Nat.reduceMod, Nat.reduceBEq, Int.reduceEq, Int.reduceLT, Int.reduceLE, Int.reduceNeg, Int.reduceToNat, reduceCtorEq]; with_reducible rfl) (by simp only [go_sem, ↓reduceIte, reduceIte, Nat.reduceEqDiff, Nat.reduceLT, Nat.reduceLeDiff, Nat.reduceAdd, Nat.reduceSub, Nat.reduceMul, Nat.reduceDiv, Nat.reduceMod, Nat.reduceBEq, Int.reduceEq, Int.reduceLT, Int.reduceLE, Int.reduceNeg, Int.reduceToNat, reduceCtorEq]; with_reducible rfl) (by simp only [go_sem, ↓reduceIte, reduceIte, Nat.reduceEqDiff, Nat.reduceLT, Nat.reduceLeDiff, Nat.reduceAdd, Nat.reduceSub, Nat.reduceMul, Nat.reduceDiv, Nat.reduceMod, Nat.reduceBEq, Int.reduceEq, Int.reduceLT, Int.reduceLE, Int.reduceNeg, Int.reduceToNat, reduceCtorEq]; with_reducible rfl) (by simp only [go_sem, ↓reduceIte, reduceIte, Nat.reduceEqDiff, Nat.reduceLT, Nat.reduceLeDiff, Nat.reduceAdd, Nat.reduceSub, Nat.reduceMul, Nat.reduceDiv, Nat.reduceMod, Nat.reduceBEq, Int.reduceEq, Int.reduceLT, Int.reduceLE, Int.reduceNeg, Int.reduceToNat, reduceCtorEq]; with_reducible rfl) (by simp only [go_sem, ↓reduceIte, reduceIte, Nat.reduceEqDiff, Nat.reduceLT, Nat.reduceLeDiff, Nat.reduceAdd, Nat.reduceSub, Nat.reduceMul, Nat.reduceDiv, Nat.reduceMod, Nat.reduceBEq, Int.reduceEq, Int.reduceLT, Int.reduceLE, Int.reduceNeg, Int.reduceToNat, reduceCtorEq]; with_reducible rfl), 0, rfl, rfl, Nat.zero_le _⟩ ?_
        rintro m s ⟨i, rfl, rfl, hi⟩
        have hb := powW_bd r2 r6 (j := i) (by omega)
        by_cases hlt : i < t
        · have hb1 : 1 ≤ powW k i * k ∧ powW k i * k ≤ 7776 := powW_bd r2 r6 (j := i + 1) (by omega)
          repeat' (first | (with_reducible first | refine SW_seq ?_ | refine SW_block ?_ | refine SThen_n ?_ | refine SThen_r ?_ | refine SThen_e ?_ | refine SIn_n ?_ | refine SIn_r ?_ | refine SIn_eq ?_ | refine SW_skip ?_ | refine SW_exit ?_ | refine SW_ret ?_ | refine SPost_r ?_) | ((with_reducible refine SIn_ne ?_ ?_); focus decide) | ((with_reducible refine SW_true ?_ ?_); focus exact rfl) | ((with_reducible refine SW_false ?_ ?_); focus exact rfl) | ((first | (with_reducible apply SW_run tt_ok hG htb) | ((with_reducible apply SW_draw rfl tt_ok hG htb); (focus kernel_rfl); (focus (simp only [List.range, List.range.loop, List.size_toArray, List.length_cons, List.length_nil, Nat.reduceAdd])))); focus ((repeat' (first | (with_reducible exact runX_nil) | (with_reducible exact runI_nil) | ((first | (with_reducible apply runX_cons) | (with_reducible apply runI_cons)); focus (simp (discharger := omega) only [go_sem, ↓reduceIte, reduceIte, Nat.reduceEqDiff, Nat.reduceLT, Nat.reduceLeDiff, Nat.reduceAdd, Nat.reduceSub, Nat.reduceMul, Nat.reduceDiv, Nat.reduceMod, Nat.reduceBEq, Int.reduceEq, Int.reduceLT, Int.reduceLE, Int.reduceNeg, Int.reduceToNat, reduceCtorEq]; with_reducible rfl)))); done)))
          exact ⟨t - (i + 1), _, by omega, Norm.headS (own := []) (keep := [6, 7, 21, 22]) (by simp (discharger := omega) only [go_sem, ↓reduceIte, reduceIte, Nat.reduceEqDiff, Nat.reduceLT, Nat.reduceLeDiff, Nat.reduceAdd, Nat.reduceSub, Nat.reduceMul, Nat.reduceDiv, Nat.reduceMod, Nat.reduceBEq, Int.reduceEq, Int.reduceLT, Int.reduceLE, Int.reduceNeg, Int.reduceToNat, reduceCtorEq]; with_reducible rfl) (by simp only [go_sem, ↓reduceIte, reduceIte, Nat.reduceEqDiff, Nat.reduceLT, Nat.reduceLeDiff, Nat.reduceAdd, Nat.reduceSub, Nat.reduceMul, Nat.reduceDiv, Nat.reduceMod, Nat.reduceBEq, Int.reduceEq, Int.reduceLT, Int.reduceLE, Int.reduceNeg, Int.reduceToNat, reduceCtorEq]; with_reducible rfl) (by simp only [go_sem, ↓reduceIte, reduceIte, Nat.reduceEqDiff, Nat.reduceLT, Nat.reduceLeDiff, Nat.reduceAdd, Nat.reduceSub, Nat.reduceMul, Nat.reduceDiv, Nat.reduceMod, Nat.reduceBEq, Int.reduceEq, Int.reduceLT, Int.reduceLE, Int.reduceNeg, Int.reduceToNat, reduceCtorEq]; with_reducible rfl) (by simp only [go_sem, ↓reduceIte, reduceIte, Nat.reduceEqDiff, Nat.reduceLT, Nat.reduceLeDiff, Nat.reduceAdd, Nat.reduceSub, Nat.reduceMul, Nat.reduceDiv, Nat.reduceMod, Nat.reduceBEq, Int.reduceEq, Int.reduceLT, Int.reduceLE, Int.reduceNeg, Int.reduceToNat, reduceCtorEq]; with_reducible rfl) (by simp only [go_sem, ↓reduceIte, reduceIte, Nat.reduceEqDiff, Nat.reduceLT, Nat.reduceLeDiff, Nat.reduceAdd, Nat.reduceSub, Nat.reduceMul, Nat.reduceDiv, Nat.reduceMod, Nat.reduceBEq, Int.reduceEq, Int.reduceLT, Int.reduceLE, Int.reduceNeg, Int.reduceToNat, reduceCtorEq]; with_reducible rfl), i + 1, rfl, rfl, by omega⟩
        · obtain rfl : i = t := by omega
          by_cases h36 : 36 < powW k i
          · repeat' (first | (with_reducible first | refine SW_seq ?_ | refine SW_block ?_ | refine SThen_n ?_ | refine SThen_r ?_ | refine SThen_e ?_ | refine SIn_n ?_ | refine SIn_r ?_ | refine SIn_eq ?_ | refine SW_skip ?_ | refine SW_exit ?_ | refine SW_ret ?_ | refine SPost_r ?_) | ((with_reducible refine SIn_ne ?_ ?_); focus decide) | ((with_reducible refine SW_true ?_ ?_); focus exact rfl) | ((with_reducible refine SW_false ?_ ?_); focus exact rfl) | ((first | (with_reducible apply SW_run tt_ok hG htb) | ((with_reducible apply SW_draw rfl tt_ok hG htb); (focus kernel_rfl); (focus (simp only [List.range, List.range.loop, List.size_toArray, List.length_cons, List.length_nil, Nat.reduceAdd])))); focus ((repeat' (first | (with_reducible exact runX_nil) | (with_reducible exact runI_nil) | ((first | (with_reducible apply runX_cons) | (with_reducible apply runI_cons)); focus (simp (discharger := omega) only [go_sem, ↓reduceIte, reduceIte, Nat.reduceEqDiff, Nat.reduceLT, Nat.reduceLeDiff, Nat.reduceAdd, Nat.reduceSub, Nat.reduceMul, Nat.reduceDiv, Nat.reduceMod, Nat.reduceBEq, Int.reduceEq, Int.reduceLT, Int.reduceLE, Int.reduceNeg, Int.reduceToNat, reduceCtorEq]; with_reducible rfl)))); done)))
            exact (by simp (discharger := omega) only [go_sem, tErr, ↓reduceIte, reduceIte, Nat.reduceEqDiff, Nat.reduceLT, Nat.reduceLeDiff, Nat.reduceAdd, Nat.reduceSub, Nat.reduceMul, Nat.reduceDiv, Nat.reduceMod, Nat.reduceBEq, Int.reduceEq, Int.reduceLT, Int.reduceLE, Int.reduceNeg, Int.reduceToNat, reduceCtorEq])
          · repeat' (first | (with_reducible first | refine SW_seq ?_ | refine SW_block ?_ | refine SThen_n ?_ | refine SThen_r ?_ | refine SThen_e ?_ | refine SIn_n ?_ | refine SIn_r ?_ | refine SIn_eq ?_ | refine SW_skip ?_ | refine SW_exit ?_ | refine SW_ret ?_ | refine SPost_r ?_) | ((with_reducible refine SIn_ne ?_ ?_); focus decide) | ((with_reducible refine SW_true ?_ ?_); focus exact rfl) | ((with_reducible refine SW_false ?_ ?_); focus exact rfl) | ((first | (with_reducible apply SW_run tt_ok hG htb) | ((with_reducible apply SW_draw rfl tt_ok hG htb); (focus kernel_rfl); (focus (simp only [List.range, List.range.loop, List.size_toArray, List.length_cons, List.length_nil, Nat.reduceAdd])))); focus ((repeat' (first | (with_reducible exact runX_nil) | (with_reducible exact runI_nil) | ((first | (with_reducible apply runX_cons) | (with_reducible apply runI_cons)); focus (simp (discharger := omega) only [go_sem, ↓reduceIte, reduceIte, Nat.reduceEqDiff, Nat.reduceLT, Nat.reduceLeDiff, Nat.reduceAdd, Nat.reduceSub, Nat.reduceMul, Nat.reduceDiv, Nat.reduceMod, Nat.reduceBEq, Int.reduceEq, Int.reduceLT, Int.reduceLE, Int.reduceNeg, Int.reduceToNat, reduceCtorEq]; with_reducible rfl)))); done)))
            exact (by simp (discharger := omega) only [go_sem, tErr, ↓reduceIte, reduceIte, Nat.reduceEqDiff, Nat.reduceLT, Nat.reduceLeDiff, Nat.reduceAdd, Nat.reduceSub, Nat.reduceMul, Nat.reduceDiv, Nat.reduceMod, Nat.reduceBEq, Int.reduceEq, Int.reduceLT, Int.reduceLE, Int.reduceNeg, Int.reduceToNat, reduceCtorEq])
end
end Go.Proofs.YtfhncnhkeodngaaDoor
namespace Go.Proofs.YtfhncnhkeodngaaDoor
open Go.RowKit

section
variable {G : World → Prop} (hG : Lasting G)
include hG
end
end Go.Proofs.YtfhncnhkeodngaaDoor
namespace Go.Proofs.YtfhncnhkeodngaaDoor
open Go.RowKit

/-- What a map from looks to classes holds. -/
def entries (κ : Int → ByteArray) (R : List Int) : List (T × T) := R.zipIdx.map fun p => (.str (κ p.1), tNat p.2)
theorem entries_length (κ : Int → ByteArray) (R : List Int) : (entries κ R).length = R.length := by simp [entries]
theorem entries_mem {κ : Int → ByteArray} {R : List Int} {p : T × T} (h : p ∈ entries κ R) : ∃ r ∈ R, p.1 = .str (κ r) := by
  obtain ⟨q, hq, rfl⟩ := List.mem_map.1 h
  have := (List.mem_zipIdx_iff_getElem?.1 (show (q.1, q.2) ∈ R.zipIdx from hq))
  exact ⟨q.1, List.mem_of_getElem? this, rfl⟩
theorem entries_none {κ : Int → ByteArray} {R : List Int} {s : Int} (h : ∀ r ∈ R, κ r ≠ κ s) : ∀ p ∈ entries κ R, p.1 ≠ .str (κ s) := fun p hp e => by
  obtain ⟨r, hr, e2⟩ := entries_mem hp
  rw [e2] at e
  exact h r hr (T.str.inj e)
theorem entries_get_none {κ : Int → ByteArray} {R : List Int} {s : Int} (h : ∀ r ∈ R, κ r ≠ κ s) : mapGet (entries κ R) (.str (κ s)) = none := mapGet_none (entries_none h)
theorem entries_set {κ : Int → ByteArray} {R : List Int} {s : Int} (h : ∀ r ∈ R, κ r ≠ κ s) : mapSet (entries κ R) (.str (κ s)) (tNat R.length) = entries κ (R ++ [s]) := by
  rw [mapSet_none (entries_none h)]; simp [entries, List.zipIdx_append]
theorem entries_get_some {κ : Int → ByteArray} {R : List Int} {s r : Int} {k : Nat} (hd : R.Pairwise fun r q => κ r ≠ κ q) (hk : R[k]? = some r) (he : κ r = κ s) : mapGet (entries κ R) (.str (κ s)) = some (tNat k) := by
  refine mapGet_some (j := k) (p := (.str (κ r), tNat k)) ?_ ?_ (by rw [he])
  · rw [List.pairwise_iff_getElem]
    intro i j hi hj hij e
    simp only [entries, List.getElem_map, List.getElem_zipIdx] at e
    rw [entries_length] at hi hj
    exact List.pairwise_iff_getElem.1 hd i j hi hj hij (T.str.inj e)
  · simp [entries, List.getElem?_map, List.getElem?_zipIdx, hk]
/-- What Shrink hands back. -/
noncomputable def shrinkT (base tracks : Int) (n : Nat) (next : List (List Int)) (ends : List Bool) : T :=
  if (leastRE n next ends).1.length ≤ 80 then .tup [tAuto ⟨base, tracks, (leastRE n next ends).1, (leastRE n next ends).2⟩, .bool true] else .tup [tAuto GAuto.zero, .bool false]
section
variable {G : World → Prop} (hG : Lasting G)
include hG
set_option maxHeartbeats 1000000 in
set_option maxRecDepth 100000 in
theorem Shrink_big (base tracks : Int) {n m : Nat} {next : List (List Int)} {ends : List Bool} (hR : Rows0 n m next) (hm : 0 < m) (hm2 : m ≤ 2000000) (hm3 : (leastRE n next ends).1.length ≤ 65536) (he : ends.length = m) (hn : n ≤ 1000) :
    Snd Tryd.prog G 96 [tInt base, tInt tracks, tIntss next, tBools ends] (shrinkT base tracks n next ends) := by
  have htb : Tab.ok Tryd.prog G [] := Tab.nil
  have hlen := hR.len
  refine snd_of_body (n := 220) (tm := [(0, .t (tInt base)), (1, .t (tInt tracks)), (2, .t (tIntss next)), (3, .t (tBools ends))]) (rs := [.cell 8 51, .tmp 9]) tt_ok Tryd.func96 rfl rfl rfl rfl rfl ?_
  repeat' (first | (with_reducible first | refine SW_seq ?_ | refine SW_block ?_ | refine SThen_n ?_ | refine SThen_r ?_ | refine SThen_e ?_ | refine SIn_n ?_ | refine SIn_r ?_ | refine SIn_eq ?_ | refine SW_skip ?_ | refine SW_exit ?_ | refine SW_ret ?_ | refine SPost_r ?_) | ((with_reducible refine SIn_ne ?_ ?_); focus decide) | ((with_reducible refine SW_true ?_ ?_); focus exact rfl) | ((with_reducible refine SW_false ?_ ?_); focus exact rfl) | ((first | (with_reducible apply SW_run tt_ok hG htb) | ((with_reducible apply SW_draw rfl tt_ok hG htb); (focus kernel_rfl); (focus (simp only [List.range, List.range.loop, List.size_toArray, List.length_cons, List.length_nil, Nat.reduceAdd])))); focus ((repeat' (first | (with_reducible exact runX_nil) | (with_reducible exact runI_nil) | ((first | (with_reducible apply runX_cons) | (with_reducible apply runI_cons)); focus (simp (discharger := omega) only [go_sem, ↓reduceIte, reduceIte, Nat.reduceEqDiff, Nat.reduceLT, Nat.reduceLeDiff, Nat.reduceAdd, Nat.reduceSub, Nat.reduceMul, Nat.reduceDiv, Nat.reduceMod, Nat.reduceBEq, Int.reduceEq, Int.reduceLT, Int.reduceLE, Int.reduceNeg, Int.reduceToNat, reduceCtorEq]; with_reducible rfl)))); done)))
  refine SW_loop (fun k s => ∃ (i : Nat) (out : List Int) (ot st : List T), k = m - i ∧ s = ⟨220, [(0, .t (tInt base)), (1, .t (tInt tracks)), (2, .t (tIntss next)), (3, .t (tBools ends)), (8, .bptr 0 0), (10, .sref 1), (11, .sref 2), (12, .t (tInt i))], [.box [.t (tInt 0), .t (tInt 0), .nil, .nil], .row 3 1 false ot, .row 4 1 true st]⟩ ∧
      ot = out.map tInt ∧ st = (seenOf m out).map T.bool ∧ i ≤ out.length ∧ MetOk m out ∧ Bfs next n out i 0) m ⟨_, Norm.headS (own := [(10, 3, 1, false), (11, 4, 1, true)]) (keep := [0, 1, 2, 3, 8, 10, 11, 12]) (by simp (discharger := omega) only [go_sem, ↓reduceIte, reduceIte, Nat.reduceEqDiff, Nat.reduceLT, Nat.reduceLeDiff, Nat.reduceAdd, Nat.reduceSub, Nat.reduceMul, Nat.reduceDiv, Nat.reduceMod, Nat.reduceBEq, Int.reduceEq, Int.reduceLT, Int.reduceLE, Int.reduceNeg, Int.reduceToNat, reduceCtorEq]; with_reducible rfl) (by simp only [go_sem, ↓reduceIte, reduceIte, Nat.reduceEqDiff, Nat.reduceLT, Nat.reduceLeDiff, Nat.reduceAdd, Nat.reduceSub, Nat.reduceMul, Nat.reduceDiv, Nat.reduceMod, Nat.reduceBEq, Int.reduceEq, Int.reduceLT, Int.reduceLE, Int.reduceNeg, Int.reduceToNat, reduceCtorEq]; with_reducible rfl) (by simp only [go_sem, ↓reduceIte, reduceIte, Nat.reduceEqDiff, Nat.reduceLT, Nat.reduceLeDiff, Nat.reduceAdd, Nat.reduceSub, Nat.reduceMul, Nat.reduceDiv, Nat.reduceMod, Nat.reduceBEq, Int.reduceEq, Int.reduceLT, Int.reduceLE, Int.reduceNeg, Int.reduceToNat, reduceCtorEq]; with_reducible rfl) (by simp only [go_sem, ↓reduceIte, reduceIte, Nat.reduceEqDiff, Nat.reduceLT, Nat.reduceLeDiff, Nat.reduceAdd, Nat.reduceSub, Nat.reduceMul, Nat.reduceDiv, Nat.reduceMod, Nat.reduceBEq, Int.reduceEq, Int.reduceLT, Int.reduceLE, Int.reduceNeg, Int.reduceToNat, reduceCtorEq]; with_reducible rfl) (by simp only [go_sem, ↓reduceIte, reduceIte, Nat.reduceEqDiff, Nat.reduceLT, Nat.reduceLeDiff, Nat.reduceAdd, Nat.reduceSub, Nat.reduceMul, Nat.reduceDiv, Nat.reduceMod, Nat.reduceBEq, Int.reduceEq, Int.reduceLT, Int.reduceLE, Int.reduceNeg, Int.reduceToNat, reduceCtorEq]; with_reducible rfl), 0, [0], _, _, rfl, rfl, rfl, ?_⟩ ?_
  · refine ⟨?_, by simp, ⟨by simp, fun s hs => by simp at hs; subst hs; omega⟩, Bfs.start _ _⟩
    have := seenOf_set m [] 0
    rw [List.nil_append] at this
    rw [show ((0 : Nat) : Int) = 0 from rfl] at this
    rw [← this, seenOf_nil, List.map_set, List.map_replicate, hlen]
  · rintro k s ⟨i, out, ot, st, rfl, rfl, rfl, rfl, hi, hmo, hbf⟩
    have hol := hmo.len
    by_cases hlt : i < out.length
    · have hs : 0 ≤ out[i]! ∧ out[i]! < (m : Int) := by rw [getElem!_pos out i hlt]; exact hmo.ok _ (List.getElem_mem hlt)
      obtain ⟨row, hrow⟩ : ∃ row, next[out[i]!.toNat]! = row := ⟨_, rfl⟩
      have hrl : out[i]!.toNat < next.length := by omega
      have hrm : row ∈ next := by rw [← hrow, getElem!_pos next _ hrl]; exact List.getElem_mem hrl
      have hrn : row.length = n := hR.row _ hrm
      have hnx : ∀ l, nx next out[i]! l = row.getD l 0 := fun l => by unfold nx rowOf; rw [getD_lt hrl, ← hrow, getElem!_pos next _ hrl]
      have hio : out[i]? = some out[i]! := by rw [getElem!_pos out i hlt]; exact List.getElem?_eq_getElem hlt
      repeat' (first | (with_reducible first | refine SW_seq ?_ | refine SW_block ?_ | refine SThen_n ?_ | refine SThen_r ?_ | refine SThen_e ?_ | refine SIn_n ?_ | refine SIn_r ?_ | refine SIn_eq ?_ | refine SW_skip ?_ | refine SW_exit ?_ | refine SW_ret ?_ | refine SPost_r ?_) | ((with_reducible refine SIn_ne ?_ ?_); focus decide) | ((with_reducible refine SW_true ?_ ?_); focus exact rfl) | ((with_reducible refine SW_false ?_ ?_); focus exact rfl) | ((first | (with_reducible apply SW_run tt_ok hG htb) | ((with_reducible apply SW_draw rfl tt_ok hG htb); (focus kernel_rfl); (focus (simp only [List.range, List.range.loop, List.size_toArray, List.length_cons, List.length_nil, Nat.reduceAdd])))); focus ((repeat' (first | (with_reducible exact runX_nil) | (with_reducible exact runI_nil) | ((first | (with_reducible apply runX_cons) | (with_reducible apply runI_cons)); focus (simp (discharger := omega) only [go_sem, hrow, ↓reduceIte, reduceIte, Nat.reduceEqDiff, Nat.reduceLT, Nat.reduceLeDiff, Nat.reduceAdd, Nat.reduceSub, Nat.reduceMul, Nat.reduceDiv, Nat.reduceMod, Nat.reduceBEq, Int.reduceEq, Int.reduceLT, Int.reduceLE, Int.reduceNeg, Int.reduceToNat, reduceCtorEq]; with_reducible rfl)))); done)))
      generalize out[i]! = r at hs hrow hrl hnx hio
      refine SW_loop (fun k s => ∃ (l : Nat) (o : List Int) (ot st : List T), k = n - l ∧ s = ⟨220, [(0, .t (tInt base)), (1, .t (tInt tracks)), (2, .t (tIntss next)), (3, .t (tBools ends)), (8, .bptr 0 0), (10, .sref 1), (11, .sref 2), (12, .t (tInt i)), (52, .t (tInts row)), (53, .t (tInt row.length)), (54, .t (tInt l))], [.box [.t (tInt 0), .t (tInt 0), .nil, .nil], .row 3 1 false ot, .row 4 1 true st]⟩ ∧
          ot = o.map tInt ∧ st = (seenOf m o).map T.bool ∧ l ≤ n ∧ MetOk m o ∧ o[i]? = some r ∧ Bfs next n o i l) n ⟨_, Norm.headS (own := [(10, 3, 1, false), (11, 4, 1, true)]) (keep := [0, 1, 2, 3, 8, 10, 11, 12, 52, 53, 54]) (by simp (discharger := omega) only [go_sem, ↓reduceIte, reduceIte, Nat.reduceEqDiff, Nat.reduceLT, Nat.reduceLeDiff, Nat.reduceAdd, Nat.reduceSub, Nat.reduceMul, Nat.reduceDiv, Nat.reduceMod, Nat.reduceBEq, Int.reduceEq, Int.reduceLT, Int.reduceLE, Int.reduceNeg, Int.reduceToNat, reduceCtorEq]; with_reducible rfl) (by simp only [go_sem, ↓reduceIte, reduceIte, Nat.reduceEqDiff, Nat.reduceLT, Nat.reduceLeDiff, Nat.reduceAdd, Nat.reduceSub, Nat.reduceMul, Nat.reduceDiv, Nat.reduceMod, Nat.reduceBEq, Int.reduceEq, Int.reduceLT, Int.reduceLE, Int.reduceNeg, Int.reduceToNat, reduceCtorEq]; with_reducible rfl) (by simp only [go_sem, ↓reduceIte, reduceIte, Nat.reduceEqDiff, Nat.reduceLT, Nat.reduceLeDiff, Nat.reduceAdd, Nat.reduceSub, Nat.reduceMul, Nat.reduceDiv, Nat.reduceMod, Nat.reduceBEq, Int.reduceEq, Int.reduceLT, Int.reduceLE, Int.reduceNeg, Int.reduceToNat, reduceCtorEq]; with_reducible rfl) (by simp only [go_sem, ↓reduceIte, reduceIte, Nat.reduceEqDiff, Nat.reduceLT, Nat.reduceLeDiff, Nat.reduceAdd, Nat.reduceSub, Nat.reduceMul, Nat.reduceDiv, Nat.reduceMod, Nat.reduceBEq, Int.reduceEq, Int.reduceLT, Int.reduceLE, Int.reduceNeg, Int.reduceToNat, reduceCtorEq]; with_reducible rfl) (by simp only [go_sem, ↓reduceIte, reduceIte, Nat.reduceEqDiff, Nat.reduceLT, Nat.reduceLeDiff, Nat.reduceAdd, Nat.reduceSub, Nat.reduceMul, Nat.reduceDiv, Nat.reduceMod, Nat.reduceBEq, Int.reduceEq, Int.reduceLT, Int.reduceLE, Int.reduceNeg, Int.reduceToNat, reduceCtorEq]; with_reducible rfl), 0, out, _, _, rfl, rfl, rfl, rfl, Nat.zero_le _, hmo, hio, hbf⟩ ?_
      clear hmo hbf hio hlt hi hol
      rintro k s ⟨l, o, ot, st, rfl, rfl, rfl, rfl, hl, hmo, hio, hbf⟩
      have hol := hmo.len
      have hil := (List.getElem?_eq_some_iff.1 hio).1
      have hsl := seenOf_length m o
      by_cases hlt : l < n
      · have hll : l < row.length := by omega
        obtain ⟨u, hul⟩ : ∃ u, row[l]! = u := ⟨_, rfl⟩
        have hu : 0 ≤ u ∧ u < (m : Int) := by rw [← hul, getElem!_pos row l hll]; exact hR.ok _ hrm _ (List.getElem_mem hll)
        have hnxl : nx next r l = u := by rw [hnx, getD_lt hll, ← hul, getElem!_pos row l hll]
        obtain ⟨j, rfl⟩ : ∃ j : Nat, u = j := ⟨u.toNat, by omega⟩
        have hsn : (seenOf m o)[j]! = decide ((j : Int) ∈ o) := by
          rw [getElem!_pos _ _ (by omega), seenOf_at]
        have hset := seenOf_set m o j
        generalize hsne : seenOf m o = sn at hsn hsl hset
        by_cases hm1 : (j : Int) ∈ o
        · rw [decide_eq_true hm1] at hsn
          repeat' (first | (with_reducible first | refine SW_seq ?_ | refine SW_block ?_ | refine SThen_n ?_ | refine SThen_r ?_ | refine SThen_e ?_ | refine SIn_n ?_ | refine SIn_r ?_ | refine SIn_eq ?_ | refine SW_skip ?_ | refine SW_exit ?_ | refine SW_ret ?_ | refine SPost_r ?_) | ((with_reducible refine SIn_ne ?_ ?_); focus decide) | ((with_reducible refine SW_true ?_ ?_); focus exact rfl) | ((with_reducible refine SW_false ?_ ?_); focus exact rfl) | ((first | (with_reducible apply SW_run tt_ok hG htb) | ((with_reducible apply SW_draw rfl tt_ok hG htb); (focus kernel_rfl); (focus (simp only [List.range, List.range.loop, List.size_toArray, List.length_cons, List.length_nil, Nat.reduceAdd])))); focus ((repeat' (first | (with_reducible exact runX_nil) | (with_reducible exact runI_nil) | ((first | (with_reducible apply runX_cons) | (with_reducible apply runI_cons)); focus (simp (discharger := omega) only [go_sem, hsn, hul, ↓reduceIte, reduceIte, Nat.reduceEqDiff, Nat.reduceLT, Nat.reduceLeDiff, Nat.reduceAdd, Nat.reduceSub, Nat.reduceMul, Nat.reduceDiv, Nat.reduceMod, Nat.reduceBEq, Int.reduceEq, Int.reduceLT, Int.reduceLE, Int.reduceNeg, Int.reduceToNat, reduceCtorEq]; with_reducible rfl)))); done)))
          exact ⟨n - (l + 1), _, by omega, Norm.headS (own := [(10, 3, 1, false), (11, 4, 1, true)]) (keep := [0, 1, 2, 3, 8, 10, 11, 12, 52, 53, 54]) (by simp (discharger := omega) only [go_sem, ↓reduceIte, reduceIte, Nat.reduceEqDiff, Nat.reduceLT, Nat.reduceLeDiff, Nat.reduceAdd, Nat.reduceSub, Nat.reduceMul, Nat.reduceDiv, Nat.reduceMod, Nat.reduceBEq, Int.reduceEq, Int.reduceLT, Int.reduceLE, Int.reduceNeg, Int.reduceToNat, reduceCtorEq]; with_reducible rfl) (by simp only [go_sem, ↓reduceIte, reduceIte, Nat.reduceEqDiff, Nat.reduceLT, Nat.reduceLeDiff, Nat.reduceAdd, Nat.reduceSub, Nat.reduceMul, Nat.reduceDiv, Nat.reduceMod, Nat.reduceBEq, Int.reduceEq, Int.reduceLT, Int.reduceLE, Int.reduceNeg, Int.reduceToNat, reduceCtorEq]; with_reducible rfl) (by simp only [go_sem, ↓reduceIte, reduceIte, Nat.reduceEqDiff, Nat.reduceLT, Nat.reduceLeDiff, Nat.reduceAdd, Nat.reduceSub, Nat.reduceMul, Nat.reduceDiv, Nat.reduceMod, Nat.reduceBEq, Int.reduceEq, Int.reduceLT, Int.reduceLE, Int.reduceNeg, Int.reduceToNat, reduceCtorEq]; with_reducible rfl) (by simp only [go_sem, ↓reduceIte, reduceIte, Nat.reduceEqDiff, Nat.reduceLT, Nat.reduceLeDiff, Nat.reduceAdd, Nat.reduceSub, Nat.reduceMul, Nat.reduceDiv, Nat.reduceMod, Nat.reduceBEq, Int.reduceEq, Int.reduceLT, Int.reduceLE, Int.reduceNeg, Int.reduceToNat, reduceCtorEq]; with_reducible rfl) (by simp only [go_sem, ↓reduceIte, reduceIte, Nat.reduceEqDiff, Nat.reduceLT, Nat.reduceLeDiff, Nat.reduceAdd, Nat.reduceSub, Nat.reduceMul, Nat.reduceDiv, Nat.reduceMod, Nat.reduceBEq, Int.reduceEq, Int.reduceLT, Int.reduceLE, Int.reduceNeg, Int.reduceToNat, reduceCtorEq]; with_reducible rfl), l + 1, o, _, _, rfl, rfl, rfl, by rw [hsne], by omega, hmo, hio, hbf.skip hio hnxl hm1⟩
        · rw [decide_eq_false hm1] at hsn
          repeat' (first | (with_reducible first | refine SW_seq ?_ | refine SW_block ?_ | refine SThen_n ?_ | refine SThen_r ?_ | refine SThen_e ?_ | refine SIn_n ?_ | refine SIn_r ?_ | refine SIn_eq ?_ | refine SW_skip ?_ | refine SW_exit ?_ | refine SW_ret ?_ | refine SPost_r ?_) | ((with_reducible refine SIn_ne ?_ ?_); focus decide) | ((with_reducible refine SW_true ?_ ?_); focus exact rfl) | ((with_reducible refine SW_false ?_ ?_); focus exact rfl) | ((first | (with_reducible apply SW_run tt_ok hG htb) | ((with_reducible apply SW_draw rfl tt_ok hG htb); (focus kernel_rfl); (focus (simp only [List.range, List.range.loop, List.size_toArray, List.length_cons, List.length_nil, Nat.reduceAdd])))); focus ((repeat' (first | (with_reducible exact runX_nil) | (with_reducible exact runI_nil) | ((first | (with_reducible apply runX_cons) | (with_reducible apply runI_cons)); focus (simp (discharger := omega) only [go_sem, hsn, hul, ↓reduceIte, reduceIte, Nat.reduceEqDiff, Nat.reduceLT, Nat.reduceLeDiff, Nat.reduceAdd, Nat.reduceSub, Nat.reduceMul, Nat.reduceDiv, Nat.reduceMod, Nat.reduceBEq, Int.reduceEq, Int.reduceLT, Int.reduceLE, Int.reduceNeg, Int.reduceToNat, reduceCtorEq]; with_reducible rfl)))); done)))
          exact ⟨n - (l + 1), _, by omega, Norm.headS (own := [(10, 3, 1, false), (11, 4, 1, true)]) (keep := [0, 1, 2, 3, 8, 10, 11, 12, 52, 53, 54]) (by simp (discharger := omega) only [go_sem, ↓reduceIte, reduceIte, Nat.reduceEqDiff, Nat.reduceLT, Nat.reduceLeDiff, Nat.reduceAdd, Nat.reduceSub, Nat.reduceMul, Nat.reduceDiv, Nat.reduceMod, Nat.reduceBEq, Int.reduceEq, Int.reduceLT, Int.reduceLE, Int.reduceNeg, Int.reduceToNat, reduceCtorEq]; with_reducible rfl) (by simp only [go_sem, ↓reduceIte, reduceIte, Nat.reduceEqDiff, Nat.reduceLT, Nat.reduceLeDiff, Nat.reduceAdd, Nat.reduceSub, Nat.reduceMul, Nat.reduceDiv, Nat.reduceMod, Nat.reduceBEq, Int.reduceEq, Int.reduceLT, Int.reduceLE, Int.reduceNeg, Int.reduceToNat, reduceCtorEq]; with_reducible rfl) (by simp only [go_sem, ↓reduceIte, reduceIte, Nat.reduceEqDiff, Nat.reduceLT, Nat.reduceLeDiff, Nat.reduceAdd, Nat.reduceSub, Nat.reduceMul, Nat.reduceDiv, Nat.reduceMod, Nat.reduceBEq, Int.reduceEq, Int.reduceLT, Int.reduceLE, Int.reduceNeg, Int.reduceToNat, reduceCtorEq]; with_reducible rfl) (by simp only [go_sem, ↓reduceIte, reduceIte, Nat.reduceEqDiff, Nat.reduceLT, Nat.reduceLeDiff, Nat.reduceAdd, Nat.reduceSub, Nat.reduceMul, Nat.reduceDiv, Nat.reduceMod, Nat.reduceBEq, Int.reduceEq, Int.reduceLT, Int.reduceLE, Int.reduceNeg, Int.reduceToNat, reduceCtorEq]; with_reducible rfl) (by simp only [go_sem, ↓reduceIte, reduceIte, Nat.reduceEqDiff, Nat.reduceLT, Nat.reduceLeDiff, Nat.reduceAdd, Nat.reduceSub, Nat.reduceMul, Nat.reduceDiv, Nat.reduceMod, Nat.reduceBEq, Int.reduceEq, Int.reduceLT, Int.reduceLE, Int.reduceNeg, Int.reduceToNat, reduceCtorEq]; with_reducible rfl), l + 1, o ++ [(j : Int)], _, _, rfl, rfl, by simp [tInt], by
            rw [← hset, List.map_set], by omega, hmo.snoc hu hm1, by rw [List.getElem?_append_left hil]; exact hio, hbf.snoc hlt hio hnxl hm1⟩
      · obtain rfl : l = n := by omega
        repeat' (first | (with_reducible first | refine SW_seq ?_ | refine SW_block ?_ | refine SThen_n ?_ | refine SThen_r ?_ | refine SThen_e ?_ | refine SIn_n ?_ | refine SIn_r ?_ | refine SIn_eq ?_ | refine SW_skip ?_ | refine SW_exit ?_ | refine SW_ret ?_ | refine SPost_r ?_) | ((with_reducible refine SIn_ne ?_ ?_); focus decide) | ((with_reducible refine SW_true ?_ ?_); focus exact rfl) | ((with_reducible refine SW_false ?_ ?_); focus exact rfl) | ((first | (with_reducible apply SW_run tt_ok hG htb) | ((with_reducible apply SW_draw rfl tt_ok hG htb); (focus kernel_rfl); (focus (simp only [List.range, List.range.loop, List.size_toArray, List.length_cons, List.length_nil, Nat.reduceAdd])))); focus ((repeat' (first | (with_reducible exact runX_nil) | (with_reducible exact runI_nil) | ((first | (with_reducible apply runX_cons) | (with_reducible apply runI_cons)); focus (simp (discharger := omega) only [go_sem, ↓reduceIte, reduceIte, Nat.reduceEqDiff, Nat.reduceLT, Nat.reduceLeDiff, Nat.reduceAdd, Nat.reduceSub, Nat.reduceMul, Nat.reduceDiv, Nat.reduceMod, Nat.reduceBEq, Int.reduceEq, Int.reduceLT, Int.reduceLE, Int.reduceNeg, Int.reduceToNat, reduceCtorEq]; with_reducible rfl)))); done)))
        exact ⟨m - (i + 1), _, by omega, Norm.headS (own := [(10, 3, 1, false), (11, 4, 1, true)]) (keep := [0, 1, 2, 3, 8, 10, 11, 12]) (by simp (discharger := omega) only [go_sem, ↓reduceIte, reduceIte, Nat.reduceEqDiff, Nat.reduceLT, Nat.reduceLeDiff, Nat.reduceAdd, Nat.reduceSub, Nat.reduceMul, Nat.reduceDiv, Nat.reduceMod, Nat.reduceBEq, Int.reduceEq, Int.reduceLT, Int.reduceLE, Int.reduceNeg, Int.reduceToNat, reduceCtorEq]; with_reducible rfl) (by simp only [go_sem, ↓reduceIte, reduceIte, Nat.reduceEqDiff, Nat.reduceLT, Nat.reduceLeDiff, Nat.reduceAdd, Nat.reduceSub, Nat.reduceMul, Nat.reduceDiv, Nat.reduceMod, Nat.reduceBEq, Int.reduceEq, Int.reduceLT, Int.reduceLE, Int.reduceNeg, Int.reduceToNat, reduceCtorEq]; with_reducible rfl) (by simp only [go_sem, ↓reduceIte, reduceIte, Nat.reduceEqDiff, Nat.reduceLT, Nat.reduceLeDiff, Nat.reduceAdd, Nat.reduceSub, Nat.reduceMul, Nat.reduceDiv, Nat.reduceMod, Nat.reduceBEq, Int.reduceEq, Int.reduceLT, Int.reduceLE, Int.reduceNeg, Int.reduceToNat, reduceCtorEq]; with_reducible rfl) (by simp only [go_sem, ↓reduceIte, reduceIte, Nat.reduceEqDiff, Nat.reduceLT, Nat.reduceLeDiff, Nat.reduceAdd, Nat.reduceSub, Nat.reduceMul, Nat.reduceDiv, Nat.reduceMod, Nat.reduceBEq, Int.reduceEq, Int.reduceLT, Int.reduceLE, Int.reduceNeg, Int.reduceToNat, reduceCtorEq]; with_reducible rfl) (by simp only [go_sem, ↓reduceIte, reduceIte, Nat.reduceEqDiff, Nat.reduceLT, Nat.reduceLeDiff, Nat.reduceAdd, Nat.reduceSub, Nat.reduceMul, Nat.reduceDiv, Nat.reduceMod, Nat.reduceBEq, Int.reduceEq, Int.reduceLT, Int.reduceLE, Int.reduceNeg, Int.reduceToNat, reduceCtorEq]; with_reducible rfl), i + 1, o, _, _, rfl, rfl, rfl, rfl, by omega, hmo, hbf.line⟩
    · have hie : i = out.length := by omega
      subst hie
      clear hi hlt
      repeat' (first | (with_reducible first | refine SW_seq ?_ | refine SW_block ?_ | refine SThen_n ?_ | refine SThen_r ?_ | refine SThen_e ?_ | refine SIn_n ?_ | refine SIn_r ?_ | refine SIn_eq ?_ | refine SW_skip ?_ | refine SW_exit ?_ | refine SW_ret ?_ | refine SPost_r ?_) | ((with_reducible refine SIn_ne ?_ ?_); focus decide) | ((with_reducible refine SW_true ?_ ?_); focus exact rfl) | ((with_reducible refine SW_false ?_ ?_); focus exact rfl) | ((first | (with_reducible apply SW_run tt_ok hG htb) | ((with_reducible apply SW_draw rfl tt_ok hG htb); (focus kernel_rfl); (focus (simp only [List.range, List.range.loop, List.size_toArray, List.length_cons, List.length_nil, Nat.reduceAdd])))); focus ((repeat' (first | (with_reducible exact runX_nil) | (with_reducible exact runI_nil) | ((first | (with_reducible apply runX_cons) | (with_reducible apply runI_cons)); focus (simp (discharger := omega) only [go_sem, ↓reduceIte, reduceIte, Nat.reduceEqDiff, Nat.reduceLT, Nat.reduceLeDiff, Nat.reduceAdd, Nat.reduceSub, Nat.reduceMul, Nat.reduceDiv, Nat.reduceMod, Nat.reduceBEq, Int.reduceEq, Int.reduceLT, Int.reduceLE, Int.reduceNeg, Int.reduceToNat, reduceCtorEq]; with_reducible rfl)))); done)))
      refine SW_loop (fun k s => ∃ (i : Nat) (cls : List Nat) (ct : List T), k = m - i ∧ s = ⟨220, [(0, .t (tInt base)), (1, .t (tInt tracks)), (2, .t (tIntss next)), (3, .t (tBools ends)), (8, .bptr 0 0), (10, .sref 1), (15, .sref 2), (74, .sref 1), (75, .t (tInt out.length)), (76, .t (tInt i))], [.box [.t (tInt 0), .t (tInt 0), .nil, .nil], .row 3 1 false (out.map tInt), .row 3 1 true ct]⟩ ∧
          ct = cls.map tNat ∧ cls.length = m ∧ i ≤ out.length ∧ ∀ s : Int, 0 ≤ s → s < m → clf cls s = if s ∈ out.take i ∧ endOf ends s = true then 1 else 0) m ⟨_, Norm.headS (own := [(10, 3, 1, false), (15, 3, 1, true)]) (keep := [0, 1, 2, 3, 8, 10, 15, 74, 75, 76]) (by simp (discharger := omega) only [go_sem, ↓reduceIte, reduceIte, Nat.reduceEqDiff, Nat.reduceLT, Nat.reduceLeDiff, Nat.reduceAdd, Nat.reduceSub, Nat.reduceMul, Nat.reduceDiv, Nat.reduceMod, Nat.reduceBEq, Int.reduceEq, Int.reduceLT, Int.reduceLE, Int.reduceNeg, Int.reduceToNat, reduceCtorEq]; with_reducible rfl) (by simp only [go_sem, ↓reduceIte, reduceIte, Nat.reduceEqDiff, Nat.reduceLT, Nat.reduceLeDiff, Nat.reduceAdd, Nat.reduceSub, Nat.reduceMul, Nat.reduceDiv, Nat.reduceMod, Nat.reduceBEq, Int.reduceEq, Int.reduceLT, Int.reduceLE, Int.reduceNeg, Int.reduceToNat, reduceCtorEq]; with_reducible rfl) (by simp only [go_sem, ↓reduceIte, reduceIte, Nat.reduceEqDiff, Nat.reduceLT, Nat.reduceLeDiff, Nat.reduceAdd, Nat.reduceSub, Nat.reduceMul, Nat.reduceDiv, Nat.reduceMod, Nat.reduceBEq, Int.reduceEq, Int.reduceLT, Int.reduceLE, Int.reduceNeg, Int.reduceToNat, reduceCtorEq]; with_reducible rfl) (by simp only [go_sem, ↓reduceIte, reduceIte, Nat.reduceEqDiff, Nat.reduceLT, Nat.reduceLeDiff, Nat.reduceAdd, Nat.reduceSub, Nat.reduceMul, Nat.reduceDiv, Nat.reduceMod, Nat.reduceBEq, Int.reduceEq, Int.reduceLT, Int.reduceLE, Int.reduceNeg, Int.reduceToNat, reduceCtorEq]; with_reducible rfl) (by simp only [go_sem, ↓reduceIte, reduceIte, Nat.reduceEqDiff, Nat.reduceLT, Nat.reduceLeDiff, Nat.reduceAdd, Nat.reduceSub, Nat.reduceMul, Nat.reduceDiv, Nat.reduceMod, Nat.reduceBEq, Int.reduceEq, Int.reduceLT, Int.reduceLE, Int.reduceNeg, Int.reduceToNat, reduceCtorEq]; with_reducible rfl), 0, List.replicate m 0, _, rfl, rfl, by rw [List.map_replicate, hlen]; rfl, by simp, Nat.zero_le _, fun s h1 h2 => by
            unfold clf
            rw [if_pos h1, getD_lt (by simp; omega)]; simp⟩ ?_
      rintro k s ⟨i, cls, ct, rfl, rfl, rfl, hcl, hi, hcs⟩
      by_cases hlt : i < out.length
      · obtain ⟨r, hor⟩ : ∃ r, out[i]! = r := ⟨_, rfl⟩
        have hio : out[i]? = some r := by rw [← hor, getElem!_pos out i hlt]; exact List.getElem?_eq_getElem hlt
        have hs : 0 ≤ r ∧ r < (m : Int) := hmo.ok _ (List.mem_of_getElem? hio)
        have htk : out.take (i + 1) = out.take i ++ [r] := by
          rw [List.take_succ_eq_append_getElem hlt]
          rw [List.getElem?_eq_getElem hlt] at hio
          rw [Option.some.inj hio]
        have hend : ends[r.toNat]! = endOf ends r := by unfold endOf; rw [getD_lt (by omega), getElem!_pos ends _ (by omega)]
        by_cases hee : endOf ends r = true
        · rw [hee] at hend
          repeat' (first | (with_reducible first | refine SW_seq ?_ | refine SW_block ?_ | refine SThen_n ?_ | refine SThen_r ?_ | refine SThen_e ?_ | refine SIn_n ?_ | refine SIn_r ?_ | refine SIn_eq ?_ | refine SW_skip ?_ | refine SW_exit ?_ | refine SW_ret ?_ | refine SPost_r ?_) | ((with_reducible refine SIn_ne ?_ ?_); focus decide) | ((with_reducible refine SW_true ?_ ?_); focus exact rfl) | ((with_reducible refine SW_false ?_ ?_); focus exact rfl) | ((first | (with_reducible apply SW_run tt_ok hG htb) | ((with_reducible apply SW_draw rfl tt_ok hG htb); (focus kernel_rfl); (focus (simp only [List.range, List.range.loop, List.size_toArray, List.length_cons, List.length_nil, Nat.reduceAdd])))); focus ((repeat' (first | (with_reducible exact runX_nil) | (with_reducible exact runI_nil) | ((first | (with_reducible apply runX_cons) | (with_reducible apply runI_cons)); focus (simp (discharger := omega) only [go_sem, hor, hend, ↓reduceIte, reduceIte, Nat.reduceEqDiff, Nat.reduceLT, Nat.reduceLeDiff, Nat.reduceAdd, Nat.reduceSub, Nat.reduceMul, Nat.reduceDiv, Nat.reduceMod, Nat.reduceBEq, Int.reduceEq, Int.reduceLT, Int.reduceLE, Int.reduceNeg, Int.reduceToNat, reduceCtorEq]; with_reducible rfl)))); done)))
          obtain ⟨c1, c2⟩ := clf_set (cls := cls) (r := r) hs.1 (by omega) 1
          exact ⟨m - (i + 1), _, by omega, Norm.headS (own := [(10, 3, 1, false), (15, 3, 1, true)]) (keep := [0, 1, 2, 3, 8, 10, 15, 74, 75, 76]) (by simp (discharger := omega) only [go_sem, ↓reduceIte, reduceIte, Nat.reduceEqDiff, Nat.reduceLT, Nat.reduceLeDiff, Nat.reduceAdd, Nat.reduceSub, Nat.reduceMul, Nat.reduceDiv, Nat.reduceMod, Nat.reduceBEq, Int.reduceEq, Int.reduceLT, Int.reduceLE, Int.reduceNeg, Int.reduceToNat, reduceCtorEq]; with_reducible rfl) (by simp only [go_sem, ↓reduceIte, reduceIte, Nat.reduceEqDiff, Nat.reduceLT, Nat.reduceLeDiff, Nat.reduceAdd, Nat.reduceSub, Nat.reduceMul, Nat.reduceDiv, Nat.reduceMod, Nat.reduceBEq, Int.reduceEq, Int.reduceLT, Int.reduceLE, Int.reduceNeg, Int.reduceToNat, reduceCtorEq]; with_reducible rfl) (by simp only [go_sem, ↓reduceIte, reduceIte, Nat.reduceEqDiff, Nat.reduceLT, Nat.reduceLeDiff, Nat.reduceAdd, Nat.reduceSub, Nat.reduceMul, Nat.reduceDiv, Nat.reduceMod, Nat.reduceBEq, Int.reduceEq, Int.reduceLT, Int.reduceLE, Int.reduceNeg, Int.reduceToNat, reduceCtorEq]; with_reducible rfl) (by simp only [go_sem, ↓reduceIte, reduceIte, Nat.reduceEqDiff, Nat.reduceLT, Nat.reduceLeDiff, Nat.reduceAdd, Nat.reduceSub, Nat.reduceMul, Nat.reduceDiv, Nat.reduceMod, Nat.reduceBEq, Int.reduceEq, Int.reduceLT, Int.reduceLE, Int.reduceNeg, Int.reduceToNat, reduceCtorEq]; with_reducible rfl) (by simp only [go_sem, ↓reduceIte, reduceIte, Nat.reduceEqDiff, Nat.reduceLT, Nat.reduceLeDiff, Nat.reduceAdd, Nat.reduceSub, Nat.reduceMul, Nat.reduceDiv, Nat.reduceMod, Nat.reduceBEq, Int.reduceEq, Int.reduceLT, Int.reduceLE, Int.reduceNeg, Int.reduceToNat, reduceCtorEq]; with_reducible rfl), i + 1, cls.set r.toNat 1, _, rfl, rfl, by rw [List.map_set]; rfl, by simpa using hcl, by omega, fun s h1 h2 => by
            rw [htk]
            by_cases e : s = r
            · subst e; rw [c1]; simp [hee]
            · rw [c2 s e, hcs s h1 h2]; simp [e]⟩
        · have hee : endOf ends r = false := by simpa using hee
          rw [hee] at hend
          repeat' (first | (with_reducible first | refine SW_seq ?_ | refine SW_block ?_ | refine SThen_n ?_ | refine SThen_r ?_ | refine SThen_e ?_ | refine SIn_n ?_ | refine SIn_r ?_ | refine SIn_eq ?_ | refine SW_skip ?_ | refine SW_exit ?_ | refine SW_ret ?_ | refine SPost_r ?_) | ((with_reducible refine SIn_ne ?_ ?_); focus decide) | ((with_reducible refine SW_true ?_ ?_); focus exact rfl) | ((with_reducible refine SW_false ?_ ?_); focus exact rfl) | ((first | (with_reducible apply SW_run tt_ok hG htb) | ((with_reducible apply SW_draw rfl tt_ok hG htb); (focus kernel_rfl); (focus (simp only [List.range, List.range.loop, List.size_toArray, List.length_cons, List.length_nil, Nat.reduceAdd])))); focus ((repeat' (first | (with_reducible exact runX_nil) | (with_reducible exact runI_nil) | ((first | (with_reducible apply runX_cons) | (with_reducible apply runI_cons)); focus (simp (discharger := omega) only [go_sem, hor, hend, ↓reduceIte, reduceIte, Nat.reduceEqDiff, Nat.reduceLT, Nat.reduceLeDiff, Nat.reduceAdd, Nat.reduceSub, Nat.reduceMul, Nat.reduceDiv, Nat.reduceMod, Nat.reduceBEq, Int.reduceEq, Int.reduceLT, Int.reduceLE, Int.reduceNeg, Int.reduceToNat, reduceCtorEq]; with_reducible rfl)))); done)))
          exact ⟨m - (i + 1), _, by omega, Norm.headS (own := [(10, 3, 1, false), (15, 3, 1, true)]) (keep := [0, 1, 2, 3, 8, 10, 15, 74, 75, 76]) (by simp (discharger := omega) only [go_sem, ↓reduceIte, reduceIte, Nat.reduceEqDiff, Nat.reduceLT, Nat.reduceLeDiff, Nat.reduceAdd, Nat.reduceSub, Nat.reduceMul, Nat.reduceDiv, Nat.reduceMod, Nat.reduceBEq, Int.reduceEq, Int.reduceLT, Int.reduceLE, Int.reduceNeg, Int.reduceToNat, reduceCtorEq]; with_reducible rfl) (by simp only [go_sem, ↓reduceIte, reduceIte, Nat.reduceEqDiff, Nat.reduceLT, Nat.reduceLeDiff, Nat.reduceAdd, Nat.reduceSub, Nat.reduceMul, Nat.reduceDiv, Nat.reduceMod, Nat.reduceBEq, Int.reduceEq, Int.reduceLT, Int.reduceLE, Int.reduceNeg, Int.reduceToNat, reduceCtorEq]; with_reducible rfl) (by simp only [go_sem, ↓reduceIte, reduceIte, Nat.reduceEqDiff, Nat.reduceLT, Nat.reduceLeDiff, Nat.reduceAdd, Nat.reduceSub, Nat.reduceMul, Nat.reduceDiv, Nat.reduceMod, Nat.reduceBEq, Int.reduceEq, Int.reduceLT, Int.reduceLE, Int.reduceNeg, Int.reduceToNat, reduceCtorEq]; with_reducible rfl) (by simp only [go_sem, ↓reduceIte, reduceIte, Nat.reduceEqDiff, Nat.reduceLT, Nat.reduceLeDiff, Nat.reduceAdd, Nat.reduceSub, Nat.reduceMul, Nat.reduceDiv, Nat.reduceMod, Nat.reduceBEq, Int.reduceEq, Int.reduceLT, Int.reduceLE, Int.reduceNeg, Int.reduceToNat, reduceCtorEq]; with_reducible rfl) (by simp only [go_sem, ↓reduceIte, reduceIte, Nat.reduceEqDiff, Nat.reduceLT, Nat.reduceLeDiff, Nat.reduceAdd, Nat.reduceSub, Nat.reduceMul, Nat.reduceDiv, Nat.reduceMod, Nat.reduceBEq, Int.reduceEq, Int.reduceLT, Int.reduceLE, Int.reduceNeg, Int.reduceToNat, reduceCtorEq]; with_reducible rfl), i + 1, cls, _, rfl, rfl, rfl, hcl, by omega, fun s h1 h2 => by
            rw [htk, hcs s h1 h2]
            by_cases e : s = r
            · subst e; simp [hee]
            · simp [e]⟩
      · have hie : i = out.length := by omega
        subst hie
        rw [List.take_length] at hcs
        clear hi hlt
        repeat' (first | (with_reducible first | refine SW_seq ?_ | refine SW_block ?_ | refine SThen_n ?_ | refine SThen_r ?_ | refine SThen_e ?_ | refine SIn_n ?_ | refine SIn_r ?_ | refine SIn_eq ?_ | refine SW_skip ?_ | refine SW_exit ?_ | refine SW_ret ?_ | refine SPost_r ?_) | ((with_reducible refine SIn_ne ?_ ?_); focus decide) | ((with_reducible refine SW_true ?_ ?_); focus exact rfl) | ((with_reducible refine SW_false ?_ ?_); focus exact rfl) | ((first | (with_reducible apply SW_run tt_ok hG htb) | ((with_reducible apply SW_draw rfl tt_ok hG htb); (focus kernel_rfl); (focus (simp only [List.range, List.range.loop, List.size_toArray, List.length_cons, List.length_nil, Nat.reduceAdd])))); focus ((repeat' (first | (with_reducible exact runX_nil) | (with_reducible exact runI_nil) | ((first | (with_reducible apply runX_cons) | (with_reducible apply runI_cons)); focus (simp (discharger := omega) only [go_sem, ↓reduceIte, reduceIte, Nat.reduceEqDiff, Nat.reduceLT, Nat.reduceLeDiff, Nat.reduceAdd, Nat.reduceSub, Nat.reduceMul, Nat.reduceDiv, Nat.reduceMod, Nat.reduceBEq, Int.reduceEq, Int.reduceLT, Int.reduceLE, Int.reduceNeg, Int.reduceToNat, reduceCtorEq]; with_reducible rfl)))); done)))
        refine SW_loop (fun k s => ∃ (many : Nat) (cls : List Nat), k = m + 1 - many ∧ s = ⟨220, [(0, .t (tInt base)), (1, .t (tInt tracks)), (2, .t (tIntss next)), (3, .t (tBools ends)), (8, .bptr 0 0), (10, .sref 1), (15, .sref 2), (18, .t (tNat many))], [.box [.t (tInt 0), .t (tInt 0), .nil, .nil], .row 3 1 false (out.map tInt), .row 3 1 false (cls.map tNat)]⟩ ∧
            cls.length = m ∧ many ≤ m ∧ RInv next ends n out (clf cls) many ∧ (∀ s, s ∈ out → clf cls s < 65536) ∧ ∀ s t, s ∈ out → t ∈ out → clf cls s = clf cls t → endOf ends s = endOf ends t) (m + 1) ⟨_, Norm.headS (own := [(10, 3, 1, false), (15, 3, 1, false)]) (keep := [0, 1, 2, 3, 8, 10, 15, 18]) (by simp (discharger := omega) only [go_sem, ↓reduceIte, reduceIte, Nat.reduceEqDiff, Nat.reduceLT, Nat.reduceLeDiff, Nat.reduceAdd, Nat.reduceSub, Nat.reduceMul, Nat.reduceDiv, Nat.reduceMod, Nat.reduceBEq, Int.reduceEq, Int.reduceLT, Int.reduceLE, Int.reduceNeg, Int.reduceToNat, reduceCtorEq]; with_reducible rfl) (by simp only [go_sem, ↓reduceIte, reduceIte, Nat.reduceEqDiff, Nat.reduceLT, Nat.reduceLeDiff, Nat.reduceAdd, Nat.reduceSub, Nat.reduceMul, Nat.reduceDiv, Nat.reduceMod, Nat.reduceBEq, Int.reduceEq, Int.reduceLT, Int.reduceLE, Int.reduceNeg, Int.reduceToNat, reduceCtorEq]; with_reducible rfl) (by simp only [go_sem, ↓reduceIte, reduceIte, Nat.reduceEqDiff, Nat.reduceLT, Nat.reduceLeDiff, Nat.reduceAdd, Nat.reduceSub, Nat.reduceMul, Nat.reduceDiv, Nat.reduceMod, Nat.reduceBEq, Int.reduceEq, Int.reduceLT, Int.reduceLE, Int.reduceNeg, Int.reduceToNat, reduceCtorEq]; with_reducible rfl) (by simp only [go_sem, ↓reduceIte, reduceIte, Nat.reduceEqDiff, Nat.reduceLT, Nat.reduceLeDiff, Nat.reduceAdd, Nat.reduceSub, Nat.reduceMul, Nat.reduceDiv, Nat.reduceMod, Nat.reduceBEq, Int.reduceEq, Int.reduceLT, Int.reduceLE, Int.reduceNeg, Int.reduceToNat, reduceCtorEq]; with_reducible rfl) (by simp only [go_sem, ↓reduceIte, reduceIte, Nat.reduceEqDiff, Nat.reduceLT, Nat.reduceLeDiff, Nat.reduceAdd, Nat.reduceSub, Nat.reduceMul, Nat.reduceDiv, Nat.reduceMod, Nat.reduceBEq, Int.reduceEq, Int.reduceLT, Int.reduceLE, Int.reduceNeg, Int.reduceToNat, reduceCtorEq]; with_reducible rfl), 0, cls, rfl, rfl, hcl, Nat.zero_le _, ?_, ?_, ?_⟩ ?_
        · refine RInv.start fun s t hs ht e => ?_
          have h1 := hmo.ok s hs
          have h2 := hmo.ok t ht
          rw [hcs s h1.1 h1.2, hcs t h2.1 h2.2, e]; simp [hs, ht]
        · intro s hs
          have h1 := hmo.ok s hs
          rw [hcs s h1.1 h1.2]; split <;> omega
        · intro s t hs ht e
          have h1 := hmo.ok s hs
          have h2 := hmo.ok t ht
          rw [hcs s h1.1 h1.2, hcs t h2.1 h2.2] at e
          simp only [hs, ht, true_and] at e
          cases e1 : endOf ends s <;> cases e2 : endOf ends t <;> simp_all
        clear hcs hcl cls
        rintro k s ⟨many, cls, rfl, rfl, hcl, hmany, hinv, h16, hce⟩
        have hlook := key_looks (ends := ends) hR hmo hbf h16 hce
        repeat' (first | (with_reducible first | refine SW_seq ?_ | refine SW_block ?_ | refine SThen_n ?_ | refine SThen_r ?_ | refine SThen_e ?_ | refine SIn_n ?_ | refine SIn_r ?_ | refine SIn_eq ?_ | refine SW_skip ?_ | refine SW_exit ?_ | refine SW_ret ?_ | refine SPost_r ?_) | ((with_reducible refine SIn_ne ?_ ?_); focus decide) | ((with_reducible refine SW_true ?_ ?_); focus exact rfl) | ((with_reducible refine SW_false ?_ ?_); focus exact rfl) | ((first | (with_reducible apply SW_run tt_ok hG htb) | ((with_reducible apply SW_draw rfl tt_ok hG htb); (focus kernel_rfl); (focus (simp only [List.range, List.range.loop, List.size_toArray, List.length_cons, List.length_nil, Nat.reduceAdd])))); focus ((repeat' (first | (with_reducible exact runX_nil) | (with_reducible exact runI_nil) | ((first | (with_reducible apply runX_cons) | (with_reducible apply runI_cons)); focus (simp (discharger := omega) only [go_sem, ↓reduceIte, reduceIte, Nat.reduceEqDiff, Nat.reduceLT, Nat.reduceLeDiff, Nat.reduceAdd, Nat.reduceSub, Nat.reduceMul, Nat.reduceDiv, Nat.reduceMod, Nat.reduceBEq, Int.reduceEq, Int.reduceLT, Int.reduceLE, Int.reduceNeg, Int.reduceToNat, reduceCtorEq]; with_reducible rfl)))); done)))
        refine SW_loop (fun k s => ∃ (i : Nat) (frs : List Nat) (R : List Int) (es : List (T × T)) (ft kt : List T), k = m - i ∧ s = ⟨220, [(0, .t (tInt base)), (1, .t (tInt tracks)), (2, .t (tIntss next)), (3, .t (tBools ends)), (8, .bptr 0 0), (10, .sref 1), (15, .sref 2), (18, .t (tNat many)), (19, .map 3), (20, .sref 4), (21, .sref 5), (92, .sref 1), (93, .t (tInt out.length)), (94, .t (tInt i))], [.box [.t (tInt 0), .t (tInt 0), .nil, .nil], .row 3 1 false (out.map tInt), .row 3 1 false (cls.map tNat), .map .str es, .row 3 1 true ft, .row 5 1 true kt]⟩ ∧
            es = entries (fun s => bytesStr (keyOf' next (clf cls) s)) R ∧ ft = frs.map tNat ∧ frs.length = m ∧ i ≤ out.length ∧ Numd (out.take i) (fun s => bytesStr (keyOf' next (clf cls) s)) (clf frs) R) m ⟨_, Norm.headS (own := [(10, 3, 1, false), (15, 3, 1, false), (20, 3, 1, true), (21, 5, 1, true)]) (keep := [0, 1, 2, 3, 8, 10, 15, 18, 19, 20, 21, 92, 93, 94]) (by simp (discharger := omega) only [go_sem, ↓reduceIte, reduceIte, Nat.reduceEqDiff, Nat.reduceLT, Nat.reduceLeDiff, Nat.reduceAdd, Nat.reduceSub, Nat.reduceMul, Nat.reduceDiv, Nat.reduceMod, Nat.reduceBEq, Int.reduceEq, Int.reduceLT, Int.reduceLE, Int.reduceNeg, Int.reduceToNat, reduceCtorEq]; with_reducible rfl) (by simp only [go_sem, ↓reduceIte, reduceIte, Nat.reduceEqDiff, Nat.reduceLT, Nat.reduceLeDiff, Nat.reduceAdd, Nat.reduceSub, Nat.reduceMul, Nat.reduceDiv, Nat.reduceMod, Nat.reduceBEq, Int.reduceEq, Int.reduceLT, Int.reduceLE, Int.reduceNeg, Int.reduceToNat, reduceCtorEq]; with_reducible rfl) (by simp only [go_sem, ↓reduceIte, reduceIte, Nat.reduceEqDiff, Nat.reduceLT, Nat.reduceLeDiff, Nat.reduceAdd, Nat.reduceSub, Nat.reduceMul, Nat.reduceDiv, Nat.reduceMod, Nat.reduceBEq, Int.reduceEq, Int.reduceLT, Int.reduceLE, Int.reduceNeg, Int.reduceToNat, reduceCtorEq]; with_reducible rfl) (by simp only [go_sem, ↓reduceIte, reduceIte, Nat.reduceEqDiff, Nat.reduceLT, Nat.reduceLeDiff, Nat.reduceAdd, Nat.reduceSub, Nat.reduceMul, Nat.reduceDiv, Nat.reduceMod, Nat.reduceBEq, Int.reduceEq, Int.reduceLT, Int.reduceLE, Int.reduceNeg, Int.reduceToNat, reduceCtorEq]; with_reducible rfl) (by simp only [go_sem, ↓reduceIte, reduceIte, Nat.reduceEqDiff, Nat.reduceLT, Nat.reduceLeDiff, Nat.reduceAdd, Nat.reduceSub, Nat.reduceMul, Nat.reduceDiv, Nat.reduceMod, Nat.reduceBEq, Int.reduceEq, Int.reduceLT, Int.reduceLE, Int.reduceNeg, Int.reduceToNat, reduceCtorEq]; with_reducible rfl), 0, List.replicate m 0, [], _, _, _, rfl, rfl, rfl, by rw [List.map_replicate, hlen]; rfl, by simp, Nat.zero_le _, by rw [List.take_zero]; exact Numd.start _ _⟩ ?_
        rintro k s ⟨i, frs, R, es, ft, kt, rfl, rfl, hes, rfl, hfl, hi, hN⟩
        by_cases hlt : i < out.length
        · obtain ⟨r, hor⟩ : ∃ r, out[i]! = r := ⟨_, rfl⟩
          have hio : out[i]? = some r := by rw [← hor, getElem!_pos out i hlt]; exact List.getElem?_eq_getElem hlt
          have hrm : r ∈ out := List.mem_of_getElem? hio
          have hs : 0 ≤ r ∧ r < (m : Int) := hmo.ok _ hrm
          have hnr : r ∉ out.take i := fun hm => by
            obtain ⟨q, hq, e⟩ := List.mem_iff_getElem.1 hm
            simp only [List.getElem_take] at e
            rw [List.getElem?_eq_getElem hlt] at hio
            have := nodup_inj hmo.nd (by simp at hq; omega) hlt (e.trans (Option.some.inj hio).symm)
            simp at hq; omega
          have htk : out.take (i + 1) = out.take i ++ [r] := by
            rw [List.take_succ_eq_append_getElem hlt]
            rw [List.getElem?_eq_getElem hlt] at hio
            rw [Option.some.inj hio]
          obtain ⟨row, hrow⟩ : ∃ row, next[r.toNat]! = row := ⟨_, rfl⟩
          have hrl : r.toNat < next.length := by omega
          have hrow2 : rowOf next r = row := by unfold rowOf; rw [getD_lt hrl, ← hrow, getElem!_pos next _ hrl]
          have hrmem : row ∈ next := by rw [← hrow, getElem!_pos next _ hrl]; exact List.getElem_mem hrl
          have hrn : row.length = n := hR.row _ hrmem
          obtain ⟨c, hc⟩ : ∃ c, cls[r.toNat]! = c := ⟨_, rfl⟩
          have hc2 : clf cls r = c := by rw [← clf_at hs.1 (by omega), hc]
          have hc16 : c < 65536 := by rw [← hc2]; exact h16 r hrm
          have hhi := u8hi hc16
          have hh2 : IntKind.u8.wrap ((c : Int).fdiv 256) = (c : Int) / 256 := by simpa [IntKind.bits] using hhi
          repeat' (first | (with_reducible first | refine SW_seq ?_ | refine SW_block ?_ | refine SThen_n ?_ | refine SThen_r ?_ | refine SThen_e ?_ | refine SIn_n ?_ | refine SIn_r ?_ | refine SIn_eq ?_ | refine SW_skip ?_ | refine SW_exit ?_ | refine SW_ret ?_ | refine SPost_r ?_) | ((with_reducible refine SIn_ne ?_ ?_); focus decide) | ((with_reducible refine SW_true ?_ ?_); focus exact rfl) | ((with_reducible refine SW_false ?_ ?_); focus exact rfl) | ((first | (with_reducible apply SW_run tt_ok hG htb) | ((with_reducible apply SW_draw rfl tt_ok hG htb); (focus kernel_rfl); (focus (simp only [List.range, List.range.loop, List.size_toArray, List.length_cons, List.length_nil, Nat.reduceAdd])))); focus ((repeat' (first | (with_reducible exact runX_nil) | (with_reducible exact runI_nil) | ((first | (with_reducible apply runX_cons) | (with_reducible apply runI_cons)); focus (simp (discharger := omega) only [go_sem, hor, hrow, hc, u8lo, hhi, ↓reduceIte, reduceIte, Nat.reduceEqDiff, Nat.reduceLT, Nat.reduceLeDiff, Nat.reduceAdd, Nat.reduceSub, Nat.reduceMul, Nat.reduceDiv, Nat.reduceMod, Nat.reduceBEq, Int.reduceEq, Int.reduceLT, Int.reduceLE, Int.reduceNeg, Int.reduceToNat, reduceCtorEq]; with_reducible rfl)))); done)))
          refine SW_loop (fun k s => ∃ (l : Nat) (kt : List T), k = n - l ∧ s = ⟨220, [(0, .t (tInt base)), (1, .t (tInt tracks)), (2, .t (tIntss next)), (3, .t (tBools ends)), (8, .bptr 0 0), (10, .sref 1), (15, .sref 2), (18, .t (tNat many)), (19, .map 3), (20, .sref 4), (21, .sref 5), (23, .t (tInt r)), (92, .sref 1), (93, .t (tInt out.length)), (94, .t (tInt i)), (116, .t (tInts row)), (117, .t (tInt row.length)), (118, .t (tInt l))], [.box [.t (tInt 0), .t (tInt 0), .nil, .nil], .row 3 1 false (out.map tInt), .row 3 1 false (cls.map tNat), .map .str es, .row 3 1 true (frs.map tNat), .row 5 1 true kt]⟩ ∧
              l ≤ n ∧ kt = (byt c ++ (row.take l).flatMap fun t => byt (clf cls t)).map tByte) n ⟨_, Norm.headS (own := [(10, 3, 1, false), (15, 3, 1, false), (20, 3, 1, true), (21, 5, 1, true)]) (keep := [0, 1, 2, 3, 8, 10, 15, 18, 19, 20, 21, 23, 92, 93, 94, 116, 117, 118]) (by simp (discharger := omega) only [go_sem, ↓reduceIte, reduceIte, Nat.reduceEqDiff, Nat.reduceLT, Nat.reduceLeDiff, Nat.reduceAdd, Nat.reduceSub, Nat.reduceMul, Nat.reduceDiv, Nat.reduceMod, Nat.reduceBEq, Int.reduceEq, Int.reduceLT, Int.reduceLE, Int.reduceNeg, Int.reduceToNat, reduceCtorEq]; with_reducible rfl) (by simp only [go_sem, ↓reduceIte, reduceIte, Nat.reduceEqDiff, Nat.reduceLT, Nat.reduceLeDiff, Nat.reduceAdd, Nat.reduceSub, Nat.reduceMul, Nat.reduceDiv, Nat.reduceMod, Nat.reduceBEq, Int.reduceEq, Int.reduceLT, Int.reduceLE, Int.reduceNeg, Int.reduceToNat, reduceCtorEq]; with_reducible rfl) (by simp only [go_sem, ↓reduceIte, reduceIte, Nat.reduceEqDiff, Nat.reduceLT, Nat.reduceLeDiff, Nat.reduceAdd, Nat.reduceSub, Nat.reduceMul, Nat.reduceDiv, Nat.reduceMod, Nat.reduceBEq, Int.reduceEq, Int.reduceLT, Int.reduceLE, Int.reduceNeg, Int.reduceToNat, reduceCtorEq]; with_reducible rfl) (by simp only [go_sem, ↓reduceIte, reduceIte, Nat.reduceEqDiff, Nat.reduceLT, Nat.reduceLeDiff, Nat.reduceAdd, Nat.reduceSub, Nat.reduceMul, Nat.reduceDiv, Nat.reduceMod, Nat.reduceBEq, Int.reduceEq, Int.reduceLT, Int.reduceLE, Int.reduceNeg, Int.reduceToNat, reduceCtorEq]; with_reducible rfl) (by simp only [go_sem, ↓reduceIte, reduceIte, Nat.reduceEqDiff, Nat.reduceLT, Nat.reduceLeDiff, Nat.reduceAdd, Nat.reduceSub, Nat.reduceMul, Nat.reduceDiv, Nat.reduceMod, Nat.reduceBEq, Int.reduceEq, Int.reduceLT, Int.reduceLE, Int.reduceNeg, Int.reduceToNat, reduceCtorEq]; with_reducible rfl), 0, _, rfl, rfl, Nat.zero_le _, by simp [byt, tByte, hh2]⟩ ?_
          rintro k s ⟨l, kt, rfl, rfl, hl, rfl⟩
          by_cases hlt2 : l < n
          · obtain ⟨u, hul⟩ : ∃ u, row[l]! = u := ⟨_, rfl⟩
            have hul2 : row[l]? = some u := by rw [← hul, getElem!_pos row l (by omega)]; exact List.getElem?_eq_getElem (by omega)
            have hnx : nx next r l = u := by unfold nx; rw [hrow2, List.getD_eq_getElem?_getD, hul2]; rfl
            have hum : u ∈ out := by rw [← hnx]; exact hbf.closed r hrm l hlt2
            have hu : 0 ≤ u ∧ u < (m : Int) := hmo.ok _ hum
            obtain ⟨d, hd⟩ : ∃ d, cls[u.toNat]! = d := ⟨_, rfl⟩
            have hd2 : clf cls u = d := by rw [← clf_at hu.1 (by omega), hd]
            have hd16 : d < 65536 := by rw [← hd2]; exact h16 u hum
            have hdhi := u8hi hd16
            have hd2' : IntKind.u8.wrap ((d : Int).fdiv 256) = (d : Int) / 256 := by simpa [IntKind.bits] using hdhi
            have hll : l < row.length := by omega
            have hkl : ((byt c ++ (row.take l).flatMap fun t => byt (clf cls t)).length : Nat) ≤ 2002 := by
              rw [List.length_append, byt_len, List.length_take]
              simp [byt]; omega
            have htk2 : row.take (l + 1) = row.take l ++ [u] := by
              rw [List.take_succ_eq_append_getElem hll]
              rw [List.getElem?_eq_getElem hll] at hul2
              rw [Option.some.inj hul2]
            generalize hkx : (byt c ++ (row.take l).flatMap fun t => byt (clf cls t)) = kx at hkl ⊢
            repeat' (first | (with_reducible first | refine SW_seq ?_ | refine SW_block ?_ | refine SThen_n ?_ | refine SThen_r ?_ | refine SThen_e ?_ | refine SIn_n ?_ | refine SIn_r ?_ | refine SIn_eq ?_ | refine SW_skip ?_ | refine SW_exit ?_ | refine SW_ret ?_ | refine SPost_r ?_) | ((with_reducible refine SIn_ne ?_ ?_); focus decide) | ((with_reducible refine SW_true ?_ ?_); focus exact rfl) | ((with_reducible refine SW_false ?_ ?_); focus exact rfl) | ((first | (with_reducible apply SW_run tt_ok hG htb) | ((with_reducible apply SW_draw rfl tt_ok hG htb); (focus kernel_rfl); (focus (simp only [List.range, List.range.loop, List.size_toArray, List.length_cons, List.length_nil, Nat.reduceAdd])))); focus ((repeat' (first | (with_reducible exact runX_nil) | (with_reducible exact runI_nil) | ((first | (with_reducible apply runX_cons) | (with_reducible apply runI_cons)); focus (simp (discharger := omega) only [go_sem, hul, hd, u8lo, hdhi, ↓reduceIte, reduceIte, Nat.reduceEqDiff, Nat.reduceLT, Nat.reduceLeDiff, Nat.reduceAdd, Nat.reduceSub, Nat.reduceMul, Nat.reduceDiv, Nat.reduceMod, Nat.reduceBEq, Int.reduceEq, Int.reduceLT, Int.reduceLE, Int.reduceNeg, Int.reduceToNat, reduceCtorEq]; with_reducible rfl)))); done)))
            exact ⟨n - (l + 1), _, by omega, Norm.headS (own := [(10, 3, 1, false), (15, 3, 1, false), (20, 3, 1, true), (21, 5, 1, true)]) (keep := [0, 1, 2, 3, 8, 10, 15, 18, 19, 20, 21, 23, 92, 93, 94, 116, 117, 118]) (by simp (discharger := omega) only [go_sem, ↓reduceIte, reduceIte, Nat.reduceEqDiff, Nat.reduceLT, Nat.reduceLeDiff, Nat.reduceAdd, Nat.reduceSub, Nat.reduceMul, Nat.reduceDiv, Nat.reduceMod, Nat.reduceBEq, Int.reduceEq, Int.reduceLT, Int.reduceLE, Int.reduceNeg, Int.reduceToNat, reduceCtorEq]; with_reducible rfl) (by simp only [go_sem, ↓reduceIte, reduceIte, Nat.reduceEqDiff, Nat.reduceLT, Nat.reduceLeDiff, Nat.reduceAdd, Nat.reduceSub, Nat.reduceMul, Nat.reduceDiv, Nat.reduceMod, Nat.reduceBEq, Int.reduceEq, Int.reduceLT, Int.reduceLE, Int.reduceNeg, Int.reduceToNat, reduceCtorEq]; with_reducible rfl) (by simp only [go_sem, ↓reduceIte, reduceIte, Nat.reduceEqDiff, Nat.reduceLT, Nat.reduceLeDiff, Nat.reduceAdd, Nat.reduceSub, Nat.reduceMul, Nat.reduceDiv, Nat.reduceMod, Nat.reduceBEq, Int.reduceEq, Int.reduceLT, Int.reduceLE, Int.reduceNeg, Int.reduceToNat, reduceCtorEq]; with_reducible rfl) (by simp only [go_sem, ↓reduceIte, reduceIte, Nat.reduceEqDiff, Nat.reduceLT, Nat.reduceLeDiff, Nat.reduceAdd, Nat.reduceSub, Nat.reduceMul, Nat.reduceDiv, Nat.reduceMod, Nat.reduceBEq, Int.reduceEq, Int.reduceLT, Int.reduceLE, Int.reduceNeg, Int.reduceToNat, reduceCtorEq]; with_reducible rfl) (by simp only [go_sem, ↓reduceIte, reduceIte, Nat.reduceEqDiff, Nat.reduceLT, Nat.reduceLeDiff, Nat.reduceAdd, Nat.reduceSub, Nat.reduceMul, Nat.reduceDiv, Nat.reduceMod, Nat.reduceBEq, Int.reduceEq, Int.reduceLT, Int.reduceLE, Int.reduceNeg, Int.reduceToNat, reduceCtorEq]; with_reducible rfl), l + 1, _, rfl, rfl, by omega, by
              rw [htk2, List.flatMap_append, ← List.append_assoc, hkx, List.map_append]
              simp [hd2, byt, tByte, hd2']⟩
          · obtain rfl : l = n := by omega
            rw [List.take_of_length_le (by omega)]
            have hkey : (byt c ++ row.flatMap fun t => byt (clf cls t)) = keyOf' next (clf cls) r := by unfold keyOf'; rw [hc2, hrow2]
            have hkl : ((byt c ++ row.flatMap fun t => byt (clf cls t)).length : Nat) ≤ 2002 := by
              rw [List.length_append, byt_len]; simp [byt]; omega
            rw [hkey] at hkl ⊢
            obtain ⟨ks, hks⟩ : ∃ ks, bytesStr (keyOf' next (clf cls) r) = ks := ⟨_, rfl⟩
            have hsz : ks.size ≤ 2002 := by rw [← hks]; simpa [bytesStr, ByteArray.size] using hkl
            have hstr : (⟨((keyOf' next (clf cls) r).map fun n => UInt8.ofNat n.toNat).toArray⟩ : ByteArray) = ks := hks
            generalize keyOf' next (clf cls) r = kx at hstr ⊢
            have hel : es.length = R.length := by rw [hes, entries_length]
            by_cases hx : ∃ (k : Nat) (q : Int), R[k]? = some q ∧ bytesStr (keyOf' next (clf cls) q) = bytesStr (keyOf' next (clf cls) r)
            · obtain ⟨k, q, hk1, hk2⟩ := hx
              have hget : mapGet es (.str ks) = some (tNat k) := by
                rw [hes, ← hks]; exact entries_get_some hN.distinct hk1 hk2
              obtain ⟨c1, c2⟩ := clf_set (cls := frs) (r := r) hs.1 (by omega) k
              repeat' (first | (with_reducible first | refine SW_seq ?_ | refine SW_block ?_ | refine SThen_n ?_ | refine SThen_r ?_ | refine SThen_e ?_ | refine SIn_n ?_ | refine SIn_r ?_ | refine SIn_eq ?_ | refine SW_skip ?_ | refine SW_exit ?_ | refine SW_ret ?_ | refine SPost_r ?_) | ((with_reducible refine SIn_ne ?_ ?_); focus decide) | ((with_reducible refine SW_true ?_ ?_); focus exact rfl) | ((with_reducible refine SW_false ?_ ?_); focus exact rfl) | ((first | (with_reducible apply SW_run tt_ok hG htb) | ((with_reducible apply SW_draw rfl tt_ok hG htb); (focus kernel_rfl); (focus (simp only [List.range, List.range.loop, List.size_toArray, List.length_cons, List.length_nil, Nat.reduceAdd])))); focus ((repeat' (first | (with_reducible exact runX_nil) | (with_reducible exact runI_nil) | ((first | (with_reducible apply runX_cons) | (with_reducible apply runI_cons)); focus (simp (discharger := omega) only [go_sem, bytesOf_map, hstr, hget, ↓reduceIte, reduceIte, Nat.reduceEqDiff, Nat.reduceLT, Nat.reduceLeDiff, Nat.reduceAdd, Nat.reduceSub, Nat.reduceMul, Nat.reduceDiv, Nat.reduceMod, Nat.reduceBEq, Int.reduceEq, Int.reduceLT, Int.reduceLE, Int.reduceNeg, Int.reduceToNat, reduceCtorEq]; with_reducible rfl)))); done)))
              exact ⟨m - (i + 1), _, by omega, Norm.headS (own := [(10, 3, 1, false), (15, 3, 1, false), (20, 3, 1, true), (21, 5, 1, true)]) (keep := [0, 1, 2, 3, 8, 10, 15, 18, 19, 20, 21, 92, 93, 94]) (by simp (discharger := omega) only [go_sem, ↓reduceIte, reduceIte, Nat.reduceEqDiff, Nat.reduceLT, Nat.reduceLeDiff, Nat.reduceAdd, Nat.reduceSub, Nat.reduceMul, Nat.reduceDiv, Nat.reduceMod, Nat.reduceBEq, Int.reduceEq, Int.reduceLT, Int.reduceLE, Int.reduceNeg, Int.reduceToNat, reduceCtorEq]; with_reducible rfl) (by simp only [go_sem, ↓reduceIte, reduceIte, Nat.reduceEqDiff, Nat.reduceLT, Nat.reduceLeDiff, Nat.reduceAdd, Nat.reduceSub, Nat.reduceMul, Nat.reduceDiv, Nat.reduceMod, Nat.reduceBEq, Int.reduceEq, Int.reduceLT, Int.reduceLE, Int.reduceNeg, Int.reduceToNat, reduceCtorEq]; with_reducible rfl) (by simp only [go_sem, ↓reduceIte, reduceIte, Nat.reduceEqDiff, Nat.reduceLT, Nat.reduceLeDiff, Nat.reduceAdd, Nat.reduceSub, Nat.reduceMul, Nat.reduceDiv, Nat.reduceMod, Nat.reduceBEq, Int.reduceEq, Int.reduceLT, Int.reduceLE, Int.reduceNeg, Int.reduceToNat, reduceCtorEq]; with_reducible rfl) (by simp only [go_sem, ↓reduceIte, reduceIte, Nat.reduceEqDiff, Nat.reduceLT, Nat.reduceLeDiff, Nat.reduceAdd, Nat.reduceSub, Nat.reduceMul, Nat.reduceDiv, Nat.reduceMod, Nat.reduceBEq, Int.reduceEq, Int.reduceLT, Int.reduceLE, Int.reduceNeg, Int.reduceToNat, reduceCtorEq]; with_reducible rfl) (by simp only [go_sem, ↓reduceIte, reduceIte, Nat.reduceEqDiff, Nat.reduceLT, Nat.reduceLeDiff, Nat.reduceAdd, Nat.reduceSub, Nat.reduceMul, Nat.reduceDiv, Nat.reduceMod, Nat.reduceBEq, Int.reduceEq, Int.reduceLT, Int.reduceLE, Int.reduceNeg, Int.reduceToNat, reduceCtorEq]; with_reducible rfl), i + 1, frs.set r.toNat k, R, es, _, _, rfl, rfl, hes, by rw [List.map_set]; rfl, by simpa using hfl, by omega, by rw [htk]; exact hN.old hnr hk1 hk2 c2 c1⟩
            · have hno : ∀ q ∈ R, bytesStr (keyOf' next (clf cls) q) ≠ bytesStr (keyOf' next (clf cls) r) := fun q hq e => by
                obtain ⟨k, hk⟩ := List.mem_iff_getElem?.1 hq
                exact hx ⟨k, q, hk, e⟩
              have hget : mapGet es (.str ks) = none := by
                rw [hes, ← hks]; exact entries_get_none (κ := fun s => bytesStr (keyOf' next (clf cls) s)) hno
              have hset : mapSet es (.str ks) (tNat R.length) = entries (fun s => bytesStr (keyOf' next (clf cls) s)) (R ++ [r]) := by
                rw [hes, ← hks]; exact entries_set (κ := fun s => bytesStr (keyOf' next (clf cls) s)) hno
              obtain ⟨c1, c2⟩ := clf_set (cls := frs) (r := r) hs.1 (by omega) R.length
              repeat' (first | (with_reducible first | refine SW_seq ?_ | refine SW_block ?_ | refine SThen_n ?_ | refine SThen_r ?_ | refine SThen_e ?_ | refine SIn_n ?_ | refine SIn_r ?_ | refine SIn_eq ?_ | refine SW_skip ?_ | refine SW_exit ?_ | refine SW_ret ?_ | refine SPost_r ?_) | ((with_reducible refine SIn_ne ?_ ?_); focus decide) | ((with_reducible refine SW_true ?_ ?_); focus exact rfl) | ((with_reducible refine SW_false ?_ ?_); focus exact rfl) | ((first | (with_reducible apply SW_run tt_ok hG htb) | ((with_reducible apply SW_draw rfl tt_ok hG htb); (focus kernel_rfl); (focus (simp only [List.range, List.range.loop, List.size_toArray, List.length_cons, List.length_nil, Nat.reduceAdd])))); focus ((repeat' (first | (with_reducible exact runX_nil) | (with_reducible exact runI_nil) | ((first | (with_reducible apply runX_cons) | (with_reducible apply runI_cons)); focus (simp (discharger := omega) only [go_sem, bytesOf_map, hstr, hget, hel, ↓reduceIte, reduceIte, Nat.reduceEqDiff, Nat.reduceLT, Nat.reduceLeDiff, Nat.reduceAdd, Nat.reduceSub, Nat.reduceMul, Nat.reduceDiv, Nat.reduceMod, Nat.reduceBEq, Int.reduceEq, Int.reduceLT, Int.reduceLE, Int.reduceNeg, Int.reduceToNat, reduceCtorEq]; with_reducible rfl)))); done)))
              exact ⟨m - (i + 1), _, by omega, Norm.headS (own := [(10, 3, 1, false), (15, 3, 1, false), (20, 3, 1, true), (21, 5, 1, true)]) (keep := [0, 1, 2, 3, 8, 10, 15, 18, 19, 20, 21, 92, 93, 94]) (by simp (discharger := omega) only [go_sem, ↓reduceIte, reduceIte, Nat.reduceEqDiff, Nat.reduceLT, Nat.reduceLeDiff, Nat.reduceAdd, Nat.reduceSub, Nat.reduceMul, Nat.reduceDiv, Nat.reduceMod, Nat.reduceBEq, Int.reduceEq, Int.reduceLT, Int.reduceLE, Int.reduceNeg, Int.reduceToNat, reduceCtorEq]; with_reducible rfl) (by simp only [go_sem, ↓reduceIte, reduceIte, Nat.reduceEqDiff, Nat.reduceLT, Nat.reduceLeDiff, Nat.reduceAdd, Nat.reduceSub, Nat.reduceMul, Nat.reduceDiv, Nat.reduceMod, Nat.reduceBEq, Int.reduceEq, Int.reduceLT, Int.reduceLE, Int.reduceNeg, Int.reduceToNat, reduceCtorEq]; with_reducible rfl) (by simp only [go_sem, ↓reduceIte, reduceIte, Nat.reduceEqDiff, Nat.reduceLT, Nat.reduceLeDiff, Nat.reduceAdd, Nat.reduceSub, Nat.reduceMul, Nat.reduceDiv, Nat.reduceMod, Nat.reduceBEq, Int.reduceEq, Int.reduceLT, Int.reduceLE, Int.reduceNeg, Int.reduceToNat, reduceCtorEq]; with_reducible rfl) (by simp only [go_sem, ↓reduceIte, reduceIte, Nat.reduceEqDiff, Nat.reduceLT, Nat.reduceLeDiff, Nat.reduceAdd, Nat.reduceSub, Nat.reduceMul, Nat.reduceDiv, Nat.reduceMod, Nat.reduceBEq, Int.reduceEq, Int.reduceLT, Int.reduceLE, Int.reduceNeg, Int.reduceToNat, reduceCtorEq]; with_reducible rfl) (by simp only [go_sem, ↓reduceIte, reduceIte, Nat.reduceEqDiff, Nat.reduceLT, Nat.reduceLeDiff, Nat.reduceAdd, Nat.reduceSub, Nat.reduceMul, Nat.reduceDiv, Nat.reduceMod, Nat.reduceBEq, Int.reduceEq, Int.reduceLT, Int.reduceLE, Int.reduceNeg, Int.reduceToNat, reduceCtorEq]; with_reducible rfl), i + 1, frs.set r.toNat R.length, R ++ [r], _, _, _, rfl, rfl, hset, by rw [List.map_set]; rfl, by simpa using hfl, by omega, by rw [htk]; exact hN.new hnr hno c2 c1⟩
        · have hie : i = out.length := by omega
          subst hie
          rw [List.take_length] at hN
          clear hi hlt
          have hel : es.length = R.length := by rw [hes, entries_length]
          have hmore := hinv.more hN hlook
          have hbig : R.length ≤ 65536 := by
            have h1 := hinv.bound hR hm hbf hlook (Q := R) (fun r hr => hN.mem hr) hN.distinct
            omega
          have hbound : R.length ≤ m := by
            have h1 := hinv.bound hR hm hbf hlook (Q := R) (fun r hr => hN.mem hr) hN.distinct
            have h2 := (leastRE_spec (ends := ends) hR hm).2
            omega
          by_cases hRm : R.length = many
          · have hdone := hinv.done hR hm hmo hbf hN hlook hRm
            have hre := leastRE_eq hR hm hdone
            have hclR : ∀ s, s ∈ out → clf frs s < R.length := fun s hs => hN.lt hs
            clear hinv hlook h16 hce hmore hes
            repeat' (first | (with_reducible first | refine SW_seq ?_ | refine SW_block ?_ | refine SThen_n ?_ | refine SThen_r ?_ | refine SThen_e ?_ | refine SIn_n ?_ | refine SIn_r ?_ | refine SIn_eq ?_ | refine SW_skip ?_ | refine SW_exit ?_ | refine SW_ret ?_ | refine SPost_r ?_) | ((with_reducible refine SIn_ne ?_ ?_); focus decide) | ((with_reducible refine SW_true ?_ ?_); focus exact rfl) | ((with_reducible refine SW_false ?_ ?_); focus exact rfl) | ((first | (with_reducible apply SW_run tt_ok hG htb) | ((with_reducible apply SW_draw rfl tt_ok hG htb); (focus kernel_rfl); (focus (simp only [List.range, List.range.loop, List.size_toArray, List.length_cons, List.length_nil, Nat.reduceAdd])))); focus ((repeat' (first | (with_reducible exact runX_nil) | (with_reducible exact runI_nil) | ((first | (with_reducible apply runX_cons) | (with_reducible apply runI_cons)); focus (simp (discharger := omega) only [go_sem, hel, hRm, ↓reduceIte, reduceIte, Nat.reduceEqDiff, Nat.reduceLT, Nat.reduceLeDiff, Nat.reduceAdd, Nat.reduceSub, Nat.reduceMul, Nat.reduceDiv, Nat.reduceMod, Nat.reduceBEq, Int.reduceEq, Int.reduceLT, Int.reduceLE, Int.reduceNeg, Int.reduceToNat, reduceCtorEq]; with_reducible rfl)))); done)))
            have hRl : (leftRows next (clf frs) R).length = R.length := by simp [leftRows]
            have hEl : (leftEnds ends R).length = R.length := by simp [leftEnds]
            refine SW_loop (fun k s => ∃ (i q : Nat) (nt et : List T), k = m - i ∧ s = ⟨220, [(2, .t (tIntss next)), (3, .t (tBools ends)), (8, .bptr 0 0), (10, .sref 1), (15, .sref 2), (28, .bptr 3 0), (167, .sref 1), (168, .t (tInt out.length)), (169, .t (tInt i))], [.box [.t (tInt 0), .t (tInt 0), .nil, .nil], .row 3 1 false (out.map tInt), .row 3 1 false (frs.map tNat), .box [.t (tInt base), .t (tInt tracks), .sref 4, .sref 5], .row 22 1 true nt, .row 4 1 true et]⟩ ∧
                nt = ((leftRows next (clf frs) R).take q).map tInts ∧ et = ((leftEnds ends R).take q).map T.bool ∧ i ≤ out.length ∧ q ≤ R.length ∧ q ≤ 80 ∧ ∀ s, s ∈ out.take i → clf frs s < q) m
              ⟨_, (Norm.ownB (j := 6) (off := 2) (e := 22) (sz := 1) rfl rfl Nat.one_pos).trans ((Norm.ownB (j := 6) (off := 3) (e := 4) (sz := 1) rfl rfl Nat.one_pos).trans (Norm.headS (own := [(10, 3, 1, false), (15, 3, 1, false)]) (keep := [2, 3, 8, 10, 15, 28, 167, 168, 169]) (by simp (discharger := omega) only [go_sem, ↓reduceIte, reduceIte, Nat.reduceEqDiff, Nat.reduceLT, Nat.reduceLeDiff, Nat.reduceAdd, Nat.reduceSub, Nat.reduceMul, Nat.reduceDiv, Nat.reduceMod, Nat.reduceBEq, Int.reduceEq, Int.reduceLT, Int.reduceLE, Int.reduceNeg, Int.reduceToNat, reduceCtorEq]; with_reducible rfl) (by simp only [go_sem, ↓reduceIte, reduceIte, Nat.reduceEqDiff, Nat.reduceLT, Nat.reduceLeDiff, Nat.reduceAdd, Nat.reduceSub, Nat.reduceMul, Nat.reduceDiv, Nat.reduceMod, Nat.reduceBEq, Int.reduceEq, Int.reduceLT, Int.reduceLE, Int.reduceNeg, Int.reduceToNat, reduceCtorEq]; with_reducible rfl) (by simp only [go_sem, ↓reduceIte, reduceIte, Nat.reduceEqDiff, Nat.reduceLT, Nat.reduceLeDiff, Nat.reduceAdd, Nat.reduceSub, Nat.reduceMul, Nat.reduceDiv, Nat.reduceMod, Nat.reduceBEq, Int.reduceEq, Int.reduceLT, Int.reduceLE, Int.reduceNeg, Int.reduceToNat, reduceCtorEq]; with_reducible rfl) (by simp only [go_sem, ↓reduceIte, reduceIte, Nat.reduceEqDiff, Nat.reduceLT, Nat.reduceLeDiff, Nat.reduceAdd, Nat.reduceSub, Nat.reduceMul, Nat.reduceDiv, Nat.reduceMod, Nat.reduceBEq, Int.reduceEq, Int.reduceLT, Int.reduceLE, Int.reduceNeg, Int.reduceToNat, reduceCtorEq]; with_reducible rfl) (by simp only [go_sem, ↓reduceIte, reduceIte, Nat.reduceEqDiff, Nat.reduceLT, Nat.reduceLeDiff, Nat.reduceAdd, Nat.reduceSub, Nat.reduceMul, Nat.reduceDiv, Nat.reduceMod, Nat.reduceBEq, Int.reduceEq, Int.reduceLT, Int.reduceLE, Int.reduceNeg, Int.reduceToNat, reduceCtorEq]; with_reducible rfl))), 0, 0, _, _, rfl, rfl, by simp, by simp, Nat.zero_le _, Nat.zero_le _, Nat.zero_le _, fun s hs => by simp at hs⟩ ?_
            rintro k s ⟨i, q, nt, et, rfl, rfl, hnt, het, hi, hq, hq80, hall⟩
            have hnl : nt.length = q := by rw [hnt]; simp; omega
            have hel2 : et.length = q := by rw [het]; simp; omega
            by_cases hlt : i < out.length
            · obtain ⟨r, hor⟩ : ∃ r, out[i]! = r := ⟨_, rfl⟩
              have hio : out[i]? = some r := by rw [← hor, getElem!_pos out i hlt]; exact List.getElem?_eq_getElem hlt
              have hrm : r ∈ out := List.mem_of_getElem? hio
              have hs : 0 ≤ r ∧ r < (m : Int) := hmo.ok _ hrm
              have htk : out.take (i + 1) = out.take i ++ [r] := by
                rw [List.take_succ_eq_append_getElem hlt]
                rw [List.getElem?_eq_getElem hlt] at hio
                rw [Option.some.inj hio]
              obtain ⟨c, hc⟩ : ∃ c, frs[r.toNat]! = c := ⟨_, rfl⟩
              have hc2 : clf frs r = c := by rw [← clf_at hs.1 (by omega), hc]
              have hcR : c < R.length := by rw [← hc2]; exact hclR r hrm
              have hle : c ≤ q := by
                rcases Nat.lt_or_ge q c with hqc | hqc
                · exfalso
                  have hqR : q < R.length := by omega
                  obtain ⟨i0, a1, a2, a3⟩ := hN.first q _ (List.getElem?_eq_getElem hqR)
                  rcases Nat.lt_trichotomy i i0 with h | h | h
                  · have := a3 i r h hio; omega
                  · subst h; rw [hio] at a1; have := Option.some.inj a1; rw [← this, hc2] at a2; omega
                  · have : R[q] ∈ out.take i := List.mem_of_getElem? (by rw [List.getElem?_take, if_pos h]; exact a1)
                    have := hall _ this; omega
                · exact hqc
              by_cases hcq : c < q
              · repeat' (first | (with_reducible first | refine SW_seq ?_ | refine SW_block ?_ | refine SThen_n ?_ | refine SThen_r ?_ | refine SThen_e ?_ | refine SIn_n ?_ | refine SIn_r ?_ | refine SIn_eq ?_ | refine SW_skip ?_ | refine SW_exit ?_ | refine SW_ret ?_ | refine SPost_r ?_) | ((with_reducible refine SIn_ne ?_ ?_); focus decide) | ((with_reducible refine SW_true ?_ ?_); focus exact rfl) | ((with_reducible refine SW_false ?_ ?_); focus exact rfl) | ((first | (with_reducible apply SW_run tt_ok hG htb) | ((with_reducible apply SW_draw rfl tt_ok hG htb); (focus kernel_rfl); (focus (simp only [List.range, List.range.loop, List.size_toArray, List.length_cons, List.length_nil, Nat.reduceAdd])))); focus ((repeat' (first | (with_reducible exact runX_nil) | (with_reducible exact runI_nil) | ((first | (with_reducible apply runX_cons) | (with_reducible apply runI_cons)); focus (simp (discharger := omega) only [go_sem, hor, hc, hnl, ↓reduceIte, reduceIte, Nat.reduceEqDiff, Nat.reduceLT, Nat.reduceLeDiff, Nat.reduceAdd, Nat.reduceSub, Nat.reduceMul, Nat.reduceDiv, Nat.reduceMod, Nat.reduceBEq, Int.reduceEq, Int.reduceLT, Int.reduceLE, Int.reduceNeg, Int.reduceToNat, reduceCtorEq]; with_reducible rfl)))); done)))
                exact ⟨m - (i + 1), _, by omega, Norm.headS (own := [(10, 3, 1, false), (15, 3, 1, false)]) (keep := [2, 3, 8, 10, 15, 28, 167, 168, 169]) (by simp (discharger := omega) only [go_sem, ↓reduceIte, reduceIte, Nat.reduceEqDiff, Nat.reduceLT, Nat.reduceLeDiff, Nat.reduceAdd, Nat.reduceSub, Nat.reduceMul, Nat.reduceDiv, Nat.reduceMod, Nat.reduceBEq, Int.reduceEq, Int.reduceLT, Int.reduceLE, Int.reduceNeg, Int.reduceToNat, reduceCtorEq]; with_reducible rfl) (by simp only [go_sem, ↓reduceIte, reduceIte, Nat.reduceEqDiff, Nat.reduceLT, Nat.reduceLeDiff, Nat.reduceAdd, Nat.reduceSub, Nat.reduceMul, Nat.reduceDiv, Nat.reduceMod, Nat.reduceBEq, Int.reduceEq, Int.reduceLT, Int.reduceLE, Int.reduceNeg, Int.reduceToNat, reduceCtorEq]; with_reducible rfl) (by simp only [go_sem, ↓reduceIte, reduceIte, Nat.reduceEqDiff, Nat.reduceLT, Nat.reduceLeDiff, Nat.reduceAdd, Nat.reduceSub, Nat.reduceMul, Nat.reduceDiv, Nat.reduceMod, Nat.reduceBEq, Int.reduceEq, Int.reduceLT, Int.reduceLE, Int.reduceNeg, Int.reduceToNat, reduceCtorEq]; with_reducible rfl) (by simp only [go_sem, ↓reduceIte, reduceIte, Nat.reduceEqDiff, Nat.reduceLT, Nat.reduceLeDiff, Nat.reduceAdd, Nat.reduceSub, Nat.reduceMul, Nat.reduceDiv, Nat.reduceMod, Nat.reduceBEq, Int.reduceEq, Int.reduceLT, Int.reduceLE, Int.reduceNeg, Int.reduceToNat, reduceCtorEq]; with_reducible rfl) (by simp only [go_sem, ↓reduceIte, reduceIte, Nat.reduceEqDiff, Nat.reduceLT, Nat.reduceLeDiff, Nat.reduceAdd, Nat.reduceSub, Nat.reduceMul, Nat.reduceDiv, Nat.reduceMod, Nat.reduceBEq, Int.reduceEq, Int.reduceLT, Int.reduceLE, Int.reduceNeg, Int.reduceToNat, reduceCtorEq]; with_reducible rfl), i + 1, q, nt, et, rfl, rfl, hnt, het, by omega, hq, hq80, fun s hs' => by
                  rw [htk] at hs'
                  rcases List.mem_append.1 hs' with h | h
                  · exact hall s h
                  · simp at h; subst h; omega⟩
              · obtain rfl : c = q := by omega
                have hRq : R[c] = r := by
                  obtain ⟨i0, a1, a2, a3⟩ := hN.first c _ (List.getElem?_eq_getElem hcR)
                  rcases Nat.lt_trichotomy i i0 with h | h | h
                  · have := a3 i r h hio; omega
                  · subst h; rw [hio] at a1; exact (Option.some.inj a1).symm
                  · have : R[c] ∈ out.take i := List.mem_of_getElem? (by rw [List.getElem?_take, if_pos h]; exact a1)
                    have := hall _ this; omega
                by_cases h80 : c = 80
                · have hT : shrinkT base tracks n next ends = .tup [tAuto GAuto.zero, .bool false] := by
                    unfold shrinkT; rw [hre, if_neg (by simp only [hRl]; omega)]
                  rw [hT]
                  repeat' (first | (with_reducible first | refine SW_seq ?_ | refine SW_block ?_ | refine SThen_n ?_ | refine SThen_r ?_ | refine SThen_e ?_ | refine SIn_n ?_ | refine SIn_r ?_ | refine SIn_eq ?_ | refine SW_skip ?_ | refine SW_exit ?_ | refine SW_ret ?_ | refine SPost_r ?_) | ((with_reducible refine SIn_ne ?_ ?_); focus decide) | ((with_reducible refine SW_true ?_ ?_); focus exact rfl) | ((with_reducible refine SW_false ?_ ?_); focus exact rfl) | ((first | (with_reducible apply SW_run tt_ok hG htb) | ((with_reducible apply SW_draw rfl tt_ok hG htb); (focus kernel_rfl); (focus (simp only [List.range, List.range.loop, List.size_toArray, List.length_cons, List.length_nil, Nat.reduceAdd])))); focus ((repeat' (first | (with_reducible exact runX_nil) | (with_reducible exact runI_nil) | ((first | (with_reducible apply runX_cons) | (with_reducible apply runI_cons)); focus (simp (discharger := omega) only [go_sem, hor, hc, hnl, h80, ↓reduceIte, reduceIte, Nat.reduceEqDiff, Nat.reduceLT, Nat.reduceLeDiff, Nat.reduceAdd, Nat.reduceSub, Nat.reduceMul, Nat.reduceDiv, Nat.reduceMod, Nat.reduceBEq, Int.reduceEq, Int.reduceLT, Int.reduceLE, Int.reduceNeg, Int.reduceToNat, reduceCtorEq]; with_reducible rfl)))); done)))
                  exact (by simp (discharger := omega) only [go_sem, tAuto, GAuto.zero, ↓reduceIte, reduceIte, Nat.reduceEqDiff, Nat.reduceLT, Nat.reduceLeDiff, Nat.reduceAdd, Nat.reduceSub, Nat.reduceMul, Nat.reduceDiv, Nat.reduceMod, Nat.reduceBEq, Int.reduceEq, Int.reduceLT, Int.reduceLE, Int.reduceNeg, Int.reduceToNat, reduceCtorEq])
                · obtain ⟨row, hrow⟩ : ∃ row, next[r.toNat]! = row := ⟨_, rfl⟩
                  have hrl : r.toNat < next.length := by omega
                  have hrow2 : rowOf next r = row := by unfold rowOf; rw [getD_lt hrl, ← hrow, getElem!_pos next _ hrl]
                  have hrmem : row ∈ next := by rw [← hrow, getElem!_pos next _ hrl]; exact List.getElem_mem hrl
                  have hrn : row.length = n := hR.row _ hrmem
                  have hend : ends[r.toNat]! = endOf ends r := by unfold endOf; rw [getD_lt (by omega), getElem!_pos ends _ (by omega)]
                  repeat' (first | (with_reducible first | refine SW_seq ?_ | refine SW_block ?_ | refine SThen_n ?_ | refine SThen_r ?_ | refine SThen_e ?_ | refine SIn_n ?_ | refine SIn_r ?_ | refine SIn_eq ?_ | refine SW_skip ?_ | refine SW_exit ?_ | refine SW_ret ?_ | refine SPost_r ?_) | ((with_reducible refine SIn_ne ?_ ?_); focus decide) | ((with_reducible refine SW_true ?_ ?_); focus exact rfl) | ((with_reducible refine SW_false ?_ ?_); focus exact rfl) | ((first | (with_reducible apply SW_run tt_ok hG htb) | ((with_reducible apply SW_draw rfl tt_ok hG htb); (focus kernel_rfl); (focus (simp only [List.range, List.range.loop, List.size_toArray, List.length_cons, List.length_nil, Nat.reduceAdd])))); focus ((repeat' (first | (with_reducible exact runX_nil) | (with_reducible exact runI_nil) | ((first | (with_reducible apply runX_cons) | (with_reducible apply runI_cons)); focus (simp (discharger := omega) only [go_sem, hor, hc, hnl, h80, hrow, ↓reduceIte, reduceIte, Nat.reduceEqDiff, Nat.reduceLT, Nat.reduceLeDiff, Nat.reduceAdd, Nat.reduceSub, Nat.reduceMul, Nat.reduceDiv, Nat.reduceMod, Nat.reduceBEq, Int.reduceEq, Int.reduceLT, Int.reduceLE, Int.reduceNeg, Int.reduceToNat, reduceCtorEq]; with_reducible rfl)))); done)))
                  refine SW_loop (fun k s => ∃ (l : Nat) (rt : List T), k = n - l ∧ s = ⟨220, [(2, .t (tIntss next)), (3, .t (tBools ends)), (8, .bptr 0 0), (10, .sref 1), (15, .sref 2), (28, .bptr 3 0), (167, .sref 1), (168, .t (tInt out.length)), (169, .t (tInt i)), (30, .t (tInt r)), (31, .sref 4), (189, .t (tInts row)), (190, .t (tInt row.length)), (191, .t (tInt l))], [.box [.t (tInt 0), .t (tInt 0), .nil, .nil], .row 3 1 false (out.map tInt), .row 3 1 false (frs.map tNat), .box [.t (tInt base), .t (tInt tracks), .sref 5, .sref 6], .row 3 1 true rt, .row 22 1 true nt, .row 4 1 true et]⟩ ∧
                      l ≤ n ∧ rt = (row.take l).map fun t => tNat (clf frs t)) n ⟨_, Norm.headS (own := [(10, 3, 1, false), (15, 3, 1, false), (31, 3, 1, true)]) (keep := [2, 3, 8, 10, 15, 28, 167, 168, 169, 30, 31, 189, 190, 191]) (by simp (discharger := omega) only [go_sem, ↓reduceIte, reduceIte, Nat.reduceEqDiff, Nat.reduceLT, Nat.reduceLeDiff, Nat.reduceAdd, Nat.reduceSub, Nat.reduceMul, Nat.reduceDiv, Nat.reduceMod, Nat.reduceBEq, Int.reduceEq, Int.reduceLT, Int.reduceLE, Int.reduceNeg, Int.reduceToNat, reduceCtorEq]; with_reducible rfl) (by simp only [go_sem, ↓reduceIte, reduceIte, Nat.reduceEqDiff, Nat.reduceLT, Nat.reduceLeDiff, Nat.reduceAdd, Nat.reduceSub, Nat.reduceMul, Nat.reduceDiv, Nat.reduceMod, Nat.reduceBEq, Int.reduceEq, Int.reduceLT, Int.reduceLE, Int.reduceNeg, Int.reduceToNat, reduceCtorEq]; with_reducible rfl) (by simp only [go_sem, ↓reduceIte, reduceIte, Nat.reduceEqDiff, Nat.reduceLT, Nat.reduceLeDiff, Nat.reduceAdd, Nat.reduceSub, Nat.reduceMul, Nat.reduceDiv, Nat.reduceMod, Nat.reduceBEq, Int.reduceEq, Int.reduceLT, Int.reduceLE, Int.reduceNeg, Int.reduceToNat, reduceCtorEq]; with_reducible rfl) (by simp only [go_sem, ↓reduceIte, reduceIte, Nat.reduceEqDiff, Nat.reduceLT, Nat.reduceLeDiff, Nat.reduceAdd, Nat.reduceSub, Nat.reduceMul, Nat.reduceDiv, Nat.reduceMod, Nat.reduceBEq, Int.reduceEq, Int.reduceLT, Int.reduceLE, Int.reduceNeg, Int.reduceToNat, reduceCtorEq]; with_reducible rfl) (by simp only [go_sem, ↓reduceIte, reduceIte, Nat.reduceEqDiff, Nat.reduceLT, Nat.reduceLeDiff, Nat.reduceAdd, Nat.reduceSub, Nat.reduceMul, Nat.reduceDiv, Nat.reduceMod, Nat.reduceBEq, Int.reduceEq, Int.reduceLT, Int.reduceLE, Int.reduceNeg, Int.reduceToNat, reduceCtorEq]; with_reducible rfl), 0, _, rfl, rfl, Nat.zero_le _, rfl⟩ ?_
                  rintro k s ⟨l, rt, rfl, rfl, hl, hrt⟩
                  have hrtl : rt.length = l := by rw [hrt]; simp; omega
                  by_cases hlt2 : l < n
                  · obtain ⟨u, hul⟩ : ∃ u, row[l]! = u := ⟨_, rfl⟩
                    have hll : l < row.length := by omega
                    have hul2 : row[l]? = some u := by rw [← hul, getElem!_pos row l hll]; exact List.getElem?_eq_getElem hll
                    have hu : 0 ≤ u ∧ u < (m : Int) := hR.ok _ hrmem _ (List.mem_of_getElem? hul2)
                    obtain ⟨d, hd⟩ : ∃ d, frs[u.toNat]! = d := ⟨_, rfl⟩
                    have hd2 : clf frs u = d := by rw [← clf_at hu.1 (by omega), hd]
                    have htk2 : row.take (l + 1) = row.take l ++ [u] := by
                      rw [List.take_succ_eq_append_getElem hll]
                      rw [List.getElem?_eq_getElem hll] at hul2
                      rw [Option.some.inj hul2]
                    repeat' (first | (with_reducible first | refine SW_seq ?_ | refine SW_block ?_ | refine SThen_n ?_ | refine SThen_r ?_ | refine SThen_e ?_ | refine SIn_n ?_ | refine SIn_r ?_ | refine SIn_eq ?_ | refine SW_skip ?_ | refine SW_exit ?_ | refine SW_ret ?_ | refine SPost_r ?_) | ((with_reducible refine SIn_ne ?_ ?_); focus decide) | ((with_reducible refine SW_true ?_ ?_); focus exact rfl) | ((with_reducible refine SW_false ?_ ?_); focus exact rfl) | ((first | (with_reducible apply SW_run tt_ok hG htb) | ((with_reducible apply SW_draw rfl tt_ok hG htb); (focus kernel_rfl); (focus (simp only [List.range, List.range.loop, List.size_toArray, List.length_cons, List.length_nil, Nat.reduceAdd])))); focus ((repeat' (first | (with_reducible exact runX_nil) | (with_reducible exact runI_nil) | ((first | (with_reducible apply runX_cons) | (with_reducible apply runI_cons)); focus (simp (discharger := omega) only [go_sem, hul, hd, ↓reduceIte, reduceIte, Nat.reduceEqDiff, Nat.reduceLT, Nat.reduceLeDiff, Nat.reduceAdd, Nat.reduceSub, Nat.reduceMul, Nat.reduceDiv, Nat.reduceMod, Nat.reduceBEq, Int.reduceEq, Int.reduceLT, Int.reduceLE, Int.reduceNeg, Int.reduceToNat, reduceCtorEq]; with_reducible rfl)))); done)))
                    exact ⟨n - (l + 1), _, by omega, Norm.headS (own := [(10, 3, 1, false), (15, 3, 1, false), (31, 3, 1, true)]) (keep := [2, 3, 8, 10, 15, 28, 167, 168, 169, 30, 31, 189, 190, 191]) (by simp (discharger := omega) only [go_sem, ↓reduceIte, reduceIte, Nat.reduceEqDiff, Nat.reduceLT, Nat.reduceLeDiff, Nat.reduceAdd, Nat.reduceSub, Nat.reduceMul, Nat.reduceDiv, Nat.reduceMod, Nat.reduceBEq, Int.reduceEq, Int.reduceLT, Int.reduceLE, Int.reduceNeg, Int.reduceToNat, reduceCtorEq]; with_reducible rfl) (by simp only [go_sem, ↓reduceIte, reduceIte, Nat.reduceEqDiff, Nat.reduceLT, Nat.reduceLeDiff, Nat.reduceAdd, Nat.reduceSub, Nat.reduceMul, Nat.reduceDiv, Nat.reduceMod, Nat.reduceBEq, Int.reduceEq, Int.reduceLT, Int.reduceLE, Int.reduceNeg, Int.reduceToNat, reduceCtorEq]; with_reducible rfl) (by simp only [go_sem, ↓reduceIte, reduceIte, Nat.reduceEqDiff, Nat.reduceLT, Nat.reduceLeDiff, Nat.reduceAdd, Nat.reduceSub, Nat.reduceMul, Nat.reduceDiv, Nat.reduceMod, Nat.reduceBEq, Int.reduceEq, Int.reduceLT, Int.reduceLE, Int.reduceNeg, Int.reduceToNat, reduceCtorEq]; with_reducible rfl) (by simp only [go_sem, ↓reduceIte, reduceIte, Nat.reduceEqDiff, Nat.reduceLT, Nat.reduceLeDiff, Nat.reduceAdd, Nat.reduceSub, Nat.reduceMul, Nat.reduceDiv, Nat.reduceMod, Nat.reduceBEq, Int.reduceEq, Int.reduceLT, Int.reduceLE, Int.reduceNeg, Int.reduceToNat, reduceCtorEq]; with_reducible rfl) (by simp only [go_sem, ↓reduceIte, reduceIte, Nat.reduceEqDiff, Nat.reduceLT, Nat.reduceLeDiff, Nat.reduceAdd, Nat.reduceSub, Nat.reduceMul, Nat.reduceDiv, Nat.reduceMod, Nat.reduceBEq, Int.reduceEq, Int.reduceLT, Int.reduceLE, Int.reduceNeg, Int.reduceToNat, reduceCtorEq]; with_reducible rfl), l + 1, _, rfl, rfl, by omega, by rw [htk2, hrt]; simp [hd2, tNat]⟩
                  · obtain rfl : l = n := by omega
                    rw [List.take_of_length_le (by omega)] at hrt
                    repeat' (first | (with_reducible first | refine SW_seq ?_ | refine SW_block ?_ | refine SThen_n ?_ | refine SThen_r ?_ | refine SThen_e ?_ | refine SIn_n ?_ | refine SIn_r ?_ | refine SIn_eq ?_ | refine SW_skip ?_ | refine SW_exit ?_ | refine SW_ret ?_ | refine SPost_r ?_) | ((with_reducible refine SIn_ne ?_ ?_); focus decide) | ((with_reducible refine SW_true ?_ ?_); focus exact rfl) | ((with_reducible refine SW_false ?_ ?_); focus exact rfl) | ((first | (with_reducible apply SW_run tt_ok hG htb) | ((with_reducible apply SW_draw rfl tt_ok hG htb); (focus kernel_rfl); (focus (simp only [List.range, List.range.loop, List.size_toArray, List.length_cons, List.length_nil, Nat.reduceAdd])))); focus ((repeat' (first | (with_reducible exact runX_nil) | (with_reducible exact runI_nil) | ((first | (with_reducible apply runX_cons) | (with_reducible apply runI_cons)); focus (simp (discharger := omega) only [go_sem, hor, hend, ↓reduceIte, reduceIte, Nat.reduceEqDiff, Nat.reduceLT, Nat.reduceLeDiff, Nat.reduceAdd, Nat.reduceSub, Nat.reduceMul, Nat.reduceDiv, Nat.reduceMod, Nat.reduceBEq, Int.reduceEq, Int.reduceLT, Int.reduceLE, Int.reduceNeg, Int.reduceToNat, reduceCtorEq]; with_reducible rfl)))); done)))
                    have hlr : (leftRows next (clf frs) R).take (c + 1) = (leftRows next (clf frs) R).take c ++ [row.map fun t => (clf frs t : Int)] := by
                      rw [List.take_succ_eq_append_getElem (by omega)]
                      congr 1
                      simp [leftRows, hRq, hrow2]
                    have hle2 : (leftEnds ends R).take (c + 1) = (leftEnds ends R).take c ++ [endOf ends r] := by
                      rw [List.take_succ_eq_append_getElem (by omega)]
                      congr 1
                      simp [leftEnds, hRq]
                    exact ⟨m - (i + 1), _, by omega, Norm.headS (own := [(10, 3, 1, false), (15, 3, 1, false)]) (keep := [2, 3, 8, 10, 15, 28, 167, 168, 169]) (by simp (discharger := omega) only [go_sem, ↓reduceIte, reduceIte, Nat.reduceEqDiff, Nat.reduceLT, Nat.reduceLeDiff, Nat.reduceAdd, Nat.reduceSub, Nat.reduceMul, Nat.reduceDiv, Nat.reduceMod, Nat.reduceBEq, Int.reduceEq, Int.reduceLT, Int.reduceLE, Int.reduceNeg, Int.reduceToNat, reduceCtorEq]; with_reducible rfl) (by simp only [go_sem, ↓reduceIte, reduceIte, Nat.reduceEqDiff, Nat.reduceLT, Nat.reduceLeDiff, Nat.reduceAdd, Nat.reduceSub, Nat.reduceMul, Nat.reduceDiv, Nat.reduceMod, Nat.reduceBEq, Int.reduceEq, Int.reduceLT, Int.reduceLE, Int.reduceNeg, Int.reduceToNat, reduceCtorEq]; with_reducible rfl) (by simp only [go_sem, ↓reduceIte, reduceIte, Nat.reduceEqDiff, Nat.reduceLT, Nat.reduceLeDiff, Nat.reduceAdd, Nat.reduceSub, Nat.reduceMul, Nat.reduceDiv, Nat.reduceMod, Nat.reduceBEq, Int.reduceEq, Int.reduceLT, Int.reduceLE, Int.reduceNeg, Int.reduceToNat, reduceCtorEq]; with_reducible rfl) (by simp only [go_sem, ↓reduceIte, reduceIte, Nat.reduceEqDiff, Nat.reduceLT, Nat.reduceLeDiff, Nat.reduceAdd, Nat.reduceSub, Nat.reduceMul, Nat.reduceDiv, Nat.reduceMod, Nat.reduceBEq, Int.reduceEq, Int.reduceLT, Int.reduceLE, Int.reduceNeg, Int.reduceToNat, reduceCtorEq]; with_reducible rfl) (by simp only [go_sem, ↓reduceIte, reduceIte, Nat.reduceEqDiff, Nat.reduceLT, Nat.reduceLeDiff, Nat.reduceAdd, Nat.reduceSub, Nat.reduceMul, Nat.reduceDiv, Nat.reduceMod, Nat.reduceBEq, Int.reduceEq, Int.reduceLT, Int.reduceLE, Int.reduceNeg, Int.reduceToNat, reduceCtorEq]; with_reducible rfl), i + 1, c + 1, _, _, rfl, rfl, by rw [hlr, List.map_append, ← hnt, hrt]; simp [tInts, tNat, tInt], by rw [hle2, List.map_append, ← het]; rfl, by omega, by omega, by omega, fun s hs' => by
                      rw [htk] at hs'
                      rcases List.mem_append.1 hs' with h | h
                      · have := hall s h; omega
                      · simp at h; subst h; omega⟩
            · have hie : i = out.length := by omega
              subst hie
              rw [List.take_length] at hall
              have hqR : q = R.length := by
                rcases Nat.lt_or_ge q R.length with h | h
                · have := hall _ (hN.mem (List.getElem_mem h))
                  rw [hN.cl_of (List.getElem?_eq_getElem h)] at this; omega
                · omega
              rw [List.take_of_length_le (by omega)] at hnt het
              have hT : shrinkT base tracks n next ends = .tup [tAuto ⟨base, tracks, leftRows next (clf frs) R, leftEnds ends R⟩, .bool true] := by
                unfold shrinkT; rw [hre, if_pos (by simp only [hRl]; omega)]
              rw [hT]
              repeat' (first | (with_reducible first | refine SW_seq ?_ | refine SW_block ?_ | refine SThen_n ?_ | refine SThen_r ?_ | refine SThen_e ?_ | refine SIn_n ?_ | refine SIn_r ?_ | refine SIn_eq ?_ | refine SW_skip ?_ | refine SW_exit ?_ | refine SW_ret ?_ | refine SPost_r ?_) | ((with_reducible refine SIn_ne ?_ ?_); focus decide) | ((with_reducible refine SW_true ?_ ?_); focus exact rfl) | ((with_reducible refine SW_false ?_ ?_); focus exact rfl) | ((first | (with_reducible apply SW_run tt_ok hG htb) | ((with_reducible apply SW_draw rfl tt_ok hG htb); (focus kernel_rfl); (focus (simp only [List.range, List.range.loop, List.size_toArray, List.length_cons, List.length_nil, Nat.reduceAdd])))); focus ((repeat' (first | (with_reducible exact runX_nil) | (with_reducible exact runI_nil) | ((first | (with_reducible apply runX_cons) | (with_reducible apply runI_cons)); focus (simp (discharger := omega) only [go_sem, ↓reduceIte, reduceIte, Nat.reduceEqDiff, Nat.reduceLT, Nat.reduceLeDiff, Nat.reduceAdd, Nat.reduceSub, Nat.reduceMul, Nat.reduceDiv, Nat.reduceMod, Nat.reduceBEq, Int.reduceEq, Int.reduceLT, Int.reduceLE, Int.reduceNeg, Int.reduceToNat, reduceCtorEq]; with_reducible rfl)))); done)))
              subst hnt het
              exact (by simp (discharger := omega) only [go_sem, tAuto, ↓reduceIte, reduceIte, Nat.reduceEqDiff, Nat.reduceLT, Nat.reduceLeDiff, Nat.reduceAdd, Nat.reduceSub, Nat.reduceMul, Nat.reduceDiv, Nat.reduceMod, Nat.reduceBEq, Int.reduceEq, Int.reduceLT, Int.reduceLE, Int.reduceNeg, Int.reduceToNat, reduceCtorEq])
          · repeat' (first | (with_reducible first | refine SW_seq ?_ | refine SW_block ?_ | refine SThen_n ?_ | refine SThen_r ?_ | refine SThen_e ?_ | refine SIn_n ?_ | refine SIn_r ?_ | refine SIn_eq ?_ | refine SW_skip ?_ | refine SW_exit ?_ | refine SW_ret ?_ | refine SPost_r ?_) | ((with_reducible refine SIn_ne ?_ ?_); focus decide) | ((with_reducible refine SW_true ?_ ?_); focus exact rfl) | ((with_reducible refine SW_false ?_ ?_); focus exact rfl) | ((first | (with_reducible apply SW_run tt_ok hG htb) | ((with_reducible apply SW_draw rfl tt_ok hG htb); (focus kernel_rfl); (focus (simp only [List.range, List.range.loop, List.size_toArray, List.length_cons, List.length_nil, Nat.reduceAdd])))); focus ((repeat' (first | (with_reducible exact runX_nil) | (with_reducible exact runI_nil) | ((first | (with_reducible apply runX_cons) | (with_reducible apply runI_cons)); focus (simp (discharger := omega) only [go_sem, hel, hRm, ↓reduceIte, reduceIte, Nat.reduceEqDiff, Nat.reduceLT, Nat.reduceLeDiff, Nat.reduceAdd, Nat.reduceSub, Nat.reduceMul, Nat.reduceDiv, Nat.reduceMod, Nat.reduceBEq, Int.reduceEq, Int.reduceLT, Int.reduceLE, Int.reduceNeg, Int.reduceToNat, reduceCtorEq]; with_reducible rfl)))); done)))
            exact ⟨m + 1 - R.length, _, by omega, Norm.headS (own := [(10, 3, 1, false), (15, 3, 1, false)]) (keep := [0, 1, 2, 3, 8, 10, 15, 18]) (by simp (discharger := omega) only [go_sem, ↓reduceIte, reduceIte, Nat.reduceEqDiff, Nat.reduceLT, Nat.reduceLeDiff, Nat.reduceAdd, Nat.reduceSub, Nat.reduceMul, Nat.reduceDiv, Nat.reduceMod, Nat.reduceBEq, Int.reduceEq, Int.reduceLT, Int.reduceLE, Int.reduceNeg, Int.reduceToNat, reduceCtorEq]; with_reducible rfl) (by simp only [go_sem, ↓reduceIte, reduceIte, Nat.reduceEqDiff, Nat.reduceLT, Nat.reduceLeDiff, Nat.reduceAdd, Nat.reduceSub, Nat.reduceMul, Nat.reduceDiv, Nat.reduceMod, Nat.reduceBEq, Int.reduceEq, Int.reduceLT, Int.reduceLE, Int.reduceNeg, Int.reduceToNat, reduceCtorEq]; with_reducible rfl) (by simp only [go_sem, ↓reduceIte, reduceIte, Nat.reduceEqDiff, Nat.reduceLT, Nat.reduceLeDiff, Nat.reduceAdd, Nat.reduceSub, Nat.reduceMul, Nat.reduceDiv, Nat.reduceMod, Nat.reduceBEq, Int.reduceEq, Int.reduceLT, Int.reduceLE, Int.reduceNeg, Int.reduceToNat, reduceCtorEq]; with_reducible rfl) (by simp only [go_sem, ↓reduceIte, reduceIte, Nat.reduceEqDiff, Nat.reduceLT, Nat.reduceLeDiff, Nat.reduceAdd, Nat.reduceSub, Nat.reduceMul, Nat.reduceDiv, Nat.reduceMod, Nat.reduceBEq, Int.reduceEq, Int.reduceLT, Int.reduceLE, Int.reduceNeg, Int.reduceToNat, reduceCtorEq]; with_reducible rfl) (by simp only [go_sem, ↓reduceIte, reduceIte, Nat.reduceEqDiff, Nat.reduceLT, Nat.reduceLeDiff, Nat.reduceAdd, Nat.reduceSub, Nat.reduceMul, Nat.reduceDiv, Nat.reduceMod, Nat.reduceBEq, Int.reduceEq, Int.reduceLT, Int.reduceLE, Int.reduceNeg, Int.reduceToNat, reduceCtorEq]; with_reducible rfl), R.length, frs, rfl, rfl, hfl, hbound, hinv.step hbf hN hlook, fun s hs => by have := hN.lt hs; omega, fun s t hs ht e => hlook.ofEnds s t hs ht ((hN.eq_iff hs ht).1 e)⟩
theorem Shrink_snd (base tracks : Int) {n m : Nat} {next : List (List Int)} {ends : List Bool} (hR : Rows0 n m next) (hm : 0 < m) (hm2 : m ≤ 65536) (he : ends.length = m) (hn : n ≤ 1000) :
    Snd Tryd.prog G 96 [tInt base, tInt tracks, tIntss next, tBools ends] (shrinkT base tracks n next ends) :=
  Shrink_big hG base tracks hR hm (by omega) (Nat.le_trans (leastRE_spec (ends := ends) hR hm).2 hm2) he hn
end
end Go.Proofs.YtfhncnhkeodngaaDoor
namespace Go.Proofs.YtfhncnhkeodngaaDoor
open Go.RowKit

section
variable {G : World → Prop} (hG : Lasting G)
include hG
end
end Go.Proofs.YtfhncnhkeodngaaDoor
namespace Go.Proofs.YtfhncnhkeodngaaDoor
open Go.RowKit

section
variable {G : World → Prop} (hG : Lasting G)
include hG
set_option maxHeartbeats 1000000 in
theorem RMet_snd {n m : Nat} {next : List (List Int)} (hR : Rows0 n m next) (hm : 0 < m) (hm2 : m ≤ 2000000) (hn : n ≤ 1000) : Snd Tryd.prog G 101 [tIntss next] (tInts (met next)) := by
  have htb : Tab.ok Tryd.prog G [] := Tab.nil
  have hlen := hR.len
  refine snd_of_body (n := 55) (tm := [(0, .t (tIntss next))]) (rs := [.tmp 2]) tt_ok Tryd.func101 rfl rfl rfl rfl rfl ?_
  repeat' (first | (with_reducible first | refine SW_seq ?_ | refine SW_block ?_ | refine SThen_n ?_ | refine SThen_r ?_ | refine SThen_e ?_ | refine SIn_n ?_ | refine SIn_r ?_ | refine SIn_eq ?_ | refine SW_skip ?_ | refine SW_exit ?_ | refine SW_ret ?_ | refine SPost_r ?_) | ((with_reducible refine SIn_ne ?_ ?_); focus decide) | ((with_reducible refine SW_true ?_ ?_); focus exact rfl) | ((with_reducible refine SW_false ?_ ?_); focus exact rfl) | ((first | (with_reducible apply SW_run tt_ok hG htb) | ((with_reducible apply SW_draw rfl tt_ok hG htb); (focus kernel_rfl); (focus (simp only [List.range, List.range.loop, List.size_toArray, List.length_cons, List.length_nil, Nat.reduceAdd])))); focus ((repeat' (first | (with_reducible exact runX_nil) | (with_reducible exact runI_nil) | ((first | (with_reducible apply runX_cons) | (with_reducible apply runI_cons)); focus (simp (discharger := omega) only [go_sem, ↓reduceIte, reduceIte, Nat.reduceEqDiff, Nat.reduceLT, Nat.reduceLeDiff, Nat.reduceAdd, Nat.reduceSub, Nat.reduceMul, Nat.reduceDiv, Nat.reduceMod, Nat.reduceBEq, Int.reduceEq, Int.reduceLT, Int.reduceLE, Int.reduceNeg, Int.reduceToNat, reduceCtorEq]; with_reducible rfl)))); done)))
  refine SW_loop (fun k s => ∃ (i : Nat) (out : List Int) (st : List T), k = m - i ∧ s = ⟨55, [(0, .t (tIntss next)), (3, .sref 0), (4, .sref 1), (5, .t (tInt i))], [.row 4 1 true st, .row 3 1 false (out.map tInt)]⟩ ∧
      st = (seenOf m out).map T.bool ∧ i ≤ out.length ∧ MetOk m out ∧ metLoop next (m - i) i out = met next) m ⟨_, Norm.headS (own := [(4, 3, 1, false), (3, 4, 1, true)]) (keep := [0, 3, 4, 5]) (by simp (discharger := omega) only [go_sem, ↓reduceIte, reduceIte, Nat.reduceEqDiff, Nat.reduceLT, Nat.reduceLeDiff, Nat.reduceAdd, Nat.reduceSub, Nat.reduceMul, Nat.reduceDiv, Nat.reduceMod, Nat.reduceBEq, Int.reduceEq, Int.reduceLT, Int.reduceLE, Int.reduceNeg, Int.reduceToNat, reduceCtorEq]; with_reducible rfl) (by simp only [go_sem, ↓reduceIte, reduceIte, Nat.reduceEqDiff, Nat.reduceLT, Nat.reduceLeDiff, Nat.reduceAdd, Nat.reduceSub, Nat.reduceMul, Nat.reduceDiv, Nat.reduceMod, Nat.reduceBEq, Int.reduceEq, Int.reduceLT, Int.reduceLE, Int.reduceNeg, Int.reduceToNat, reduceCtorEq]; with_reducible rfl) (by simp only [go_sem, ↓reduceIte, reduceIte, Nat.reduceEqDiff, Nat.reduceLT, Nat.reduceLeDiff, Nat.reduceAdd, Nat.reduceSub, Nat.reduceMul, Nat.reduceDiv, Nat.reduceMod, Nat.reduceBEq, Int.reduceEq, Int.reduceLT, Int.reduceLE, Int.reduceNeg, Int.reduceToNat, reduceCtorEq]; with_reducible rfl) (by simp only [go_sem, ↓reduceIte, reduceIte, Nat.reduceEqDiff, Nat.reduceLT, Nat.reduceLeDiff, Nat.reduceAdd, Nat.reduceSub, Nat.reduceMul, Nat.reduceDiv, Nat.reduceMod, Nat.reduceBEq, Int.reduceEq, Int.reduceLT, Int.reduceLE, Int.reduceNeg, Int.reduceToNat, reduceCtorEq]; with_reducible rfl) (by simp only [go_sem, ↓reduceIte, reduceIte, Nat.reduceEqDiff, Nat.reduceLT, Nat.reduceLeDiff, Nat.reduceAdd, Nat.reduceSub, Nat.reduceMul, Nat.reduceDiv, Nat.reduceMod, Nat.reduceBEq, Int.reduceEq, Int.reduceLT, Int.reduceLE, Int.reduceNeg, Int.reduceToNat, reduceCtorEq]; with_reducible rfl), 0, [0], _, rfl, rfl, ?_⟩ ?_
  · refine ⟨?_, by simp, ⟨by simp, fun s hs => by simp at hs; subst hs; omega⟩, by unfold met; rw [hlen]; rfl⟩
    have := seenOf_set m [] 0
    rw [List.nil_append] at this
    rw [show ((0 : Nat) : Int) = 0 from rfl] at this
    rw [← this, seenOf_nil, List.map_set, List.map_replicate, hlen]
  · rintro k s ⟨i, out, st, rfl, rfl, rfl, hi, hmo, hml⟩
    have hol := hmo.len
    by_cases hlt : i < out.length
    · obtain ⟨r, hor⟩ : ∃ r, out[i]! = r := ⟨_, rfl⟩
      have hio : out[i]? = some r := by rw [← hor, getElem!_pos out i hlt]; exact List.getElem?_eq_getElem hlt
      have hs : 0 ≤ r ∧ r < (m : Int) := hmo.ok _ (List.mem_of_getElem? hio)
      obtain ⟨row, hrow⟩ : ∃ row, next[r.toNat]! = row := ⟨_, rfl⟩
      have hrl : r.toNat < next.length := by omega
      have hrow2 : rowOf next r = row := by unfold rowOf; rw [getD_lt hrl, ← hrow, getElem!_pos next _ hrl]
      have hrm : row ∈ next := by rw [← hrow, getElem!_pos next _ hrl]; exact List.getElem_mem hrl
      have hrn : row.length = n := hR.row _ hrm
      have hstep : metLoop next (m - i) i out = metLoop next (m - (i + 1)) (i + 1) (metRow out row) := by
        rw [metLoop_step next hol hlt]
        rw [List.getElem?_eq_getElem hlt] at hio
        rw [Option.some.inj hio, hrow2]
      rw [hstep] at hml
      repeat' (first | (with_reducible first | refine SW_seq ?_ | refine SW_block ?_ | refine SThen_n ?_ | refine SThen_r ?_ | refine SThen_e ?_ | refine SIn_n ?_ | refine SIn_r ?_ | refine SIn_eq ?_ | refine SW_skip ?_ | refine SW_exit ?_ | refine SW_ret ?_ | refine SPost_r ?_) | ((with_reducible refine SIn_ne ?_ ?_); focus decide) | ((with_reducible refine SW_true ?_ ?_); focus exact rfl) | ((with_reducible refine SW_false ?_ ?_); focus exact rfl) | ((first | (with_reducible apply SW_run tt_ok hG htb) | ((with_reducible apply SW_draw rfl tt_ok hG htb); (focus kernel_rfl); (focus (simp only [List.range, List.range.loop, List.size_toArray, List.length_cons, List.length_nil, Nat.reduceAdd])))); focus ((repeat' (first | (with_reducible exact runX_nil) | (with_reducible exact runI_nil) | ((first | (with_reducible apply runX_cons) | (with_reducible apply runI_cons)); focus (simp (discharger := omega) only [go_sem, hor, hrow, ↓reduceIte, reduceIte, Nat.reduceEqDiff, Nat.reduceLT, Nat.reduceLeDiff, Nat.reduceAdd, Nat.reduceSub, Nat.reduceMul, Nat.reduceDiv, Nat.reduceMod, Nat.reduceBEq, Int.reduceEq, Int.reduceLT, Int.reduceLE, Int.reduceNeg, Int.reduceToNat, reduceCtorEq]; with_reducible rfl)))); done)))
      refine SW_loop (fun k s => ∃ (l : Nat) (o : List Int) (st : List T), k = n - l ∧ s = ⟨55, [(0, .t (tIntss next)), (3, .sref 0), (4, .sref 1), (5, .t (tInt i)), (6, .t (tInts row)), (7, .t (tInt l))], [.row 4 1 true st, .row 3 1 false (o.map tInt)]⟩ ∧
          st = (seenOf m o).map T.bool ∧ l ≤ n ∧ o = metRow out (row.take l) ∧ MetOk m o) n ⟨_, Norm.headS (own := [(4, 3, 1, false), (3, 4, 1, true)]) (keep := [0, 3, 4, 5, 6, 7]) (by simp (discharger := omega) only [go_sem, ↓reduceIte, reduceIte, Nat.reduceEqDiff, Nat.reduceLT, Nat.reduceLeDiff, Nat.reduceAdd, Nat.reduceSub, Nat.reduceMul, Nat.reduceDiv, Nat.reduceMod, Nat.reduceBEq, Int.reduceEq, Int.reduceLT, Int.reduceLE, Int.reduceNeg, Int.reduceToNat, reduceCtorEq]; with_reducible rfl) (by simp only [go_sem, ↓reduceIte, reduceIte, Nat.reduceEqDiff, Nat.reduceLT, Nat.reduceLeDiff, Nat.reduceAdd, Nat.reduceSub, Nat.reduceMul, Nat.reduceDiv, Nat.reduceMod, Nat.reduceBEq, Int.reduceEq, Int.reduceLT, Int.reduceLE, Int.reduceNeg, Int.reduceToNat, reduceCtorEq]; with_reducible rfl) (by simp only [go_sem, ↓reduceIte, reduceIte, Nat.reduceEqDiff, Nat.reduceLT, Nat.reduceLeDiff, Nat.reduceAdd, Nat.reduceSub, Nat.reduceMul, Nat.reduceDiv, Nat.reduceMod, Nat.reduceBEq, Int.reduceEq, Int.reduceLT, Int.reduceLE, Int.reduceNeg, Int.reduceToNat, reduceCtorEq]; with_reducible rfl) (by simp only [go_sem, ↓reduceIte, reduceIte, Nat.reduceEqDiff, Nat.reduceLT, Nat.reduceLeDiff, Nat.reduceAdd, Nat.reduceSub, Nat.reduceMul, Nat.reduceDiv, Nat.reduceMod, Nat.reduceBEq, Int.reduceEq, Int.reduceLT, Int.reduceLE, Int.reduceNeg, Int.reduceToNat, reduceCtorEq]; with_reducible rfl) (by simp only [go_sem, ↓reduceIte, reduceIte, Nat.reduceEqDiff, Nat.reduceLT, Nat.reduceLeDiff, Nat.reduceAdd, Nat.reduceSub, Nat.reduceMul, Nat.reduceDiv, Nat.reduceMod, Nat.reduceBEq, Int.reduceEq, Int.reduceLT, Int.reduceLE, Int.reduceNeg, Int.reduceToNat, reduceCtorEq]; with_reducible rfl), 0, out, _, rfl, rfl, rfl, Nat.zero_le _, rfl, hmo⟩ ?_
      rintro k s ⟨l, o, st, rfl, rfl, rfl, hl, ho, hmo'⟩
      have hol' := hmo'.len
      have hsl := seenOf_length m o
      by_cases hlt2 : l < n
      · have hll : l < row.length := by omega
        obtain ⟨u, hul⟩ : ∃ u, row[l]! = u := ⟨_, rfl⟩
        have hul2 : row[l]? = some u := by rw [← hul, getElem!_pos row l hll]; exact List.getElem?_eq_getElem hll
        have hu : 0 ≤ u ∧ u < (m : Int) := hR.ok _ hrm _ (List.mem_of_getElem? hul2)
        have htk2 : row.take (l + 1) = row.take l ++ [u] := by
          rw [List.take_succ_eq_append_getElem hll]
          rw [List.getElem?_eq_getElem hll] at hul2
          rw [Option.some.inj hul2]
        obtain ⟨j, rfl⟩ : ∃ j : Nat, u = j := ⟨u.toNat, by omega⟩
        have hsn : (seenOf m o)[j]! = decide ((j : Int) ∈ o) := by
          rw [getElem!_pos _ _ (by omega), seenOf_at]
        have hset := seenOf_set m o j
        generalize hsne : seenOf m o = sn at hsn hsl hset
        by_cases hm1 : (j : Int) ∈ o
        · rw [decide_eq_true hm1] at hsn
          repeat' (first | (with_reducible first | refine SW_seq ?_ | refine SW_block ?_ | refine SThen_n ?_ | refine SThen_r ?_ | refine SThen_e ?_ | refine SIn_n ?_ | refine SIn_r ?_ | refine SIn_eq ?_ | refine SW_skip ?_ | refine SW_exit ?_ | refine SW_ret ?_ | refine SPost_r ?_) | ((with_reducible refine SIn_ne ?_ ?_); focus decide) | ((with_reducible refine SW_true ?_ ?_); focus exact rfl) | ((with_reducible refine SW_false ?_ ?_); focus exact rfl) | ((first | (with_reducible apply SW_run tt_ok hG htb) | ((with_reducible apply SW_draw rfl tt_ok hG htb); (focus kernel_rfl); (focus (simp only [List.range, List.range.loop, List.size_toArray, List.length_cons, List.length_nil, Nat.reduceAdd])))); focus ((repeat' (first | (with_reducible exact runX_nil) | (with_reducible exact runI_nil) | ((first | (with_reducible apply runX_cons) | (with_reducible apply runI_cons)); focus (simp (discharger := omega) only [go_sem, hsn, hul, ↓reduceIte, reduceIte, Nat.reduceEqDiff, Nat.reduceLT, Nat.reduceLeDiff, Nat.reduceAdd, Nat.reduceSub, Nat.reduceMul, Nat.reduceDiv, Nat.reduceMod, Nat.reduceBEq, Int.reduceEq, Int.reduceLT, Int.reduceLE, Int.reduceNeg, Int.reduceToNat, reduceCtorEq]; with_reducible rfl)))); done)))
          exact ⟨n - (l + 1), _, by omega, Norm.headS (own := [(4, 3, 1, false), (3, 4, 1, true)]) (keep := [0, 3, 4, 5, 6, 7]) (by simp (discharger := omega) only [go_sem, ↓reduceIte, reduceIte, Nat.reduceEqDiff, Nat.reduceLT, Nat.reduceLeDiff, Nat.reduceAdd, Nat.reduceSub, Nat.reduceMul, Nat.reduceDiv, Nat.reduceMod, Nat.reduceBEq, Int.reduceEq, Int.reduceLT, Int.reduceLE, Int.reduceNeg, Int.reduceToNat, reduceCtorEq]; with_reducible rfl) (by simp only [go_sem, ↓reduceIte, reduceIte, Nat.reduceEqDiff, Nat.reduceLT, Nat.reduceLeDiff, Nat.reduceAdd, Nat.reduceSub, Nat.reduceMul, Nat.reduceDiv, Nat.reduceMod, Nat.reduceBEq, Int.reduceEq, Int.reduceLT, Int.reduceLE, Int.reduceNeg, Int.reduceToNat, reduceCtorEq]; with_reducible rfl) (by simp only [go_sem, ↓reduceIte, reduceIte, Nat.reduceEqDiff, Nat.reduceLT, Nat.reduceLeDiff, Nat.reduceAdd, Nat.reduceSub, Nat.reduceMul, Nat.reduceDiv, Nat.reduceMod, Nat.reduceBEq, Int.reduceEq, Int.reduceLT, Int.reduceLE, Int.reduceNeg, Int.reduceToNat, reduceCtorEq]; with_reducible rfl) (by simp only [go_sem, ↓reduceIte, reduceIte, Nat.reduceEqDiff, Nat.reduceLT, Nat.reduceLeDiff, Nat.reduceAdd, Nat.reduceSub, Nat.reduceMul, Nat.reduceDiv, Nat.reduceMod, Nat.reduceBEq, Int.reduceEq, Int.reduceLT, Int.reduceLE, Int.reduceNeg, Int.reduceToNat, reduceCtorEq]; with_reducible rfl) (by simp only [go_sem, ↓reduceIte, reduceIte, Nat.reduceEqDiff, Nat.reduceLT, Nat.reduceLeDiff, Nat.reduceAdd, Nat.reduceSub, Nat.reduceMul, Nat.reduceDiv, Nat.reduceMod, Nat.reduceBEq, Int.reduceEq, Int.reduceLT, Int.reduceLE, Int.reduceNeg, Int.reduceToNat, reduceCtorEq]; with_reducible rfl), l + 1, o, _, rfl, rfl, by rw [hsne], by omega, by rw [htk2, metRow_snoc, ← ho, if_pos hm1], hmo'⟩
        · rw [decide_eq_false hm1] at hsn
          repeat' (first | (with_reducible first | refine SW_seq ?_ | refine SW_block ?_ | refine SThen_n ?_ | refine SThen_r ?_ | refine SThen_e ?_ | refine SIn_n ?_ | refine SIn_r ?_ | refine SIn_eq ?_ | refine SW_skip ?_ | refine SW_exit ?_ | refine SW_ret ?_ | refine SPost_r ?_) | ((with_reducible refine SIn_ne ?_ ?_); focus decide) | ((with_reducible refine SW_true ?_ ?_); focus exact rfl) | ((with_reducible refine SW_false ?_ ?_); focus exact rfl) | ((first | (with_reducible apply SW_run tt_ok hG htb) | ((with_reducible apply SW_draw rfl tt_ok hG htb); (focus kernel_rfl); (focus (simp only [List.range, List.range.loop, List.size_toArray, List.length_cons, List.length_nil, Nat.reduceAdd])))); focus ((repeat' (first | (with_reducible exact runX_nil) | (with_reducible exact runI_nil) | ((first | (with_reducible apply runX_cons) | (with_reducible apply runI_cons)); focus (simp (discharger := omega) only [go_sem, hsn, hul, ↓reduceIte, reduceIte, Nat.reduceEqDiff, Nat.reduceLT, Nat.reduceLeDiff, Nat.reduceAdd, Nat.reduceSub, Nat.reduceMul, Nat.reduceDiv, Nat.reduceMod, Nat.reduceBEq, Int.reduceEq, Int.reduceLT, Int.reduceLE, Int.reduceNeg, Int.reduceToNat, reduceCtorEq]; with_reducible rfl)))); done)))
          exact ⟨n - (l + 1), _, by omega, Norm.headS (own := [(4, 3, 1, false), (3, 4, 1, true)]) (keep := [0, 3, 4, 5, 6, 7]) (by simp (discharger := omega) only [go_sem, ↓reduceIte, reduceIte, Nat.reduceEqDiff, Nat.reduceLT, Nat.reduceLeDiff, Nat.reduceAdd, Nat.reduceSub, Nat.reduceMul, Nat.reduceDiv, Nat.reduceMod, Nat.reduceBEq, Int.reduceEq, Int.reduceLT, Int.reduceLE, Int.reduceNeg, Int.reduceToNat, reduceCtorEq]; with_reducible rfl) (by simp only [go_sem, ↓reduceIte, reduceIte, Nat.reduceEqDiff, Nat.reduceLT, Nat.reduceLeDiff, Nat.reduceAdd, Nat.reduceSub, Nat.reduceMul, Nat.reduceDiv, Nat.reduceMod, Nat.reduceBEq, Int.reduceEq, Int.reduceLT, Int.reduceLE, Int.reduceNeg, Int.reduceToNat, reduceCtorEq]; with_reducible rfl) (by simp only [go_sem, ↓reduceIte, reduceIte, Nat.reduceEqDiff, Nat.reduceLT, Nat.reduceLeDiff, Nat.reduceAdd, Nat.reduceSub, Nat.reduceMul, Nat.reduceDiv, Nat.reduceMod, Nat.reduceBEq, Int.reduceEq, Int.reduceLT, Int.reduceLE, Int.reduceNeg, Int.reduceToNat, reduceCtorEq]; with_reducible rfl) (by simp only [go_sem, ↓reduceIte, reduceIte, Nat.reduceEqDiff, Nat.reduceLT, Nat.reduceLeDiff, Nat.reduceAdd, Nat.reduceSub, Nat.reduceMul, Nat.reduceDiv, Nat.reduceMod, Nat.reduceBEq, Int.reduceEq, Int.reduceLT, Int.reduceLE, Int.reduceNeg, Int.reduceToNat, reduceCtorEq]; with_reducible rfl) (by simp only [go_sem, ↓reduceIte, reduceIte, Nat.reduceEqDiff, Nat.reduceLT, Nat.reduceLeDiff, Nat.reduceAdd, Nat.reduceSub, Nat.reduceMul, Nat.reduceDiv, Nat.reduceMod, Nat.reduceBEq, Int.reduceEq, Int.reduceLT, Int.reduceLE, Int.reduceNeg, Int.reduceToNat, reduceCtorEq]; with_reducible rfl), l + 1, o ++ [(j : Int)], _, rfl, by simp only [List.map_append, List.map_cons, List.map_nil, tInt]; rfl, by rw [← hset, List.map_set], by omega, by rw [htk2, metRow_snoc, ← ho, if_neg hm1], hmo'.snoc hu hm1⟩
      · obtain rfl : l = n := by omega
        rw [List.take_of_length_le (by omega)] at ho
        repeat' (first | (with_reducible first | refine SW_seq ?_ | refine SW_block ?_ | refine SThen_n ?_ | refine SThen_r ?_ | refine SThen_e ?_ | refine SIn_n ?_ | refine SIn_r ?_ | refine SIn_eq ?_ | refine SW_skip ?_ | refine SW_exit ?_ | refine SW_ret ?_ | refine SPost_r ?_) | ((with_reducible refine SIn_ne ?_ ?_); focus decide) | ((with_reducible refine SW_true ?_ ?_); focus exact rfl) | ((with_reducible refine SW_false ?_ ?_); focus exact rfl) | ((first | (with_reducible apply SW_run tt_ok hG htb) | ((with_reducible apply SW_draw rfl tt_ok hG htb); (focus kernel_rfl); (focus (simp only [List.range, List.range.loop, List.size_toArray, List.length_cons, List.length_nil, Nat.reduceAdd])))); focus ((repeat' (first | (with_reducible exact runX_nil) | (with_reducible exact runI_nil) | ((first | (with_reducible apply runX_cons) | (with_reducible apply runI_cons)); focus (simp (discharger := omega) only [go_sem, ↓reduceIte, reduceIte, Nat.reduceEqDiff, Nat.reduceLT, Nat.reduceLeDiff, Nat.reduceAdd, Nat.reduceSub, Nat.reduceMul, Nat.reduceDiv, Nat.reduceMod, Nat.reduceBEq, Int.reduceEq, Int.reduceLT, Int.reduceLE, Int.reduceNeg, Int.reduceToNat, reduceCtorEq]; with_reducible rfl)))); done)))
        exact ⟨m - (i + 1), _, by omega, Norm.headS (own := [(4, 3, 1, false), (3, 4, 1, true)]) (keep := [0, 3, 4, 5]) (by simp (discharger := omega) only [go_sem, ↓reduceIte, reduceIte, Nat.reduceEqDiff, Nat.reduceLT, Nat.reduceLeDiff, Nat.reduceAdd, Nat.reduceSub, Nat.reduceMul, Nat.reduceDiv, Nat.reduceMod, Nat.reduceBEq, Int.reduceEq, Int.reduceLT, Int.reduceLE, Int.reduceNeg, Int.reduceToNat, reduceCtorEq]; with_reducible rfl) (by simp only [go_sem, ↓reduceIte, reduceIte, Nat.reduceEqDiff, Nat.reduceLT, Nat.reduceLeDiff, Nat.reduceAdd, Nat.reduceSub, Nat.reduceMul, Nat.reduceDiv, Nat.reduceMod, Nat.reduceBEq, Int.reduceEq, Int.reduceLT, Int.reduceLE, Int.reduceNeg, Int.reduceToNat, reduceCtorEq]; with_reducible rfl) (by simp only [go_sem, ↓reduceIte, reduceIte, Nat.reduceEqDiff, Nat.reduceLT, Nat.reduceLeDiff, Nat.reduceAdd, Nat.reduceSub, Nat.reduceMul, Nat.reduceDiv, Nat.reduceMod, Nat.reduceBEq, Int.reduceEq, Int.reduceLT, Int.reduceLE, Int.reduceNeg, Int.reduceToNat, reduceCtorEq]; with_reducible rfl) (by simp only [go_sem, ↓reduceIte, reduceIte, Nat.reduceEqDiff, Nat.reduceLT, Nat.reduceLeDiff, Nat.reduceAdd, Nat.reduceSub, Nat.reduceMul, Nat.reduceDiv, Nat.reduceMod, Nat.reduceBEq, Int.reduceEq, Int.reduceLT, Int.reduceLE, Int.reduceNeg, Int.reduceToNat, reduceCtorEq]; with_reducible rfl) (by simp only [go_sem, ↓reduceIte, reduceIte, Nat.reduceEqDiff, Nat.reduceLT, Nat.reduceLeDiff, Nat.reduceAdd, Nat.reduceSub, Nat.reduceMul, Nat.reduceDiv, Nat.reduceMod, Nat.reduceBEq, Int.reduceEq, Int.reduceLT, Int.reduceLE, Int.reduceNeg, Int.reduceToNat, reduceCtorEq]; with_reducible rfl), i + 1, o, _, rfl, rfl, rfl, by rw [ho]; have := metRow_len row out; omega, hmo', by rw [ho]; exact hml⟩
    · rw [metLoop_end next hlt] at hml
      rw [← hml]
      repeat' (first | (with_reducible first | refine SW_seq ?_ | refine SW_block ?_ | refine SThen_n ?_ | refine SThen_r ?_ | refine SThen_e ?_ | refine SIn_n ?_ | refine SIn_r ?_ | refine SIn_eq ?_ | refine SW_skip ?_ | refine SW_exit ?_ | refine SW_ret ?_ | refine SPost_r ?_) | ((with_reducible refine SIn_ne ?_ ?_); focus decide) | ((with_reducible refine SW_true ?_ ?_); focus exact rfl) | ((with_reducible refine SW_false ?_ ?_); focus exact rfl) | ((first | (with_reducible apply SW_run tt_ok hG htb) | ((with_reducible apply SW_draw rfl tt_ok hG htb); (focus kernel_rfl); (focus (simp only [List.range, List.range.loop, List.size_toArray, List.length_cons, List.length_nil, Nat.reduceAdd])))); focus ((repeat' (first | (with_reducible exact runX_nil) | (with_reducible exact runI_nil) | ((first | (with_reducible apply runX_cons) | (with_reducible apply runI_cons)); focus (simp (discharger := omega) only [go_sem, ↓reduceIte, reduceIte, Nat.reduceEqDiff, Nat.reduceLT, Nat.reduceLeDiff, Nat.reduceAdd, Nat.reduceSub, Nat.reduceMul, Nat.reduceDiv, Nat.reduceMod, Nat.reduceBEq, Int.reduceEq, Int.reduceLT, Int.reduceLE, Int.reduceNeg, Int.reduceToNat, reduceCtorEq]; with_reducible rfl)))); done)))
      exact (by simp (discharger := omega) only [go_sem, ↓reduceIte, reduceIte, Nat.reduceEqDiff, Nat.reduceLT, Nat.reduceLeDiff, Nat.reduceAdd, Nat.reduceSub, Nat.reduceMul, Nat.reduceDiv, Nat.reduceMod, Nat.reduceBEq, Int.reduceEq, Int.reduceLT, Int.reduceLE, Int.reduceNeg, Int.reduceToNat, reduceCtorEq])

/-- Are two states alike, and the classes of their nexts? -/
def likesB (next : List (List Int)) (ends : List Bool) (n : Nat) (cl : Int → Nat) (s t : Int) : Bool :=
  decide (endOf ends s = endOf ends t ∧ cl s = cl t ∧ (List.range n).map (fun l => cl (nx next s l)) = (List.range n).map (fun l => cl (nx next t l)))
omit hG in
theorem range_same {n : Nat} {f g : Nat → Nat} : (List.range n).map f = (List.range n).map g ↔ ∀ l, l < n → f l = g l := by
  constructor
  · intro h l hl
    have := congrArg (fun q : List Nat => q[l]?) h
    simpa [List.getElem?_map, List.getElem?_range hl] using this
  · intro h
    exact List.map_congr_left fun l hl => h l (List.mem_range.1 hl)
set_option maxHeartbeats 1000000 in
theorem likes_snd {n m : Nat} {next : List (List Int)} {ends : List Bool} {cls : List Nat} {s t : Int} (hR : Rows0 n m next) (he : ends.length = m) (hc : cls.length = m) (hs : 0 ≤ s ∧ s < (m : Int)) (ht : 0 ≤ t ∧ t < (m : Int)) (hn : n ≤ 1000) :
    Snd Tryd.prog G 102 [tIntss next, tBools ends, .list (cls.map tNat), tInt s, tInt t] (.bool (likesB next ends n (clf cls) s t)) := by
  have htb : Tab.ok Tryd.prog G [] := Tab.nil
  have hlen := hR.len
  have hes : ends[s.toNat]! = endOf ends s := by unfold endOf; rw [getD_lt (by omega), getElem!_pos ends _ (by omega)]
  have het : ends[t.toNat]! = endOf ends t := by unfold endOf; rw [getD_lt (by omega), getElem!_pos ends _ (by omega)]
  have hcs : cls[s.toNat]! = clf cls s := clf_at hs.1 (by omega)
  have hct : cls[t.toNat]! = clf cls t := clf_at ht.1 (by omega)
  have hrow : ∀ s : Int, 0 ≤ s ∧ s < (m : Int) → (next[s.toNat]!).length = n ∧ next[s.toNat]! ∈ next ∧ rowOf next s = next[s.toNat]! := fun s hs => by
    have h1 : s.toNat < next.length := by omega
    refine ⟨?_, ?_, ?_⟩
    · rw [getElem!_pos next _ h1]; exact hR.row _ (List.getElem_mem h1)
    · rw [getElem!_pos next _ h1]; exact List.getElem_mem h1
    · unfold rowOf; rw [getD_lt h1, getElem!_pos next _ h1]
  obtain ⟨rs, hrs⟩ : ∃ r, next[s.toNat]! = r := ⟨_, rfl⟩
  obtain ⟨rt, hrt⟩ : ∃ r, next[t.toNat]! = r := ⟨_, rfl⟩
  obtain ⟨s1, s2, s3⟩ := hrow s hs
  obtain ⟨t1, t2, t3⟩ := hrow t ht
  rw [hrs] at s1 s2 s3
  rw [hrt] at t1 t2 t3
  refine snd_of_body (n := 62) (tm := [(0, .t (tIntss next)), (1, .t (tBools ends)), (2, .t (.list (cls.map tNat))), (3, .t (tInt s)), (4, .t (tInt t))]) (rs := [.tmp 10]) tt_ok Tryd.func102 rfl rfl rfl rfl rfl ?_
  unfold likesB
  by_cases h1 : endOf ends s = endOf ends t
  · have hb : (ends[s.toNat]! == ends[t.toNat]!) = true := by rw [hes, het, h1]; simp
    by_cases h2 : clf cls s = clf cls t
    · have hb2 : ((cls[s.toNat]! : Nat) : Int) = ((cls[t.toNat]! : Nat) : Int) := by rw [hcs, hct, h2]
      repeat' (first | (with_reducible first | refine SW_seq ?_ | refine SW_block ?_ | refine SThen_n ?_ | refine SThen_r ?_ | refine SThen_e ?_ | refine SIn_n ?_ | refine SIn_r ?_ | refine SIn_eq ?_ | refine SW_skip ?_ | refine SW_exit ?_ | refine SW_ret ?_ | refine SPost_r ?_) | ((with_reducible refine SIn_ne ?_ ?_); focus decide) | ((with_reducible refine SW_true ?_ ?_); focus exact rfl) | ((with_reducible refine SW_false ?_ ?_); focus exact rfl) | ((first | (with_reducible apply SW_run tt_ok hG htb) | ((with_reducible apply SW_draw rfl tt_ok hG htb); (focus kernel_rfl); (focus (simp only [List.range, List.range.loop, List.size_toArray, List.length_cons, List.length_nil, Nat.reduceAdd])))); focus ((repeat' (first | (with_reducible exact runX_nil) | (with_reducible exact runI_nil) | ((first | (with_reducible apply runX_cons) | (with_reducible apply runI_cons)); focus (simp (discharger := omega) only [go_sem, hb, hb2, ↓reduceIte, reduceIte, Nat.reduceEqDiff, Nat.reduceLT, Nat.reduceLeDiff, Nat.reduceAdd, Nat.reduceSub, Nat.reduceMul, Nat.reduceDiv, Nat.reduceMod, Nat.reduceBEq, Int.reduceEq, Int.reduceLT, Int.reduceLE, Int.reduceNeg, Int.reduceToNat, reduceCtorEq]; with_reducible rfl)))); done)))
      refine SW_loop (fun k st => ∃ l : Nat, k = n - l ∧ st = ⟨62, [(0, .t (tIntss next)), (2, .t (.list (cls.map tNat))), (3, .t (tInt s)), (4, .t (tInt t)), (11, .t (tInt l))], []⟩ ∧ l ≤ n ∧ ∀ j, j < l → clf cls (nx next s j) = clf cls (nx next t j)) n ⟨_, Norm.headS (own := []) (keep := [0, 2, 3, 4, 11]) (by simp (discharger := omega) only [go_sem, ↓reduceIte, reduceIte, Nat.reduceEqDiff, Nat.reduceLT, Nat.reduceLeDiff, Nat.reduceAdd, Nat.reduceSub, Nat.reduceMul, Nat.reduceDiv, Nat.reduceMod, Nat.reduceBEq, Int.reduceEq, Int.reduceLT, Int.reduceLE, Int.reduceNeg, Int.reduceToNat, reduceCtorEq]; with_reducible rfl) (by simp only [go_sem, ↓reduceIte, reduceIte, Nat.reduceEqDiff, Nat.reduceLT, Nat.reduceLeDiff, Nat.reduceAdd, Nat.reduceSub, Nat.reduceMul, Nat.reduceDiv, Nat.reduceMod, Nat.reduceBEq, Int.reduceEq, Int.reduceLT, Int.reduceLE, Int.reduceNeg, Int.reduceToNat, reduceCtorEq]; with_reducible rfl) (by simp only [go_sem, ↓reduceIte, reduceIte, Nat.reduceEqDiff, Nat.reduceLT, Nat.reduceLeDiff, Nat.reduceAdd, Nat.reduceSub, Nat.reduceMul, Nat.reduceDiv, Nat.reduceMod, Nat.reduceBEq, Int.reduceEq, Int.reduceLT, Int.reduceLE, Int.reduceNeg, Int.reduceToNat, reduceCtorEq]; with_reducible rfl) (by simp only [go_sem, ↓reduceIte, reduceIte, Nat.reduceEqDiff, Nat.reduceLT, Nat.reduceLeDiff, Nat.reduceAdd, Nat.reduceSub, Nat.reduceMul, Nat.reduceDiv, Nat.reduceMod, Nat.reduceBEq, Int.reduceEq, Int.reduceLT, Int.reduceLE, Int.reduceNeg, Int.reduceToNat, reduceCtorEq]; with_reducible rfl) (by simp only [go_sem, ↓reduceIte, reduceIte, Nat.reduceEqDiff, Nat.reduceLT, Nat.reduceLeDiff, Nat.reduceAdd, Nat.reduceSub, Nat.reduceMul, Nat.reduceDiv, Nat.reduceMod, Nat.reduceBEq, Int.reduceEq, Int.reduceLT, Int.reduceLE, Int.reduceNeg, Int.reduceToNat, reduceCtorEq]; with_reducible rfl), 0, rfl, rfl, Nat.zero_le _, fun j hj => by omega⟩ ?_
      rintro k st ⟨l, rfl, rfl, hl, hA⟩
      by_cases hlt : l < n
      · obtain ⟨u, hu⟩ : ∃ u, rs[l]! = u := ⟨_, rfl⟩
        obtain ⟨v, hv⟩ : ∃ v, rt[l]! = v := ⟨_, rfl⟩
        have hnu : nx next s l = u := by unfold nx; rw [s3, getD_lt (by omega), ← hu, getElem!_pos rs l (by omega)]
        have hnv : nx next t l = v := by unfold nx; rw [t3, getD_lt (by omega), ← hv, getElem!_pos rt l (by omega)]
        have hu2 : 0 ≤ u ∧ u < (m : Int) := by rw [← hu, getElem!_pos rs l (by omega)]; exact hR.ok _ s2 _ (List.getElem_mem (by omega))
        have hv2 : 0 ≤ v ∧ v < (m : Int) := by rw [← hv, getElem!_pos rt l (by omega)]; exact hR.ok _ t2 _ (List.getElem_mem (by omega))
        obtain ⟨c, hcu⟩ : ∃ c, cls[u.toNat]! = c := ⟨_, rfl⟩
        obtain ⟨d, hcv⟩ : ∃ d, cls[v.toNat]! = d := ⟨_, rfl⟩
        have hcu2 : clf cls u = c := by rw [← clf_at hu2.1 (by omega), hcu]
        have hcv2 : clf cls v = d := by rw [← clf_at hv2.1 (by omega), hcv]
        by_cases h3 : c = d
        · repeat' (first | (with_reducible first | refine SW_seq ?_ | refine SW_block ?_ | refine SThen_n ?_ | refine SThen_r ?_ | refine SThen_e ?_ | refine SIn_n ?_ | refine SIn_r ?_ | refine SIn_eq ?_ | refine SW_skip ?_ | refine SW_exit ?_ | refine SW_ret ?_ | refine SPost_r ?_) | ((with_reducible refine SIn_ne ?_ ?_); focus decide) | ((with_reducible refine SW_true ?_ ?_); focus exact rfl) | ((with_reducible refine SW_false ?_ ?_); focus exact rfl) | ((first | (with_reducible apply SW_run tt_ok hG htb) | ((with_reducible apply SW_draw rfl tt_ok hG htb); (focus kernel_rfl); (focus (simp only [List.range, List.range.loop, List.size_toArray, List.length_cons, List.length_nil, Nat.reduceAdd])))); focus ((repeat' (first | (with_reducible exact runX_nil) | (with_reducible exact runI_nil) | ((first | (with_reducible apply runX_cons) | (with_reducible apply runI_cons)); focus (simp (discharger := omega) only [go_sem, hrs, hrt, hu, hv, hcu, hcv, ↓reduceIte, reduceIte, Nat.reduceEqDiff, Nat.reduceLT, Nat.reduceLeDiff, Nat.reduceAdd, Nat.reduceSub, Nat.reduceMul, Nat.reduceDiv, Nat.reduceMod, Nat.reduceBEq, Int.reduceEq, Int.reduceLT, Int.reduceLE, Int.reduceNeg, Int.reduceToNat, reduceCtorEq]; with_reducible rfl)))); done)))
          exact ⟨n - (l + 1), _, by omega, Norm.headS (own := []) (keep := [0, 2, 3, 4, 11]) (by simp (discharger := omega) only [go_sem, ↓reduceIte, reduceIte, Nat.reduceEqDiff, Nat.reduceLT, Nat.reduceLeDiff, Nat.reduceAdd, Nat.reduceSub, Nat.reduceMul, Nat.reduceDiv, Nat.reduceMod, Nat.reduceBEq, Int.reduceEq, Int.reduceLT, Int.reduceLE, Int.reduceNeg, Int.reduceToNat, reduceCtorEq]; with_reducible rfl) (by simp only [go_sem, ↓reduceIte, reduceIte, Nat.reduceEqDiff, Nat.reduceLT, Nat.reduceLeDiff, Nat.reduceAdd, Nat.reduceSub, Nat.reduceMul, Nat.reduceDiv, Nat.reduceMod, Nat.reduceBEq, Int.reduceEq, Int.reduceLT, Int.reduceLE, Int.reduceNeg, Int.reduceToNat, reduceCtorEq]; with_reducible rfl) (by simp only [go_sem, ↓reduceIte, reduceIte, Nat.reduceEqDiff, Nat.reduceLT, Nat.reduceLeDiff, Nat.reduceAdd, Nat.reduceSub, Nat.reduceMul, Nat.reduceDiv, Nat.reduceMod, Nat.reduceBEq, Int.reduceEq, Int.reduceLT, Int.reduceLE, Int.reduceNeg, Int.reduceToNat, reduceCtorEq]; with_reducible rfl) (by simp only [go_sem, ↓reduceIte, reduceIte, Nat.reduceEqDiff, Nat.reduceLT, Nat.reduceLeDiff, Nat.reduceAdd, Nat.reduceSub, Nat.reduceMul, Nat.reduceDiv, Nat.reduceMod, Nat.reduceBEq, Int.reduceEq, Int.reduceLT, Int.reduceLE, Int.reduceNeg, Int.reduceToNat, reduceCtorEq]; with_reducible rfl) (by simp only [go_sem, ↓reduceIte, reduceIte, Nat.reduceEqDiff, Nat.reduceLT, Nat.reduceLeDiff, Nat.reduceAdd, Nat.reduceSub, Nat.reduceMul, Nat.reduceDiv, Nat.reduceMod, Nat.reduceBEq, Int.reduceEq, Int.reduceLT, Int.reduceLE, Int.reduceNeg, Int.reduceToNat, reduceCtorEq]; with_reducible rfl), l + 1, rfl, rfl, by omega, fun j hj => by
            by_cases e : j = l
            · subst e; rw [hnu, hnv, hcu2, hcv2, h3]
            · exact hA j (by omega)⟩
        · rw [decide_eq_false (fun e => h3 (by have := range_same.1 e.2.2 l hlt; rwa [hnu, hnv, hcu2, hcv2] at this))]
          repeat' (first | (with_reducible first | refine SW_seq ?_ | refine SW_block ?_ | refine SThen_n ?_ | refine SThen_r ?_ | refine SThen_e ?_ | refine SIn_n ?_ | refine SIn_r ?_ | refine SIn_eq ?_ | refine SW_skip ?_ | refine SW_exit ?_ | refine SW_ret ?_ | refine SPost_r ?_) | ((with_reducible refine SIn_ne ?_ ?_); focus decide) | ((with_reducible refine SW_true ?_ ?_); focus exact rfl) | ((with_reducible refine SW_false ?_ ?_); focus exact rfl) | ((first | (with_reducible apply SW_run tt_ok hG htb) | ((with_reducible apply SW_draw rfl tt_ok hG htb); (focus kernel_rfl); (focus (simp only [List.range, List.range.loop, List.size_toArray, List.length_cons, List.length_nil, Nat.reduceAdd])))); focus ((repeat' (first | (with_reducible exact runX_nil) | (with_reducible exact runI_nil) | ((first | (with_reducible apply runX_cons) | (with_reducible apply runI_cons)); focus (simp (discharger := omega) only [go_sem, hrs, hrt, hu, hv, hcu, hcv, ↓reduceIte, reduceIte, Nat.reduceEqDiff, Nat.reduceLT, Nat.reduceLeDiff, Nat.reduceAdd, Nat.reduceSub, Nat.reduceMul, Nat.reduceDiv, Nat.reduceMod, Nat.reduceBEq, Int.reduceEq, Int.reduceLT, Int.reduceLE, Int.reduceNeg, Int.reduceToNat, reduceCtorEq]; with_reducible rfl)))); done)))
          exact (by simp (discharger := omega) only [go_sem, ↓reduceIte, reduceIte, Nat.reduceEqDiff, Nat.reduceLT, Nat.reduceLeDiff, Nat.reduceAdd, Nat.reduceSub, Nat.reduceMul, Nat.reduceDiv, Nat.reduceMod, Nat.reduceBEq, Int.reduceEq, Int.reduceLT, Int.reduceLE, Int.reduceNeg, Int.reduceToNat, reduceCtorEq])
      · obtain rfl : l = n := by omega
        rw [decide_eq_true ⟨h1, h2, range_same.2 hA⟩]
        repeat' (first | (with_reducible first | refine SW_seq ?_ | refine SW_block ?_ | refine SThen_n ?_ | refine SThen_r ?_ | refine SThen_e ?_ | refine SIn_n ?_ | refine SIn_r ?_ | refine SIn_eq ?_ | refine SW_skip ?_ | refine SW_exit ?_ | refine SW_ret ?_ | refine SPost_r ?_) | ((with_reducible refine SIn_ne ?_ ?_); focus decide) | ((with_reducible refine SW_true ?_ ?_); focus exact rfl) | ((with_reducible refine SW_false ?_ ?_); focus exact rfl) | ((first | (with_reducible apply SW_run tt_ok hG htb) | ((with_reducible apply SW_draw rfl tt_ok hG htb); (focus kernel_rfl); (focus (simp only [List.range, List.range.loop, List.size_toArray, List.length_cons, List.length_nil, Nat.reduceAdd])))); focus ((repeat' (first | (with_reducible exact runX_nil) | (with_reducible exact runI_nil) | ((first | (with_reducible apply runX_cons) | (with_reducible apply runI_cons)); focus (simp (discharger := omega) only [go_sem, hrs, ↓reduceIte, reduceIte, Nat.reduceEqDiff, Nat.reduceLT, Nat.reduceLeDiff, Nat.reduceAdd, Nat.reduceSub, Nat.reduceMul, Nat.reduceDiv, Nat.reduceMod, Nat.reduceBEq, Int.reduceEq, Int.reduceLT, Int.reduceLE, Int.reduceNeg, Int.reduceToNat, reduceCtorEq]; with_reducible rfl)))); done)))
        exact (by simp (discharger := omega) only [go_sem, ↓reduceIte, reduceIte, Nat.reduceEqDiff, Nat.reduceLT, Nat.reduceLeDiff, Nat.reduceAdd, Nat.reduceSub, Nat.reduceMul, Nat.reduceDiv, Nat.reduceMod, Nat.reduceBEq, Int.reduceEq, Int.reduceLT, Int.reduceLE, Int.reduceNeg, Int.reduceToNat, reduceCtorEq])
    · have hb2 : ¬ ((cls[s.toNat]! : Nat) : Int) = ((cls[t.toNat]! : Nat) : Int) := by rw [hcs, hct]; omega
      rw [decide_eq_false (fun e => h2 e.2.1)]
      repeat' (first | (with_reducible first | refine SW_seq ?_ | refine SW_block ?_ | refine SThen_n ?_ | refine SThen_r ?_ | refine SThen_e ?_ | refine SIn_n ?_ | refine SIn_r ?_ | refine SIn_eq ?_ | refine SW_skip ?_ | refine SW_exit ?_ | refine SW_ret ?_ | refine SPost_r ?_) | ((with_reducible refine SIn_ne ?_ ?_); focus decide) | ((with_reducible refine SW_true ?_ ?_); focus exact rfl) | ((with_reducible refine SW_false ?_ ?_); focus exact rfl) | ((first | (with_reducible apply SW_run tt_ok hG htb) | ((with_reducible apply SW_draw rfl tt_ok hG htb); (focus kernel_rfl); (focus (simp only [List.range, List.range.loop, List.size_toArray, List.length_cons, List.length_nil, Nat.reduceAdd])))); focus ((repeat' (first | (with_reducible exact runX_nil) | (with_reducible exact runI_nil) | ((first | (with_reducible apply runX_cons) | (with_reducible apply runI_cons)); focus (simp (discharger := omega) only [go_sem, hb, hb2, ↓reduceIte, reduceIte, Nat.reduceEqDiff, Nat.reduceLT, Nat.reduceLeDiff, Nat.reduceAdd, Nat.reduceSub, Nat.reduceMul, Nat.reduceDiv, Nat.reduceMod, Nat.reduceBEq, Int.reduceEq, Int.reduceLT, Int.reduceLE, Int.reduceNeg, Int.reduceToNat, reduceCtorEq]; with_reducible rfl)))); done)))
      exact (by simp (discharger := omega) only [go_sem, ↓reduceIte, reduceIte, Nat.reduceEqDiff, Nat.reduceLT, Nat.reduceLeDiff, Nat.reduceAdd, Nat.reduceSub, Nat.reduceMul, Nat.reduceDiv, Nat.reduceMod, Nat.reduceBEq, Int.reduceEq, Int.reduceLT, Int.reduceLE, Int.reduceNeg, Int.reduceToNat, reduceCtorEq])
  · have hb : (ends[s.toNat]! == ends[t.toNat]!) = false := by rw [hes, het]; simpa using h1
    rw [decide_eq_false (fun e => h1 e.1)]
    repeat' (first | (with_reducible first | refine SW_seq ?_ | refine SW_block ?_ | refine SThen_n ?_ | refine SThen_r ?_ | refine SThen_e ?_ | refine SIn_n ?_ | refine SIn_r ?_ | refine SIn_eq ?_ | refine SW_skip ?_ | refine SW_exit ?_ | refine SW_ret ?_ | refine SPost_r ?_) | ((with_reducible refine SIn_ne ?_ ?_); focus decide) | ((with_reducible refine SW_true ?_ ?_); focus exact rfl) | ((with_reducible refine SW_false ?_ ?_); focus exact rfl) | ((first | (with_reducible apply SW_run tt_ok hG htb) | ((with_reducible apply SW_draw rfl tt_ok hG htb); (focus kernel_rfl); (focus (simp only [List.range, List.range.loop, List.size_toArray, List.length_cons, List.length_nil, Nat.reduceAdd])))); focus ((repeat' (first | (with_reducible exact runX_nil) | (with_reducible exact runI_nil) | ((first | (with_reducible apply runX_cons) | (with_reducible apply runI_cons)); focus (simp (discharger := omega) only [go_sem, hb, ↓reduceIte, reduceIte, Nat.reduceEqDiff, Nat.reduceLT, Nat.reduceLeDiff, Nat.reduceAdd, Nat.reduceSub, Nat.reduceMul, Nat.reduceDiv, Nat.reduceMod, Nat.reduceBEq, Int.reduceEq, Int.reduceLT, Int.reduceLE, Int.reduceNeg, Int.reduceToNat, reduceCtorEq]; with_reducible rfl)))); done)))
    exact (by simp (discharger := omega) only [go_sem, ↓reduceIte, reduceIte, Nat.reduceEqDiff, Nat.reduceLT, Nat.reduceLeDiff, Nat.reduceAdd, Nat.reduceSub, Nat.reduceMul, Nat.reduceDiv, Nat.reduceMod, Nat.reduceBEq, Int.reduceEq, Int.reduceLT, Int.reduceLE, Int.reduceNeg, Int.reduceToNat, reduceCtorEq])
end
end Go.Proofs.YtfhncnhkeodngaaDoor
namespace Go.Proofs.YtfhncnhkeodngaaDoor
open Go.RowKit

/-- What a state looks like to the reference. -/
def kap (next : List (List Int)) (ends : List Bool) (n : Nat) (cl : Int → Nat) (s : Int) : Bool × Nat × List Nat := (endOf ends s, cl s, (List.range n).map fun l => cl (nx next s l))
theorem likesB_iff {next : List (List Int)} {ends : List Bool} {n : Nat} {cl : Int → Nat} {s t : Int} : likesB next ends n cl s t = true ↔ kap next ends n cl s = kap next ends n cl t := by
  simp [likesB, kap]
theorem kap_looks (next : List (List Int)) (ends : List Bool) (n : Nat) (out : List Int) (cl : Int → Nat) : Looks next ends n out cl (kap next ends n cl) := by
  refine ⟨fun s t _ _ h => ?_, fun s t _ _ h l hl => ?_, fun s t _ _ h => ?_, fun s t _ _ h1 h2 h3 => ?_⟩
  · simp only [kap, Prod.mk.injEq] at h; exact h.2.1
  · simp only [kap, Prod.mk.injEq] at h; exact range_same.1 h.2.2 l hl
  · simp only [kap, Prod.mk.injEq] at h; exact h.1
  · simp only [kap, Prod.mk.injEq]; exact ⟨h1, h2, range_same.2 h3⟩
section
variable {G : World → Prop} (hG : Lasting G)
include hG
set_option maxHeartbeats 4000000 in
set_option maxRecDepth 100000 in
theorem Shrunk_snd (base tracks : Int) {n m : Nat} {next : List (List Int)} {ends : List Bool} (hR : Rows0 n m next) (hm : 0 < m) (hm2 : m ≤ 2000000) (he : ends.length = m) (hn : n ≤ 1000) :
    Snd Tryd.prog G 94 [tInt base, tInt tracks, tIntss next, tBools ends] (shrinkT base tracks n next ends) := by
  have htb := Tab.cons (RMet_snd (G := G) hG hR hm hm2 hn) Tab.nil
  have hlen := hR.len
  have hmo := met_ok hR hm
  have hbf := met_bfs hR hm
  have hol := hmo.len
  generalize met next = out at htb hmo hbf hol
  refine snd_of_body (n := 135) (tm := [(0, .t (tInt base)), (1, .t (tInt tracks)), (2, .t (tIntss next)), (3, .t (tBools ends))]) (rs := [.cell 8 51, .tmp 9]) tt_ok Tryd.func94 rfl rfl rfl rfl rfl ?_
  repeat' (first | (with_reducible first | refine SW_seq ?_ | refine SW_block ?_ | refine SThen_n ?_ | refine SThen_r ?_ | refine SThen_e ?_ | refine SIn_n ?_ | refine SIn_r ?_ | refine SIn_eq ?_ | refine SW_skip ?_ | refine SW_exit ?_ | refine SW_ret ?_ | refine SPost_r ?_) | ((with_reducible refine SIn_ne ?_ ?_); focus decide) | ((with_reducible refine SW_true ?_ ?_); focus exact rfl) | ((with_reducible refine SW_false ?_ ?_); focus exact rfl) | ((first | (with_reducible apply SW_run tt_ok hG htb) | ((with_reducible apply SW_draw rfl tt_ok hG htb); (focus kernel_rfl); (focus (simp only [List.range, List.range.loop, List.size_toArray, List.length_cons, List.length_nil, Nat.reduceAdd])))); focus ((repeat' (first | (with_reducible exact runX_nil) | (with_reducible exact runI_nil) | ((first | (with_reducible apply runX_cons) | (with_reducible apply runI_cons)); focus (simp (discharger := omega) only [go_sem, ↓reduceIte, reduceIte, Nat.reduceEqDiff, Nat.reduceLT, Nat.reduceLeDiff, Nat.reduceAdd, Nat.reduceSub, Nat.reduceMul, Nat.reduceDiv, Nat.reduceMod, Nat.reduceBEq, Int.reduceEq, Int.reduceLT, Int.reduceLE, Int.reduceNeg, Int.reduceToNat, reduceCtorEq]; with_reducible rfl)))); done)))
  refine SW_loop (fun k s => ∃ (many : Nat) (cls : List Nat), k = m + 1 - many ∧ s = ⟨135, [(0, .t (tInt base)), (1, .t (tInt tracks)), (2, .t (tIntss next)), (3, .t (tBools ends)), (8, .bptr 0 0), (10, .t (tInts out)), (11, .sref 1), (12, .t (tNat many))], [.box [.t (tInt 0), .t (tInt 0), .nil, .nil], .row 3 1 false (cls.map tNat)]⟩ ∧ cls.length = m ∧ many ≤ m ∧ RInv next ends n out (clf cls) many) (m + 1)
    ⟨_, Norm.headS (own := [(11, 3, 1, false)]) (keep := [0, 1, 2, 3, 8, 10, 11, 12]) (by simp (discharger := omega) only [go_sem, ↓reduceIte, reduceIte, Nat.reduceEqDiff, Nat.reduceLT, Nat.reduceLeDiff, Nat.reduceAdd, Nat.reduceSub, Nat.reduceMul, Nat.reduceDiv, Nat.reduceMod, Nat.reduceBEq, Int.reduceEq, Int.reduceLT, Int.reduceLE, Int.reduceNeg, Int.reduceToNat, reduceCtorEq]; with_reducible rfl) (by simp only [go_sem, ↓reduceIte, reduceIte, Nat.reduceEqDiff, Nat.reduceLT, Nat.reduceLeDiff, Nat.reduceAdd, Nat.reduceSub, Nat.reduceMul, Nat.reduceDiv, Nat.reduceMod, Nat.reduceBEq, Int.reduceEq, Int.reduceLT, Int.reduceLE, Int.reduceNeg, Int.reduceToNat, reduceCtorEq]; with_reducible rfl) (by simp only [go_sem, ↓reduceIte, reduceIte, Nat.reduceEqDiff, Nat.reduceLT, Nat.reduceLeDiff, Nat.reduceAdd, Nat.reduceSub, Nat.reduceMul, Nat.reduceDiv, Nat.reduceMod, Nat.reduceBEq, Int.reduceEq, Int.reduceLT, Int.reduceLE, Int.reduceNeg, Int.reduceToNat, reduceCtorEq]; with_reducible rfl) (by simp only [go_sem, ↓reduceIte, reduceIte, Nat.reduceEqDiff, Nat.reduceLT, Nat.reduceLeDiff, Nat.reduceAdd, Nat.reduceSub, Nat.reduceMul, Nat.reduceDiv, Nat.reduceMod, Nat.reduceBEq, Int.reduceEq, Int.reduceLT, Int.reduceLE, Int.reduceNeg, Int.reduceToNat, reduceCtorEq]; with_reducible rfl) (by simp only [go_sem, ↓reduceIte, reduceIte, Nat.reduceEqDiff, Nat.reduceLT, Nat.reduceLeDiff, Nat.reduceAdd, Nat.reduceSub, Nat.reduceMul, Nat.reduceDiv, Nat.reduceMod, Nat.reduceBEq, Int.reduceEq, Int.reduceLT, Int.reduceLE, Int.reduceNeg, Int.reduceToNat, reduceCtorEq]; with_reducible rfl), 0, List.replicate m 0, rfl, by rw [List.map_replicate, hlen]; rfl, by simp, Nat.zero_le _, RInv.start fun s t hs ht e => by
      have h1 := hmo.ok s hs
      have h2 := hmo.ok t ht
      unfold clf
      rw [if_pos h1.1, if_pos h2.1, getD_lt (by simp; omega), getD_lt (by simp; omega)]; simp⟩ ?_
  clear htb
  have htb : Tab.ok Tryd.prog G [] := Tab.nil
  rintro k s ⟨many, cls, rfl, rfl, hcl, hmany, hinv⟩
  have hlook := kap_looks next ends n out (clf cls)
  repeat' (first | (with_reducible first | refine SW_seq ?_ | refine SW_block ?_ | refine SThen_n ?_ | refine SThen_r ?_ | refine SThen_e ?_ | refine SIn_n ?_ | refine SIn_r ?_ | refine SIn_eq ?_ | refine SW_skip ?_ | refine SW_exit ?_ | refine SW_ret ?_ | refine SPost_r ?_) | ((with_reducible refine SIn_ne ?_ ?_); focus decide) | ((with_reducible refine SW_true ?_ ?_); focus exact rfl) | ((with_reducible refine SW_false ?_ ?_); focus exact rfl) | ((first | (with_reducible apply SW_run tt_ok hG htb) | ((with_reducible apply SW_draw rfl tt_ok hG htb); (focus kernel_rfl); (focus (simp only [List.range, List.range.loop, List.size_toArray, List.length_cons, List.length_nil, Nat.reduceAdd])))); focus ((repeat' (first | (with_reducible exact runX_nil) | (with_reducible exact runI_nil) | ((first | (with_reducible apply runX_cons) | (with_reducible apply runI_cons)); focus (simp (discharger := omega) only [go_sem, ↓reduceIte, reduceIte, Nat.reduceEqDiff, Nat.reduceLT, Nat.reduceLeDiff, Nat.reduceAdd, Nat.reduceSub, Nat.reduceMul, Nat.reduceDiv, Nat.reduceMod, Nat.reduceBEq, Int.reduceEq, Int.reduceLT, Int.reduceLE, Int.reduceNeg, Int.reduceToNat, reduceCtorEq]; with_reducible rfl)))); done)))
  refine SW_loop (fun k s => ∃ (i : Nat) (frs : List Nat) (R : List Int), k = m - i ∧ s = ⟨135, [(0, .t (tInt base)), (1, .t (tInt tracks)), (2, .t (tIntss next)), (3, .t (tBools ends)), (8, .bptr 0 0), (10, .t (tInts out)), (11, .sref 1), (12, .t (tNat many)), (13, .sref 2), (14, .sref 3), (15, .t (tInt i))], [.box [.t (tInt 0), .t (tInt 0), .nil, .nil], .row 3 1 false (cls.map tNat), .row 3 1 false (R.map tInt), .row 3 1 true (frs.map tNat)]⟩ ∧ frs.length = m ∧ i ≤ out.length ∧ R.length ≤ 80 ∧ Numd (out.take i) (kap next ends n (clf cls)) (clf frs) R) m
    ⟨_, Norm.headS (own := [(11, 3, 1, false), (13, 3, 1, false), (14, 3, 1, true)]) (keep := [0, 1, 2, 3, 8, 10, 11, 12, 13, 14, 15]) (by simp (discharger := omega) only [go_sem, ↓reduceIte, reduceIte, Nat.reduceEqDiff, Nat.reduceLT, Nat.reduceLeDiff, Nat.reduceAdd, Nat.reduceSub, Nat.reduceMul, Nat.reduceDiv, Nat.reduceMod, Nat.reduceBEq, Int.reduceEq, Int.reduceLT, Int.reduceLE, Int.reduceNeg, Int.reduceToNat, reduceCtorEq]; with_reducible rfl) (by simp only [go_sem, ↓reduceIte, reduceIte, Nat.reduceEqDiff, Nat.reduceLT, Nat.reduceLeDiff, Nat.reduceAdd, Nat.reduceSub, Nat.reduceMul, Nat.reduceDiv, Nat.reduceMod, Nat.reduceBEq, Int.reduceEq, Int.reduceLT, Int.reduceLE, Int.reduceNeg, Int.reduceToNat, reduceCtorEq]; with_reducible rfl) (by simp only [go_sem, ↓reduceIte, reduceIte, Nat.reduceEqDiff, Nat.reduceLT, Nat.reduceLeDiff, Nat.reduceAdd, Nat.reduceSub, Nat.reduceMul, Nat.reduceDiv, Nat.reduceMod, Nat.reduceBEq, Int.reduceEq, Int.reduceLT, Int.reduceLE, Int.reduceNeg, Int.reduceToNat, reduceCtorEq]; with_reducible rfl) (by simp only [go_sem, ↓reduceIte, reduceIte, Nat.reduceEqDiff, Nat.reduceLT, Nat.reduceLeDiff, Nat.reduceAdd, Nat.reduceSub, Nat.reduceMul, Nat.reduceDiv, Nat.reduceMod, Nat.reduceBEq, Int.reduceEq, Int.reduceLT, Int.reduceLE, Int.reduceNeg, Int.reduceToNat, reduceCtorEq]; with_reducible rfl) (by simp only [go_sem, ↓reduceIte, reduceIte, Nat.reduceEqDiff, Nat.reduceLT, Nat.reduceLeDiff, Nat.reduceAdd, Nat.reduceSub, Nat.reduceMul, Nat.reduceDiv, Nat.reduceMod, Nat.reduceBEq, Int.reduceEq, Int.reduceLT, Int.reduceLE, Int.reduceNeg, Int.reduceToNat, reduceCtorEq]; with_reducible rfl), 0, List.replicate m 0, [], rfl, by rw [List.map_replicate, hlen]; rfl, by simp, Nat.zero_le _, by simp, by rw [List.take_zero]; exact Numd.start _ _⟩ ?_
  rintro k s ⟨i, frs, R, rfl, rfl, hfl, hi, hR8, hN⟩
  have hRi : R.length ≤ i ∧ ∀ q ∈ R, 0 ≤ q ∧ q < (m : Int) := by
    refine ⟨?_, fun q hq => hmo.ok q (List.mem_of_mem_take (hN.mem hq))⟩
    have h1 : R.Nodup := (hN.distinct).imp fun {a b} h e => h (by rw [e])
    have h2 : (R.map fun q => ((out.take i).idxOf q)).length ≤ i := nodup_boundN i _ (by
      refine List.pairwise_map.2 (h1.imp_of_mem fun {a b} ha hb hne e => hne ?_)
      have e1 := List.getElem_idxOf (List.idxOf_lt_length_of_mem (hN.mem ha))
      have e2 := List.getElem_idxOf (List.idxOf_lt_length_of_mem (hN.mem hb))
      simp only [e] at e1
      exact e1.symm.trans e2) fun k hk => by
        obtain ⟨q, hq, rfl⟩ := List.mem_map.1 hk
        have := List.idxOf_lt_length_of_mem (hN.mem hq)
        simp at this; omega
    simpa using h2
  by_cases hlt : i < out.length
  · obtain ⟨r, hor⟩ : ∃ r, out[i]! = r := ⟨_, rfl⟩
    have hio : out[i]? = some r := by rw [← hor, getElem!_pos out i hlt]; exact List.getElem?_eq_getElem hlt
    have hrm : r ∈ out := List.mem_of_getElem? hio
    have hs : 0 ≤ r ∧ r < (m : Int) := hmo.ok _ hrm
    have hnr : r ∉ out.take i := fun hm => by
      obtain ⟨q, hq, e⟩ := List.mem_iff_getElem.1 hm
      simp only [List.getElem_take] at e
      rw [List.getElem?_eq_getElem hlt] at hio
      have := nodup_inj hmo.nd (by simp at hq; omega) hlt (e.trans (Option.some.inj hio).symm)
      simp at hq; omega
    have htk : out.take (i + 1) = out.take i ++ [r] := by
      rw [List.take_succ_eq_append_getElem hlt]
      rw [List.getElem?_eq_getElem hlt] at hio
      rw [Option.some.inj hio]
    repeat' (first | (with_reducible first | refine SW_seq ?_ | refine SW_block ?_ | refine SThen_n ?_ | refine SThen_r ?_ | refine SThen_e ?_ | refine SIn_n ?_ | refine SIn_r ?_ | refine SIn_eq ?_ | refine SW_skip ?_ | refine SW_exit ?_ | refine SW_ret ?_ | refine SPost_r ?_) | ((with_reducible refine SIn_ne ?_ ?_); focus decide) | ((with_reducible refine SW_true ?_ ?_); focus exact rfl) | ((with_reducible refine SW_false ?_ ?_); focus exact rfl) | ((first | (with_reducible apply SW_run tt_ok hG htb) | ((with_reducible apply SW_draw rfl tt_ok hG htb); (focus kernel_rfl); (focus (simp only [List.range, List.range.loop, List.size_toArray, List.length_cons, List.length_nil, Nat.reduceAdd])))); focus ((repeat' (first | (with_reducible exact runX_nil) | (with_reducible exact runI_nil) | ((first | (with_reducible apply runX_cons) | (with_reducible apply runI_cons)); focus (simp (discharger := omega) only [go_sem, hor, ↓reduceIte, reduceIte, Nat.reduceEqDiff, Nat.reduceLT, Nat.reduceLeDiff, Nat.reduceAdd, Nat.reduceSub, Nat.reduceMul, Nat.reduceDiv, Nat.reduceMod, Nat.reduceBEq, Int.reduceEq, Int.reduceLT, Int.reduceLE, Int.reduceNeg, Int.reduceToNat, reduceCtorEq]; with_reducible rfl)))); done)))
    refine SW_loop (fun k s => ∃ j : Nat, k = R.length - j ∧ s = ⟨135, [(0, .t (tInt base)), (1, .t (tInt tracks)), (2, .t (tIntss next)), (3, .t (tBools ends)), (8, .bptr 0 0), (10, .t (tInts out)), (11, .sref 1), (12, .t (tNat many)), (13, .sref 2), (14, .sref 3), (15, .t (tInt i)), (16, .t (tInt r)), (17, .t (tInt j))], [.box [.t (tInt 0), .t (tInt 0), .nil, .nil], .row 3 1 false (cls.map tNat), .row 3 1 false (R.map tInt), .row 3 1 true (frs.map tNat)]⟩ ∧ j ≤ R.length ∧ ∀ q, q < j → kap next ends n (clf cls) R[q]! ≠ kap next ends n (clf cls) r) R.length
      ⟨_, Norm.headS (own := [(11, 3, 1, false), (13, 3, 1, false), (14, 3, 1, true)]) (keep := [0, 1, 2, 3, 8, 10, 11, 12, 13, 14, 15, 16, 17]) (by simp (discharger := omega) only [go_sem, ↓reduceIte, reduceIte, Nat.reduceEqDiff, Nat.reduceLT, Nat.reduceLeDiff, Nat.reduceAdd, Nat.reduceSub, Nat.reduceMul, Nat.reduceDiv, Nat.reduceMod, Nat.reduceBEq, Int.reduceEq, Int.reduceLT, Int.reduceLE, Int.reduceNeg, Int.reduceToNat, reduceCtorEq]; with_reducible rfl) (by simp only [go_sem, ↓reduceIte, reduceIte, Nat.reduceEqDiff, Nat.reduceLT, Nat.reduceLeDiff, Nat.reduceAdd, Nat.reduceSub, Nat.reduceMul, Nat.reduceDiv, Nat.reduceMod, Nat.reduceBEq, Int.reduceEq, Int.reduceLT, Int.reduceLE, Int.reduceNeg, Int.reduceToNat, reduceCtorEq]; with_reducible rfl) (by simp only [go_sem, ↓reduceIte, reduceIte, Nat.reduceEqDiff, Nat.reduceLT, Nat.reduceLeDiff, Nat.reduceAdd, Nat.reduceSub, Nat.reduceMul, Nat.reduceDiv, Nat.reduceMod, Nat.reduceBEq, Int.reduceEq, Int.reduceLT, Int.reduceLE, Int.reduceNeg, Int.reduceToNat, reduceCtorEq]; with_reducible rfl) (by simp only [go_sem, ↓reduceIte, reduceIte, Nat.reduceEqDiff, Nat.reduceLT, Nat.reduceLeDiff, Nat.reduceAdd, Nat.reduceSub, Nat.reduceMul, Nat.reduceDiv, Nat.reduceMod, Nat.reduceBEq, Int.reduceEq, Int.reduceLT, Int.reduceLE, Int.reduceNeg, Int.reduceToNat, reduceCtorEq]; with_reducible rfl) (by simp only [go_sem, ↓reduceIte, reduceIte, Nat.reduceEqDiff, Nat.reduceLT, Nat.reduceLeDiff, Nat.reduceAdd, Nat.reduceSub, Nat.reduceMul, Nat.reduceDiv, Nat.reduceMod, Nat.reduceBEq, Int.reduceEq, Int.reduceLT, Int.reduceLE, Int.reduceNeg, Int.reduceToNat, reduceCtorEq]; with_reducible rfl), 0, rfl, rfl, Nat.zero_le _, fun q hq => by omega⟩ ?_
    rintro k s ⟨j, rfl, rfl, hj, hA⟩
    by_cases hlt2 : j < R.length
    · obtain ⟨q, hq⟩ : ∃ q, R[j]! = q := ⟨_, rfl⟩
      have hq2 : R[j]? = some q := by rw [← hq, getElem!_pos R j hlt2]; exact List.getElem?_eq_getElem hlt2
      have hqm := hRi.2 q (List.mem_of_getElem? hq2)
      have htb := Tab.cons (likes_snd (G := G) (cls := cls) (s := r) (t := q) hG hR he hcl hs hqm hn) Tab.nil
      by_cases hlk : likesB next ends n (clf cls) r q = true
      · rw [hlk] at htb
        obtain ⟨c1, c2⟩ := clf_set (cls := frs) (r := r) hs.1 (by omega) j
        repeat' (first | (with_reducible first | refine SW_seq ?_ | refine SW_block ?_ | refine SThen_n ?_ | refine SThen_r ?_ | refine SThen_e ?_ | refine SIn_n ?_ | refine SIn_r ?_ | refine SIn_eq ?_ | refine SW_skip ?_ | refine SW_exit ?_ | refine SW_ret ?_ | refine SPost_r ?_) | ((with_reducible refine SIn_ne ?_ ?_); focus decide) | ((with_reducible refine SW_true ?_ ?_); focus exact rfl) | ((with_reducible refine SW_false ?_ ?_); focus exact rfl) | ((first | (with_reducible apply SW_run tt_ok hG htb) | ((with_reducible apply SW_draw rfl tt_ok hG htb); (focus kernel_rfl); (focus (simp only [List.range, List.range.loop, List.size_toArray, List.length_cons, List.length_nil, Nat.reduceAdd])))); focus ((repeat' (first | (with_reducible exact runX_nil) | (with_reducible exact runI_nil) | ((first | (with_reducible apply runX_cons) | (with_reducible apply runI_cons)); focus (simp (discharger := omega) only [go_sem, hq, ↓reduceIte, reduceIte, Nat.reduceEqDiff, Nat.reduceLT, Nat.reduceLeDiff, Nat.reduceAdd, Nat.reduceSub, Nat.reduceMul, Nat.reduceDiv, Nat.reduceMod, Nat.reduceBEq, Int.reduceEq, Int.reduceLT, Int.reduceLE, Int.reduceNeg, Int.reduceToNat, reduceCtorEq]; with_reducible rfl)))); done)))
        exact ⟨m - (i + 1), _, by omega, Norm.headS (own := [(11, 3, 1, false), (13, 3, 1, false), (14, 3, 1, true)]) (keep := [0, 1, 2, 3, 8, 10, 11, 12, 13, 14, 15]) (by simp (discharger := omega) only [go_sem, ↓reduceIte, reduceIte, Nat.reduceEqDiff, Nat.reduceLT, Nat.reduceLeDiff, Nat.reduceAdd, Nat.reduceSub, Nat.reduceMul, Nat.reduceDiv, Nat.reduceMod, Nat.reduceBEq, Int.reduceEq, Int.reduceLT, Int.reduceLE, Int.reduceNeg, Int.reduceToNat, reduceCtorEq]; with_reducible rfl) (by simp only [go_sem, ↓reduceIte, reduceIte, Nat.reduceEqDiff, Nat.reduceLT, Nat.reduceLeDiff, Nat.reduceAdd, Nat.reduceSub, Nat.reduceMul, Nat.reduceDiv, Nat.reduceMod, Nat.reduceBEq, Int.reduceEq, Int.reduceLT, Int.reduceLE, Int.reduceNeg, Int.reduceToNat, reduceCtorEq]; with_reducible rfl) (by simp only [go_sem, ↓reduceIte, reduceIte, Nat.reduceEqDiff, Nat.reduceLT, Nat.reduceLeDiff, Nat.reduceAdd, Nat.reduceSub, Nat.reduceMul, Nat.reduceDiv, Nat.reduceMod, Nat.reduceBEq, Int.reduceEq, Int.reduceLT, Int.reduceLE, Int.reduceNeg, Int.reduceToNat, reduceCtorEq]; with_reducible rfl) (by simp only [go_sem, ↓reduceIte, reduceIte, Nat.reduceEqDiff, Nat.reduceLT, Nat.reduceLeDiff, Nat.reduceAdd, Nat.reduceSub, Nat.reduceMul, Nat.reduceDiv, Nat.reduceMod, Nat.reduceBEq, Int.reduceEq, Int.reduceLT, Int.reduceLE, Int.reduceNeg, Int.reduceToNat, reduceCtorEq]; with_reducible rfl) (by simp only [go_sem, ↓reduceIte, reduceIte, Nat.reduceEqDiff, Nat.reduceLT, Nat.reduceLeDiff, Nat.reduceAdd, Nat.reduceSub, Nat.reduceMul, Nat.reduceDiv, Nat.reduceMod, Nat.reduceBEq, Int.reduceEq, Int.reduceLT, Int.reduceLE, Int.reduceNeg, Int.reduceToNat, reduceCtorEq]; with_reducible rfl), i + 1, frs.set r.toNat j, R, rfl, by rw [List.map_set]; rfl, by simpa using hfl, by omega, hR8, by rw [htk]; exact hN.old hnr hq2 (likesB_iff.1 hlk).symm c2 c1⟩
      · have hlk2 : likesB next ends n (clf cls) r q = false := by simpa using hlk
        rw [hlk2] at htb
        repeat' (first | (with_reducible first | refine SW_seq ?_ | refine SW_block ?_ | refine SThen_n ?_ | refine SThen_r ?_ | refine SThen_e ?_ | refine SIn_n ?_ | refine SIn_r ?_ | refine SIn_eq ?_ | refine SW_skip ?_ | refine SW_exit ?_ | refine SW_ret ?_ | refine SPost_r ?_) | ((with_reducible refine SIn_ne ?_ ?_); focus decide) | ((with_reducible refine SW_true ?_ ?_); focus exact rfl) | ((with_reducible refine SW_false ?_ ?_); focus exact rfl) | ((first | (with_reducible apply SW_run tt_ok hG htb) | ((with_reducible apply SW_draw rfl tt_ok hG htb); (focus kernel_rfl); (focus (simp only [List.range, List.range.loop, List.size_toArray, List.length_cons, List.length_nil, Nat.reduceAdd])))); focus ((repeat' (first | (with_reducible exact runX_nil) | (with_reducible exact runI_nil) | ((first | (with_reducible apply runX_cons) | (with_reducible apply runI_cons)); focus (simp (discharger := omega) only [go_sem, hq, ↓reduceIte, reduceIte, Nat.reduceEqDiff, Nat.reduceLT, Nat.reduceLeDiff, Nat.reduceAdd, Nat.reduceSub, Nat.reduceMul, Nat.reduceDiv, Nat.reduceMod, Nat.reduceBEq, Int.reduceEq, Int.reduceLT, Int.reduceLE, Int.reduceNeg, Int.reduceToNat, reduceCtorEq]; with_reducible rfl)))); done)))
        exact ⟨R.length - (j + 1), _, by omega, Norm.headS (own := [(11, 3, 1, false), (13, 3, 1, false), (14, 3, 1, true)]) (keep := [0, 1, 2, 3, 8, 10, 11, 12, 13, 14, 15, 16, 17]) (by simp (discharger := omega) only [go_sem, ↓reduceIte, reduceIte, Nat.reduceEqDiff, Nat.reduceLT, Nat.reduceLeDiff, Nat.reduceAdd, Nat.reduceSub, Nat.reduceMul, Nat.reduceDiv, Nat.reduceMod, Nat.reduceBEq, Int.reduceEq, Int.reduceLT, Int.reduceLE, Int.reduceNeg, Int.reduceToNat, reduceCtorEq]; with_reducible rfl) (by simp only [go_sem, ↓reduceIte, reduceIte, Nat.reduceEqDiff, Nat.reduceLT, Nat.reduceLeDiff, Nat.reduceAdd, Nat.reduceSub, Nat.reduceMul, Nat.reduceDiv, Nat.reduceMod, Nat.reduceBEq, Int.reduceEq, Int.reduceLT, Int.reduceLE, Int.reduceNeg, Int.reduceToNat, reduceCtorEq]; with_reducible rfl) (by simp only [go_sem, ↓reduceIte, reduceIte, Nat.reduceEqDiff, Nat.reduceLT, Nat.reduceLeDiff, Nat.reduceAdd, Nat.reduceSub, Nat.reduceMul, Nat.reduceDiv, Nat.reduceMod, Nat.reduceBEq, Int.reduceEq, Int.reduceLT, Int.reduceLE, Int.reduceNeg, Int.reduceToNat, reduceCtorEq]; with_reducible rfl) (by simp only [go_sem, ↓reduceIte, reduceIte, Nat.reduceEqDiff, Nat.reduceLT, Nat.reduceLeDiff, Nat.reduceAdd, Nat.reduceSub, Nat.reduceMul, Nat.reduceDiv, Nat.reduceMod, Nat.reduceBEq, Int.reduceEq, Int.reduceLT, Int.reduceLE, Int.reduceNeg, Int.reduceToNat, reduceCtorEq]; with_reducible rfl) (by simp only [go_sem, ↓reduceIte, reduceIte, Nat.reduceEqDiff, Nat.reduceLT, Nat.reduceLeDiff, Nat.reduceAdd, Nat.reduceSub, Nat.reduceMul, Nat.reduceDiv, Nat.reduceMod, Nat.reduceBEq, Int.reduceEq, Int.reduceLT, Int.reduceLE, Int.reduceNeg, Int.reduceToNat, reduceCtorEq]; with_reducible rfl), j + 1, rfl, rfl, by omega, fun p hp => by
          by_cases e : p = j
          · subst e; rw [hq]; exact fun e => hlk (likesB_iff.2 e.symm)
          · exact hA p (by omega)⟩
    · have hjR : j = R.length := by omega
      subst hjR
      have hno : ∀ q ∈ R, kap next ends n (clf cls) q ≠ kap next ends n (clf cls) r := fun q hq => by
        obtain ⟨p, hp, e⟩ := List.mem_iff_getElem.1 hq
        have := hA p hp
        rwa [getElem!_pos R p hp, e] at this
      by_cases h80 : R.length = 80
      · have hT : shrinkT base tracks n next ends = .tup [tAuto GAuto.zero, .bool false] := by
          have h1 := hinv.bound hR hm hbf hlook (Q := R ++ [r]) (fun q hq => by
            rcases List.mem_append.1 hq with h | h
            · exact List.mem_of_mem_take (hN.mem h)
            · simp at h; subst h; exact hrm) (by
            rw [List.pairwise_append]
            refine ⟨hN.distinct, by simp, fun a ha b hb => ?_⟩
            simp at hb; subst hb; exact hno a ha)
          unfold shrinkT; rw [if_neg (by simp at h1; omega)]
        rw [hT]
        repeat' (first | (with_reducible first | refine SW_seq ?_ | refine SW_block ?_ | refine SThen_n ?_ | refine SThen_r ?_ | refine SThen_e ?_ | refine SIn_n ?_ | refine SIn_r ?_ | refine SIn_eq ?_ | refine SW_skip ?_ | refine SW_exit ?_ | refine SW_ret ?_ | refine SPost_r ?_) | ((with_reducible refine SIn_ne ?_ ?_); focus decide) | ((with_reducible refine SW_true ?_ ?_); focus exact rfl) | ((with_reducible refine SW_false ?_ ?_); focus exact rfl) | ((first | (with_reducible apply SW_run tt_ok hG htb) | ((with_reducible apply SW_draw rfl tt_ok hG htb); (focus kernel_rfl); (focus (simp only [List.range, List.range.loop, List.size_toArray, List.length_cons, List.length_nil, Nat.reduceAdd])))); focus ((repeat' (first | (with_reducible exact runX_nil) | (with_reducible exact runI_nil) | ((first | (with_reducible apply runX_cons) | (with_reducible apply runI_cons)); focus (simp (discharger := omega) only [go_sem, h80, ↓reduceIte, reduceIte, Nat.reduceEqDiff, Nat.reduceLT, Nat.reduceLeDiff, Nat.reduceAdd, Nat.reduceSub, Nat.reduceMul, Nat.reduceDiv, Nat.reduceMod, Nat.reduceBEq, Int.reduceEq, Int.reduceLT, Int.reduceLE, Int.reduceNeg, Int.reduceToNat, reduceCtorEq]; with_reducible rfl)))); done)))
        exact (by simp (discharger := omega) only [go_sem, tAuto, GAuto.zero, ↓reduceIte, reduceIte, Nat.reduceEqDiff, Nat.reduceLT, Nat.reduceLeDiff, Nat.reduceAdd, Nat.reduceSub, Nat.reduceMul, Nat.reduceDiv, Nat.reduceMod, Nat.reduceBEq, Int.reduceEq, Int.reduceLT, Int.reduceLE, Int.reduceNeg, Int.reduceToNat, reduceCtorEq])
      · obtain ⟨c1, c2⟩ := clf_set (cls := frs) (r := r) hs.1 (by omega) R.length
        repeat' (first | (with_reducible first | refine SW_seq ?_ | refine SW_block ?_ | refine SThen_n ?_ | refine SThen_r ?_ | refine SThen_e ?_ | refine SIn_n ?_ | refine SIn_r ?_ | refine SIn_eq ?_ | refine SW_skip ?_ | refine SW_exit ?_ | refine SW_ret ?_ | refine SPost_r ?_) | ((with_reducible refine SIn_ne ?_ ?_); focus decide) | ((with_reducible refine SW_true ?_ ?_); focus exact rfl) | ((with_reducible refine SW_false ?_ ?_); focus exact rfl) | ((first | (with_reducible apply SW_run tt_ok hG htb) | ((with_reducible apply SW_draw rfl tt_ok hG htb); (focus kernel_rfl); (focus (simp only [List.range, List.range.loop, List.size_toArray, List.length_cons, List.length_nil, Nat.reduceAdd])))); focus ((repeat' (first | (with_reducible exact runX_nil) | (with_reducible exact runI_nil) | ((first | (with_reducible apply runX_cons) | (with_reducible apply runI_cons)); focus (simp (discharger := omega) only [go_sem, h80, ↓reduceIte, reduceIte, Nat.reduceEqDiff, Nat.reduceLT, Nat.reduceLeDiff, Nat.reduceAdd, Nat.reduceSub, Nat.reduceMul, Nat.reduceDiv, Nat.reduceMod, Nat.reduceBEq, Int.reduceEq, Int.reduceLT, Int.reduceLE, Int.reduceNeg, Int.reduceToNat, reduceCtorEq]; with_reducible rfl)))); done)))
        exact ⟨m - (i + 1), _, by omega, Norm.headS (own := [(11, 3, 1, false), (13, 3, 1, false), (14, 3, 1, true)]) (keep := [0, 1, 2, 3, 8, 10, 11, 12, 13, 14, 15]) (by simp (discharger := omega) only [go_sem, ↓reduceIte, reduceIte, Nat.reduceEqDiff, Nat.reduceLT, Nat.reduceLeDiff, Nat.reduceAdd, Nat.reduceSub, Nat.reduceMul, Nat.reduceDiv, Nat.reduceMod, Nat.reduceBEq, Int.reduceEq, Int.reduceLT, Int.reduceLE, Int.reduceNeg, Int.reduceToNat, reduceCtorEq]; with_reducible rfl) (by simp only [go_sem, ↓reduceIte, reduceIte, Nat.reduceEqDiff, Nat.reduceLT, Nat.reduceLeDiff, Nat.reduceAdd, Nat.reduceSub, Nat.reduceMul, Nat.reduceDiv, Nat.reduceMod, Nat.reduceBEq, Int.reduceEq, Int.reduceLT, Int.reduceLE, Int.reduceNeg, Int.reduceToNat, reduceCtorEq]; with_reducible rfl) (by simp only [go_sem, ↓reduceIte, reduceIte, Nat.reduceEqDiff, Nat.reduceLT, Nat.reduceLeDiff, Nat.reduceAdd, Nat.reduceSub, Nat.reduceMul, Nat.reduceDiv, Nat.reduceMod, Nat.reduceBEq, Int.reduceEq, Int.reduceLT, Int.reduceLE, Int.reduceNeg, Int.reduceToNat, reduceCtorEq]; with_reducible rfl) (by simp only [go_sem, ↓reduceIte, reduceIte, Nat.reduceEqDiff, Nat.reduceLT, Nat.reduceLeDiff, Nat.reduceAdd, Nat.reduceSub, Nat.reduceMul, Nat.reduceDiv, Nat.reduceMod, Nat.reduceBEq, Int.reduceEq, Int.reduceLT, Int.reduceLE, Int.reduceNeg, Int.reduceToNat, reduceCtorEq]; with_reducible rfl) (by simp only [go_sem, ↓reduceIte, reduceIte, Nat.reduceEqDiff, Nat.reduceLT, Nat.reduceLeDiff, Nat.reduceAdd, Nat.reduceSub, Nat.reduceMul, Nat.reduceDiv, Nat.reduceMod, Nat.reduceBEq, Int.reduceEq, Int.reduceLT, Int.reduceLE, Int.reduceNeg, Int.reduceToNat, reduceCtorEq]; with_reducible rfl), i + 1, frs.set r.toNat R.length, R ++ [r], rfl, by rw [List.map_set, List.map_append]; rfl, by simpa using hfl, by omega, by simp; omega, by rw [htk]; exact hN.new hnr hno c2 c1⟩
  · have hie : i = out.length := by omega
    subst hie
    rw [List.take_length] at hN
    clear hi hlt
    have hmore := hinv.more hN hlook
    have hbound : R.length ≤ m := by omega
    by_cases hRm : R.length = many
    · have hdone := hinv.done hR hm hmo hbf hN hlook hRm
      have hre := leastRE_eq hR hm hdone
      have hclR : ∀ s, s ∈ out → clf frs s < R.length := fun s hs => hN.lt hs
      subst hRm
      clear hinv hlook hmore
      have hRl : (leftRows next (clf frs) R).length = R.length := by simp [leftRows]
      have hEl : (leftEnds ends R).length = R.length := by simp [leftEnds]
      have hR80 : R.length ≤ 1000000 := by omega
      repeat' (first | (with_reducible first | refine SW_seq ?_ | refine SW_block ?_ | refine SThen_n ?_ | refine SThen_r ?_ | refine SThen_e ?_ | refine SIn_n ?_ | refine SIn_r ?_ | refine SIn_eq ?_ | refine SW_skip ?_ | refine SW_exit ?_ | refine SW_ret ?_ | refine SPost_r ?_) | ((with_reducible refine SIn_ne ?_ ?_); focus decide) | ((with_reducible refine SW_true ?_ ?_); focus exact rfl) | ((with_reducible refine SW_false ?_ ?_); focus exact rfl) | ((first | (with_reducible apply SW_run tt_ok hG htb) | ((with_reducible apply SW_draw rfl tt_ok hG htb); (focus kernel_rfl); (focus (simp only [List.range, List.range.loop, List.size_toArray, List.length_cons, List.length_nil, Nat.reduceAdd])))); focus ((repeat' (first | (with_reducible exact runX_nil) | (with_reducible exact runI_nil) | ((first | (with_reducible apply runX_cons) | (with_reducible apply runI_cons)); focus (simp (discharger := omega) only [go_sem, ↓reduceIte, reduceIte, Nat.reduceEqDiff, Nat.reduceLT, Nat.reduceLeDiff, Nat.reduceAdd, Nat.reduceSub, Nat.reduceMul, Nat.reduceDiv, Nat.reduceMod, Nat.reduceBEq, Int.reduceEq, Int.reduceLT, Int.reduceLE, Int.reduceNeg, Int.reduceToNat, reduceCtorEq]; with_reducible rfl)))); done)))
      refine SW_loop (fun j s => ∃ (k : Nat) (nt et : List T), j = R.length - k ∧ s = ⟨135, [(2, .t (tIntss next)), (3, .t (tBools ends)), (8, .bptr 0 0), (11, .sref 1), (12, .t (tNat R.length)), (13, .sref 2), (18, .bptr 3 0), (19, .t (tInt k))], [.box [.t (tInt 0), .t (tInt 0), .nil, .nil], .row 3 1 false (frs.map tNat), .row 3 1 false (R.map tInt), .box [.t (tInt base), .t (tInt tracks), .sref 4, .sref 5], .row 22 1 true nt, .row 4 1 true et]⟩ ∧
          nt = ((leftRows next (clf frs) R).take k).map tInts ∧ et = ((leftEnds ends R).take k).map T.bool ∧ k ≤ R.length) R.length
        ⟨_, (Norm.ownB (j := 4) (off := 2) (e := 22) (sz := 1) rfl rfl Nat.one_pos).trans ((Norm.ownB (j := 4) (off := 3) (e := 4) (sz := 1) rfl rfl Nat.one_pos).trans (Norm.headS (own := [(11, 3, 1, false), (13, 3, 1, false)]) (keep := [2, 3, 8, 11, 12, 13, 18, 19]) (by simp (discharger := omega) only [go_sem, ↓reduceIte, reduceIte, Nat.reduceEqDiff, Nat.reduceLT, Nat.reduceLeDiff, Nat.reduceAdd, Nat.reduceSub, Nat.reduceMul, Nat.reduceDiv, Nat.reduceMod, Nat.reduceBEq, Int.reduceEq, Int.reduceLT, Int.reduceLE, Int.reduceNeg, Int.reduceToNat, reduceCtorEq]; with_reducible rfl) (by simp only [go_sem, ↓reduceIte, reduceIte, Nat.reduceEqDiff, Nat.reduceLT, Nat.reduceLeDiff, Nat.reduceAdd, Nat.reduceSub, Nat.reduceMul, Nat.reduceDiv, Nat.reduceMod, Nat.reduceBEq, Int.reduceEq, Int.reduceLT, Int.reduceLE, Int.reduceNeg, Int.reduceToNat, reduceCtorEq]; with_reducible rfl) (by simp only [go_sem, ↓reduceIte, reduceIte, Nat.reduceEqDiff, Nat.reduceLT, Nat.reduceLeDiff, Nat.reduceAdd, Nat.reduceSub, Nat.reduceMul, Nat.reduceDiv, Nat.reduceMod, Nat.reduceBEq, Int.reduceEq, Int.reduceLT, Int.reduceLE, Int.reduceNeg, Int.reduceToNat, reduceCtorEq]; with_reducible rfl) (by simp only [go_sem, ↓reduceIte, reduceIte, Nat.reduceEqDiff, Nat.reduceLT, Nat.reduceLeDiff, Nat.reduceAdd, Nat.reduceSub, Nat.reduceMul, Nat.reduceDiv, Nat.reduceMod, Nat.reduceBEq, Int.reduceEq, Int.reduceLT, Int.reduceLE, Int.reduceNeg, Int.reduceToNat, reduceCtorEq]; with_reducible rfl) (by simp only [go_sem, ↓reduceIte, reduceIte, Nat.reduceEqDiff, Nat.reduceLT, Nat.reduceLeDiff, Nat.reduceAdd, Nat.reduceSub, Nat.reduceMul, Nat.reduceDiv, Nat.reduceMod, Nat.reduceBEq, Int.reduceEq, Int.reduceLT, Int.reduceLE, Int.reduceNeg, Int.reduceToNat, reduceCtorEq]; with_reducible rfl))), 0, _, _, rfl, rfl, by simp, by simp, Nat.zero_le _⟩ ?_
      rintro j s ⟨k, nt, et, rfl, rfl, hnt, het, hk⟩
      have hnl : nt.length = k := by rw [hnt]; simp; omega
      have hel2 : et.length = k := by rw [het]; simp; omega
      by_cases hlt : k < R.length
      · obtain ⟨r, hor⟩ : ∃ r, R[k]! = r := ⟨_, rfl⟩
        have hRk : R[k]? = some r := by rw [← hor, getElem!_pos R k hlt]; exact List.getElem?_eq_getElem hlt
        have hRk2 : R[k] = r := by rw [List.getElem?_eq_getElem hlt] at hRk; exact Option.some.inj hRk
        have hrm : r ∈ out := hN.mem (List.mem_of_getElem? hRk)
        have hs : 0 ≤ r ∧ r < (m : Int) := hmo.ok _ hrm
        obtain ⟨row, hrow⟩ : ∃ row, next[r.toNat]! = row := ⟨_, rfl⟩
        have hrl : r.toNat < next.length := by omega
        have hrow2 : rowOf next r = row := by unfold rowOf; rw [getD_lt hrl, ← hrow, getElem!_pos next _ hrl]
        have hrmem : row ∈ next := by rw [← hrow, getElem!_pos next _ hrl]; exact List.getElem_mem hrl
        have hrn : row.length = n := hR.row _ hrmem
        have hend : ends[r.toNat]! = endOf ends r := by unfold endOf; rw [getD_lt (by omega), getElem!_pos ends _ (by omega)]
        repeat' (first | (with_reducible first | refine SW_seq ?_ | refine SW_block ?_ | refine SThen_n ?_ | refine SThen_r ?_ | refine SThen_e ?_ | refine SIn_n ?_ | refine SIn_r ?_ | refine SIn_eq ?_ | refine SW_skip ?_ | refine SW_exit ?_ | refine SW_ret ?_ | refine SPost_r ?_) | ((with_reducible refine SIn_ne ?_ ?_); focus decide) | ((with_reducible refine SW_true ?_ ?_); focus exact rfl) | ((with_reducible refine SW_false ?_ ?_); focus exact rfl) | ((first | (with_reducible apply SW_run tt_ok hG htb) | ((with_reducible apply SW_draw rfl tt_ok hG htb); (focus kernel_rfl); (focus (simp only [List.range, List.range.loop, List.size_toArray, List.length_cons, List.length_nil, Nat.reduceAdd])))); focus ((repeat' (first | (with_reducible exact runX_nil) | (with_reducible exact runI_nil) | ((first | (with_reducible apply runX_cons) | (with_reducible apply runI_cons)); focus (simp (discharger := omega) only [go_sem, hor, hrow, ↓reduceIte, reduceIte, Nat.reduceEqDiff, Nat.reduceLT, Nat.reduceLeDiff, Nat.reduceAdd, Nat.reduceSub, Nat.reduceMul, Nat.reduceDiv, Nat.reduceMod, Nat.reduceBEq, Int.reduceEq, Int.reduceLT, Int.reduceLE, Int.reduceNeg, Int.reduceToNat, reduceCtorEq]; with_reducible rfl)))); done)))
        refine SW_loop (fun j s => ∃ (l : Nat) (rt : List T), j = n - l ∧ s = ⟨135, [(2, .t (tIntss next)), (3, .t (tBools ends)), (8, .bptr 0 0), (11, .sref 1), (12, .t (tNat R.length)), (13, .sref 2), (18, .bptr 3 0), (19, .t (tInt k)), (20, .sref 4), (21, .t (tInt l))], [.box [.t (tInt 0), .t (tInt 0), .nil, .nil], .row 3 1 false (frs.map tNat), .row 3 1 false (R.map tInt), .box [.t (tInt base), .t (tInt tracks), .sref 5, .sref 6], .row 3 1 true rt, .row 22 1 true nt, .row 4 1 true et]⟩ ∧
            l ≤ n ∧ rt = (row.take l).map fun t => tNat (clf frs t)) n ⟨_, Norm.headS (own := [(11, 3, 1, false), (13, 3, 1, false), (20, 3, 1, true)]) (keep := [2, 3, 8, 11, 12, 13, 18, 19, 20, 21]) (by simp (discharger := omega) only [go_sem, ↓reduceIte, reduceIte, Nat.reduceEqDiff, Nat.reduceLT, Nat.reduceLeDiff, Nat.reduceAdd, Nat.reduceSub, Nat.reduceMul, Nat.reduceDiv, Nat.reduceMod, Nat.reduceBEq, Int.reduceEq, Int.reduceLT, Int.reduceLE, Int.reduceNeg, Int.reduceToNat, reduceCtorEq]; with_reducible rfl) (by simp only [go_sem, ↓reduceIte, reduceIte, Nat.reduceEqDiff, Nat.reduceLT, Nat.reduceLeDiff, Nat.reduceAdd, Nat.reduceSub, Nat.reduceMul, Nat.reduceDiv, Nat.reduceMod, Nat.reduceBEq, Int.reduceEq, Int.reduceLT, Int.reduceLE, Int.reduceNeg, Int.reduceToNat, reduceCtorEq]; with_reducible rfl) (by simp only [go_sem, ↓reduceIte, reduceIte, Nat.reduceEqDiff, Nat.reduceLT, Nat.reduceLeDiff, Nat.reduceAdd, Nat.reduceSub, Nat.reduceMul, Nat.reduceDiv, Nat.reduceMod, Nat.reduceBEq, Int.reduceEq, Int.reduceLT, Int.reduceLE, Int.reduceNeg, Int.reduceToNat, reduceCtorEq]; with_reducible rfl) (by simp only [go_sem, ↓reduceIte, reduceIte, Nat.reduceEqDiff, Nat.reduceLT, Nat.reduceLeDiff, Nat.reduceAdd, Nat.reduceSub, Nat.reduceMul, Nat.reduceDiv, Nat.reduceMod, Nat.reduceBEq, Int.reduceEq, Int.reduceLT, Int.reduceLE, Int.reduceNeg, Int.reduceToNat, reduceCtorEq]; with_reducible rfl) (by simp only [go_sem, ↓reduceIte, reduceIte, Nat.reduceEqDiff, Nat.reduceLT, Nat.reduceLeDiff, Nat.reduceAdd, Nat.reduceSub, Nat.reduceMul, Nat.reduceDiv, Nat.reduceMod, Nat.reduceBEq, Int.reduceEq, Int.reduceLT, Int.reduceLE, Int.reduceNeg, Int.reduceToNat, reduceCtorEq]; with_reducible rfl), 0, _, rfl, rfl, Nat.zero_le _, rfl⟩ ?_
        rintro j s ⟨l, rt, rfl, rfl, hl, hrt⟩
        have hrtl : rt.length = l := by rw [hrt]; simp; omega
        by_cases hlt2 : l < n
        · obtain ⟨u, hul⟩ : ∃ u, row[l]! = u := ⟨_, rfl⟩
          have hll : l < row.length := by omega
          have hul2 : row[l]? = some u := by rw [← hul, getElem!_pos row l hll]; exact List.getElem?_eq_getElem hll
          have hu : 0 ≤ u ∧ u < (m : Int) := hR.ok _ hrmem _ (List.mem_of_getElem? hul2)
          obtain ⟨d, hd⟩ : ∃ d, frs[u.toNat]! = d := ⟨_, rfl⟩
          have hd2 : clf frs u = d := by rw [← clf_at hu.1 (by omega), hd]
          have htk2 : row.take (l + 1) = row.take l ++ [u] := by
            rw [List.take_succ_eq_append_getElem hll]
            rw [List.getElem?_eq_getElem hll] at hul2
            rw [Option.some.inj hul2]
          repeat' (first | (with_reducible first | refine SW_seq ?_ | refine SW_block ?_ | refine SThen_n ?_ | refine SThen_r ?_ | refine SThen_e ?_ | refine SIn_n ?_ | refine SIn_r ?_ | refine SIn_eq ?_ | refine SW_skip ?_ | refine SW_exit ?_ | refine SW_ret ?_ | refine SPost_r ?_) | ((with_reducible refine SIn_ne ?_ ?_); focus decide) | ((with_reducible refine SW_true ?_ ?_); focus exact rfl) | ((with_reducible refine SW_false ?_ ?_); focus exact rfl) | ((first | (with_reducible apply SW_run tt_ok hG htb) | ((with_reducible apply SW_draw rfl tt_ok hG htb); (focus kernel_rfl); (focus (simp only [List.range, List.range.loop, List.size_toArray, List.length_cons, List.length_nil, Nat.reduceAdd])))); focus ((repeat' (first | (with_reducible exact runX_nil) | (with_reducible exact runI_nil) | ((first | (with_reducible apply runX_cons) | (with_reducible apply runI_cons)); focus (simp (discharger := omega) only [go_sem, hor, hrow, hul, hd, ↓reduceIte, reduceIte, Nat.reduceEqDiff, Nat.reduceLT, Nat.reduceLeDiff, Nat.reduceAdd, Nat.reduceSub, Nat.reduceMul, Nat.reduceDiv, Nat.reduceMod, Nat.reduceBEq, Int.reduceEq, Int.reduceLT, Int.reduceLE, Int.reduceNeg, Int.reduceToNat, reduceCtorEq]; with_reducible rfl)))); done)))
          exact ⟨n - (l + 1), _, by omega, Norm.headS (own := [(11, 3, 1, false), (13, 3, 1, false), (20, 3, 1, true)]) (keep := [2, 3, 8, 11, 12, 13, 18, 19, 20, 21]) (by simp (discharger := omega) only [go_sem, ↓reduceIte, reduceIte, Nat.reduceEqDiff, Nat.reduceLT, Nat.reduceLeDiff, Nat.reduceAdd, Nat.reduceSub, Nat.reduceMul, Nat.reduceDiv, Nat.reduceMod, Nat.reduceBEq, Int.reduceEq, Int.reduceLT, Int.reduceLE, Int.reduceNeg, Int.reduceToNat, reduceCtorEq]; with_reducible rfl) (by simp only [go_sem, ↓reduceIte, reduceIte, Nat.reduceEqDiff, Nat.reduceLT, Nat.reduceLeDiff, Nat.reduceAdd, Nat.reduceSub, Nat.reduceMul, Nat.reduceDiv, Nat.reduceMod, Nat.reduceBEq, Int.reduceEq, Int.reduceLT, Int.reduceLE, Int.reduceNeg, Int.reduceToNat, reduceCtorEq]; with_reducible rfl) (by simp only [go_sem, ↓reduceIte, reduceIte, Nat.reduceEqDiff, Nat.reduceLT, Nat.reduceLeDiff, Nat.reduceAdd, Nat.reduceSub, Nat.reduceMul, Nat.reduceDiv, Nat.reduceMod, Nat.reduceBEq, Int.reduceEq, Int.reduceLT, Int.reduceLE, Int.reduceNeg, Int.reduceToNat, reduceCtorEq]; with_reducible rfl) (by simp only [go_sem, ↓reduceIte, reduceIte, Nat.reduceEqDiff, Nat.reduceLT, Nat.reduceLeDiff, Nat.reduceAdd, Nat.reduceSub, Nat.reduceMul, Nat.reduceDiv, Nat.reduceMod, Nat.reduceBEq, Int.reduceEq, Int.reduceLT, Int.reduceLE, Int.reduceNeg, Int.reduceToNat, reduceCtorEq]; with_reducible rfl) (by simp only [go_sem, ↓reduceIte, reduceIte, Nat.reduceEqDiff, Nat.reduceLT, Nat.reduceLeDiff, Nat.reduceAdd, Nat.reduceSub, Nat.reduceMul, Nat.reduceDiv, Nat.reduceMod, Nat.reduceBEq, Int.reduceEq, Int.reduceLT, Int.reduceLE, Int.reduceNeg, Int.reduceToNat, reduceCtorEq]; with_reducible rfl), l + 1, _, rfl, rfl, by omega, by rw [htk2, hrt]; simp [hd2, tNat]⟩
        · obtain rfl : l = n := by omega
          rw [List.take_of_length_le (by omega)] at hrt
          repeat' (first | (with_reducible first | refine SW_seq ?_ | refine SW_block ?_ | refine SThen_n ?_ | refine SThen_r ?_ | refine SThen_e ?_ | refine SIn_n ?_ | refine SIn_r ?_ | refine SIn_eq ?_ | refine SW_skip ?_ | refine SW_exit ?_ | refine SW_ret ?_ | refine SPost_r ?_) | ((with_reducible refine SIn_ne ?_ ?_); focus decide) | ((with_reducible refine SW_true ?_ ?_); focus exact rfl) | ((with_reducible refine SW_false ?_ ?_); focus exact rfl) | ((first | (with_reducible apply SW_run tt_ok hG htb) | ((with_reducible apply SW_draw rfl tt_ok hG htb); (focus kernel_rfl); (focus (simp only [List.range, List.range.loop, List.size_toArray, List.length_cons, List.length_nil, Nat.reduceAdd])))); focus ((repeat' (first | (with_reducible exact runX_nil) | (with_reducible exact runI_nil) | ((first | (with_reducible apply runX_cons) | (with_reducible apply runI_cons)); focus (simp (discharger := omega) only [go_sem, hor, hrow, hend, ↓reduceIte, reduceIte, Nat.reduceEqDiff, Nat.reduceLT, Nat.reduceLeDiff, Nat.reduceAdd, Nat.reduceSub, Nat.reduceMul, Nat.reduceDiv, Nat.reduceMod, Nat.reduceBEq, Int.reduceEq, Int.reduceLT, Int.reduceLE, Int.reduceNeg, Int.reduceToNat, reduceCtorEq]; with_reducible rfl)))); done)))
          have hlr : (leftRows next (clf frs) R).take (k + 1) = (leftRows next (clf frs) R).take k ++ [row.map fun t => (clf frs t : Int)] := by
            rw [List.take_succ_eq_append_getElem (by omega)]
            congr 1
            simp [leftRows, hRk2, hrow2]
          have hle2 : (leftEnds ends R).take (k + 1) = (leftEnds ends R).take k ++ [endOf ends r] := by
            rw [List.take_succ_eq_append_getElem (by omega)]
            congr 1
            simp [leftEnds, hRk2]
          exact ⟨R.length - (k + 1), _, by omega, Norm.headS (own := [(11, 3, 1, false), (13, 3, 1, false)]) (keep := [2, 3, 8, 11, 12, 13, 18, 19]) (by simp (discharger := omega) only [go_sem, ↓reduceIte, reduceIte, Nat.reduceEqDiff, Nat.reduceLT, Nat.reduceLeDiff, Nat.reduceAdd, Nat.reduceSub, Nat.reduceMul, Nat.reduceDiv, Nat.reduceMod, Nat.reduceBEq, Int.reduceEq, Int.reduceLT, Int.reduceLE, Int.reduceNeg, Int.reduceToNat, reduceCtorEq]; with_reducible rfl) (by simp only [go_sem, ↓reduceIte, reduceIte, Nat.reduceEqDiff, Nat.reduceLT, Nat.reduceLeDiff, Nat.reduceAdd, Nat.reduceSub, Nat.reduceMul, Nat.reduceDiv, Nat.reduceMod, Nat.reduceBEq, Int.reduceEq, Int.reduceLT, Int.reduceLE, Int.reduceNeg, Int.reduceToNat, reduceCtorEq]; with_reducible rfl) (by simp only [go_sem, ↓reduceIte, reduceIte, Nat.reduceEqDiff, Nat.reduceLT, Nat.reduceLeDiff, Nat.reduceAdd, Nat.reduceSub, Nat.reduceMul, Nat.reduceDiv, Nat.reduceMod, Nat.reduceBEq, Int.reduceEq, Int.reduceLT, Int.reduceLE, Int.reduceNeg, Int.reduceToNat, reduceCtorEq]; with_reducible rfl) (by simp only [go_sem, ↓reduceIte, reduceIte, Nat.reduceEqDiff, Nat.reduceLT, Nat.reduceLeDiff, Nat.reduceAdd, Nat.reduceSub, Nat.reduceMul, Nat.reduceDiv, Nat.reduceMod, Nat.reduceBEq, Int.reduceEq, Int.reduceLT, Int.reduceLE, Int.reduceNeg, Int.reduceToNat, reduceCtorEq]; with_reducible rfl) (by simp only [go_sem, ↓reduceIte, reduceIte, Nat.reduceEqDiff, Nat.reduceLT, Nat.reduceLeDiff, Nat.reduceAdd, Nat.reduceSub, Nat.reduceMul, Nat.reduceDiv, Nat.reduceMod, Nat.reduceBEq, Int.reduceEq, Int.reduceLT, Int.reduceLE, Int.reduceNeg, Int.reduceToNat, reduceCtorEq]; with_reducible rfl), k + 1, _, _, rfl, rfl, by rw [hlr, List.map_append, ← hnt, hrt]; simp [tInts, tNat, tInt], by rw [hle2, List.map_append, ← het]; rfl, by omega⟩
      · have hkR : k = R.length := by omega
        subst hkR
        rw [List.take_of_length_le (by omega)] at hnt het
        have hT : shrinkT base tracks n next ends = .tup [tAuto ⟨base, tracks, leftRows next (clf frs) R, leftEnds ends R⟩, .bool true] := by
          unfold shrinkT; rw [hre, if_pos (by simp only [hRl]; omega)]
        rw [hT]
        repeat' (first | (with_reducible first | refine SW_seq ?_ | refine SW_block ?_ | refine SThen_n ?_ | refine SThen_r ?_ | refine SThen_e ?_ | refine SIn_n ?_ | refine SIn_r ?_ | refine SIn_eq ?_ | refine SW_skip ?_ | refine SW_exit ?_ | refine SW_ret ?_ | refine SPost_r ?_) | ((with_reducible refine SIn_ne ?_ ?_); focus decide) | ((with_reducible refine SW_true ?_ ?_); focus exact rfl) | ((with_reducible refine SW_false ?_ ?_); focus exact rfl) | ((first | (with_reducible apply SW_run tt_ok hG htb) | ((with_reducible apply SW_draw rfl tt_ok hG htb); (focus kernel_rfl); (focus (simp only [List.range, List.range.loop, List.size_toArray, List.length_cons, List.length_nil, Nat.reduceAdd])))); focus ((repeat' (first | (with_reducible exact runX_nil) | (with_reducible exact runI_nil) | ((first | (with_reducible apply runX_cons) | (with_reducible apply runI_cons)); focus (simp (discharger := omega) only [go_sem, ↓reduceIte, reduceIte, Nat.reduceEqDiff, Nat.reduceLT, Nat.reduceLeDiff, Nat.reduceAdd, Nat.reduceSub, Nat.reduceMul, Nat.reduceDiv, Nat.reduceMod, Nat.reduceBEq, Int.reduceEq, Int.reduceLT, Int.reduceLE, Int.reduceNeg, Int.reduceToNat, reduceCtorEq]; with_reducible rfl)))); done)))
        subst hnt het
        exact (by simp (discharger := omega) only [go_sem, tAuto, ↓reduceIte, reduceIte, Nat.reduceEqDiff, Nat.reduceLT, Nat.reduceLeDiff, Nat.reduceAdd, Nat.reduceSub, Nat.reduceMul, Nat.reduceDiv, Nat.reduceMod, Nat.reduceBEq, Int.reduceEq, Int.reduceLT, Int.reduceLE, Int.reduceNeg, Int.reduceToNat, reduceCtorEq])
    · repeat' (first | (with_reducible first | refine SW_seq ?_ | refine SW_block ?_ | refine SThen_n ?_ | refine SThen_r ?_ | refine SThen_e ?_ | refine SIn_n ?_ | refine SIn_r ?_ | refine SIn_eq ?_ | refine SW_skip ?_ | refine SW_exit ?_ | refine SW_ret ?_ | refine SPost_r ?_) | ((with_reducible refine SIn_ne ?_ ?_); focus decide) | ((with_reducible refine SW_true ?_ ?_); focus exact rfl) | ((with_reducible refine SW_false ?_ ?_); focus exact rfl) | ((first | (with_reducible apply SW_run tt_ok hG htb) | ((with_reducible apply SW_draw rfl tt_ok hG htb); (focus kernel_rfl); (focus (simp only [List.range, List.range.loop, List.size_toArray, List.length_cons, List.length_nil, Nat.reduceAdd])))); focus ((repeat' (first | (with_reducible exact runX_nil) | (with_reducible exact runI_nil) | ((first | (with_reducible apply runX_cons) | (with_reducible apply runI_cons)); focus (simp (discharger := omega) only [go_sem, hRm, ↓reduceIte, reduceIte, Nat.reduceEqDiff, Nat.reduceLT, Nat.reduceLeDiff, Nat.reduceAdd, Nat.reduceSub, Nat.reduceMul, Nat.reduceDiv, Nat.reduceMod, Nat.reduceBEq, Int.reduceEq, Int.reduceLT, Int.reduceLE, Int.reduceNeg, Int.reduceToNat, reduceCtorEq]; with_reducible rfl)))); done)))
      exact ⟨m + 1 - R.length, _, by omega, Norm.headS (own := [(11, 3, 1, false)]) (keep := [0, 1, 2, 3, 8, 10, 11, 12]) (by simp (discharger := omega) only [go_sem, ↓reduceIte, reduceIte, Nat.reduceEqDiff, Nat.reduceLT, Nat.reduceLeDiff, Nat.reduceAdd, Nat.reduceSub, Nat.reduceMul, Nat.reduceDiv, Nat.reduceMod, Nat.reduceBEq, Int.reduceEq, Int.reduceLT, Int.reduceLE, Int.reduceNeg, Int.reduceToNat, reduceCtorEq]; with_reducible rfl) (by simp only [go_sem, ↓reduceIte, reduceIte, Nat.reduceEqDiff, Nat.reduceLT, Nat.reduceLeDiff, Nat.reduceAdd, Nat.reduceSub, Nat.reduceMul, Nat.reduceDiv, Nat.reduceMod, Nat.reduceBEq, Int.reduceEq, Int.reduceLT, Int.reduceLE, Int.reduceNeg, Int.reduceToNat, reduceCtorEq]; with_reducible rfl) (by simp only [go_sem, ↓reduceIte, reduceIte, Nat.reduceEqDiff, Nat.reduceLT, Nat.reduceLeDiff, Nat.reduceAdd, Nat.reduceSub, Nat.reduceMul, Nat.reduceDiv, Nat.reduceMod, Nat.reduceBEq, Int.reduceEq, Int.reduceLT, Int.reduceLE, Int.reduceNeg, Int.reduceToNat, reduceCtorEq]; with_reducible rfl) (by simp only [go_sem, ↓reduceIte, reduceIte, Nat.reduceEqDiff, Nat.reduceLT, Nat.reduceLeDiff, Nat.reduceAdd, Nat.reduceSub, Nat.reduceMul, Nat.reduceDiv, Nat.reduceMod, Nat.reduceBEq, Int.reduceEq, Int.reduceLT, Int.reduceLE, Int.reduceNeg, Int.reduceToNat, reduceCtorEq]; with_reducible rfl) (by simp only [go_sem, ↓reduceIte, reduceIte, Nat.reduceEqDiff, Nat.reduceLT, Nat.reduceLeDiff, Nat.reduceAdd, Nat.reduceSub, Nat.reduceMul, Nat.reduceDiv, Nat.reduceMod, Nat.reduceBEq, Int.reduceEq, Int.reduceLT, Int.reduceLE, Int.reduceNeg, Int.reduceToNat, reduceCtorEq]; with_reducible rfl), R.length, frs, rfl, rfl, hfl, hbound, hinv.step hbf hN hlook⟩
end
end Go.Proofs.YtfhncnhkeodngaaDoor
namespace Go.Proofs.YtfhncnhkeodngaaDoor
open Go.RowKit

section
variable {G : World → Prop} (hG : Lasting G)
include hG
end
end Go.Proofs.YtfhncnhkeodngaaDoor
namespace Go.Proofs.YtfhncnhkeodngaaDoor
open Go.RowKit

section
variable {G : World → Prop} (hG : Lasting G)
include hG
theorem RRadix_snd (base : Int) : Snd Tryd.prog G 57 [tInt base] (tInt (radix base)) := by
  have htb : Tab.ok Tryd.prog G [] := Tab.nil
  refine snd_of_body (n := 12) (tm := [(0, .t (tInt base))]) (rs := [.tmp 2]) tt_ok Tryd.func57 rfl rfl rfl rfl rfl ?_
  unfold radix
  by_cases h1 : base = 1
  · repeat' (first | (with_reducible first | refine SW_seq ?_ | refine SW_block ?_ | refine SThen_n ?_ | refine SThen_r ?_ | refine SThen_e ?_ | refine SIn_n ?_ | refine SIn_r ?_ | refine SIn_eq ?_ | refine SW_skip ?_ | refine SW_exit ?_ | refine SW_ret ?_ | refine SPost_r ?_) | ((with_reducible refine SIn_ne ?_ ?_); focus decide) | ((with_reducible refine SW_true ?_ ?_); focus exact rfl) | ((with_reducible refine SW_false ?_ ?_); focus exact rfl) | ((first | (with_reducible apply SW_run tt_ok hG htb) | ((with_reducible apply SW_draw rfl tt_ok hG htb); (focus kernel_rfl); (focus (simp only [List.range, List.range.loop, List.size_toArray, List.length_cons, List.length_nil, Nat.reduceAdd])))); focus ((repeat' (first | (with_reducible exact runX_nil) | (with_reducible exact runI_nil) | ((first | (with_reducible apply runX_cons) | (with_reducible apply runI_cons)); focus (simp (discharger := omega) only [go_sem, h1, ↓reduceIte, reduceIte, Nat.reduceEqDiff, Nat.reduceLT, Nat.reduceLeDiff, Nat.reduceAdd, Nat.reduceSub, Nat.reduceMul, Nat.reduceDiv, Nat.reduceMod, Nat.reduceBEq, Int.reduceEq, Int.reduceLT, Int.reduceLE, Int.reduceNeg, Int.reduceToNat, reduceCtorEq]; with_reducible rfl)))); done)))
    exact (by simp (discharger := omega) only [go_sem, h1, ↓reduceIte, reduceIte, Nat.reduceEqDiff, Nat.reduceLT, Nat.reduceLeDiff, Nat.reduceAdd, Nat.reduceSub, Nat.reduceMul, Nat.reduceDiv, Nat.reduceMod, Nat.reduceBEq, Int.reduceEq, Int.reduceLT, Int.reduceLE, Int.reduceNeg, Int.reduceToNat, reduceCtorEq])
  · by_cases h2 : 2 ≤ base
    · by_cases h3 : base ≤ 6
      · repeat' (first | (with_reducible first | refine SW_seq ?_ | refine SW_block ?_ | refine SThen_n ?_ | refine SThen_r ?_ | refine SThen_e ?_ | refine SIn_n ?_ | refine SIn_r ?_ | refine SIn_eq ?_ | refine SW_skip ?_ | refine SW_exit ?_ | refine SW_ret ?_ | refine SPost_r ?_) | ((with_reducible refine SIn_ne ?_ ?_); focus decide) | ((with_reducible refine SW_true ?_ ?_); focus exact rfl) | ((with_reducible refine SW_false ?_ ?_); focus exact rfl) | ((first | (with_reducible apply SW_run tt_ok hG htb) | ((with_reducible apply SW_draw rfl tt_ok hG htb); (focus kernel_rfl); (focus (simp only [List.range, List.range.loop, List.size_toArray, List.length_cons, List.length_nil, Nat.reduceAdd])))); focus ((repeat' (first | (with_reducible exact runX_nil) | (with_reducible exact runI_nil) | ((first | (with_reducible apply runX_cons) | (with_reducible apply runI_cons)); focus (simp (discharger := omega) only [go_sem, ↓reduceIte, reduceIte, Nat.reduceEqDiff, Nat.reduceLT, Nat.reduceLeDiff, Nat.reduceAdd, Nat.reduceSub, Nat.reduceMul, Nat.reduceDiv, Nat.reduceMod, Nat.reduceBEq, Int.reduceEq, Int.reduceLT, Int.reduceLE, Int.reduceNeg, Int.reduceToNat, reduceCtorEq]; with_reducible rfl)))); done)))
        exact (by simp (discharger := omega) only [go_sem, ↓reduceIte, reduceIte, Nat.reduceEqDiff, Nat.reduceLT, Nat.reduceLeDiff, Nat.reduceAdd, Nat.reduceSub, Nat.reduceMul, Nat.reduceDiv, Nat.reduceMod, Nat.reduceBEq, Int.reduceEq, Int.reduceLT, Int.reduceLE, Int.reduceNeg, Int.reduceToNat, reduceCtorEq])
      · repeat' (first | (with_reducible first | refine SW_seq ?_ | refine SW_block ?_ | refine SThen_n ?_ | refine SThen_r ?_ | refine SThen_e ?_ | refine SIn_n ?_ | refine SIn_r ?_ | refine SIn_eq ?_ | refine SW_skip ?_ | refine SW_exit ?_ | refine SW_ret ?_ | refine SPost_r ?_) | ((with_reducible refine SIn_ne ?_ ?_); focus decide) | ((with_reducible refine SW_true ?_ ?_); focus exact rfl) | ((with_reducible refine SW_false ?_ ?_); focus exact rfl) | ((first | (with_reducible apply SW_run tt_ok hG htb) | ((with_reducible apply SW_draw rfl tt_ok hG htb); (focus kernel_rfl); (focus (simp only [List.range, List.range.loop, List.size_toArray, List.length_cons, List.length_nil, Nat.reduceAdd])))); focus ((repeat' (first | (with_reducible exact runX_nil) | (with_reducible exact runI_nil) | ((first | (with_reducible apply runX_cons) | (with_reducible apply runI_cons)); focus (simp (discharger := omega) only [go_sem, ↓reduceIte, reduceIte, Nat.reduceEqDiff, Nat.reduceLT, Nat.reduceLeDiff, Nat.reduceAdd, Nat.reduceSub, Nat.reduceMul, Nat.reduceDiv, Nat.reduceMod, Nat.reduceBEq, Int.reduceEq, Int.reduceLT, Int.reduceLE, Int.reduceNeg, Int.reduceToNat, reduceCtorEq]; with_reducible rfl)))); done)))
        exact (by simp (discharger := omega) only [go_sem, ↓reduceIte, reduceIte, Nat.reduceEqDiff, Nat.reduceLT, Nat.reduceLeDiff, Nat.reduceAdd, Nat.reduceSub, Nat.reduceMul, Nat.reduceDiv, Nat.reduceMod, Nat.reduceBEq, Int.reduceEq, Int.reduceLT, Int.reduceLE, Int.reduceNeg, Int.reduceToNat, reduceCtorEq])
    · repeat' (first | (with_reducible first | refine SW_seq ?_ | refine SW_block ?_ | refine SThen_n ?_ | refine SThen_r ?_ | refine SThen_e ?_ | refine SIn_n ?_ | refine SIn_r ?_ | refine SIn_eq ?_ | refine SW_skip ?_ | refine SW_exit ?_ | refine SW_ret ?_ | refine SPost_r ?_) | ((with_reducible refine SIn_ne ?_ ?_); focus decide) | ((with_reducible refine SW_true ?_ ?_); focus exact rfl) | ((with_reducible refine SW_false ?_ ?_); focus exact rfl) | ((first | (with_reducible apply SW_run tt_ok hG htb) | ((with_reducible apply SW_draw rfl tt_ok hG htb); (focus kernel_rfl); (focus (simp only [List.range, List.range.loop, List.size_toArray, List.length_cons, List.length_nil, Nat.reduceAdd])))); focus ((repeat' (first | (with_reducible exact runX_nil) | (with_reducible exact runI_nil) | ((first | (with_reducible apply runX_cons) | (with_reducible apply runI_cons)); focus (simp (discharger := omega) only [go_sem, ↓reduceIte, reduceIte, Nat.reduceEqDiff, Nat.reduceLT, Nat.reduceLeDiff, Nat.reduceAdd, Nat.reduceSub, Nat.reduceMul, Nat.reduceDiv, Nat.reduceMod, Nat.reduceBEq, Int.reduceEq, Int.reduceLT, Int.reduceLE, Int.reduceNeg, Int.reduceToNat, reduceCtorEq]; with_reducible rfl)))); done)))
      exact (by simp (discharger := omega) only [go_sem, ↓reduceIte, reduceIte, Nat.reduceEqDiff, Nat.reduceLT, Nat.reduceLeDiff, Nat.reduceAdd, Nat.reduceSub, Nat.reduceMul, Nat.reduceDiv, Nat.reduceMod, Nat.reduceBEq, Int.reduceEq, Int.reduceLT, Int.reduceLE, Int.reduceNeg, Int.reduceToNat, reduceCtorEq])
theorem RDigitOf_snd (base : Int) (t : Nat) (l : Int) (i : Nat) (hr : radix base ≠ 0) (ht : t ≤ 5) (hl0 : 0 ≤ l) (hl1 : l ≤ 7776) (hi : i < t) :
    Snd Tryd.prog G 79 [tInt base, tInt t, tInt l, tInt i] (tInt (digitAt (radix base) t l i)) := by
  have htb := Tab.cons (RRadix_snd hG base) Tab.nil
  refine snd_of_body (n := 26) (tm := [(0, .t (tInt base)), (1, .t (tInt t)), (2, .t (tInt l)), (3, .t (tInt i))]) (rs := [.tmp 8]) tt_ok Tryd.func79 rfl rfl rfl rfl rfl ?_
  obtain ⟨r2, r6⟩ := radix_two hr
  unfold digitAt
  generalize radix base = k at *
  repeat' (first | (with_reducible first | refine SW_seq ?_ | refine SW_block ?_ | refine SThen_n ?_ | refine SThen_r ?_ | refine SThen_e ?_ | refine SIn_n ?_ | refine SIn_r ?_ | refine SIn_eq ?_ | refine SW_skip ?_ | refine SW_exit ?_ | refine SW_ret ?_ | refine SPost_r ?_) | ((with_reducible refine SIn_ne ?_ ?_); focus decide) | ((with_reducible refine SW_true ?_ ?_); focus exact rfl) | ((with_reducible refine SW_false ?_ ?_); focus exact rfl) | ((first | (with_reducible apply SW_run tt_ok hG htb) | ((with_reducible apply SW_draw rfl tt_ok hG htb); (focus kernel_rfl); (focus (simp only [List.range, List.range.loop, List.size_toArray, List.length_cons, List.length_nil, Nat.reduceAdd])))); focus ((repeat' (first | (with_reducible exact runX_nil) | (with_reducible exact runI_nil) | ((first | (with_reducible apply runX_cons) | (with_reducible apply runI_cons)); focus (simp (discharger := omega) only [go_sem, ↓reduceIte, reduceIte, Nat.reduceEqDiff, Nat.reduceLT, Nat.reduceLeDiff, Nat.reduceAdd, Nat.reduceSub, Nat.reduceMul, Nat.reduceDiv, Nat.reduceMod, Nat.reduceBEq, Int.reduceEq, Int.reduceLT, Int.reduceLE, Int.reduceNeg, Int.reduceToNat, reduceCtorEq]; with_reducible rfl)))); done)))
  refine SW_loop (fun m s => ∃ (j : Nat) (q : Int), m = j ∧ s = ⟨26, [(2, .t (tInt q)), (3, .t (tInt i)), (9, .t (tInt k)), (10, .t (tInt (i + j : Nat)))], []⟩ ∧ i + j < t ∧ 0 ≤ q ∧ q ≤ 7776 ∧ (unpack k t l).getD i 0 = (unpack k (i + j + 1) q).getD i 0) (t - 1 - i) ⟨_, Norm.headS (own := []) (keep := [2, 3, 9, 10]) (by simp (discharger := omega) only [go_sem, ↓reduceIte, reduceIte, Nat.reduceEqDiff, Nat.reduceLT, Nat.reduceLeDiff, Nat.reduceAdd, Nat.reduceSub, Nat.reduceMul, Nat.reduceDiv, Nat.reduceMod, Nat.reduceBEq, Int.reduceEq, Int.reduceLT, Int.reduceLE, Int.reduceNeg, Int.reduceToNat, reduceCtorEq]; with_reducible rfl) (by simp only [go_sem, ↓reduceIte, reduceIte, Nat.reduceEqDiff, Nat.reduceLT, Nat.reduceLeDiff, Nat.reduceAdd, Nat.reduceSub, Nat.reduceMul, Nat.reduceDiv, Nat.reduceMod, Nat.reduceBEq, Int.reduceEq, Int.reduceLT, Int.reduceLE, Int.reduceNeg, Int.reduceToNat, reduceCtorEq]; with_reducible rfl) (by simp only [go_sem, ↓reduceIte, reduceIte, Nat.reduceEqDiff, Nat.reduceLT, Nat.reduceLeDiff, Nat.reduceAdd, Nat.reduceSub, Nat.reduceMul, Nat.reduceDiv, Nat.reduceMod, Nat.reduceBEq, Int.reduceEq, Int.reduceLT, Int.reduceLE, Int.reduceNeg, Int.reduceToNat, reduceCtorEq]; with_reducible rfl) (by simp only [go_sem, ↓reduceIte, reduceIte, Nat.reduceEqDiff, Nat.reduceLT, Nat.reduceLeDiff, Nat.reduceAdd, Nat.reduceSub, Nat.reduceMul, Nat.reduceDiv, Nat.reduceMod, Nat.reduceBEq, Int.reduceEq, Int.reduceLT, Int.reduceLE, Int.reduceNeg, Int.reduceToNat, reduceCtorEq]; with_reducible rfl) (by simp only [go_sem, ↓reduceIte, reduceIte, Nat.reduceEqDiff, Nat.reduceLT, Nat.reduceLeDiff, Nat.reduceAdd, Nat.reduceSub, Nat.reduceMul, Nat.reduceDiv, Nat.reduceMod, Nat.reduceBEq, Int.reduceEq, Int.reduceLT, Int.reduceLE, Int.reduceNeg, Int.reduceToNat, reduceCtorEq]; with_reducible rfl), t - 1 - i, l, rfl, by rw [show i + (t - 1 - i) = t - 1 by omega, show ((t - 1 : Nat) : Int) = (t : Int) - 1 by omega]; rfl, by omega, hl0, hl1, by rw [show i + (t - 1 - i) + 1 = t by omega]⟩ ?_
  rintro m s ⟨j, q, rfl, rfl, hj, q0, q1, hU⟩
  have e1 : q.tmod k = q % k := Int.tmod_eq_emod_of_nonneg q0
  have e2 : q.tdiv k = q / k := Int.tdiv_eq_ediv_of_nonneg q0
  have q2 : 0 ≤ q % k := Int.emod_nonneg _ (by omega)
  have q3 : 0 ≤ q / k := Int.ediv_nonneg q0 (by omega)
  have q4 : q / k ≤ q := Int.ediv_le_self _ q0
  by_cases hlt : 0 < m
  · obtain ⟨j, rfl⟩ : ∃ j, m = j + 1 := ⟨m - 1, by omega⟩
    have e3 : ((i + (j + 1) : Nat) : Int) - 1 = ((i + j : Nat) : Int) := by omega
    repeat' (first | (with_reducible first | refine SW_seq ?_ | refine SW_block ?_ | refine SThen_n ?_ | refine SThen_r ?_ | refine SThen_e ?_ | refine SIn_n ?_ | refine SIn_r ?_ | refine SIn_eq ?_ | refine SW_skip ?_ | refine SW_exit ?_ | refine SW_ret ?_ | refine SPost_r ?_) | ((with_reducible refine SIn_ne ?_ ?_); focus decide) | ((with_reducible refine SW_true ?_ ?_); focus exact rfl) | ((with_reducible refine SW_false ?_ ?_); focus exact rfl) | ((first | (with_reducible apply SW_run tt_ok hG htb) | ((with_reducible apply SW_draw rfl tt_ok hG htb); (focus kernel_rfl); (focus (simp only [List.range, List.range.loop, List.size_toArray, List.length_cons, List.length_nil, Nat.reduceAdd])))); focus ((repeat' (first | (with_reducible exact runX_nil) | (with_reducible exact runI_nil) | ((first | (with_reducible apply runX_cons) | (with_reducible apply runI_cons)); focus (simp (discharger := omega) only [go_sem, e2, e3, ↓reduceIte, reduceIte, Nat.reduceEqDiff, Nat.reduceLT, Nat.reduceLeDiff, Nat.reduceAdd, Nat.reduceSub, Nat.reduceMul, Nat.reduceDiv, Nat.reduceMod, Nat.reduceBEq, Int.reduceEq, Int.reduceLT, Int.reduceLE, Int.reduceNeg, Int.reduceToNat, reduceCtorEq]; with_reducible rfl)))); done)))
    exact ⟨j, _, by omega, Norm.headS (own := []) (keep := [2, 3, 9, 10]) (by simp (discharger := omega) only [go_sem, ↓reduceIte, reduceIte, Nat.reduceEqDiff, Nat.reduceLT, Nat.reduceLeDiff, Nat.reduceAdd, Nat.reduceSub, Nat.reduceMul, Nat.reduceDiv, Nat.reduceMod, Nat.reduceBEq, Int.reduceEq, Int.reduceLT, Int.reduceLE, Int.reduceNeg, Int.reduceToNat, reduceCtorEq]; with_reducible rfl) (by simp only [go_sem, ↓reduceIte, reduceIte, Nat.reduceEqDiff, Nat.reduceLT, Nat.reduceLeDiff, Nat.reduceAdd, Nat.reduceSub, Nat.reduceMul, Nat.reduceDiv, Nat.reduceMod, Nat.reduceBEq, Int.reduceEq, Int.reduceLT, Int.reduceLE, Int.reduceNeg, Int.reduceToNat, reduceCtorEq]; with_reducible rfl) (by simp only [go_sem, ↓reduceIte, reduceIte, Nat.reduceEqDiff, Nat.reduceLT, Nat.reduceLeDiff, Nat.reduceAdd, Nat.reduceSub, Nat.reduceMul, Nat.reduceDiv, Nat.reduceMod, Nat.reduceBEq, Int.reduceEq, Int.reduceLT, Int.reduceLE, Int.reduceNeg, Int.reduceToNat, reduceCtorEq]; with_reducible rfl) (by simp only [go_sem, ↓reduceIte, reduceIte, Nat.reduceEqDiff, Nat.reduceLT, Nat.reduceLeDiff, Nat.reduceAdd, Nat.reduceSub, Nat.reduceMul, Nat.reduceDiv, Nat.reduceMod, Nat.reduceBEq, Int.reduceEq, Int.reduceLT, Int.reduceLE, Int.reduceNeg, Int.reduceToNat, reduceCtorEq]; with_reducible rfl) (by simp only [go_sem, ↓reduceIte, reduceIte, Nat.reduceEqDiff, Nat.reduceLT, Nat.reduceLeDiff, Nat.reduceAdd, Nat.reduceSub, Nat.reduceMul, Nat.reduceDiv, Nat.reduceMod, Nat.reduceBEq, Int.reduceEq, Int.reduceLT, Int.reduceLE, Int.reduceNeg, Int.reduceToNat, reduceCtorEq]; with_reducible rfl), j, q / k, rfl, rfl, by omega, q3, by omega, by rw [hU]; exact unpack_pre k (i + j + 1) q i (by omega)⟩
  · obtain rfl : m = 0 := by omega
    rw [hU, Nat.add_zero, unpack_last]
    repeat' (first | (with_reducible first | refine SW_seq ?_ | refine SW_block ?_ | refine SThen_n ?_ | refine SThen_r ?_ | refine SThen_e ?_ | refine SIn_n ?_ | refine SIn_r ?_ | refine SIn_eq ?_ | refine SW_skip ?_ | refine SW_exit ?_ | refine SW_ret ?_ | refine SPost_r ?_) | ((with_reducible refine SIn_ne ?_ ?_); focus decide) | ((with_reducible refine SW_true ?_ ?_); focus exact rfl) | ((with_reducible refine SW_false ?_ ?_); focus exact rfl) | ((first | (with_reducible apply SW_run tt_ok hG htb) | ((with_reducible apply SW_draw rfl tt_ok hG htb); (focus kernel_rfl); (focus (simp only [List.range, List.range.loop, List.size_toArray, List.length_cons, List.length_nil, Nat.reduceAdd])))); focus ((repeat' (first | (with_reducible exact runX_nil) | (with_reducible exact runI_nil) | ((first | (with_reducible apply runX_cons) | (with_reducible apply runI_cons)); focus (simp (discharger := omega) only [go_sem, e1, ↓reduceIte, reduceIte, Nat.reduceEqDiff, Nat.reduceLT, Nat.reduceLeDiff, Nat.reduceAdd, Nat.reduceSub, Nat.reduceMul, Nat.reduceDiv, Nat.reduceMod, Nat.reduceBEq, Int.reduceEq, Int.reduceLT, Int.reduceLE, Int.reduceNeg, Int.reduceToNat, reduceCtorEq]; with_reducible rfl)))); done)))
    exact (by simp (discharger := omega) only [go_sem, ↓reduceIte, reduceIte, Nat.reduceEqDiff, Nat.reduceLT, Nat.reduceLeDiff, Nat.reduceAdd, Nat.reduceSub, Nat.reduceMul, Nat.reduceDiv, Nat.reduceMod, Nat.reduceBEq, Int.reduceEq, Int.reduceLT, Int.reduceLE, Int.reduceNeg, Int.reduceToNat, reduceCtorEq])
end
end Go.Proofs.YtfhncnhkeodngaaDoor
namespace Go.Proofs.YtfhncnhkeodngaaDoor
open Go.RowKit

section
variable {G : World → Prop} (hG : Lasting G)
include hG
set_option maxHeartbeats 1000000 in
theorem RLetters_snd (base t : Int) : Snd Tryd.prog G 59 [tInt base, tInt t] (.tup [tInt (manyOf base t), tInt (manyErr base t)]) := by
  have htb := Tab.cons (RRadix_snd hG base) Tab.nil
  refine snd_of_body (n := 32) (tm := [(0, .t (tInt base)), (1, .t (tInt t))]) (rs := [.tmp 4, .tmp 5]) tt_ok Tryd.func59 rfl rfl rfl rfl rfl ?_
  unfold manyOf manyErr
  generalize hk : radix base = k at htb ⊢
  by_cases h1 : k = 0
  · subst h1
    repeat' (first | (with_reducible first | refine SW_seq ?_ | refine SW_block ?_ | refine SThen_n ?_ | refine SThen_r ?_ | refine SThen_e ?_ | refine SIn_n ?_ | refine SIn_r ?_ | refine SIn_eq ?_ | refine SW_skip ?_ | refine SW_exit ?_ | refine SW_ret ?_ | refine SPost_r ?_) | ((with_reducible refine SIn_ne ?_ ?_); focus decide) | ((with_reducible refine SW_true ?_ ?_); focus exact rfl) | ((with_reducible refine SW_false ?_ ?_); focus exact rfl) | ((first | (with_reducible apply SW_run tt_ok hG htb) | ((with_reducible apply SW_draw rfl tt_ok hG htb); (focus kernel_rfl); (focus (simp only [List.range, List.range.loop, List.size_toArray, List.length_cons, List.length_nil, Nat.reduceAdd])))); focus ((repeat' (first | (with_reducible exact runX_nil) | (with_reducible exact runI_nil) | ((first | (with_reducible apply runX_cons) | (with_reducible apply runI_cons)); focus (simp (discharger := omega) only [go_sem, ↓reduceIte, reduceIte, Nat.reduceEqDiff, Nat.reduceLT, Nat.reduceLeDiff, Nat.reduceAdd, Nat.reduceSub, Nat.reduceMul, Nat.reduceDiv, Nat.reduceMod, Nat.reduceBEq, Int.reduceEq, Int.reduceLT, Int.reduceLE, Int.reduceNeg, Int.reduceToNat, reduceCtorEq]; with_reducible rfl)))); done)))
    exact (by simp (discharger := omega) only [go_sem, ↓reduceIte, reduceIte, Nat.reduceEqDiff, Nat.reduceLT, Nat.reduceLeDiff, Nat.reduceAdd, Nat.reduceSub, Nat.reduceMul, Nat.reduceDiv, Nat.reduceMod, Nat.reduceBEq, Int.reduceEq, Int.reduceLT, Int.reduceLE, Int.reduceNeg, Int.reduceToNat, reduceCtorEq])
  · by_cases h2 : t < 0
    · repeat' (first | (with_reducible first | refine SW_seq ?_ | refine SW_block ?_ | refine SThen_n ?_ | refine SThen_r ?_ | refine SThen_e ?_ | refine SIn_n ?_ | refine SIn_r ?_ | refine SIn_eq ?_ | refine SW_skip ?_ | refine SW_exit ?_ | refine SW_ret ?_ | refine SPost_r ?_) | ((with_reducible refine SIn_ne ?_ ?_); focus decide) | ((with_reducible refine SW_true ?_ ?_); focus exact rfl) | ((with_reducible refine SW_false ?_ ?_); focus exact rfl) | ((first | (with_reducible apply SW_run tt_ok hG htb) | ((with_reducible apply SW_draw rfl tt_ok hG htb); (focus kernel_rfl); (focus (simp only [List.range, List.range.loop, List.size_toArray, List.length_cons, List.length_nil, Nat.reduceAdd])))); focus ((repeat' (first | (with_reducible exact runX_nil) | (with_reducible exact runI_nil) | ((first | (with_reducible apply runX_cons) | (with_reducible apply runI_cons)); focus (simp (discharger := omega) only [go_sem, ↓reduceIte, reduceIte, Nat.reduceEqDiff, Nat.reduceLT, Nat.reduceLeDiff, Nat.reduceAdd, Nat.reduceSub, Nat.reduceMul, Nat.reduceDiv, Nat.reduceMod, Nat.reduceBEq, Int.reduceEq, Int.reduceLT, Int.reduceLE, Int.reduceNeg, Int.reduceToNat, reduceCtorEq]; with_reducible rfl)))); done)))
      exact (by simp (discharger := omega) only [go_sem, ↓reduceIte, reduceIte, Nat.reduceEqDiff, Nat.reduceLT, Nat.reduceLeDiff, Nat.reduceAdd, Nat.reduceSub, Nat.reduceMul, Nat.reduceDiv, Nat.reduceMod, Nat.reduceBEq, Int.reduceEq, Int.reduceLT, Int.reduceLE, Int.reduceNeg, Int.reduceToNat, reduceCtorEq])
    · by_cases h3 : 5 < t
      · repeat' (first | (with_reducible first | refine SW_seq ?_ | refine SW_block ?_ | refine SThen_n ?_ | refine SThen_r ?_ | refine SThen_e ?_ | refine SIn_n ?_ | refine SIn_r ?_ | refine SIn_eq ?_ | refine SW_skip ?_ | refine SW_exit ?_ | refine SW_ret ?_ | refine SPost_r ?_) | ((with_reducible refine SIn_ne ?_ ?_); focus decide) | ((with_reducible refine SW_true ?_ ?_); focus exact rfl) | ((with_reducible refine SW_false ?_ ?_); focus exact rfl) | ((first | (with_reducible apply SW_run tt_ok hG htb) | ((with_reducible apply SW_draw rfl tt_ok hG htb); (focus kernel_rfl); (focus (simp only [List.range, List.range.loop, List.size_toArray, List.length_cons, List.length_nil, Nat.reduceAdd])))); focus ((repeat' (first | (with_reducible exact runX_nil) | (with_reducible exact runI_nil) | ((first | (with_reducible apply runX_cons) | (with_reducible apply runI_cons)); focus (simp (discharger := omega) only [go_sem, ↓reduceIte, reduceIte, Nat.reduceEqDiff, Nat.reduceLT, Nat.reduceLeDiff, Nat.reduceAdd, Nat.reduceSub, Nat.reduceMul, Nat.reduceDiv, Nat.reduceMod, Nat.reduceBEq, Int.reduceEq, Int.reduceLT, Int.reduceLE, Int.reduceNeg, Int.reduceToNat, reduceCtorEq]; with_reducible rfl)))); done)))
        exact (by simp (discharger := omega) only [go_sem, ↓reduceIte, reduceIte, Nat.reduceEqDiff, Nat.reduceLT, Nat.reduceLeDiff, Nat.reduceAdd, Nat.reduceSub, Nat.reduceMul, Nat.reduceDiv, Nat.reduceMod, Nat.reduceBEq, Int.reduceEq, Int.reduceLT, Int.reduceLE, Int.reduceNeg, Int.reduceToNat, reduceCtorEq])
      · obtain ⟨r2, r6⟩ := radix_two (b := base) (by omega)
        rw [hk] at r2 r6
        obtain ⟨t, rfl⟩ := Int.eq_ofNat_of_zero_le (show 0 ≤ t by omega)
        rw [show (if k = 0 ∨ (t : Int) < 0 ∨ 5 < (t : Int) then (1 : Int) else if 36 < powW k (t : Int).toNat then 3 else 0) = if 36 < powW k t then 3 else 0 by rw [if_neg (by omega)]; rfl]
        repeat' (first | (with_reducible first | refine SW_seq ?_ | refine SW_block ?_ | refine SThen_n ?_ | refine SThen_r ?_ | refine SThen_e ?_ | refine SIn_n ?_ | refine SIn_r ?_ | refine SIn_eq ?_ | refine SW_skip ?_ | refine SW_exit ?_ | refine SW_ret ?_ | refine SPost_r ?_) | ((with_reducible refine SIn_ne ?_ ?_); focus decide) | ((with_reducible refine SW_true ?_ ?_); focus exact rfl) | ((with_reducible refine SW_false ?_ ?_); focus exact rfl) | ((first | (with_reducible apply SW_run tt_ok hG htb) | ((with_reducible apply SW_draw rfl tt_ok hG htb); (focus kernel_rfl); (focus (simp only [List.range, List.range.loop, List.size_toArray, List.length_cons, List.length_nil, Nat.reduceAdd])))); focus ((repeat' (first | (with_reducible exact runX_nil) | (with_reducible exact runI_nil) | ((first | (with_reducible apply runX_cons) | (with_reducible apply runI_cons)); focus (simp (discharger := omega) only [go_sem, ↓reduceIte, reduceIte, Nat.reduceEqDiff, Nat.reduceLT, Nat.reduceLeDiff, Nat.reduceAdd, Nat.reduceSub, Nat.reduceMul, Nat.reduceDiv, Nat.reduceMod, Nat.reduceBEq, Int.reduceEq, Int.reduceLT, Int.reduceLE, Int.reduceNeg, Int.reduceToNat, reduceCtorEq]; with_reducible rfl)))); done)))
        refine SW_loop (fun m s => ∃ i : Nat, m = t - i ∧ s = ⟨32, [(1, .t (tInt t)), (6, .t (tInt k)), (7, .t (tInt (powW k i))), (8, .t (tInt i))], []⟩ ∧ i ≤ t) t ⟨_, Norm.headS (own := []) (keep := [1, 6, 7, 8]) (by simp (discharger := omega) only [go_sem, ↓reduceIte, reduceIte, Nat.reduceEqDiff, Nat.reduceLT, Nat.reduceLeDiff, Nat.reduceAdd, Nat.reduceSub, Nat.reduceMul, Nat.reduceDiv, Nat.reduceMod, Nat.reduceBEq, Int.reduceEq, Int.reduceLT, Int.reduceLE, Int.reduceNeg, Int.reduceToNat, reduceCtorEq]; with_reducible rfl) (by simp only [go_sem, ↓reduceIte, reduceIte, Nat.reduceEqDiff, Nat.reduceLT, Nat.reduceLeDiff, Nat.reduceAdd, Nat.reduceSub, Nat.reduceMul, Nat.reduceDiv, Nat.reduceMod, Nat.reduceBEq, Int.reduceEq, Int.reduceLT, Int.reduceLE, Int.reduceNeg, Int.reduceToNat, reduceCtorEq]; with_reducible rfl) (by simp only [go_sem, ↓reduceIte, reduceIte, Nat.reduceEqDiff, Nat.reduceLT, Nat.reduceLeDiff, Nat.reduceAdd, Nat.reduceSub, Nat.reduceMul, Nat.reduceDiv, Nat.reduceMod, Nat.reduceBEq, Int.reduceEq, Int.reduceLT, Int.reduceLE, Int.reduceNeg, Int.reduceToNat, reduceCtorEq]; with_reducible rfl) (by simp only [go_sem, ↓reduceIte, reduceIte, Nat.reduceEqDiff, Nat.reduceLT, Nat.reduceLeDiff, Nat.reduceAdd, Nat.reduceSub, Nat.reduceMul, Nat.reduceDiv, Nat.reduceMod, Nat.reduceBEq, Int.reduceEq, Int.reduceLT, Int.reduceLE, Int.reduceNeg, Int.reduceToNat, reduceCtorEq]; with_reducible rfl) (by simp only [go_sem, ↓reduceIte, reduceIte, Nat.reduceEqDiff, Nat.reduceLT, Nat.reduceLeDiff, Nat.reduceAdd, Nat.reduceSub, Nat.reduceMul, Nat.reduceDiv, Nat.reduceMod, Nat.reduceBEq, Int.reduceEq, Int.reduceLT, Int.reduceLE, Int.reduceNeg, Int.reduceToNat, reduceCtorEq]; with_reducible rfl), 0, rfl, rfl, Nat.zero_le _⟩ ?_
        rintro m s ⟨i, rfl, rfl, hi⟩
        have hb := powW_bd r2 r6 (j := i) (by omega)
        by_cases hlt : i < t
        · have hb1 : 1 ≤ powW k i * k ∧ powW k i * k ≤ 7776 := powW_bd r2 r6 (j := i + 1) (by omega)
          repeat' (first | (with_reducible first | refine SW_seq ?_ | refine SW_block ?_ | refine SThen_n ?_ | refine SThen_r ?_ | refine SThen_e ?_ | refine SIn_n ?_ | refine SIn_r ?_ | refine SIn_eq ?_ | refine SW_skip ?_ | refine SW_exit ?_ | refine SW_ret ?_ | refine SPost_r ?_) | ((with_reducible refine SIn_ne ?_ ?_); focus decide) | ((with_reducible refine SW_true ?_ ?_); focus exact rfl) | ((with_reducible refine SW_false ?_ ?_); focus exact rfl) | ((first | (with_reducible apply SW_run tt_ok hG htb) | ((with_reducible apply SW_draw rfl tt_ok hG htb); (focus kernel_rfl); (focus (simp only [List.range, List.range.loop, List.size_toArray, List.length_cons, List.length_nil, Nat.reduceAdd])))); focus ((repeat' (first | (with_reducible exact runX_nil) | (with_reducible exact runI_nil) | ((first | (with_reducible apply runX_cons) | (with_reducible apply runI_cons)); focus (simp (discharger := omega) only [go_sem, ↓reduceIte, reduceIte, Nat.reduceEqDiff, Nat.reduceLT, Nat.reduceLeDiff, Nat.reduceAdd, Nat.reduceSub, Nat.reduceMul, Nat.reduceDiv, Nat.reduceMod, Nat.reduceBEq, Int.reduceEq, Int.reduceLT, Int.reduceLE, Int.reduceNeg, Int.reduceToNat, reduceCtorEq]; with_reducible rfl)))); done)))
          exact ⟨t - (i + 1), _, by omega, Norm.headS (own := []) (keep := [1, 6, 7, 8]) (by simp (discharger := omega) only [go_sem, ↓reduceIte, reduceIte, Nat.reduceEqDiff, Nat.reduceLT, Nat.reduceLeDiff, Nat.reduceAdd, Nat.reduceSub, Nat.reduceMul, Nat.reduceDiv, Nat.reduceMod, Nat.reduceBEq, Int.reduceEq, Int.reduceLT, Int.reduceLE, Int.reduceNeg, Int.reduceToNat, reduceCtorEq]; with_reducible rfl) (by simp only [go_sem, ↓reduceIte, reduceIte, Nat.reduceEqDiff, Nat.reduceLT, Nat.reduceLeDiff, Nat.reduceAdd, Nat.reduceSub, Nat.reduceMul, Nat.reduceDiv, Nat.reduceMod, Nat.reduceBEq, Int.reduceEq, Int.reduceLT, Int.reduceLE, Int.reduceNeg, Int.reduceToNat, reduceCtorEq]; with_reducible rfl) (by simp only [go_sem, ↓reduceIte, reduceIte, Nat.reduceEqDiff, Nat.reduceLT, Nat.reduceLeDiff, Nat.reduceAdd, Nat.reduceSub, Nat.reduceMul, Nat.reduceDiv, Nat.reduceMod, Nat.reduceBEq, Int.reduceEq, Int.reduceLT, Int.reduceLE, Int.reduceNeg, Int.reduceToNat, reduceCtorEq]; with_reducible rfl) (by simp only [go_sem, ↓reduceIte, reduceIte, Nat.reduceEqDiff, Nat.reduceLT, Nat.reduceLeDiff, Nat.reduceAdd, Nat.reduceSub, Nat.reduceMul, Nat.reduceDiv, Nat.reduceMod, Nat.reduceBEq, Int.reduceEq, Int.reduceLT, Int.reduceLE, Int.reduceNeg, Int.reduceToNat, reduceCtorEq]; with_reducible rfl) (by simp only [go_sem, ↓reduceIte, reduceIte, Nat.reduceEqDiff, Nat.reduceLT, Nat.reduceLeDiff, Nat.reduceAdd, Nat.reduceSub, Nat.reduceMul, Nat.reduceDiv, Nat.reduceMod, Nat.reduceBEq, Int.reduceEq, Int.reduceLT, Int.reduceLE, Int.reduceNeg, Int.reduceToNat, reduceCtorEq]; with_reducible rfl), i + 1, rfl, rfl, by omega⟩
        · obtain rfl : i = t := by omega
          by_cases h36 : 36 < powW k i
          · repeat' (first | (with_reducible first | refine SW_seq ?_ | refine SW_block ?_ | refine SThen_n ?_ | refine SThen_r ?_ | refine SThen_e ?_ | refine SIn_n ?_ | refine SIn_r ?_ | refine SIn_eq ?_ | refine SW_skip ?_ | refine SW_exit ?_ | refine SW_ret ?_ | refine SPost_r ?_) | ((with_reducible refine SIn_ne ?_ ?_); focus decide) | ((with_reducible refine SW_true ?_ ?_); focus exact rfl) | ((with_reducible refine SW_false ?_ ?_); focus exact rfl) | ((first | (with_reducible apply SW_run tt_ok hG htb) | ((with_reducible apply SW_draw rfl tt_ok hG htb); (focus kernel_rfl); (focus (simp only [List.range, List.range.loop, List.size_toArray, List.length_cons, List.length_nil, Nat.reduceAdd])))); focus ((repeat' (first | (with_reducible exact runX_nil) | (with_reducible exact runI_nil) | ((first | (with_reducible apply runX_cons) | (with_reducible apply runI_cons)); focus (simp (discharger := omega) only [go_sem, ↓reduceIte, reduceIte, Nat.reduceEqDiff, Nat.reduceLT, Nat.reduceLeDiff, Nat.reduceAdd, Nat.reduceSub, Nat.reduceMul, Nat.reduceDiv, Nat.reduceMod, Nat.reduceBEq, Int.reduceEq, Int.reduceLT, Int.reduceLE, Int.reduceNeg, Int.reduceToNat, reduceCtorEq]; with_reducible rfl)))); done)))
            exact (by simp (discharger := omega) only [go_sem, ↓reduceIte, reduceIte, Nat.reduceEqDiff, Nat.reduceLT, Nat.reduceLeDiff, Nat.reduceAdd, Nat.reduceSub, Nat.reduceMul, Nat.reduceDiv, Nat.reduceMod, Nat.reduceBEq, Int.reduceEq, Int.reduceLT, Int.reduceLE, Int.reduceNeg, Int.reduceToNat, reduceCtorEq])
          · repeat' (first | (with_reducible first | refine SW_seq ?_ | refine SW_block ?_ | refine SThen_n ?_ | refine SThen_r ?_ | refine SThen_e ?_ | refine SIn_n ?_ | refine SIn_r ?_ | refine SIn_eq ?_ | refine SW_skip ?_ | refine SW_exit ?_ | refine SW_ret ?_ | refine SPost_r ?_) | ((with_reducible refine SIn_ne ?_ ?_); focus decide) | ((with_reducible refine SW_true ?_ ?_); focus exact rfl) | ((with_reducible refine SW_false ?_ ?_); focus exact rfl) | ((first | (with_reducible apply SW_run tt_ok hG htb) | ((with_reducible apply SW_draw rfl tt_ok hG htb); (focus kernel_rfl); (focus (simp only [List.range, List.range.loop, List.size_toArray, List.length_cons, List.length_nil, Nat.reduceAdd])))); focus ((repeat' (first | (with_reducible exact runX_nil) | (with_reducible exact runI_nil) | ((first | (with_reducible apply runX_cons) | (with_reducible apply runI_cons)); focus (simp (discharger := omega) only [go_sem, ↓reduceIte, reduceIte, Nat.reduceEqDiff, Nat.reduceLT, Nat.reduceLeDiff, Nat.reduceAdd, Nat.reduceSub, Nat.reduceMul, Nat.reduceDiv, Nat.reduceMod, Nat.reduceBEq, Int.reduceEq, Int.reduceLT, Int.reduceLE, Int.reduceNeg, Int.reduceToNat, reduceCtorEq]; with_reducible rfl)))); done)))
            exact (by simp (discharger := omega) only [go_sem, ↓reduceIte, reduceIte, Nat.reduceEqDiff, Nat.reduceLT, Nat.reduceLeDiff, Nat.reduceAdd, Nat.reduceSub, Nat.reduceMul, Nat.reduceDiv, Nat.reduceMod, Nat.reduceBEq, Int.reduceEq, Int.reduceLT, Int.reduceLE, Int.reduceNeg, Int.reduceToNat, reduceCtorEq])
end
end Go.Proofs.YtfhncnhkeodngaaDoor
namespace Go.Proofs.YtfhncnhkeodngaaDoor
open Go.RowKit

section
variable {G : World → Prop} (hG : Lasting G)
include hG
end
end Go.Proofs.YtfhncnhkeodngaaDoor
namespace Go.Proofs.YtfhncnhkeodngaaDoor
open Go.RowKit
section
variable {G : World → Prop} (hG : Lasting G)
include hG
end
end Go.Proofs.YtfhncnhkeodngaaDoor
namespace Go.Proofs.YtfhncnhkeodngaaDoor
open Go.RowKit

section
variable {G : World → Prop} (hG : Lasting G)
include hG
end
end Go.Proofs.YtfhncnhkeodngaaDoor
namespace Go.Proofs.YtfhncnhkeodngaaDoor
open Go.RowKit

section
variable {G : World → Prop} (hG : Lasting G)
include hG
end
end Go.Proofs.YtfhncnhkeodngaaDoor
namespace Go.Proofs.YtfhncnhkeodngaaDoor
open Go.RowKit
section
variable {G : World → Prop} (hG : Lasting G)
include hG
end
end Go.Proofs.YtfhncnhkeodngaaDoor
namespace Go.Proofs.YtfhncnhkeodngaaDoor

/-- The language of an automaton. -/
def lng (a : GAuto) : List Nat → Bool := lang a.next a.ends 0
/-- It is the least automaton of a language. -/
structure IsLeast (a : GAuto) (n : Nat) (base tracks : Int) (L : List Nat → Bool) : Prop where
  base : a.base = base
  tracks : a.tracks = tracks
  least : Least n a.next a.ends L
theorem IsLeast.unique {a b : GAuto} {n : Nat} {base tracks : Int} {L L' : List Nat → Bool} (h : IsLeast a n base tracks L) (h' : IsLeast b n base tracks L') (hL : ∀ w, Ltr n w → L w = L' w) : a = b := by
  have := (h.least.lang_congr hL).unique h'.least
  cases a; cases b
  simp only [GAuto.mk.injEq]
  exact ⟨h.base.trans h'.base.symm, h.tracks.trans h'.tracks.symm, this.1, this.2⟩
theorem Least.length_pos {n : Nat} {N : List (List Int)} {E : List Bool} {L : List Nat → Bool} (h : Least n N E L) : 0 < N.length := h.canon.m0
theorem Least.not {n : Nat} {N : List (List Int)} {E : List Bool} {L : List Nat → Bool} (h : Least n N E L) : Least n N (E.map (!·)) fun w => !L w := by
  have key : ∀ k, k < N.length → (E.map (!·)).getD k false = !E.getD k false := fun k hk => by
    have := h.len
    rw [getD_lt (by simp; omega), getD_lt (by omega)]; simp
  have hrun : ∀ (w : List Nat) (s : Nat), s < N.length → Ltr n w → runN (fun k l => ((N.getD k []).getD l 0).toNat) s w < N.length := by
    intro w
    induction w with
    | nil => intro s hs _; exact hs
    | cons l w ih => intro s hs hw; exact ih _ (h.canon.lt s l hs (hw l List.mem_cons_self)) fun x hx => hw x (List.mem_cons_of_mem _ hx)
  refine ⟨by simp [h.len], h.row, h.pos, h.canon.m0, h.canon.lt, fun w hw => ?_, h.canon.rg, h.canon.reach, fun s t hs ht hh => h.canon.red s t hs ht fun w hw => ?_⟩
  · rw [key _ (hrun w 0 h.canon.m0 hw)]; exact congrArg _ (h.canon.lang w hw)
  · have := hh w hw
    rw [key _ (hrun w s hs hw), key _ (hrun w t ht hw)] at this
    simpa using this
/-- One state alone. -/
theorem least_const (n : Nat) (c : Bool) : Least n [List.replicate n 0] [c] fun _ => c := by
  have hd : ∀ s l : Nat, ((([List.replicate n (0 : Int)]).getD s []).getD l 0).toNat = 0 := fun s l => by
    match s with
    | 0 => simp [List.getD_eq_getElem?_getD, List.getElem?_replicate]; split <;> simp
    | s + 1 => simp
  have hr : ∀ w : List Nat, runN (fun k l => ((([List.replicate n (0 : Int)]).getD k []).getD l 0).toNat) 0 w = 0 := fun w => by
    induction w with
    | nil => rfl
    | cons l w ih => show runN _ ((([List.replicate n (0 : Int)]).getD 0 []).getD l 0).toNat w = 0; rw [hd]; exact ih
  refine ⟨rfl, fun r hr => by simp at hr; subst hr; simp, fun r hr x hx => by simp at hr; subst hr; simp at hx; omega, by simp, fun s l hs hl => by simp only [hd]; simp, fun w hw => by rw [hr]; rfl, fun s l hs hl t h0 ht => by simp only [hd] at ht; omega, fun t h0 ht => by simp at ht; omega, fun s t hs ht _ => by simp at hs ht; omega⟩
/-- A least automaton takes the words of its language. -/
theorem IsLeast.lng {a : GAuto} {n : Nat} {base tracks : Int} {L : List Nat → Bool} (h : IsLeast a n base tracks L) {w : List Nat} (hw : Ltr n w) : Go.Proofs.YtfhncnhkeodngaaDoor.lng a w = L w := h.least.takes hw
end Go.Proofs.YtfhncnhkeodngaaDoor
