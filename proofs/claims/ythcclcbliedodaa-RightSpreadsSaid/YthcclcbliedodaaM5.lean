/- Plain laws, data behind worlds, and contracts of functions, for the last text. No conditions. -/
import Derived.Test.YthcclcbliedodaaLay
import Derived.Test.YthcclcbliedodaaM4
import Derived.Test.YthcclcbliedodaaChecked
import Derived.Shelf.SortM.Plain
import Derived.Shelf.SortM.SortNone
import Derived.Sort.OwnSortedInts
import Derived.Ground.SlgmProg
import Derived.Shelf.SlicesG.CompactI
import Derived.Ground.SlgnProg
import Derived.Lib.OwnBridge
set_option linter.unusedSimpArgs false
set_option linter.unusedVariables false
set_option linter.unnecessarySimpa false
set_option linter.unusedSectionVars false
namespace Go.Proofs.Ythcclcbliedodaa
open Go.RowKit

def tt0 : Nat → Option TI
  | 1 => some ⟨.plain, 1, 8, [.t .undef], false⟩
  | 2 => some ⟨.int .i64, 1, 8, [.t (.int .i64 0)], false⟩
  | 3 => some ⟨.int .i64, 1, 8, [.t (.int .i64 0)], false⟩
  | 4 => some ⟨.bool, 1, 1, [.t (.bool false)], false⟩
  | 5 => some ⟨.int .u8, 1, 1, [.t (.int .u8 0)], false⟩
  | 6 => some ⟨.int .u8, 1, 1, [.t (.int .u8 0)], false⟩
  | 7 => some ⟨.struct [(0, 1), (1, 1), (2, 1), (3, 1)], 4, 24, [.t (.int .i64 0), .t (.int .i64 0), .t (.bool false), .t (.int .u8 0)], false⟩
  | _ => none
def tt1 : Nat → Option TI
  | 8 => some ⟨.struct [(0, 1), (1, 1), (2, 1), (3, 1)], 4, 24, [.t (.int .i64 0), .t (.int .i64 0), .t (.bool false), .t (.int .u8 0)], false⟩
  | 9 => some ⟨.str, 1, 16, [.t (.str ByteArray.empty)], false⟩
  | 10 => some ⟨.str, 1, 16, [.t (.str ByteArray.empty)], false⟩
  | 11 => some ⟨.str, 1, 16, [.t (.str ByteArray.empty)], false⟩
  | 12 => some ⟨.int .u64, 1, 8, [.t (.int .u64 0)], false⟩
  | 13 => some ⟨.struct [(0, 1), (1, 1)], 2, 24, [.t (.str ByteArray.empty), .t (.int .u64 0)], false⟩
  | 14 => some ⟨.struct [(0, 1), (1, 1)], 2, 24, [.t (.str ByteArray.empty), .t (.int .u64 0)], false⟩
  | 15 => some ⟨.plain, 1, 8, [.t .undef], false⟩
  | _ => none
def tt2 : Nat → Option TI
  | 16 => some ⟨.plain, 1, 8, [.t .undef], false⟩
  | 17 => some ⟨.plain, 1, 8, [.t .undef], false⟩
  | 18 => some ⟨.struct [(0, 1)], 1, 8, [.t .undef], false⟩
  | 19 => some ⟨.struct [(0, 1)], 1, 8, [.t .undef], false⟩
  | 20 => some ⟨.iface, 1, 16, [.t .nilI], false⟩
  | 21 => some ⟨.int .i32, 1, 4, [.t (.int .i32 0)], false⟩
  | 22 => some ⟨.slice 26, 1, 24, [.nil], false⟩
  | 23 => some ⟨.slice 4, 1, 24, [.nil], false⟩
  | _ => none
def tt3 : Nat → Option TI
  | 24 => some ⟨.struct [(0, 1), (1, 1), (2, 1), (3, 1)], 4, 64, [.t (.int .i64 0), .t (.int .i64 0), .nil, .nil], false⟩
  | 25 => some ⟨.struct [(0, 1), (1, 1), (2, 1), (3, 1)], 4, 64, [.t (.int .i64 0), .t (.int .i64 0), .nil, .nil], false⟩
  | 26 => some ⟨.slice 3, 1, 24, [.nil], false⟩
  | 27 => some ⟨.slice 22, 1, 24, [.nil], false⟩
  | 28 => some ⟨.struct [(0, 1), (1, 1), (2, 1), (3, 1), (4, 1)], 5, 88, [.t (.int .i64 0), .t (.int .i64 0), .nil, .nil, .nil], false⟩
  | 29 => some ⟨.struct [(0, 1), (1, 1), (2, 1), (3, 1), (4, 1)], 5, 88, [.t (.int .i64 0), .t (.int .i64 0), .nil, .nil, .nil], false⟩
  | 30 => some ⟨.iface, 1, 16, [.t .nilI], false⟩
  | 31 => some ⟨.iface, 1, 16, [.t .nilI], false⟩
  | _ => none
def tt4 : Nat → Option TI
  | 33 => some ⟨.plain, 1, 8, [.t .undef], false⟩
  | 34 => some ⟨.plain, 1, 8, [.t .undef], false⟩
  | 36 => some ⟨.plain, 1, 8, [.t .undef], false⟩
  | 37 => some ⟨.plain, 1, 8, [.t .undef], false⟩
  | 38 => some ⟨.plain, 1, 8, [.t .undef], false⟩
  | 39 => some ⟨.plain, 1, 8, [.t .undef], false⟩
  | _ => none
def tt5 : Nat → Option TI
  | 40 => some ⟨.plain, 1, 8, [.t .undef], false⟩
  | 41 => some ⟨.plain, 1, 8, [.t .undef], false⟩
  | 43 => some ⟨.plain, 1, 8, [.t .undef], false⟩
  | 45 => some ⟨.plain, 1, 8, [.t .undef], false⟩
  | 46 => some ⟨.plain, 1, 8, [.t .undef], false⟩
  | 47 => some ⟨.plain, 1, 8, [.t .undef], false⟩
  | _ => none
def tt6 : Nat → Option TI
  | 48 => some ⟨.plain, 1, 8, [.t .undef], false⟩
  | 49 => some ⟨.plain, 1, 8, [.t .undef], false⟩
  | 50 => some ⟨.plain, 1, 8, [.t .undef], false⟩
  | 51 => some ⟨.plain, 1, 8, [.t .undef], false⟩
  | 52 => some ⟨.plain, 1, 8, [.t .undef], false⟩
  | 53 => some ⟨.plain, 1, 8, [.t .undef], false⟩
  | 54 => some ⟨.plain, 1, 8, [.t .undef], false⟩
  | 55 => some ⟨.plain, 1, 8, [.t .undef], false⟩
  | _ => none
def tt7 : Nat → Option TI
  | 56 => some ⟨.int .i64, 1, 8, [.t (.int .i64 0)], false⟩
  | 57 => some ⟨.plain, 1, 8, [.t .undef], false⟩
  | 59 => some ⟨.plain, 1, 8, [.t .undef], false⟩
  | 60 => some ⟨.plain, 1, 8, [.t .undef], false⟩
  | 61 => some ⟨.plain, 1, 8, [.t .undef], false⟩
  | 63 => some ⟨.plain, 1, 8, [.t .undef], false⟩
  | _ => none
def tt8 : Nat → Option TI
  | 64 => some ⟨.plain, 1, 8, [.t .undef], false⟩
  | 65 => some ⟨.plain, 1, 8, [.t .undef], false⟩
  | 67 => some ⟨.plain, 1, 8, [.t .undef], false⟩
  | 69 => some ⟨.plain, 1, 8, [.t .undef], false⟩
  | 70 => some ⟨.plain, 1, 8, [.t .undef], false⟩
  | 71 => some ⟨.plain, 1, 8, [.t .undef], false⟩
  | _ => none
def tt9 : Nat → Option TI
  | 72 => some ⟨.plain, 1, 8, [.t .undef], false⟩
  | 74 => some ⟨.plain, 1, 8, [.t .undef], false⟩
  | 75 => some ⟨.plain, 1, 8, [.t .undef], false⟩
  | 76 => some ⟨.array 2 3, 2, 16, [.t (.int .i64 0), .t (.int .i64 0)], false⟩
  | 77 => some ⟨.map (.ints 2) 76 3, 1, 8, [.t .undef], false⟩
  | 78 => some ⟨.slice 76, 1, 24, [.nil], false⟩
  | _ => none
def tt10 : Nat → Option TI
  | 80 => some ⟨.plain, 1, 8, [.t .undef], false⟩
  | 81 => some ⟨.plain, 1, 8, [.t .undef], false⟩
  | 82 => some ⟨.plain, 1, 8, [.t .undef], false⟩
  | 83 => some ⟨.plain, 1, 8, [.t .undef], false⟩
  | 84 => some ⟨.plain, 1, 8, [.t .undef], false⟩
  | 85 => some ⟨.plain, 1, 8, [.t .undef], false⟩
  | 86 => some ⟨.map (.ints 2) 76 26, 1, 8, [.t .undef], false⟩
  | 87 => some ⟨.map (.str) 9 3, 1, 8, [.t .undef], false⟩
  | _ => none
def tt11 : Nat → Option TI
  | 88 => some ⟨.slice 5, 1, 24, [.nil], false⟩
  | 89 => some ⟨.int .u64, 1, 8, [.t (.int .u64 0)], false⟩
  | 90 => some ⟨.plain, 1, 8, [.t .undef], false⟩
  | 91 => some ⟨.plain, 1, 8, [.t .undef], false⟩
  | 92 => some ⟨.plain, 1, 8, [.t .undef], false⟩
  | 93 => some ⟨.plain, 1, 8, [.t .undef], false⟩
  | 94 => some ⟨.plain, 1, 8, [.t .undef], false⟩
  | 95 => some ⟨.plain, 1, 8, [.t .undef], false⟩
  | _ => none
def tt12 : Nat → Option TI
  | 96 => some ⟨.plain, 1, 8, [.t .undef], false⟩
  | 97 => some ⟨.plain, 1, 8, [.t .undef], false⟩
  | 98 => some ⟨.plain, 1, 8, [.t .undef], false⟩
  | 99 => some ⟨.plain, 1, 8, [.t .undef], false⟩
  | 100 => some ⟨.plain, 1, 8, [.t .undef], false⟩
  | 101 => some ⟨.plain, 1, 8, [.t .undef], false⟩
  | 102 => some ⟨.int .i64, 1, 8, [.t (.int .i64 0)], false⟩
  | _ => none
def tt13 : Nat → Option TI
  | 104 => some ⟨.plain, 1, 8, [.t .undef], false⟩
  | 105 => some ⟨.plain, 1, 8, [.t .undef], false⟩
  | 106 => some ⟨.plain, 1, 8, [.t .undef], false⟩
  | 107 => some ⟨.plain, 1, 8, [.t .undef], false⟩
  | 108 => some ⟨.plain, 1, 8, [.t .undef], false⟩
  | 109 => some ⟨.plain, 1, 8, [.t .undef], false⟩
  | 110 => some ⟨.int .u32, 1, 4, [.t (.int .u32 0)], false⟩
  | 111 => some ⟨.plain, 1, 8, [.t .undef], false⟩
  | _ => none
def tt14 : Nat → Option TI
  | 112 => some ⟨.int .u64, 1, 8, [.t (.int .u64 0)], false⟩
  | 113 => some ⟨.int .u64, 1, 8, [.t (.int .u64 0)], false⟩
  | 114 => some ⟨.plain, 1, 8, [.t .undef], false⟩
  | 115 => some ⟨.plain, 1, 8, [.t .undef], false⟩
  | 116 => some ⟨.plain, 1, 8, [.t .undef], false⟩
  | 117 => some ⟨.plain, 1, 8, [.t .undef], false⟩
  | 118 => some ⟨.plain, 1, 8, [.t .undef], false⟩
  | 119 => some ⟨.plain, 1, 8, [.t .undef], false⟩
  | _ => none
def tt15 : Nat → Option TI
  | 121 => some ⟨.plain, 1, 8, [.t .undef], false⟩
  | 122 => some ⟨.plain, 1, 8, [.t .undef], false⟩
  | 123 => some ⟨.struct [(0, 1), (1, 1), (2, 1), (3, 1)], 4, 40, [.t .undef, .t .undef, .t .undef, .t (.str ByteArray.empty)], false⟩
  | 124 => some ⟨.struct [(0, 1), (1, 1), (2, 1), (3, 1)], 4, 40, [.t .undef, .t .undef, .t .undef, .t (.str ByteArray.empty)], false⟩
  | _ => none
def tt16 : Nat → Option TI
  | 128 => some ⟨.plain, 1, 8, [.t .undef], false⟩
  | 129 => some ⟨.int .u8, 1, 1, [.t (.int .u8 0)], false⟩
  | 130 => some ⟨.int .u8, 1, 1, [.t (.int .u8 0)], false⟩
  | 131 => some ⟨.plain, 1, 8, [.t .undef], false⟩
  | 132 => some ⟨.plain, 1, 8, [.t .undef], false⟩
  | 133 => some ⟨.int .i32, 1, 4, [.t (.int .i32 0)], false⟩
  | 134 => some ⟨.int .i32, 1, 4, [.t (.int .i32 0)], false⟩
  | 135 => some ⟨.struct [(0, 1), (1, 1), (2, 1), (3, 1), (4, 1), (5, 1), (6, 1), (7, 1), (8, 1), (9, 1), (10, 1)], 11, 48, [.t (.int .u64 0), .t (.int .u64 0), .t (.int .u32 0), .t (.int .u8 0), .t (.int .u8 0), .t (.int .u8 0), .t (.int .u8 0), .t .undef, .t .undef, .t (.int .i32 0), .t (.int .i32 0)], false⟩
  | _ => none
def tt17 : Nat → Option TI
  | 136 => some ⟨.struct [(0, 1), (1, 1), (2, 1), (3, 1), (4, 1), (5, 1), (6, 1), (7, 1), (8, 1), (9, 1), (10, 1)], 11, 48, [.t (.int .u64 0), .t (.int .u64 0), .t (.int .u32 0), .t (.int .u8 0), .t (.int .u8 0), .t (.int .u8 0), .t (.int .u8 0), .t .undef, .t .undef, .t (.int .i32 0), .t (.int .i32 0)], false⟩
  | _ => none
def tts0 (n : Nat) : Nat → Option TI
  | 0 => tt0 n
  | 1 => tt1 n
  | 2 => tt2 n
  | 3 => tt3 n
  | 4 => tt4 n
  | 5 => tt5 n
  | 6 => tt6 n
  | 7 => tt7 n
  | _ => none
def tts1 (n : Nat) : Nat → Option TI
  | 8 => tt8 n
  | 9 => tt9 n
  | 10 => tt10 n
  | 11 => tt11 n
  | 12 => tt12 n
  | 13 => tt13 n
  | 14 => tt14 n
  | 15 => tt15 n
  | _ => none
def tts2 (n : Nat) : Nat → Option TI
  | 16 => tt16 n
  | 17 => tt17 n
  | _ => none
def tt (n : Nat) : Option TI := match n / 64 with
  | 0 => tts0 n (n / 8)
  | 1 => tts1 n (n / 8)
  | 2 => tts2 n (n / 8)
  | _ => none
set_option maxRecDepth 100000
theorem laid : laidOutB Try.prog = true := by kernel_rfl
theorem small : Try.prog.types.size + 2 ≤ 10000 := of_decide_eq_true (by kernel_rfl)
theorem tt0_ok : TTok Try.prog tt0 := by
  intro t i h
  unfold tt0 at h
  split at h <;> first
    | (cases h; exact chkTI_ok laid small (by kernel_rfl))
    | cases h
theorem tt1_ok : TTok Try.prog tt1 := by
  intro t i h
  unfold tt1 at h
  split at h <;> first
    | (cases h; exact chkTI_ok laid small (by kernel_rfl))
    | cases h
theorem tt2_ok : TTok Try.prog tt2 := by
  intro t i h
  unfold tt2 at h
  split at h <;> first
    | (cases h; exact chkTI_ok laid small (by kernel_rfl))
    | cases h
theorem tt3_ok : TTok Try.prog tt3 := by
  intro t i h
  unfold tt3 at h
  split at h <;> first
    | (cases h; exact chkTI_ok laid small (by kernel_rfl))
    | cases h
theorem tt4_ok : TTok Try.prog tt4 := by
  intro t i h
  unfold tt4 at h
  split at h <;> first
    | (cases h; exact chkTI_ok laid small (by kernel_rfl))
    | cases h
theorem tt5_ok : TTok Try.prog tt5 := by
  intro t i h
  unfold tt5 at h
  split at h <;> first
    | (cases h; exact chkTI_ok laid small (by kernel_rfl))
    | cases h
theorem tt6_ok : TTok Try.prog tt6 := by
  intro t i h
  unfold tt6 at h
  split at h <;> first
    | (cases h; exact chkTI_ok laid small (by kernel_rfl))
    | cases h
theorem tt7_ok : TTok Try.prog tt7 := by
  intro t i h
  unfold tt7 at h
  split at h <;> first
    | (cases h; exact chkTI_ok laid small (by kernel_rfl))
    | cases h
theorem tt8_ok : TTok Try.prog tt8 := by
  intro t i h
  unfold tt8 at h
  split at h <;> first
    | (cases h; exact chkTI_ok laid small (by kernel_rfl))
    | cases h
theorem tt9_ok : TTok Try.prog tt9 := by
  intro t i h
  unfold tt9 at h
  split at h <;> first
    | (cases h; exact chkTI_ok laid small (by kernel_rfl))
    | cases h
theorem tt10_ok : TTok Try.prog tt10 := by
  intro t i h
  unfold tt10 at h
  split at h <;> first
    | (cases h; exact chkTI_ok laid small (by kernel_rfl))
    | cases h
theorem tt11_ok : TTok Try.prog tt11 := by
  intro t i h
  unfold tt11 at h
  split at h <;> first
    | (cases h; exact chkTI_ok laid small (by kernel_rfl))
    | cases h
theorem tt12_ok : TTok Try.prog tt12 := by
  intro t i h
  unfold tt12 at h
  split at h <;> first
    | (cases h; exact chkTI_ok laid small (by kernel_rfl))
    | cases h
theorem tt13_ok : TTok Try.prog tt13 := by
  intro t i h
  unfold tt13 at h
  split at h <;> first
    | (cases h; exact chkTI_ok laid small (by kernel_rfl))
    | cases h
theorem tt14_ok : TTok Try.prog tt14 := by
  intro t i h
  unfold tt14 at h
  split at h <;> first
    | (cases h; exact chkTI_ok laid small (by kernel_rfl))
    | cases h
theorem tt15_ok : TTok Try.prog tt15 := by
  intro t i h
  unfold tt15 at h
  split at h <;> first
    | (cases h; exact chkTI_ok laid small (by kernel_rfl))
    | cases h
theorem tt16_ok : TTok Try.prog tt16 := by
  intro t i h
  unfold tt16 at h
  split at h <;> first
    | (cases h; exact chkTI_ok laid small (by kernel_rfl))
    | cases h
theorem tt17_ok : TTok Try.prog tt17 := by
  intro t i h
  unfold tt17 at h
  split at h <;> first
    | (cases h; exact chkTI_ok laid small (by kernel_rfl))
    | cases h
theorem tts0_ok (k : Nat) : TTok Try.prog (fun n => tts0 n k) := by
  intro t i h
  unfold tts0 at h
  split at h <;> first
    | exact tt0_ok _ _ h
    | exact tt1_ok _ _ h
    | exact tt2_ok _ _ h
    | exact tt3_ok _ _ h
    | exact tt4_ok _ _ h
    | exact tt5_ok _ _ h
    | exact tt6_ok _ _ h
    | exact tt7_ok _ _ h
    | cases h
theorem tts1_ok (k : Nat) : TTok Try.prog (fun n => tts1 n k) := by
  intro t i h
  unfold tts1 at h
  split at h <;> first
    | exact tt8_ok _ _ h
    | exact tt9_ok _ _ h
    | exact tt10_ok _ _ h
    | exact tt11_ok _ _ h
    | exact tt12_ok _ _ h
    | exact tt13_ok _ _ h
    | exact tt14_ok _ _ h
    | exact tt15_ok _ _ h
    | cases h
theorem tts2_ok (k : Nat) : TTok Try.prog (fun n => tts2 n k) := by
  intro t i h
  unfold tts2 at h
  split at h <;> first
    | exact tt16_ok _ _ h
    | exact tt17_ok _ _ h
    | cases h
theorem tt_ok : TTok Try.prog tt := by
  intro t i h
  unfold tt at h
  split at h <;> first
    | exact tts0_ok _ _ _ h
    | exact tts1_ok _ _ _ h
    | exact tts2_ok _ _ _ h
    | cases h
end Go.Proofs.Ythcclcbliedodaa
namespace Go.Proofs
open Go.Shelf
end Go.Proofs
namespace Go.Proofs.Ythcclcbliedodaa
open Go.RowKit Go.Sort Go.Lib

def iL (l : List Int) : List T := l.map (T.int .i64)
theorem iL_length (l : List Int) : (iL l).length = l.length := List.length_map _
theorem flat_iL (l : List Int) : flat (iL l) = iL l := by
  induction l with
  | nil => rfl
  | cons x l ih => simp only [flat, iL, List.map_cons, List.flatMap_cons, T.cells] at ih ⊢; rw [ih]; rfl
theorem iL_vals {S : Nat → Prop} {w : World} {l : List Int} {xs : List Value} (h : RepL S w (flat (iL l)) xs) : xs = l.map (Value.int .i64) := by
  rw [flat_iL] at h
  apply List.ext_getElem?
  intro k
  have hlen := h.len
  rw [iL_length] at hlen
  by_cases hk : k < l.length
  · have e1 : (iL l)[k]? = some (.int .i64 l[k]) := by unfold iL; rw [List.getElem?_map, List.getElem?_eq_getElem hk]; rfl
    have e2 : xs[k]? = some (xs[k]'(by omega)) := List.getElem?_eq_getElem _
    have := h.rep k _ _ e1 e2
    generalize xs[k]'(by omega) = v at this e2
    cases this
    rw [e2, List.getElem?_map, List.getElem?_eq_getElem hk]; rfl
  · rw [List.getElem?_eq_none (by omega), List.getElem?_eq_none (by simp; omega)]
theorem iL_rep (S : Nat → Prop) (w : World) (l : List Int) : RepL S w (flat (iL l)) (l.map (Value.int .i64)) := by
  rw [flat_iL]
  refine ⟨by simp [iL], fun v hv => ?_, fun k y v h1 h2 => ?_⟩
  · obtain ⟨x, _, rfl⟩ := List.mem_map.1 hv; rfl
  · unfold iL at h1
    rw [List.getElem?_map, Option.map_eq_some_iff] at h1 h2
    obtain ⟨x, hx, rfl⟩ := h1
    obtain ⟨y, hy, rfl⟩ := h2
    rw [hx] at hy; cases hy
    exact .int _ _
theorem enter_body {P : Program} {f : Nat} {fn : Func} {c : Code} (hf : P.funcs[f]? = some fn) (hb : fn.body = some c) (hn : (fn.name == "runtime.NumGoroutine") = false) (vs : Array Value) (w : World) : (callFunc f vs).run P w = .ok (.enter f vs) w := by
  unfold callFunc
  rw [Sem.run_bind, run_program, Result.andThen_ok]
  simp only [hf, hn, hb, Option.isNone_some, Bool.false_eq_true, if_false]
  rfl
section
variable {P : Program} {C : Ctx} {hd : List Hd} {w w' : World} {e : Nat} {l ys : List Int}
theorem row_open (hr : StR C ⟨0, [], [.row e 1 true (iL l)]⟩ hd act0 w) {v : Value} (hv : RepS (vis C hd) w hd (.sref 0) v) : ∃ ad cap, v = .slice ad l.length cap ∧ hd = [.sl ad l.length cap (Value.slice ad l.length cap).ownBlock] ∧ w.ownsRow C.w0.heap.size e 1 (.slice ad l.length cap) l.length (l.map (Value.int .i64)) := by
  cases hv with
  | sref _ ad n cap o hh =>
  have hob := hr.ob 0 _ _ rfl hh
  obtain ⟨e1, e2, e3, e4, e5⟩ := hob
  rw [iL_length] at e1
  subst e1
  rcases e5 with ⟨xs, f1, f2, f3⟩ | ⟨q, _⟩
  rotate_left
  · cases q
  have hl := hr.hl
  match hd, hh, hl with
  | [x], hh, _ =>
    simp only [List.getElem?_cons_zero, Option.some.injEq] at hh
    subst hh
    rw [iL_vals f3] at f1
    exact ⟨ad, cap, rfl, by rw [f2], f1⟩
theorem row_change (hr : StR C ⟨0, [], [.row e 1 true (iL l)]⟩ hd act0 w) {ad : Option Addr} {n n' cap : Nat} {o : Option Nat} (hh : hd = [.sl ad n cap o]) (ho2 : o = (Value.slice ad n' cap).ownBlock) (hg : w.grownBy w' o)
    (ho : w'.ownsRow C.w0.heap.size e 1 (.slice ad n' cap) n' (ys.map (Value.int .i64))) (hn : n' = ys.length) (hm : ys.length ≤ maxLen) : StR C ⟨0, [], [.row e 1 true (iL ys)]⟩ [.sl ad n' cap o] act0 w' := by
  subst hh
  have hown : ∀ b, o = some b → C.w0.heap.size ≤ b ∧ b < w.heap.size := fun b hb => hr.own _ b List.mem_cons_self hb
  have := hr.set (fun _ => none) 0 (.row e 1 true (iL ys)) _ (.sl ad n' cap o) rfl ((Below.refl _ w).grown hg hr.below.size fun k hk => (hown k hk).1) (fun b hb hne => hg.block b hb fun q => hne (by rw [← q]; rfl))
    (fun b hb => ⟨(hown b hb).1, Nat.lt_of_lt_of_le (hown b hb).2 hg.size, .inl hb⟩) (fun i j h e => by cases e) ⟨by rw [iL_length]; exact hn, Nat.one_pos, by rw [iL_length]; exact hm, fun x hx => by
      obtain ⟨y, _, rfl⟩ := List.mem_map.1 hx; rfl, .inl ⟨_, ho, ho2, iL_rep _ _ _⟩⟩
  exact this
end
section
variable {G : World → Prop}
theorem Sort_snd (e : Nat) (l : List Int) (hl : l.length < 4611686018427387904) : SndG Try.prog G 60 [.sref 0] [.row e 1 true (iL l)] [0] (.t (.tup [])) [.row e 1 true (iL (sortL l))] := by
  refine ⟨enter_body Try.func60 rfl rfl, Nat.le_refl _, fun i l h => ?_, fun C hd w vs hG hr hvs hrep => ?_⟩
  · match i, h with
    | 0, h => cases h
  · obtain ⟨v, rfl⟩ : ∃ v, vs = #[v] := by
      match vs, hvs with
      | ⟨[v]⟩, _ => exact ⟨v, rfl⟩
    obtain ⟨ad, cap, rfl, hd0, hown⟩ := row_open hr (hrep 0 _ _ rfl rfl)
    have fin : ∀ w', StR C ⟨0, [], [.row e 1 true (iL (sortL l))]⟩ [.sl ad l.length cap (Value.slice ad l.length cap).ownBlock] act0 w' → ∃ v hd', Ending.returned (.tuple #[]) = .returned v ∧ StR C ⟨0, [], [.row e 1 true (iL (sortL l))]⟩ hd' act0 w' ∧ (∀ (i : Nat) (q : List SV) (b : Nat), ([.row e 1 true (iL l)] : List Ob)[i]? = some (.box q) → hd[i]? = some (.bx b true) → hd'[i]? = some (.bx b true)) ∧ (∀ i ∈ [0], ∀ h, hd[i]? = some h → hd'[i]? = some h) ∧ RepS (vis C hd') w' hd' (.t (.tup [])) v := fun w' h => by
      refine ⟨_, _, rfl, h, fun i q b h1 h2 => ?_, fun i _ h e => by rw [← hd0]; exact e, .t _ _ (.tup [] #[] rfl fun k y v h => by simp at h)⟩
      match i, h1 with
      | 0, h1 => cases h1
    cases l with
    | nil =>
      refine (AnyM.slices_Sort_int_none Try.laySort ad cap w).mono fun e' w' ⟨h1, h2⟩ => ?_
      subst h1 h2
      refine fin _ ?_
      rw [← hd0, show sortL [] = [] from List.mergeSort_nil]; exact hr
    | cons x l =>
      rcases hown.2 with ⟨q, _⟩ | ⟨g, cap', cur, q, hB, hg, h1, h2, h3, h4⟩
      · cases q
      cases q
      obtain ⟨g', cap'', q, _, hlt, _, _, _, hH⟩ := holds_of_ownsRow hown (by simp)
      cases q
      refine (AnyM.slices_Sort_int Try.laySort g 0 cap (x :: l) w hH hlt hl).mono fun e' w' ⟨q1, n, os, q2⟩ => ?_
      subst q1 q2
      refine fin _ ?_
      refine row_change hr hd0 rfl (grownBy_sortedI _) ?_ (sortL_len _).symm (by rw [sortL_len]; omega)
      exact ownsRow_sortedI (sortL_len _) hB hg h1 h2 h3
theorem Compact_snd (e : Nat) (l : List Int) (hl : l.length ≤ 9223372036854775807) : SndG Try.prog G 61 [.sref 0] [.row e 1 true (iL l)] [] (.sref 0) [.row e 1 true (iL (Go.Lib.compact l))] := by
  refine ⟨enter_body Try.func61 rfl rfl, Nat.le_refl _, fun i l h => ?_, fun C hd w vs hG hr hvs hrep => ?_⟩
  · match i, h with
    | 0, h => cases h
  · obtain ⟨v, rfl⟩ : ∃ v, vs = #[v] := by
      match vs, hvs with
      | ⟨[v]⟩, _ => exact ⟨v, rfl⟩
    obtain ⟨ad, cap, rfl, hd0, hown⟩ := row_open hr (hrep 0 _ _ rfl rfl)
    have fin : ∀ n' w', StR C ⟨0, [], [.row e 1 true (iL (Go.Lib.compact l))]⟩ [.sl ad n' cap (Value.slice ad l.length cap).ownBlock] act0 w' → ∃ v hd', Ending.returned (.slice ad n' cap) = .returned v ∧ StR C ⟨0, [], [.row e 1 true (iL (Go.Lib.compact l))]⟩ hd' act0 w' ∧ (∀ (i : Nat) (q : List SV) (b : Nat), ([.row e 1 true (iL l)] : List Ob)[i]? = some (.box q) → hd[i]? = some (.bx b true) → hd'[i]? = some (.bx b true)) ∧ (∀ i ∈ ([] : List Nat), ∀ h, hd[i]? = some h → hd'[i]? = some h) ∧ RepS (vis C hd') w' hd' (.sref 0) v := fun n' w' h => by
      refine ⟨_, _, rfl, h, fun i q b h1 h2 => ?_, (fun i hi => by simp at hi), .sref _ _ _ _ _ rfl⟩
      match i, h1 with
      | 0, h1 => cases h1
    cases l with
    | nil =>
      refine (AnyG.slices_Compact_int_empty Try.layCompact ad cap w).mono fun e' w' ⟨h1, h2⟩ => ?_
      subst h1 h2
      refine fin _ _ ?_
      have hr2 := hr
      rw [hd0] at hr2
      exact hr2
    | cons x l =>
      rcases hown.2 with ⟨q, _⟩ | ⟨g, cap', cur, q, hB, hg, h1, h2, h3, h4⟩
      · cases q
      cases q
      obtain ⟨g', cap'', q, _, hlt, _, _, _, hH⟩ := holds_of_ownsRow hown (by simp)
      cases q
      refine (AnyG.slices_Compact_int Try.layCompact g 0 cap (x :: l) w hH hl h1).mono fun e' w' ⟨q1, n, q2⟩ => ?_
      subst q1 q2
      refine fin _ _ ?_
      have hcl : (Go.Lib.compact (x :: l)).length ≤ (x :: l).length := by
        show (compactUpTo _ _).length ≤ _
        unfold compactUpTo
        rw [List.length_map]
        exact Nat.le_trans (List.length_filter_le _ _) (by simp)
      refine row_change hr hd0 rfl (by have := grownBy_sortedI (w := w) (g := g) (n := n) (os := #[]) (Go.Lib.compact (x :: l) ++ List.replicate ((x :: l).length - (Go.Lib.compact (x :: l)).length) 0).toArray; rwa [grow_empty] at this) ?_ rfl (by omega)
      have := ownsRow_putRow (q := n) (k := (Go.Lib.compact (x :: l)).length) (ys := Go.Lib.compact (x :: l) ++ List.replicate ((x :: l).length - (Go.Lib.compact (x :: l)).length) 0) hown (by rw [List.length_append, List.length_replicate]; omega) hcl
      rw [List.take_left'] at this
      · exact this
      · rfl
end
end Go.Proofs.Ythcclcbliedodaa
namespace Go.Proofs.Ythcclcbliedodaa
open Go.RowKit

attribute [go_sem] nLe nNle nLt nNlt nEq nNe iLe iNle iLt iNlt iEq iNe
attribute [go_sem] runOps stepOp stepOp0 stepOp1 evalOp dstOk St.ev.eq_1 St.ev.eq_2 St.ev.eq_3 St.ev.eq_4 ofConst St.get
attribute [go_sem] St.put look T.bin isConst mkFn allT St.len St.lst St.obj St.load loadT loadS
attribute [go_sem] mkAgg TK.isAgg St.index treeIndex SV.plus T.cells T.max2 T.min2 fillS SV.storable T.storable SV.cells
attribute [go_sem] St.litS idxOk zipFrz frz frzC frzL St.append St.appLen scrub St.bd SV.ren renL
attribute [go_sem] Ob.ren St.store T.put TI.zT SV.toT0 List.length_replicate List.getElem?_replicate Nat.one_mul Nat.mul_one List.isEmpty_cons List.isEmpty_nil or_self
attribute [go_sem] true_or or_true false_or or_false and_self decide_eq_true_eq if_true if_false ite_true ite_false Option.getD_some Option.getD_none
attribute [go_sem] Option.map_some Option.map_none Option.bind_some Option.bind_none decide_true decide_false Bool.true_and Bool.and_true Bool.false_and Bool.and_false Bool.not_true Bool.not_false
attribute [go_sem] beq_self_eq_true List.getElem?_cons_zero List.getElem?_cons_succ List.map_cons List.map_nil List.cons_append List.nil_append List.length_cons List.length_nil List.toList_toArray true_and and_true
attribute [go_sem] false_and and_false List.all_cons List.all_nil List.drop_zero List.drop_succ_cons List.take_succ_cons List.take_zero List.head?_cons List.set_cons_zero List.set_cons_succ Bool.or_true
attribute [go_sem] Bool.true_or Bool.or_false Bool.false_or ne_eq not_true_eq_false not_false_eq_true Nat.zero_add List.getElem?_toArray tInt tNat tInts tBools
attribute [go_sem] tIntss wrap_i64 List.getElem?_map List.length_map Int.toNat_natCast List.all_map stepX stepX0 evalX St.callR findCo
attribute [go_sem] St.litQ St.sliceQ St.rdL St.rd St.trL St.tr T.flatData flatAll lookR St.mapUp St.slice strSlice
attribute [go_sem] T.okKey T.inR bytesOf eq_self stepI quietOp St.ownAll St.own setSlot true_implies implies_true false_implies
attribute [go_sem] keepL reach addNew refsL SV.refs Ob.refs List.append_nil List.mem_cons List.not_mem_nil List.getElem?_nil posIn St.resL
attribute [go_sem] St.res1 St.gc St.head
theorem gb_a (l : List Int) (k : Nat) (h : k < l.length) : l[k]? = some l[k]! := get_bang l k h
theorem gb_b (l : List Bool) (k : Nat) (h : k < l.length) : l[k]? = some l[k]! := get_bang l k h
theorem gb_c (l : List (List Int)) (k : Nat) (h : k < l.length) : l[k]? = some l[k]! := get_bang l k h
theorem gb_d (l : List Nat) (k : Nat) (h : k < l.length) : l[k]? = some l[k]! := get_bang l k h
theorem gb_e (l : List T) (k : Nat) (h : k < l.length) : l[k]? = some l[k]! := get_bang l k h
theorem gb_f (l : List (List (List Int))) (k : Nat) (h : k < l.length) : l[k]? = some l[k]! := get_bang l k h
theorem gb_g (l : List (List Bool)) (k : Nat) (h : k < l.length) : l[k]? = some l[k]! := get_bang l k h
theorem gb_h (l : List (List Nat)) (k : Nat) (h : k < l.length) : l[k]? = some l[k]! := get_bang l k h
theorem gb_i (l : List (List (List (List Int)))) (k : Nat) (h : k < l.length) : l[k]? = some l[k]! := get_bang l k h
theorem gb_j (l : List (Int × Int)) (k : Nat) (h : k < l.length) : l[k]? = some l[k]! := get_bang l k h
theorem gb_k (l : List (Nat × Nat)) (k : Nat) (h : k < l.length) : l[k]? = some l[k]! := get_bang l k h
theorem gb_l (l : List UInt8) (k : Nat) (h : k < l.length) : l[k]? = some l[k]! := get_bang l k h
theorem gb_m (l : List (List T)) (k : Nat) (h : k < l.length) : l[k]? = some l[k]! := get_bang l k h
theorem gb_n (l : List String) (k : Nat) (h : k < l.length) : l[k]? = some l[k]! := get_bang l k h
theorem gb_o (l : List (Int × Int × Int)) (k : Nat) (h : k < l.length) : l[k]? = some l[k]! := get_bang l k h
theorem gb_p (l : List (T × T)) (k : Nat) (h : k < l.length) : l[k]? = some l[k]! := get_bang l k h
theorem gb_q (l : List (List (Int × Int))) (k : Nat) (h : k < l.length) : l[k]? = some l[k]! := get_bang l k h
theorem gb_r (l : List (Nat × Nat × Nat)) (k : Nat) (h : k < l.length) : l[k]? = some l[k]! := get_bang l k h
theorem gb_s (l : List (List UInt8)) (k : Nat) (h : k < l.length) : l[k]? = some l[k]! := get_bang l k h
theorem gb_t (l : List (List (T × T))) (k : Nat) (h : k < l.length) : l[k]? = some l[k]! := get_bang l k h
theorem gb_u (l : List (List (Int × Int))) (k : Nat) (h : k < l.length) : l[k]? = some l[k]! := get_bang l k h
attribute [go_sem] gb_a gb_b gb_c gb_d gb_e gb_f gb_g gb_h gb_i gb_j gb_k gb_l gb_m gb_n gb_o gb_p gb_q gb_r gb_s gb_t gb_u
attribute [go_sem] T.beqA eqIs SV.gd Option.some.injEq
attribute [go_sem] St.sliceA T.isCell stepA allocAt List.lookup
attribute [go_sem] St.res tt tts0 tts1 tts2 tt0 tt1 tt2 tt3 tt4 tt5 tt6 tt7 tt8 tt9 tt10 tt11 tt12 tt13 tt14 tt15 tt16 tt17
theorem w1 : type_of% @SW_seq := @SW_seq
theorem w2 : type_of% @SW_block := @SW_block
theorem w3 : type_of% @SThen_n := @SThen_n
theorem w4 : type_of% @SThen_r := @SThen_r
theorem w5 : type_of% @SThen_e := @SThen_e
theorem w6 : type_of% @SIn_n := @SIn_n
theorem w7 : type_of% @SIn_r := @SIn_r
theorem w8 : type_of% @SIn_eq := @SIn_eq
theorem w9 : type_of% @SW_skip := @SW_skip
theorem wa : type_of% @SW_exit := @SW_exit
theorem wb : type_of% @SW_ret := @SW_ret
theorem wc : type_of% @SPost_r := @SPost_r
theorem wd : type_of% @SIn_ne := @SIn_ne
theorem we : type_of% @SW_true := @SW_true
theorem wf : type_of% @SW_false := @SW_false
theorem wg : type_of% @runX_nil := @runX_nil
theorem wh : type_of% @runI_nil := @runI_nil
theorem wi : type_of% @runX_cons := @runX_cons
theorem wj : type_of% @runI_cons := @runI_cons
end Go.Proofs.Ythcclcbliedodaa
namespace Go.Proofs.Ythcclcbliedodaa
open Go.RowKit

def tErr (e : Int) : T := if e = 0 then .nilI else .iface 56 (.int .i64 e)
theorem tErr0 : tErr 0 = .nilI := rfl
def tAuto (a : GAuto) : T := .agg [tInt a.base, tInt a.tracks, tIntss a.next, tBools a.ends]
def I64s (l : List Int) : Prop := ∀ x ∈ l, I64 x
structure I64A (a : GAuto) : Prop where
  base : I64 a.base
  tracks : I64 a.tracks
  next : ∀ r ∈ a.next, I64s r
section
variable {P : Program} {G : World → Prop}
end
theorem bang_get {α : Type} [Inhabited α] {l : List α} {i : Nat} {x : α} (h : l[i]! = x) (hi : i < l.length) : l[i]? = some x := by rw [← h, getElem!_pos l i hi]; exact List.getElem?_eq_getElem hi
theorem bang_mem {α : Type} [Inhabited α] {l : List α} {i : Nat} {x : α} (h : l[i]! = x) (hi : i < l.length) : x ∈ l := List.mem_of_getElem? (bang_get h hi)
theorem bang_D {α : Type} [Inhabited α] {l : List α} {i : Nat} {x d : α} (h : l[i]! = x) (hi : i < l.length) : l.getD i d = x := by rw [getD_lt hi, ← h, getElem!_pos l i hi]
theorem bang_at {α : Type} [Inhabited α] {l : List α} {i : Nat} {x : α} (h : l[i]! = x) (hi : i < l.length) : l[i] = x := by rw [← h, getElem!_pos l i hi]
theorem take_next {α : Type} [Inhabited α] {l : List α} {i : Nat} {x : α} (h : l[i]! = x) (hi : i < l.length) : l.take (i + 1) = l.take i ++ [x] := by
  rw [List.take_succ_eq_append_getElem hi, bang_at h hi]
section
variable {G : World → Prop} (hG : Lasting G)
include hG
theorem Radix_snd (base : Int) : Snd Try.prog G 51 [tInt base] (tInt (radix base)) := by
  have htb : Tab.ok Try.prog G [] := Tab.nil
  refine snd_of_body (n := 12) (tm := [(0, .t (tInt base))]) (rs := [.tmp 2]) tt_ok Try.func51 rfl rfl rfl rfl rfl ?_
  unfold radix
  by_cases h1 : base = 1
  · repeat' (first | (with_reducible first | apply w1 | apply w2 | apply w3 | apply w4 | apply w5 | apply w6 | apply w7 | apply w8 | apply w9 | apply wa | apply wb | apply wc) | ((with_reducible apply wd); focus decide) | ((with_reducible apply we); focus exact rfl) | ((with_reducible apply wf); focus exact rfl) | ((first | (with_reducible apply SW_run tt_ok hG htb) | ((with_reducible apply SW_draw rfl tt_ok hG htb); (focus kernel_rfl); focus simp only [List.range, List.range.loop, List.size_toArray, List.length_cons, List.length_nil, Nat.reduceAdd])); focus ((repeat' (first | (with_reducible first | exact wg | exact wh) | ((with_reducible first | apply wi | apply wj); focus (simp (discharger := omega) only [go_sem, h1, simprocAttr]; with_reducible rfl)))); done)))
    exact (by simp (discharger := omega) only [go_sem, h1, simprocAttr])
  · by_cases h2 : 2 ≤ base
    · by_cases h3 : base ≤ 6
      · repeat' (first | (with_reducible first | apply w1 | apply w2 | apply w3 | apply w4 | apply w5 | apply w6 | apply w7 | apply w8 | apply w9 | apply wa | apply wb | apply wc) | ((with_reducible apply wd); focus decide) | ((with_reducible apply we); focus exact rfl) | ((with_reducible apply wf); focus exact rfl) | ((first | (with_reducible apply SW_run tt_ok hG htb) | ((with_reducible apply SW_draw rfl tt_ok hG htb); (focus kernel_rfl); focus simp only [List.range, List.range.loop, List.size_toArray, List.length_cons, List.length_nil, Nat.reduceAdd])); focus ((repeat' (first | (with_reducible first | exact wg | exact wh) | ((with_reducible first | apply wi | apply wj); focus (simp (discharger := omega) only [go_sem, simprocAttr]; with_reducible rfl)))); done)))
        exact (by simp (discharger := omega) only [go_sem, simprocAttr])
      · repeat' (first | (with_reducible first | apply w1 | apply w2 | apply w3 | apply w4 | apply w5 | apply w6 | apply w7 | apply w8 | apply w9 | apply wa | apply wb | apply wc) | ((with_reducible apply wd); focus decide) | ((with_reducible apply we); focus exact rfl) | ((with_reducible apply wf); focus exact rfl) | ((first | (with_reducible apply SW_run tt_ok hG htb) | ((with_reducible apply SW_draw rfl tt_ok hG htb); (focus kernel_rfl); focus simp only [List.range, List.range.loop, List.size_toArray, List.length_cons, List.length_nil, Nat.reduceAdd])); focus ((repeat' (first | (with_reducible first | exact wg | exact wh) | ((with_reducible first | apply wi | apply wj); focus (simp (discharger := omega) only [go_sem, simprocAttr]; with_reducible rfl)))); done)))
        exact (by simp (discharger := omega) only [go_sem, simprocAttr])
    · repeat' (first | (with_reducible first | apply w1 | apply w2 | apply w3 | apply w4 | apply w5 | apply w6 | apply w7 | apply w8 | apply w9 | apply wa | apply wb | apply wc) | ((with_reducible apply wd); focus decide) | ((with_reducible apply we); focus exact rfl) | ((with_reducible apply wf); focus exact rfl) | ((first | (with_reducible apply SW_run tt_ok hG htb) | ((with_reducible apply SW_draw rfl tt_ok hG htb); (focus kernel_rfl); focus simp only [List.range, List.range.loop, List.size_toArray, List.length_cons, List.length_nil, Nat.reduceAdd])); focus ((repeat' (first | (with_reducible first | exact wg | exact wh) | ((with_reducible first | apply wi | apply wj); focus (simp (discharger := omega) only [go_sem, simprocAttr]; with_reducible rfl)))); done)))
      exact (by simp (discharger := omega) only [go_sem, simprocAttr])
set_option maxHeartbeats 4000000 in
theorem Many_snd (base t : Int) : Snd Try.prog G 29 [tInt base, tInt t] (.tup [tInt (manyOf base t), tErr (manyErr base t)]) := by
  have htb := Tab.cons (Radix_snd hG base) Tab.nil
  refine snd_of_body (n := 32) (tm := [(0, .t (tInt base)), (1, .t (tInt t))]) (rs := [.tmp 4, .tmp 5]) tt_ok Try.func29 rfl rfl rfl rfl rfl ?_
  unfold manyOf manyErr
  generalize hk : radix base = k at htb ⊢
  by_cases h1 : k = 0
  · subst h1
    repeat' (first | (with_reducible first | apply w1 | apply w2 | apply w3 | apply w4 | apply w5 | apply w6 | apply w7 | apply w8 | apply w9 | apply wa | apply wb | apply wc) | ((with_reducible apply wd); focus decide) | ((with_reducible apply we); focus exact rfl) | ((with_reducible apply wf); focus exact rfl) | ((first | (with_reducible apply SW_run tt_ok hG htb) | ((with_reducible apply SW_draw rfl tt_ok hG htb); (focus kernel_rfl); focus simp only [List.range, List.range.loop, List.size_toArray, List.length_cons, List.length_nil, Nat.reduceAdd])); focus ((repeat' (first | (with_reducible first | exact wg | exact wh) | ((with_reducible first | apply wi | apply wj); focus (simp (discharger := omega) only [go_sem, simprocAttr]; with_reducible rfl)))); done)))
    exact (by simp (discharger := omega) only [go_sem, tErr, simprocAttr])
  · by_cases h2 : t < 0
    · repeat' (first | (with_reducible first | apply w1 | apply w2 | apply w3 | apply w4 | apply w5 | apply w6 | apply w7 | apply w8 | apply w9 | apply wa | apply wb | apply wc) | ((with_reducible apply wd); focus decide) | ((with_reducible apply we); focus exact rfl) | ((with_reducible apply wf); focus exact rfl) | ((first | (with_reducible apply SW_run tt_ok hG htb) | ((with_reducible apply SW_draw rfl tt_ok hG htb); (focus kernel_rfl); focus simp only [List.range, List.range.loop, List.size_toArray, List.length_cons, List.length_nil, Nat.reduceAdd])); focus ((repeat' (first | (with_reducible first | exact wg | exact wh) | ((with_reducible first | apply wi | apply wj); focus (simp (discharger := omega) only [go_sem, simprocAttr]; with_reducible rfl)))); done)))
      exact (by simp (discharger := omega) only [go_sem, tErr, simprocAttr])
    · by_cases h3 : 5 < t
      · repeat' (first | (with_reducible first | apply w1 | apply w2 | apply w3 | apply w4 | apply w5 | apply w6 | apply w7 | apply w8 | apply w9 | apply wa | apply wb | apply wc) | ((with_reducible apply wd); focus decide) | ((with_reducible apply we); focus exact rfl) | ((with_reducible apply wf); focus exact rfl) | ((first | (with_reducible apply SW_run tt_ok hG htb) | ((with_reducible apply SW_draw rfl tt_ok hG htb); (focus kernel_rfl); focus simp only [List.range, List.range.loop, List.size_toArray, List.length_cons, List.length_nil, Nat.reduceAdd])); focus ((repeat' (first | (with_reducible first | exact wg | exact wh) | ((with_reducible first | apply wi | apply wj); focus (simp (discharger := omega) only [go_sem, simprocAttr]; with_reducible rfl)))); done)))
        exact (by simp (discharger := omega) only [go_sem, tErr, simprocAttr])
      · obtain ⟨r2, r6⟩ := radix_two (b := base) (by omega)
        rw [hk] at r2 r6
        obtain ⟨t, rfl⟩ := Int.eq_ofNat_of_zero_le (show 0 ≤ t by omega)
        rw [show (if k = 0 ∨ (t : Int) < 0 ∨ 5 < (t : Int) then (1 : Int) else if 36 < powW k (t : Int).toNat then 3 else 0) = if 36 < powW k t then 3 else 0 by rw [if_neg (by omega)]; rfl]
        repeat' (first | (with_reducible first | apply w1 | apply w2 | apply w3 | apply w4 | apply w5 | apply w6 | apply w7 | apply w8 | apply w9 | apply wa | apply wb | apply wc) | ((with_reducible apply wd); focus decide) | ((with_reducible apply we); focus exact rfl) | ((with_reducible apply wf); focus exact rfl) | ((first | (with_reducible apply SW_run tt_ok hG htb) | ((with_reducible apply SW_draw rfl tt_ok hG htb); (focus kernel_rfl); focus simp only [List.range, List.range.loop, List.size_toArray, List.length_cons, List.length_nil, Nat.reduceAdd])); focus ((repeat' (first | (with_reducible first | exact wg | exact wh) | ((with_reducible first | apply wi | apply wj); focus (simp (discharger := omega) only [go_sem, simprocAttr]; with_reducible rfl)))); done)))
        refine SW_loop (fun m s => ∃ i : Nat, m = t - i ∧ s = ⟨32, [(6, .t (tInt k)), (7, .t (tInt (powW k i))), (21, .t (tInt t)), (22, .t (tInt i))], []⟩ ∧ i ≤ t) t ⟨_, Norm.headS (own := []) (keep := [6, 7, 21, 22]) (by refine ⟨?_, ?_⟩; (simp (discharger := omega) only [go_sem, simprocAttr]; with_reducible rfl); refine ⟨?_, ?_, ?_, ?_⟩ <;> (simp only [go_sem, simprocAttr]; with_reducible rfl)), 0, rfl, rfl, Nat.zero_le _⟩ ?_
        rintro m s ⟨i, rfl, rfl, hi⟩
        have hb := powW_bd r2 r6 (j := i) (by omega)
        by_cases hlt : i < t
        · have hb1 : 1 ≤ powW k i * k ∧ powW k i * k ≤ 7776 := powW_bd r2 r6 (j := i + 1) (by omega)
          repeat' (first | (with_reducible first | apply w1 | apply w2 | apply w3 | apply w4 | apply w5 | apply w6 | apply w7 | apply w8 | apply w9 | apply wa | apply wb | apply wc) | ((with_reducible apply wd); focus decide) | ((with_reducible apply we); focus exact rfl) | ((with_reducible apply wf); focus exact rfl) | ((first | (with_reducible apply SW_run tt_ok hG htb) | ((with_reducible apply SW_draw rfl tt_ok hG htb); (focus kernel_rfl); focus simp only [List.range, List.range.loop, List.size_toArray, List.length_cons, List.length_nil, Nat.reduceAdd])); focus ((repeat' (first | (with_reducible first | exact wg | exact wh) | ((with_reducible first | apply wi | apply wj); focus (simp (discharger := omega) only [go_sem, simprocAttr]; with_reducible rfl)))); done)))
          exact ⟨t - (i + 1), _, by omega, Norm.headS (own := []) (keep := [6, 7, 21, 22]) (by refine ⟨?_, ?_⟩; (simp (discharger := omega) only [go_sem, simprocAttr]; with_reducible rfl); refine ⟨?_, ?_, ?_, ?_⟩ <;> (simp only [go_sem, simprocAttr]; with_reducible rfl)), i + 1, rfl, rfl, by omega⟩
        · obtain rfl : i = t := by omega
          by_cases h36 : 36 < powW k i
          · repeat' (first | (with_reducible first | apply w1 | apply w2 | apply w3 | apply w4 | apply w5 | apply w6 | apply w7 | apply w8 | apply w9 | apply wa | apply wb | apply wc) | ((with_reducible apply wd); focus decide) | ((with_reducible apply we); focus exact rfl) | ((with_reducible apply wf); focus exact rfl) | ((first | (with_reducible apply SW_run tt_ok hG htb) | ((with_reducible apply SW_draw rfl tt_ok hG htb); (focus kernel_rfl); focus simp only [List.range, List.range.loop, List.size_toArray, List.length_cons, List.length_nil, Nat.reduceAdd])); focus ((repeat' (first | (with_reducible first | exact wg | exact wh) | ((with_reducible first | apply wi | apply wj); focus (simp (discharger := omega) only [go_sem, simprocAttr]; with_reducible rfl)))); done)))
            exact (by simp (discharger := omega) only [go_sem, tErr, simprocAttr])
          · repeat' (first | (with_reducible first | apply w1 | apply w2 | apply w3 | apply w4 | apply w5 | apply w6 | apply w7 | apply w8 | apply w9 | apply wa | apply wb | apply wc) | ((with_reducible apply wd); focus decide) | ((with_reducible apply we); focus exact rfl) | ((with_reducible apply wf); focus exact rfl) | ((first | (with_reducible apply SW_run tt_ok hG htb) | ((with_reducible apply SW_draw rfl tt_ok hG htb); (focus kernel_rfl); focus simp only [List.range, List.range.loop, List.size_toArray, List.length_cons, List.length_nil, Nat.reduceAdd])); focus ((repeat' (first | (with_reducible first | exact wg | exact wh) | ((with_reducible first | apply wi | apply wj); focus (simp (discharger := omega) only [go_sem, simprocAttr]; with_reducible rfl)))); done)))
            exact (by simp (discharger := omega) only [go_sem, tErr, simprocAttr])
set_option maxHeartbeats 4000000 in
theorem Check_snd (a : GAuto) : Snd Try.prog G 28 [tAuto a] (tErr (autoFault a)) := by
  have htb := Tab.cons (Many_snd hG a.base a.tracks) Tab.nil
  refine snd_of_body (n := 72) (tm := [(0, .t (tAuto a))]) (rs := [.tmp 2]) tt_ok Try.func28 rfl rfl rfl rfl rfl ?_
  unfold autoFault
  by_cases h0 : manyErr a.base a.tracks = 0
  · rw [if_neg (by omega)]
    rw [h0] at htb
    have h36 := (many_ok h0).2.2.2.1
    rw [← (many_ok h0).2.2.2.2] at h36
    generalize hmo : manyOf a.base a.tracks = mo at *
    by_cases h1 : a.next.length = 0
    · repeat' (first | (with_reducible first | apply w1 | apply w2 | apply w3 | apply w4 | apply w5 | apply w6 | apply w7 | apply w8 | apply w9 | apply wa | apply wb | apply wc) | ((with_reducible apply wd); focus decide) | ((with_reducible apply we); focus exact rfl) | ((with_reducible apply wf); focus exact rfl) | ((first | (with_reducible apply SW_run tt_ok hG htb) | ((with_reducible apply SW_draw rfl tt_ok hG htb); (focus kernel_rfl); focus simp only [List.range, List.range.loop, List.size_toArray, List.length_cons, List.length_nil, Nat.reduceAdd])); focus ((repeat' (first | (with_reducible first | exact wg | exact wh) | ((with_reducible first | apply wi | apply wj); focus (simp (discharger := omega) only [go_sem, tAuto, tErr, simprocAttr]; with_reducible rfl)))); done)))
      exact (by simp (discharger := omega) only [go_sem, tErr, simprocAttr])
    · by_cases h2 : 80 < a.next.length
      · repeat' (first | (with_reducible first | apply w1 | apply w2 | apply w3 | apply w4 | apply w5 | apply w6 | apply w7 | apply w8 | apply w9 | apply wa | apply wb | apply wc) | ((with_reducible apply wd); focus decide) | ((with_reducible apply we); focus exact rfl) | ((with_reducible apply wf); focus exact rfl) | ((first | (with_reducible apply SW_run tt_ok hG htb) | ((with_reducible apply SW_draw rfl tt_ok hG htb); (focus kernel_rfl); focus simp only [List.range, List.range.loop, List.size_toArray, List.length_cons, List.length_nil, Nat.reduceAdd])); focus ((repeat' (first | (with_reducible first | exact wg | exact wh) | ((with_reducible first | apply wi | apply wj); focus (simp (discharger := omega) only [go_sem, tAuto, tErr, simprocAttr]; with_reducible rfl)))); done)))
        exact (by simp (discharger := omega) only [go_sem, tErr, simprocAttr])
      · by_cases h3 : a.ends.length = a.next.length
        · rw [if_neg h1, if_neg h2, if_neg (by omega)]
          repeat' (first | (with_reducible first | apply w1 | apply w2 | apply w3 | apply w4 | apply w5 | apply w6 | apply w7 | apply w8 | apply w9 | apply wa | apply wb | apply wc) | ((with_reducible apply wd); focus decide) | ((with_reducible apply we); focus exact rfl) | ((with_reducible apply wf); focus exact rfl) | ((first | (with_reducible apply SW_run tt_ok hG htb) | ((with_reducible apply SW_draw rfl tt_ok hG htb); (focus kernel_rfl); focus simp only [List.range, List.range.loop, List.size_toArray, List.length_cons, List.length_nil, Nat.reduceAdd])); focus ((repeat' (first | (with_reducible first | exact wg | exact wh) | ((with_reducible first | apply wi | apply wj); focus (simp (discharger := omega) only [go_sem, tAuto, tErr, h3, simprocAttr]; with_reducible rfl)))); done)))
          refine SW_loop (fun m s => ∃ i : Nat, m = a.next.length - i ∧ s = ⟨72, [(1, .bptr 0 0), (3, .t (tInt mo)), (43, .t (tIntss a.next)), (44, .t (tInt a.next.length)), (45, .t (tInt i))], [.box [.t (tInt a.base), .t (tInt a.tracks), .t (tIntss a.next), .t (tBools a.ends)]]⟩ ∧ i ≤ a.next.length ∧ ∀ j (hj : j < a.next.length), j < i → (a.next[j].length : Int) = mo ∧ ∀ s ∈ a.next[j], 0 ≤ s ∧ s < (a.next.length : Int)) a.next.length
            ⟨_, Norm.headS (own := []) (keep := [1, 3, 43, 44, 45]) (by refine ⟨?_, ?_⟩; (simp (discharger := omega) only [go_sem, simprocAttr]; with_reducible rfl); refine ⟨?_, ?_, ?_, ?_⟩ <;> (simp only [go_sem, simprocAttr]; with_reducible rfl)), 0, rfl, rfl, Nat.zero_le _, fun j hj h => by omega⟩ ?_
          rintro m s ⟨i, rfl, rfl, hi, hA⟩
          by_cases hlt : i < a.next.length
          · obtain ⟨row, hrow⟩ : ∃ row, a.next[i]! = row := ⟨_, rfl⟩
            have hat := bang_at hrow hlt
            obtain ⟨f1, f2⟩ := rowsFault_at hlt hA
            rw [hat] at f1 f2
            by_cases hrl : (row.length : Int) = mo
            · repeat' (first | (with_reducible first | apply w1 | apply w2 | apply w3 | apply w4 | apply w5 | apply w6 | apply w7 | apply w8 | apply w9 | apply wa | apply wb | apply wc) | ((with_reducible apply wd); focus decide) | ((with_reducible apply we); focus exact rfl) | ((with_reducible apply wf); focus exact rfl) | ((first | (with_reducible apply SW_run tt_ok hG htb) | ((with_reducible apply SW_draw rfl tt_ok hG htb); (focus kernel_rfl); focus simp only [List.range, List.range.loop, List.size_toArray, List.length_cons, List.length_nil, Nat.reduceAdd])); focus ((repeat' (first | (with_reducible first | exact wg | exact wh) | ((with_reducible first | apply wi | apply wj); focus (simp (discharger := omega) only [go_sem, hrow, simprocAttr]; with_reducible rfl)))); done)))
              refine SW_loop (fun m s => ∃ l : Nat, m = row.length - l ∧ s = ⟨72, [(1, .bptr 0 0), (3, .t (tInt mo)), (43, .t (tIntss a.next)), (44, .t (tInt a.next.length)), (45, .t (tInt i)), (54, .t (tInts row)), (55, .t (tInt row.length)), (56, .t (tInt l))], [.box [.t (tInt a.base), .t (tInt a.tracks), .t (tIntss a.next), .t (tBools a.ends)]]⟩ ∧ l ≤ row.length ∧ ∀ x ∈ row.take l, 0 ≤ x ∧ x < (a.next.length : Int)) row.length
                ⟨_, Norm.headS (own := []) (keep := [1, 3, 43, 44, 45, 54, 55, 56]) (by refine ⟨?_, ?_⟩; (simp (discharger := omega) only [go_sem, simprocAttr]; with_reducible rfl); refine ⟨?_, ?_, ?_, ?_⟩ <;> (simp only [go_sem, simprocAttr]; with_reducible rfl)), 0, rfl, rfl, Nat.zero_le _, fun x hx => by simp at hx⟩ ?_
              rintro m s ⟨l, rfl, rfl, hl, hB⟩
              by_cases hlt2 : l < row.length
              · obtain ⟨x, hx⟩ : ∃ x, row[l]! = x := ⟨_, rfl⟩
                have htk := take_next hx hlt2
                have hxm := bang_mem hx hlt2
                by_cases hx0 : 0 ≤ x
                · by_cases hxm2 : x < (a.next.length : Int)
                  · repeat' (first | (with_reducible first | apply w1 | apply w2 | apply w3 | apply w4 | apply w5 | apply w6 | apply w7 | apply w8 | apply w9 | apply wa | apply wb | apply wc) | ((with_reducible apply wd); focus decide) | ((with_reducible apply we); focus exact rfl) | ((with_reducible apply wf); focus exact rfl) | ((first | (with_reducible apply SW_run tt_ok hG htb) | ((with_reducible apply SW_draw rfl tt_ok hG htb); (focus kernel_rfl); focus simp only [List.range, List.range.loop, List.size_toArray, List.length_cons, List.length_nil, Nat.reduceAdd])); focus ((repeat' (first | (with_reducible first | exact wg | exact wh) | ((with_reducible first | apply wi | apply wj); focus (simp (discharger := omega) only [go_sem, hx, simprocAttr]; with_reducible rfl)))); done)))
                    exact ⟨row.length - (l + 1), _, by omega, Norm.headS (own := []) (keep := [1, 3, 43, 44, 45, 54, 55, 56]) (by refine ⟨?_, ?_⟩; (simp (discharger := omega) only [go_sem, simprocAttr]; with_reducible rfl); refine ⟨?_, ?_, ?_, ?_⟩ <;> (simp only [go_sem, simprocAttr]; with_reducible rfl)), l + 1, rfl, rfl, by omega, fun y hy => by
                      rw [htk] at hy
                      rcases List.mem_append.1 hy with h | h
                      · exact hB y h
                      · simp at h; subst h; exact ⟨hx0, hxm2⟩⟩
                  · rw [f2 hrl ⟨x, hxm, by omega⟩]
                    repeat' (first | (with_reducible first | apply w1 | apply w2 | apply w3 | apply w4 | apply w5 | apply w6 | apply w7 | apply w8 | apply w9 | apply wa | apply wb | apply wc) | ((with_reducible apply wd); focus decide) | ((with_reducible apply we); focus exact rfl) | ((with_reducible apply wf); focus exact rfl) | ((first | (with_reducible apply SW_run tt_ok hG htb) | ((with_reducible apply SW_draw rfl tt_ok hG htb); (focus kernel_rfl); focus simp only [List.range, List.range.loop, List.size_toArray, List.length_cons, List.length_nil, Nat.reduceAdd])); focus ((repeat' (first | (with_reducible first | exact wg | exact wh) | ((with_reducible first | apply wi | apply wj); focus (simp (discharger := omega) only [go_sem, hx, simprocAttr]; with_reducible rfl)))); done)))
                    exact (by simp (discharger := omega) only [go_sem, tErr, simprocAttr])
                · rw [f2 hrl ⟨x, hxm, by omega⟩]
                  repeat' (first | (with_reducible first | apply w1 | apply w2 | apply w3 | apply w4 | apply w5 | apply w6 | apply w7 | apply w8 | apply w9 | apply wa | apply wb | apply wc) | ((with_reducible apply wd); focus decide) | ((with_reducible apply we); focus exact rfl) | ((with_reducible apply wf); focus exact rfl) | ((first | (with_reducible apply SW_run tt_ok hG htb) | ((with_reducible apply SW_draw rfl tt_ok hG htb); (focus kernel_rfl); focus simp only [List.range, List.range.loop, List.size_toArray, List.length_cons, List.length_nil, Nat.reduceAdd])); focus ((repeat' (first | (with_reducible first | exact wg | exact wh) | ((with_reducible first | apply wi | apply wj); focus (simp (discharger := omega) only [go_sem, hx, simprocAttr]; with_reducible rfl)))); done)))
                  exact (by simp (discharger := omega) only [go_sem, tErr, simprocAttr])
              · obtain rfl : l = row.length := by omega
                rw [List.take_length] at hB
                repeat' (first | (with_reducible first | apply w1 | apply w2 | apply w3 | apply w4 | apply w5 | apply w6 | apply w7 | apply w8 | apply w9 | apply wa | apply wb | apply wc) | ((with_reducible apply wd); focus decide) | ((with_reducible apply we); focus exact rfl) | ((with_reducible apply wf); focus exact rfl) | ((first | (with_reducible apply SW_run tt_ok hG htb) | ((with_reducible apply SW_draw rfl tt_ok hG htb); (focus kernel_rfl); focus simp only [List.range, List.range.loop, List.size_toArray, List.length_cons, List.length_nil, Nat.reduceAdd])); focus ((repeat' (first | (with_reducible first | exact wg | exact wh) | ((with_reducible first | apply wi | apply wj); focus (simp (discharger := omega) only [go_sem, simprocAttr]; with_reducible rfl)))); done)))
                exact ⟨a.next.length - (i + 1), _, by omega, Norm.headS (own := []) (keep := [1, 3, 43, 44, 45]) (by refine ⟨?_, ?_⟩; (simp (discharger := omega) only [go_sem, simprocAttr]; with_reducible rfl); refine ⟨?_, ?_, ?_, ?_⟩ <;> (simp only [go_sem, simprocAttr]; with_reducible rfl)), i + 1, rfl, rfl, by omega, fun j hj h => by
                  by_cases e : j = i
                  · subst e; rw [hat]; exact ⟨hrl, hB⟩
                  · exact hA j hj (by omega)⟩
            · rw [f1 hrl]
              repeat' (first | (with_reducible first | apply w1 | apply w2 | apply w3 | apply w4 | apply w5 | apply w6 | apply w7 | apply w8 | apply w9 | apply wa | apply wb | apply wc) | ((with_reducible apply wd); focus decide) | ((with_reducible apply we); focus exact rfl) | ((with_reducible apply wf); focus exact rfl) | ((first | (with_reducible apply SW_run tt_ok hG htb) | ((with_reducible apply SW_draw rfl tt_ok hG htb); (focus kernel_rfl); focus simp only [List.range, List.range.loop, List.size_toArray, List.length_cons, List.length_nil, Nat.reduceAdd])); focus ((repeat' (first | (with_reducible first | exact wg | exact wh) | ((with_reducible first | apply wi | apply wj); focus (simp (discharger := omega) only [go_sem, hrow, simprocAttr]; with_reducible rfl)))); done)))
              exact (by simp (discharger := omega) only [go_sem, tErr, simprocAttr])
          · obtain rfl : i = a.next.length := by omega
            rw [rowsFault_zero.2 fun r hr => by obtain ⟨j, hj, rfl⟩ := List.mem_iff_getElem.1 hr; exact hA j hj hj]
            repeat' (first | (with_reducible first | apply w1 | apply w2 | apply w3 | apply w4 | apply w5 | apply w6 | apply w7 | apply w8 | apply w9 | apply wa | apply wb | apply wc) | ((with_reducible apply wd); focus decide) | ((with_reducible apply we); focus exact rfl) | ((with_reducible apply wf); focus exact rfl) | ((first | (with_reducible apply SW_run tt_ok hG htb) | ((with_reducible apply SW_draw rfl tt_ok hG htb); (focus kernel_rfl); focus simp only [List.range, List.range.loop, List.size_toArray, List.length_cons, List.length_nil, Nat.reduceAdd])); focus ((repeat' (first | (with_reducible first | exact wg | exact wh) | ((with_reducible first | apply wi | apply wj); focus (simp (discharger := omega) only [go_sem, simprocAttr]; with_reducible rfl)))); done)))
            exact (by simp (discharger := omega) only [go_sem, tErr, simprocAttr])
        · repeat' (first | (with_reducible first | apply w1 | apply w2 | apply w3 | apply w4 | apply w5 | apply w6 | apply w7 | apply w8 | apply w9 | apply wa | apply wb | apply wc) | ((with_reducible apply wd); focus decide) | ((with_reducible apply we); focus exact rfl) | ((with_reducible apply wf); focus exact rfl) | ((first | (with_reducible apply SW_run tt_ok hG htb) | ((with_reducible apply SW_draw rfl tt_ok hG htb); (focus kernel_rfl); focus simp only [List.range, List.range.loop, List.size_toArray, List.length_cons, List.length_nil, Nat.reduceAdd])); focus ((repeat' (first | (with_reducible first | exact wg | exact wh) | ((with_reducible first | apply wi | apply wj); focus (simp (discharger := omega) only [go_sem, tAuto, tErr, h3, simprocAttr]; with_reducible rfl)))); done)))
          exact (by simp (discharger := omega) only [go_sem, tErr, h3, simprocAttr])
  · generalize manyErr a.base a.tracks = e at *
    repeat' (first | (with_reducible first | apply w1 | apply w2 | apply w3 | apply w4 | apply w5 | apply w6 | apply w7 | apply w8 | apply w9 | apply wa | apply wb | apply wc) | ((with_reducible apply wd); focus decide) | ((with_reducible apply we); focus exact rfl) | ((with_reducible apply wf); focus exact rfl) | ((first | (with_reducible apply SW_run tt_ok hG htb) | ((with_reducible apply SW_draw rfl tt_ok hG htb); (focus kernel_rfl); focus simp only [List.range, List.range.loop, List.size_toArray, List.length_cons, List.length_nil, Nat.reduceAdd])); focus ((repeat' (first | (with_reducible first | exact wg | exact wh) | ((with_reducible first | apply wi | apply wj); focus (simp (discharger := omega) only [go_sem, tAuto, tErr, h0, simprocAttr]; with_reducible rfl)))); done)))
    exact (by simp (discharger := omega) only [go_sem, tErr, h0, simprocAttr])
end
end Go.Proofs.Ythcclcbliedodaa
namespace Go.Proofs.Ythcclcbliedodaa
open Go.RowKit

section
variable {G : World → Prop} (hG : Lasting G)
include hG
set_option maxHeartbeats 16000000 in
set_option maxRecDepth 100000 in
theorem find_snd (met : List (List Int)) (s : List Int) (hs : Small s) (hl : s.length ≤ 1000000) (hm : ∀ q ∈ met, Small q) (hnd : met.Nodup) (hml : met.length ≤ 100000) :
    SndG Try.prog G 59 [.sref 4, .bptr 0 0, .bptr 1 0] [.box [.map 2], .box [.sref 3], .map .str (strEntries met), .row 26 1 true (met.map tInts), .row 3 1 true (iL s)] [] (.t (tNat (idxS (addS met (canonL s)) (canonL s))))
      [.box [.map 2], .box [.sref 3], .map .str (strEntries (addS met (canonL s))), .row 26 1 true ((addS met (canonL s)).map tInts), .hole] := by
  refine sndG_of_body tt_ok Try.func59 rfl rfl (n := 50) rfl (rs := [.tmp 4]) rfl (Nat.le_refl _) [0, 1] (fun i l h => ?_) (fun i hi => ?_) fun bs => ?_
  · match i, h with
    | 0, h => cases h; exact ⟨by decide, _, rfl⟩
    | 1, h => cases h; exact ⟨by decide, _, rfl⟩
    | 2, h => cases h
    | 3, h => cases h
    | 4, h => cases h
  · match i, hi with
    | 0, _ => exact ⟨_, rfl⟩
    | 1, _ => exact ⟨_, rfl⟩
    | i + 2, hi => simp at hi
  obtain ⟨b0, hb0⟩ : ∃ b0, bs 0 = b0 := ⟨_, rfl⟩
  obtain ⟨b1, hb1⟩ : ∃ b1, bs 1 = b1 := ⟨_, rfl⟩
  show SW _ _ _ _ ⟨50, [(0, .sref 4), (1, .bptr 0 0), (2, .bptr 1 0), (50, .pin 0 (bs 0)), (51, .pin 1 (bs 1))], [.box [.map 2], .box [.sref 3], .map .str (strEntries met), .row 26 1 true (met.map tInts), .row 3 1 true (iL s)]⟩
  rw [hb0, hb1]
  have hsl := sortL_len s
  have hcl := canonL_len s
  have hcs := hs.canon
  have c1 := Sort_snd (G := G) 3 s (by omega)
  have c2 := Compact_snd (G := G) 3 (sortL s) (by omega)
  have hce : Go.Lib.compact (sortL s) = canonL s := rfl
  rw [hce] at c2
  have htb : Tab.ok Try.prog G [] := Tab.nil
  obtain ⟨ms, hms⟩ : ∃ ms, met.map tInts = ms := ⟨_, rfl⟩
  obtain ⟨es, hes⟩ : ∃ es, strEntries met = es := ⟨_, rfl⟩
  rw [hms, hes]
  repeat' (first | (with_reducible first | refine SW_seq ?_ | refine SW_block ?_ | refine SThen_n ?_ | refine SThen_r ?_ | refine SThen_e ?_ | refine SIn_n ?_ | refine SIn_r ?_ | refine SIn_eq ?_ | refine SW_skip ?_ | refine SW_exit ?_ | refine SW_ret ?_ | refine SPost_r ?_) | ((with_reducible refine SIn_ne ?_ ?_); focus decide) | ((with_reducible refine SW_true ?_ ?_); focus exact rfl) | ((with_reducible refine SW_false ?_ ?_); focus exact rfl) | ((with_reducible apply SW_run tt_ok hG htb); focus ((repeat' (first | (with_reducible exact runX_nil) | ((with_reducible apply runX_cons); focus (simp (discharger := omega) only [go_sem, simprocAttr]; with_reducible rfl)))); done)))
  refine SW_norm (Norm.headS (own := []) (keep := [0, 50, 51, 1, 2]) (by refine ⟨?_, ?_⟩; (simp (discharger := omega) only [go_sem, simprocAttr]; with_reducible rfl); refine ⟨?_, ?_, ?_, ?_⟩ <;> (simp only [go_sem, simprocAttr]; with_reducible rfl))) ?_
  refine SW_runG tt_ok hG htb 1 rfl (by simp only [List.take_succ_cons, List.take_zero]; rfl) (by simp only [List.drop_succ_cons, List.drop_zero, Nat.reduceAdd]; rfl) (by (repeat' (first | (with_reducible exact runX_nil) | ((with_reducible apply runX_cons); focus (simp (discharger := omega) only [go_sem, simprocAttr]; with_reducible rfl))))) rfl rfl (g := 60) (cap := []) (obs := [.row 3 1 true (iL s)]) (ks := [0]) (obs' := [.row 3 1 true (iL (sortL s))]) (rst := ?zra) (r := .t (.tup [])) (s2 := ?zsa) (s3 := ?zua) ?q1a ?q2a ?q3a ?q4a ?q5a ?q6a ?q7a ?q8a ?q9a ?q10a
  case q5a => exact c1
  case q1a => rfl
  case q2a => rfl
  case q3a => rfl
  case q4a => rfl
  case q6a => rfl
  case q7a => rfl
  case q8a =>
    simp only [go_sem, St.back, List.map_cons, List.map_nil, SV.ren, Ob.ren, renL, pastG, lateG, List.length_cons, List.length_nil, List.take_succ_cons, List.take_zero, List.drop_succ_cons, List.drop_zero, List.getElem?_cons_zero, List.getElem?_cons_succ, List.getElem?_nil]
    rfl
  case q9a => (repeat' (first | (with_reducible exact runX_nil) | ((with_reducible apply runX_cons); focus (simp (discharger := omega) only [go_sem, simprocAttr]; with_reducible rfl))))
  repeat' (first | (with_reducible first | refine SW_seq ?_ | refine SW_block ?_ | refine SThen_n ?_ | refine SThen_r ?_ | refine SThen_e ?_ | refine SIn_n ?_ | refine SIn_r ?_ | refine SIn_eq ?_ | refine SW_skip ?_ | refine SW_exit ?_ | refine SW_ret ?_ | refine SPost_r ?_) | ((with_reducible refine SIn_ne ?_ ?_); focus decide) | ((with_reducible refine SW_true ?_ ?_); focus exact rfl) | ((with_reducible refine SW_false ?_ ?_); focus exact rfl) | ((with_reducible apply SW_run tt_ok hG htb); focus ((repeat' (first | (with_reducible exact runX_nil) | ((with_reducible apply runX_cons); focus (simp (discharger := omega) only [go_sem, simprocAttr]; with_reducible rfl)))); done)))
  refine SW_norm (Norm.headS (own := []) (keep := [0, 50, 51, 1, 2]) (by refine ⟨?_, ?_⟩; (simp (discharger := omega) only [go_sem, simprocAttr]; with_reducible rfl); refine ⟨?_, ?_, ?_, ?_⟩ <;> (simp only [go_sem, simprocAttr]; with_reducible rfl))) ?_
  refine SW_runG tt_ok hG htb 1 rfl (by simp only [List.take_succ_cons, List.take_zero]; rfl) (by simp only [List.drop_succ_cons, List.drop_zero, Nat.reduceAdd]; rfl) (by (repeat' (first | (with_reducible exact runX_nil) | ((with_reducible apply runX_cons); focus (simp (discharger := omega) only [go_sem, simprocAttr]; with_reducible rfl))))) rfl rfl (g := 61) (cap := []) (obs := [.row 3 1 true (iL (sortL s))]) (ks := []) (obs' := [.row 3 1 true (iL (canonL s))]) (rst := ?zrb) (r := .sref 0) (s2 := ?zsb) (s3 := ?zub) ?q1b ?q2b ?q3b ?q4b ?q5b ?q6b ?q7b ?q8b ?q9b ?q10b
  case q5b => exact c2
  case q1b => rfl
  case q2b => rfl
  case q3b => rfl
  case q4b => rfl
  case q6b => rfl
  case q7b => rfl
  case q8b =>
    simp only [go_sem, St.back, List.map_cons, List.map_nil, SV.ren, Ob.ren, renL, pastG, lateG, List.length_cons, List.length_nil, List.take_succ_cons, List.take_zero, List.drop_succ_cons, List.drop_zero, List.getElem?_cons_zero, List.getElem?_cons_succ, List.getElem?_nil]
    rfl
  case q9b => (repeat' (first | (with_reducible exact runX_nil) | ((with_reducible apply runX_cons); focus (simp (discharger := omega) only [go_sem, simprocAttr]; with_reducible rfl))))
  repeat' (first | (with_reducible first | refine SW_seq ?_ | refine SW_block ?_ | refine SThen_n ?_ | refine SThen_r ?_ | refine SThen_e ?_ | refine SIn_n ?_ | refine SIn_r ?_ | refine SIn_eq ?_ | refine SW_skip ?_ | refine SW_exit ?_ | refine SW_ret ?_ | refine SPost_r ?_) | ((with_reducible refine SIn_ne ?_ ?_); focus decide) | ((with_reducible refine SW_true ?_ ?_); focus exact rfl) | ((with_reducible refine SW_false ?_ ?_); focus exact rfl) | ((with_reducible apply SW_run tt_ok hG htb); focus ((repeat' (first | (with_reducible exact runX_nil) | ((with_reducible apply runX_cons); focus (simp (discharger := omega) only [go_sem, simprocAttr]; with_reducible rfl)))); done)))
  refine SW_norm (Norm.frz (y := .list (iL (canonL s))) 0 rfl rfl) ?_
  refine SW_norm (Norm.datum 0 0 rfl rfl) ?_
  rw [show T.list (iL (canonL s)) = tInts (canonL s) from rfl]
  generalize hS : canonL s = S at *
  have hSl : S.length ≤ 1000000 := by omega
  repeat' (first | (with_reducible first | apply w1 | apply w2 | apply w3 | apply w4 | apply w5 | apply w6 | apply w7 | apply w8 | apply w9 | apply wa | apply wb | apply wc) | ((with_reducible apply wd); focus decide) | ((with_reducible apply we); focus exact rfl) | ((with_reducible apply wf); focus exact rfl) | ((first | (with_reducible apply SW_run tt_ok hG htb) | ((with_reducible apply SW_draw rfl tt_ok hG htb); (focus kernel_rfl); focus simp only [List.range, List.range.loop, List.size_toArray, List.length_cons, List.length_nil, Nat.reduceAdd])); focus ((repeat' (first | (with_reducible first | exact wg | exact wh) | ((with_reducible first | apply wi | apply wj); focus (simp (discharger := omega) only [go_sem, simprocAttr]; with_reducible rfl)))); done)))
  refine SW_loop (fun mm st => ∃ (i : Nat) (kt : List T), mm = S.length - i ∧ st = ⟨50, [(0, .t (tInts S)), (50, .pin 0 b0), (51, .pin 1 b1), (1, .bptr 0 0), (2, .bptr 1 0), (5, .sref 2), (17, .t (tInts S)), (18, .t (tNat S.length)), (19, .t (tNat i))], [.box [.map 3], .box [.sref 4], .row 5 1 true kt, .map .str es, .row 26 1 true ms]⟩ ∧ i ≤ S.length ∧ kt = (fillB S i).map tByte) S.length
    ⟨_, Norm.headS (own := []) (keep := [0, 50, 51, 1, 2, 5, 17, 18, 19]) (by refine ⟨?_, ?_⟩; (simp (discharger := omega) only [go_sem, simprocAttr]; with_reducible rfl); refine ⟨?_, ?_, ?_, ?_⟩ <;> (simp only [go_sem, simprocAttr]; with_reducible rfl)), 0, _, rfl, rfl, Nat.zero_le _, by rw [fillB_zero, List.map_replicate]; rfl⟩ ?_
  rintro mm st ⟨i, kt, rfl, rfl, hi, hkt⟩
  have hkl : kt.length = S.length := by rw [hkt, List.length_map, fillB_len hi]
  by_cases hlt : i < S.length
  · obtain ⟨x, hx⟩ : ∃ x, S[i]! = x := ⟨_, rfl⟩
    have hx2 := hcs x (bang_mem hx hlt)
    have hw : IntKind.u8.wrap x = x := by
      rw [show x = ((x.toNat : Nat) : Int) by omega, u8lo]; omega
    repeat' (first | (with_reducible first | apply w1 | apply w2 | apply w3 | apply w4 | apply w5 | apply w6 | apply w7 | apply w8 | apply w9 | apply wa | apply wb | apply wc) | ((with_reducible apply wd); focus decide) | ((with_reducible apply we); focus exact rfl) | ((with_reducible apply wf); focus exact rfl) | ((first | (with_reducible apply SW_run tt_ok hG htb) | ((with_reducible apply SW_draw rfl tt_ok hG htb); (focus kernel_rfl); focus simp only [List.range, List.range.loop, List.size_toArray, List.length_cons, List.length_nil, Nat.reduceAdd])); focus ((repeat' (first | (with_reducible first | exact wg | exact wh) | ((with_reducible first | apply wi | apply wj); focus (simp (discharger := omega) only [go_sem, hx, hw, simprocAttr]; with_reducible rfl)))); done)))
    exact ⟨S.length - (i + 1), _, by omega, Norm.headS (own := []) (keep := [0, 50, 51, 1, 2, 5, 17, 18, 19]) (by refine ⟨?_, ?_⟩; (simp (discharger := omega) only [go_sem, simprocAttr]; with_reducible rfl); refine ⟨?_, ?_, ?_, ?_⟩ <;> (simp only [go_sem, simprocAttr]; with_reducible rfl)), i + 1, _, rfl, rfl, by omega, by rw [← fillB_set (bang_get hx hlt), List.map_set, ← hkt]; rfl⟩
  · obtain rfl : i = S.length := by omega
    rw [fillB_all] at hkt
    subst hkt
    obtain ⟨ky, hky⟩ : ∃ ky, bytesStr S = ky := ⟨_, rfl⟩
    have hstr : (⟨(S.map fun n => UInt8.ofNat n.toNat).toArray⟩ : ByteArray) = ky := hky
    have hsz : ky.size ≤ 2000000 := by
      rw [← hky]
      simp only [bytesStr, ByteArray.size, List.size_toArray, List.length_map]; omega
    by_cases hin : S ∈ met
    · have hadd : addS met S = met := if_pos hin
      have hk := idx_get hin
      rw [hadd]
      generalize idxS met S = k at *
      have hget : mapGet es (.str ky) = some (tNat k) := by
        rw [← hes, ← hky]; exact strEntries_get_some hm hnd hk
      rw [hms, hes]
      repeat' (first | (with_reducible first | apply w1 | apply w2 | apply w3 | apply w4 | apply w5 | apply w6 | apply w7 | apply w8 | apply w9 | apply wa | apply wb | apply wc) | ((with_reducible apply wd); focus decide) | ((with_reducible apply we); focus exact rfl) | ((with_reducible apply wf); focus exact rfl) | ((first | (with_reducible apply SW_run tt_ok hG htb) | ((with_reducible apply SW_draw rfl tt_ok hG htb); (focus kernel_rfl); focus simp only [List.range, List.range.loop, List.size_toArray, List.length_cons, List.length_nil, Nat.reduceAdd])); focus ((repeat' (first | (with_reducible first | exact wg | exact wh) | ((with_reducible first | apply wi | apply wj); focus (simp (discharger := omega) only [go_sem, bytesOf_map, hstr, hget, simprocAttr]; with_reducible rfl)))); done)))
      subst hb0 hb1
      exact SPostG_r ((Norm.headS (own := []) (keep := [50, 51, 4]) (by refine ⟨?_, ?_⟩; (simp (discharger := omega) only [go_sem, simprocAttr]; with_reducible rfl); refine ⟨?_, ?_, ?_, ?_⟩ <;> (simp only [go_sem, simprocAttr]; with_reducible rfl))).trans (Norm.hole _)) rfl rfl (fun i hi => by
        match i, hi with
        | 0, _ => rfl
        | 1, _ => rfl
        | i + 2, hi => simp at hi)
    · have hadd : addS met S = met ++ [S] := if_neg hin
      have hget : mapGet es (.str ky) = none := by
        rw [← hes, ← hky]; exact strEntries_get_none hm hcs hin
      have hset : mapSet es (.str ky) (tNat met.length) = strEntries (met ++ [S]) := by
        rw [← hes, ← hky]; exact strEntries_set hm hcs hin
      have hml2 : ms.length = met.length := by rw [← hms]; simp
      rw [hadd, idx_new hin]
      have hms2 : (met ++ [S]).map tInts = ms ++ [tInts S] := by rw [List.map_append, hms]; rfl
      rw [← hset, hms2]
      repeat' (first | (with_reducible first | apply w1 | apply w2 | apply w3 | apply w4 | apply w5 | apply w6 | apply w7 | apply w8 | apply w9 | apply wa | apply wb | apply wc) | ((with_reducible apply wd); focus decide) | ((with_reducible apply we); focus exact rfl) | ((with_reducible apply wf); focus exact rfl) | ((first | (with_reducible apply SW_run tt_ok hG htb) | ((with_reducible apply SW_draw rfl tt_ok hG htb); (focus kernel_rfl); focus simp only [List.range, List.range.loop, List.size_toArray, List.length_cons, List.length_nil, Nat.reduceAdd])); focus ((repeat' (first | (with_reducible first | exact wg | exact wh) | ((with_reducible first | apply wi | apply wj); focus (simp (discharger := omega) only [go_sem, bytesOf_map, hstr, hget, hml2, simprocAttr]; with_reducible rfl)))); done)))
      subst hb0 hb1
      exact SPostG_r ((Norm.headS (own := []) (keep := [50, 51, 4]) (by refine ⟨?_, ?_⟩; (simp (discharger := omega) only [go_sem, simprocAttr]; with_reducible rfl); refine ⟨?_, ?_, ?_, ?_⟩ <;> (simp only [go_sem, simprocAttr]; with_reducible rfl))).trans (Norm.hole _)) rfl rfl (fun i hi => by
        match i, hi with
        | 0, _ => rfl
        | 1, _ => rfl
        | i + 2, hi => simp at hi)
end
end Go.Proofs.Ythcclcbliedodaa
namespace Go.Proofs.Ythcclcbliedodaa
open Go.RowKit

/-- What comes up of a step. -/
def nextD (stp : List Int → Nat → List Int) (s : List Int) (l : Nat) : List Int := canonL (stp s l)
def growOk (stp : List Int → Nat → List Int) (n : Nat) (first : List Int) : Bool := setsOk (nextD stp) n (canonL first)
def growSets (stp : List Int → Nat → List Int) (n : Nat) (first : List Int) : List (List Int) := if growOk stp n first = true then setsOf (nextD stp) n (canonL first) else []
def growRows (stp : List Int → Nat → List Int) (n : Nat) (first : List Int) : List (List Int) := if growOk stp n first = true then rowsOf (nextD stp) n (canonL first) else []
section
variable {G : World → Prop} (hG : Lasting G)
include hG
end
end Go.Proofs.Ythcclcbliedodaa
namespace Go.Proofs.Ythcclcbliedodaa
open Go.RowKit

section
variable {G : World → Prop} (hG : Lasting G)
include hG
end
end Go.Proofs.Ythcclcbliedodaa
namespace Go.Proofs.Ythcclcbliedodaa
open Go.RowKit

section
variable {G : World → Prop} (hG : Lasting G)
include hG
theorem Index_snd (l : List Int) (x : Int) : Snd Try.prog G 68 [tInts l, tInt x] (tInt (if x ∈ l then ((l.idxOf x : Nat) : Int) else -1)) := by
  have htb : Tab.ok Try.prog G [] := Tab.nil
  refine snd_of_body (n := 19) (tm := [(0, .t (tInts l)), (1, .t (tInt x))]) (rs := [.tmp 4]) tt_ok Try.func68 rfl rfl rfl rfl rfl ?_
  refine SW_len (t := 0) (l := _) rfl fun hlen => ?_
  rw [List.length_map] at hlen
  repeat' (first | (with_reducible first | apply w1 | apply w2 | apply w3 | apply w4 | apply w5 | apply w6 | apply w7 | apply w8 | apply w9 | apply wa | apply wb | apply wc) | ((with_reducible apply wd); focus decide) | ((with_reducible apply we); focus exact rfl) | ((with_reducible apply wf); focus exact rfl) | ((first | (with_reducible apply SW_run tt_ok hG htb) | ((with_reducible apply SW_draw rfl tt_ok hG htb); (focus kernel_rfl); focus simp only [List.range, List.range.loop, List.size_toArray, List.length_cons, List.length_nil, Nat.reduceAdd])); focus ((repeat' (first | (with_reducible first | exact wg | exact wh) | ((with_reducible first | apply wi | apply wj); focus (simp (discharger := omega) only [go_sem, simprocAttr]; with_reducible rfl)))); done)))
  refine SW_loop (fun mm st => ∃ i : Nat, mm = l.length - i ∧ st = ⟨19, [(0, .t (tInts l)), (1, .t (tInt x)), (7, .t (tNat l.length)), (8, .t (tNat i))], []⟩ ∧ i ≤ l.length ∧ ∀ j, j < i → l[j]? ≠ some x) l.length
    ⟨_, Norm.headS (own := []) (keep := [0, 1, 7, 8]) (by refine ⟨?_, ?_⟩; (simp (discharger := omega) only [go_sem, simprocAttr]; with_reducible rfl); refine ⟨?_, ?_, ?_, ?_⟩ <;> (simp only [go_sem, simprocAttr]; with_reducible rfl)), 0, rfl, rfl, Nat.zero_le _, fun j hj => by omega⟩ ?_
  rintro mm st ⟨i, rfl, rfl, hi, hno⟩
  by_cases hlt : i < l.length
  · obtain ⟨y, hy⟩ : ∃ y, l[i]! = y := ⟨_, rfl⟩
    have hg := bang_get hy hlt
    by_cases hxy : x = y
    · have hxy2 := eq_true hxy
      have hmem : x ∈ l := by rw [hxy]; exact List.mem_of_getElem? hg
      have hidx : l.idxOf x = i := by
        have h1 := List.idxOf_lt_length_of_mem hmem
        have h2 := List.getElem_idxOf h1
        have h3 : ¬ l.idxOf x < i := fun q => hno _ q (by rw [List.getElem?_eq_getElem h1, h2])
        by_cases h4 : l.idxOf x = i
        · exact h4
        · exfalso
          have h5 : i < l.idxOf x := by omega
          have := List.not_of_lt_findIdx h5
          rw [← hxy] at hg
          obtain ⟨q1, q2⟩ := List.getElem?_eq_some_iff.1 hg
          rw [q2] at this
          simp at this
      rw [if_pos hmem, hidx]
      repeat' (first | (with_reducible first | apply w1 | apply w2 | apply w3 | apply w4 | apply w5 | apply w6 | apply w7 | apply w8 | apply w9 | apply wa | apply wb | apply wc) | ((with_reducible apply wd); focus decide) | ((with_reducible apply we); focus exact rfl) | ((with_reducible apply wf); focus exact rfl) | ((first | (with_reducible apply SW_run tt_ok hG htb) | ((with_reducible apply SW_draw rfl tt_ok hG htb); (focus kernel_rfl); focus simp only [List.range, List.range.loop, List.size_toArray, List.length_cons, List.length_nil, Nat.reduceAdd])); focus ((repeat' (first | (with_reducible first | exact wg | exact wh) | ((with_reducible first | apply wi | apply wj); focus (simp (discharger := omega) only [go_sem, hy, hxy2, simprocAttr]; with_reducible rfl)))); done)))
      exact (by simp (discharger := omega) only [go_sem, simprocAttr])
    · repeat' (first | (with_reducible first | apply w1 | apply w2 | apply w3 | apply w4 | apply w5 | apply w6 | apply w7 | apply w8 | apply w9 | apply wa | apply wb | apply wc) | ((with_reducible apply wd); focus decide) | ((with_reducible apply we); focus exact rfl) | ((with_reducible apply wf); focus exact rfl) | ((first | (with_reducible apply SW_run tt_ok hG htb) | ((with_reducible apply SW_draw rfl tt_ok hG htb); (focus kernel_rfl); focus simp only [List.range, List.range.loop, List.size_toArray, List.length_cons, List.length_nil, Nat.reduceAdd])); focus ((repeat' (first | (with_reducible first | exact wg | exact wh) | ((with_reducible first | apply wi | apply wj); focus (simp (discharger := omega) only [go_sem, hy, hxy, simprocAttr]; with_reducible rfl)))); done)))
      exact ⟨l.length - (i + 1), _, by omega, Norm.headS (own := []) (keep := [0, 1, 7, 8]) (by refine ⟨?_, ?_⟩; (simp (discharger := omega) only [go_sem, simprocAttr]; with_reducible rfl); refine ⟨?_, ?_, ?_, ?_⟩ <;> (simp only [go_sem, simprocAttr]; with_reducible rfl)), i + 1, rfl, rfl, by omega, fun j hj => by
        by_cases e : j = i
        · subst e; rw [hg]; intro q; exact hxy (Option.some.inj q).symm
        · exact hno j (by omega)⟩
  · obtain rfl : i = l.length := by omega
    have hno2 : x ∉ l := fun q => by
      obtain ⟨j, hj⟩ := List.mem_iff_getElem?.1 q
      exact hno j (List.getElem?_eq_some_iff.1 hj).1 hj
    rw [if_neg hno2]
    repeat' (first | (with_reducible first | apply w1 | apply w2 | apply w3 | apply w4 | apply w5 | apply w6 | apply w7 | apply w8 | apply w9 | apply wa | apply wb | apply wc) | ((with_reducible apply wd); focus decide) | ((with_reducible apply we); focus exact rfl) | ((with_reducible apply wf); focus exact rfl) | ((first | (with_reducible apply SW_run tt_ok hG htb) | ((with_reducible apply SW_draw rfl tt_ok hG htb); (focus kernel_rfl); focus simp only [List.range, List.range.loop, List.size_toArray, List.length_cons, List.length_nil, Nat.reduceAdd])); focus ((repeat' (first | (with_reducible first | exact wg | exact wh) | ((with_reducible first | apply wi | apply wj); focus (simp (discharger := omega) only [go_sem, simprocAttr]; with_reducible rfl)))); done)))
    exact (by simp (discharger := omega) only [go_sem, simprocAttr])
theorem Contains_snd (l : List Int) (x : Int) : Snd Try.prog G 62 [tInts l, tInt x] (.bool (decide (x ∈ l))) := by
  have c1 := Index_snd hG l x
  refine snd_of_body (n := 9) (tm := [(0, .t (tInts l)), (1, .t (tInt x))]) (rs := [.tmp 4]) tt_ok Try.func62 rfl rfl rfl rfl rfl ?_
  by_cases h : x ∈ l
  · rw [if_pos h] at c1
    have htb := Tab.cons c1 Tab.nil
    have h2 : ((l.idxOf x : Nat) : Int) ≥ 0 := by omega
    rw [decide_eq_true h]
    generalize l.idxOf x = k at *
    repeat' (first | (with_reducible first | apply w1 | apply w2 | apply w3 | apply w4 | apply w5 | apply w6 | apply w7 | apply w8 | apply w9 | apply wa | apply wb | apply wc) | ((with_reducible apply wd); focus decide) | ((with_reducible apply we); focus exact rfl) | ((with_reducible apply wf); focus exact rfl) | ((first | (with_reducible apply SW_run tt_ok hG htb) | ((with_reducible apply SW_draw rfl tt_ok hG htb); (focus kernel_rfl); focus simp only [List.range, List.range.loop, List.size_toArray, List.length_cons, List.length_nil, Nat.reduceAdd])); focus ((repeat' (first | (with_reducible first | exact wg | exact wh) | ((with_reducible first | apply wi | apply wj); focus (simp (discharger := omega) only [go_sem, h2, simprocAttr]; with_reducible rfl)))); done)))
    exact (by simp (discharger := omega) only [go_sem, h2, simprocAttr])
  · rw [if_neg h] at c1
    have htb := Tab.cons c1 Tab.nil
    rw [decide_eq_false h]
    repeat' (first | (with_reducible first | apply w1 | apply w2 | apply w3 | apply w4 | apply w5 | apply w6 | apply w7 | apply w8 | apply w9 | apply wa | apply wb | apply wc) | ((with_reducible apply wd); focus decide) | ((with_reducible apply we); focus exact rfl) | ((with_reducible apply wf); focus exact rfl) | ((first | (with_reducible apply SW_run tt_ok hG htb) | ((with_reducible apply SW_draw rfl tt_ok hG htb); (focus kernel_rfl); focus simp only [List.range, List.range.loop, List.size_toArray, List.length_cons, List.length_nil, Nat.reduceAdd])); focus ((repeat' (first | (with_reducible first | exact wg | exact wh) | ((with_reducible first | apply wi | apply wj); focus (simp (discharger := omega) only [go_sem, simprocAttr]; with_reducible rfl)))); done)))
    exact (by simp (discharger := omega) only [go_sem, simprocAttr])
end
/-- The states to which words of some letters lead, in the order in which they are found. -/
def closeD (a : GAuto) (letters : List Int) (s : Int) (j : Nat) : Int := nx a.next s (letters[j]!).toNat
def closeL (a : GAuto) (letters : List Int) : List Int := growS (closeD a letters) letters.length 0 a.next.length
theorem closeD_ok {a : GAuto} {n m : Nat} (h : Rows0 n m a.next) {letters : List Int} (hl : ∀ l ∈ letters, 0 ≤ l ∧ l < (n : Int)) {s : Int} (hs : 0 ≤ s ∧ s < (m : Int)) {j : Nat} (hj : j < letters.length) : 0 ≤ closeD a letters s j ∧ closeD a letters s j < (m : Int) := by
  have h1 := hl _ (bang_mem (l := letters) (i := j) rfl hj)
  exact nx_ok h hs (by omega)
theorem close_in {a : GAuto} {n m : Nat} (h : Rows0 n m a.next) (hm : 0 < m) {letters : List Int} (hl : ∀ l ∈ letters, 0 ≤ l ∧ l < (n : Int)) (k : Nat) : ∀ y ∈ growS (closeD a letters) letters.length 0 k, 0 ≤ y ∧ y < (m : Int) :=
  growS_in' ⟨Int.le_refl _, by omega⟩ (fun s j hj hs => closeD_ok h hl hs hj) k
theorem close_len {a : GAuto} {n m : Nat} (h : Rows0 n m a.next) (hm : 0 < m) {letters : List Int} (hl : ∀ l ∈ letters, 0 ≤ l ∧ l < (n : Int)) (k : Nat) : (growS (closeD a letters) letters.length 0 k).length ≤ m :=
  nodup_bound m _ (growS_nodup k) (close_in h hm hl k)
theorem close_end {a : GAuto} {n m : Nat} (h : Rows0 n m a.next) (hm : 0 < m) {letters : List Int} (hl : ∀ l ∈ letters, 0 ≤ l ∧ l < (n : Int)) {i : Nat} (hi : (growS (closeD a letters) letters.length 0 i).length ≤ i) (him : i ≤ m) : closeL a letters = growS (closeD a letters) letters.length 0 i := by
  have := growS_fix hi (m - i)
  unfold closeL
  rw [h.len]
  rw [show i + (m - i) = m by omega] at this
  exact this
section
variable {G : World → Prop} (hG : Lasting G)
include hG
set_option maxHeartbeats 8000000 in
set_option maxRecDepth 100000 in
theorem closure_snd {a : GAuto} {n m : Nat} (h : Rows0 n m a.next) (hm : 0 < m) (hm80 : m ≤ 80) {letters : List Int} (hl : ∀ l ∈ letters, 0 ≤ l ∧ l < (n : Int)) :
    SndG Try.prog G 46 [.t (tAuto a), .t (tInts letters)] [] [] (.sref 0) [.row 3 1 true (iL (closeL a letters))] := by
  refine sndG_of_body tt_ok Try.func46 rfl rfl (n := 44) rfl (rs := [.tmp 4]) rfl (Nat.zero_le _) [] (fun i l h => by simp at h) (fun i hi => by simp at hi) fun bs => ?_
  show SW _ _ _ _ ⟨44, [(0, .t (tAuto a)), (1, .t (tInts letters))], []⟩
  refine SW_len (t := 1) (l := _) rfl fun hlen => ?_
  rw [List.length_map] at hlen
  have htb : Tab.ok Try.prog G [] := Tab.nil
  obtain ⟨δ, hδ⟩ : ∃ δ, closeD a letters = δ := ⟨_, rfl⟩
  have hin := close_in h hm hl
  have hle := close_len h hm hl
  have hend := fun i => close_end h hm hl (i := i)
  have hdel : ∀ (s : Int) (j : Nat) (row : List Int) (l t : Int), a.next[s.toNat]! = row → letters[j]! = l → 0 ≤ l → row[l.toNat]! = t → l.toNat < row.length → s.toNat < a.next.length → δ s j = t := fun s j row l t e1 e2 e3 e4 e5 e6 => by
    rw [← hδ]
    unfold closeD nx rowOf
    rw [e2, bang_D e1 e6, bang_D e4 e5]
  rw [hδ] at hin hle hend
  repeat' (with_reducible first | refine SW_seq ?_ | refine SThen_n ?_ | refine SIn_n ?_ | refine SW_skip ?_)
  refine SW_run tt_ok hG htb (by (repeat' (first | (with_reducible exact runX_nil) | ((with_reducible apply runX_cons); focus (simp (discharger := omega) only [go_sem, tAuto, simprocAttr]; with_reducible rfl))))) ?_
  repeat' (with_reducible first | refine SW_seq ?_ | refine SThen_n ?_ | refine SIn_n ?_ | refine SW_skip ?_)
  refine SW_region ?_
  refine SL_litO tt_ok rfl rfl rfl rfl rfl rfl (ys := [.int .i64 0]) (by simp only [go_sem, simprocAttr]) ?_
  refine SL_done tt_ok hG htb (by (repeat' (first | (with_reducible exact runX_nil) | ((with_reducible apply runX_cons); focus (simp (discharger := omega) only [go_sem, simprocAttr]; with_reducible rfl))))) ?_
  repeat' (first | (with_reducible first | refine SW_seq ?_ | refine SW_block ?_ | refine SThen_n ?_ | refine SThen_r ?_ | refine SThen_e ?_ | refine SIn_n ?_ | refine SIn_r ?_ | refine SIn_eq ?_ | refine SW_skip ?_ | refine SW_exit ?_ | refine SW_ret ?_ | refine SPost_r ?_) | ((with_reducible refine SIn_ne ?_ ?_); focus decide) | ((with_reducible refine SW_true ?_ ?_); focus exact rfl) | ((with_reducible refine SW_false ?_ ?_); focus exact rfl) | ((with_reducible apply SW_run tt_ok hG htb); focus ((repeat' (first | (with_reducible exact runX_nil) | ((with_reducible apply runX_cons); focus (simp (discharger := omega) only [go_sem, simprocAttr]; with_reducible rfl)))); done)))
  have hnl := h.len
  refine SW_loop (fun mm st => ∃ (i : Nat) (os : List T), mm = m - i ∧ st = ⟨44, [(2, .bptr 0 0), (1, .t (tInts letters)), (5, .sref 1), (6, .t (tNat i))], [.box [.t (tInt a.base), .t (tInt a.tracks), .t (tIntss a.next), .t (tBools a.ends)], .row 3 1 true os]⟩ ∧ i ≤ (growS δ letters.length 0 i).length ∧ os = iL (growS δ letters.length 0 i)) m
    ⟨_, Norm.headS (own := []) (keep := [2, 1, 5, 6]) (by refine ⟨?_, ?_⟩; (simp (discharger := omega) only [go_sem, simprocAttr]; with_reducible rfl); refine ⟨?_, ?_, ?_, ?_⟩ <;> (simp only [go_sem, simprocAttr]; with_reducible rfl)), 0, _, rfl, rfl, Nat.zero_le _, rfl⟩ ?_
  rintro mm st ⟨i, os, rfl, rfl, hi, hos⟩
  have hol : os.length = (growS δ letters.length 0 i).length := by rw [hos, iL_length]
  have him := hle i
  by_cases hlt : i < (growS δ letters.length 0 i).length
  · obtain ⟨s, hs⟩ : ∃ s, (growS δ letters.length 0 i)[i]? = some s := ⟨_, List.getElem?_eq_getElem hlt⟩
    have hsb := hin i s (List.mem_of_getElem? hs)
    have hnext := growS_some hs
    have hPin := hin i
    have hPl2 := hin (i + 1)
    have hle2 := hle (i + 1)
    rw [hnext] at hPl2 hle2
    have hPnd : (growS δ letters.length 0 i).Nodup := growS_nodup i
    generalize hP : growS δ letters.length 0 i = P at *
    have hlt2 : ((i : Nat) : Int) < ((os.length : Nat) : Int) := by omega
    obtain ⟨row, hrow⟩ : ∃ row, a.next[s.toNat]! = row := ⟨_, rfl⟩
    have hrl := h.row row (bang_mem hrow (by omega))
    repeat' (first | (with_reducible first | apply w1 | apply w2 | apply w3 | apply w4 | apply w5 | apply w6 | apply w7 | apply w8 | apply w9 | apply wa | apply wb | apply wc) | ((with_reducible apply wd); focus decide) | ((with_reducible apply we); focus exact rfl) | ((with_reducible apply wf); focus exact rfl) | ((first | (with_reducible apply SW_run tt_ok hG htb) | ((with_reducible apply SW_draw rfl tt_ok hG htb); (focus kernel_rfl); focus simp only [List.range, List.range.loop, List.size_toArray, List.length_cons, List.length_nil, Nat.reduceAdd])); focus ((repeat' (first | (with_reducible first | exact wg | exact wh) | ((with_reducible first | apply wi | apply wj); focus (simp (discharger := omega) only [go_sem, hlt2, simprocAttr]; with_reducible rfl)))); done)))
    refine SW_loop (fun mm st => ∃ (j : Nat) (os : List T), mm = letters.length - j ∧ st = ⟨44, [(2, .bptr 0 0), (1, .t (tInts letters)), (5, .sref 1), (6, .t (tNat i)), (17, .t (tInts letters)), (18, .t (tNat letters.length)), (19, .t (tNat j))], [.box [.t (tInt a.base), .t (tInt a.tracks), .t (tIntss a.next), .t (tBools a.ends)], .row 3 1 true os]⟩ ∧ j ≤ letters.length ∧ os = iL (partS δ P s j)) letters.length
      ⟨_, Norm.headS (own := []) (keep := [2, 1, 5, 6, 17, 18, 19]) (by refine ⟨?_, ?_⟩; (simp (discharger := omega) only [go_sem, simprocAttr]; with_reducible rfl); refine ⟨?_, ?_, ?_, ?_⟩ <;> (simp only [go_sem, simprocAttr]; with_reducible rfl)), 0, _, rfl, rfl, Nat.zero_le _, hos⟩ ?_
    clear hol hlt2 hos os
    rintro mm st ⟨j, os, rfl, rfl, hj, hos⟩
    have hpre := partS_pre δ P s j
    have hpl := (partS_mono δ P s j (letters.length - j)).length_le
    rw [show j + (letters.length - j) = letters.length by omega] at hpl
    have hol : os.length = (partS δ P s j).length := by rw [hos, iL_length]
    by_cases hjl : j < letters.length
    · obtain ⟨l, hll⟩ : ∃ l, letters[j]! = l := ⟨_, rfl⟩
      have hlb := hl l (bang_mem hll hjl)
      obtain ⟨t, ht⟩ : ∃ t, row[l.toNat]! = t := ⟨_, rfl⟩
      have hds := hdel s j row l t hrow hll hlb.1 ht (by omega) (by omega)
      have hsi : os[i]! = .int .i64 s := by
        have h1 : (partS δ P s j)[i]? = some s := pre_get hpre hs
        rw [hos]
        obtain ⟨q1, q2⟩ := List.getElem?_eq_some_iff.1 h1
        rw [getElem!_pos _ _ (by rw [iL_length]; exact q1)]
        simp [iL, q2]
      have hil : i < os.length := by have := hpre.length_le; omega
      have c1 := Contains_snd hG (partS δ P s j) t
      rw [show tInts (partS δ P s j) = T.list os by rw [hos]; rfl] at c1
      have hadd : partS δ P s (j + 1) = addS (partS δ P s j) t := by rw [← hds]; rfl
      by_cases hin2 : t ∈ partS δ P s j
      · rw [decide_eq_true hin2] at c1
        have htb := Tab.cons c1 Tab.nil
        rw [show addS (partS δ P s j) t = partS δ P s j from if_pos hin2] at hadd
        repeat' (first | (with_reducible first | apply w1 | apply w2 | apply w3 | apply w4 | apply w5 | apply w6 | apply w7 | apply w8 | apply w9 | apply wa | apply wb | apply wc) | ((with_reducible apply wd); focus decide) | ((with_reducible apply we); focus exact rfl) | ((with_reducible apply wf); focus exact rfl) | ((first | (with_reducible apply SW_run tt_ok hG htb) | ((with_reducible apply SW_draw rfl tt_ok hG htb); (focus kernel_rfl); focus simp only [List.range, List.range.loop, List.size_toArray, List.length_cons, List.length_nil, Nat.reduceAdd])); focus ((repeat' (first | (with_reducible first | exact wg | exact wh) | ((with_reducible first | apply wi | apply wj); focus (simp (discharger := omega) only [go_sem, hll, hsi, hrow, ht, simprocAttr]; with_reducible rfl)))); done)))
        exact ⟨letters.length - (j + 1), _, by omega, Norm.headS (own := []) (keep := [2, 1, 5, 6, 17, 18, 19]) (by refine ⟨?_, ?_⟩; (simp (discharger := omega) only [go_sem, simprocAttr]; with_reducible rfl); refine ⟨?_, ?_, ?_, ?_⟩ <;> (simp only [go_sem, simprocAttr]; with_reducible rfl)), j + 1, os, rfl, rfl, by omega, by rw [hadd]; exact hos⟩
      · rw [decide_eq_false hin2] at c1
        have htb := Tab.cons c1 Tab.nil
        rw [show addS (partS δ P s j) t = partS δ P s j ++ [t] from if_neg hin2] at hadd
        repeat' (first | (with_reducible first | apply w1 | apply w2 | apply w3 | apply w4 | apply w5 | apply w6 | apply w7 | apply w8 | apply w9 | apply wa | apply wb | apply wc) | ((with_reducible apply wd); focus decide) | ((with_reducible apply we); focus exact rfl) | ((with_reducible apply wf); focus exact rfl) | ((first | (with_reducible apply SW_run tt_ok hG htb) | ((with_reducible apply SW_draw rfl tt_ok hG htb); (focus kernel_rfl); focus simp only [List.range, List.range.loop, List.size_toArray, List.length_cons, List.length_nil, Nat.reduceAdd])); focus ((repeat' (first | (with_reducible first | exact wg | exact wh) | ((with_reducible first | apply wi | apply wj); focus (simp (discharger := omega) only [go_sem, hll, hsi, hrow, ht, simprocAttr]; with_reducible rfl)))); done)))
        exact ⟨letters.length - (j + 1), _, by omega, Norm.headS (own := []) (keep := [2, 1, 5, 6, 17, 18, 19]) (by refine ⟨?_, ?_⟩; (simp (discharger := omega) only [go_sem, simprocAttr]; with_reducible rfl); refine ⟨?_, ?_, ?_, ?_⟩ <;> (simp only [go_sem, simprocAttr]; with_reducible rfl)), j + 1, _, rfl, rfl, by omega, by rw [hadd, hos]; simp [iL]⟩
    · obtain rfl : j = letters.length := by omega
      repeat' (first | (with_reducible first | apply w1 | apply w2 | apply w3 | apply w4 | apply w5 | apply w6 | apply w7 | apply w8 | apply w9 | apply wa | apply wb | apply wc) | ((with_reducible apply wd); focus decide) | ((with_reducible apply we); focus exact rfl) | ((with_reducible apply wf); focus exact rfl) | ((first | (with_reducible apply SW_run tt_ok hG htb) | ((with_reducible apply SW_draw rfl tt_ok hG htb); (focus kernel_rfl); focus simp only [List.range, List.range.loop, List.size_toArray, List.length_cons, List.length_nil, Nat.reduceAdd])); focus ((repeat' (first | (with_reducible first | exact wg | exact wh) | ((with_reducible first | apply wi | apply wj); focus (simp (discharger := omega) only [go_sem, simprocAttr]; with_reducible rfl)))); done)))
      exact ⟨m - (i + 1), _, by omega, Norm.headS (own := []) (keep := [2, 1, 5, 6]) (by refine ⟨?_, ?_⟩; (simp (discharger := omega) only [go_sem, simprocAttr]; with_reducible rfl); refine ⟨?_, ?_, ?_, ?_⟩ <;> (simp only [go_sem, simprocAttr]; with_reducible rfl)), i + 1, os, rfl, rfl, by rw [hnext]; have := hpre.length_le; omega, by rw [hnext]; exact hos⟩
  · have hlt2 : ¬ ((i : Nat) : Int) < ((os.length : Nat) : Int) := by omega
    rw [hend i (by omega) (by omega), ← hos]
    repeat' (first | (with_reducible first | apply w1 | apply w2 | apply w3 | apply w4 | apply w5 | apply w6 | apply w7 | apply w8 | apply w9 | apply wa | apply wb | apply wc) | ((with_reducible apply wd); focus decide) | ((with_reducible apply we); focus exact rfl) | ((with_reducible apply wf); focus exact rfl) | ((first | (with_reducible apply SW_run tt_ok hG htb) | ((with_reducible apply SW_draw rfl tt_ok hG htb); (focus kernel_rfl); focus simp only [List.range, List.range.loop, List.size_toArray, List.length_cons, List.length_nil, Nat.reduceAdd])); focus ((repeat' (first | (with_reducible first | exact wg | exact wh) | ((with_reducible first | apply wi | apply wj); focus (simp (discharger := omega) only [go_sem, hlt2, simprocAttr]; with_reducible rfl)))); done)))
    refine SPostG_norm (Norm.headS (own := []) (keep := [4]) (by refine ⟨?_, ?_⟩; (simp (discharger := omega) only [go_sem, simprocAttr]; with_reducible rfl); refine ⟨?_, ?_, ?_, ?_⟩ <;> (simp only [go_sem, simprocAttr]; with_reducible rfl))) ?_
    exact SPostG_r (Norm.refl _) rfl rfl (fun i hi => by simp at hi)
end
end Go.Proofs.Ythcclcbliedodaa
namespace Go.Proofs.Ythcclcbliedodaa
open Go.RowKit

section
variable {G : World → Prop} (hG : Lasting G)
include hG
theorem IndexFunc_snd (l : List Int) (gf : Nat) (cap : List T) (p : Int → Bool) (hp : ∀ x ∈ l, Snd Try.prog G gf ([tInt x] ++ cap) (.bool (p x))) : Snd Try.prog G 63 [tInts l, .fn gf cap] (tInt (if l.any p = true then ((l.findIdx p : Nat) : Int) else -1)) := by
  have htb : Tab.ok Try.prog G [] := Tab.nil
  refine snd_of_body (n := 19) (tm := [(0, .t (tInts l)), (1, .t (.fn gf cap))]) (rs := [.tmp 4]) tt_ok Try.func63 rfl rfl rfl rfl rfl ?_
  refine SW_len (t := 0) (l := _) rfl fun hlen => ?_
  rw [List.length_map] at hlen
  repeat' (first | (with_reducible first | apply w1 | apply w2 | apply w3 | apply w4 | apply w5 | apply w6 | apply w7 | apply w8 | apply w9 | apply wa | apply wb | apply wc) | ((with_reducible apply wd); focus decide) | ((with_reducible apply we); focus exact rfl) | ((with_reducible apply wf); focus exact rfl) | ((first | (with_reducible apply SW_run tt_ok hG htb) | ((with_reducible apply SW_draw rfl tt_ok hG htb); (focus kernel_rfl); focus simp only [List.range, List.range.loop, List.size_toArray, List.length_cons, List.length_nil, Nat.reduceAdd])); focus ((repeat' (first | (with_reducible first | exact wg | exact wh) | ((with_reducible first | apply wi | apply wj); focus (simp (discharger := omega) only [go_sem, simprocAttr]; with_reducible rfl)))); done)))
  refine SW_loop (fun mm st => ∃ i : Nat, mm = l.length - i ∧ st = ⟨19, [(0, .t (tInts l)), (1, .t (.fn gf cap)), (7, .t (tNat l.length)), (8, .t (tNat i))], []⟩ ∧ i ≤ l.length ∧ ∀ (j : Nat) (x : Int), j < i → l[j]? = some x → p x = false) l.length
    ⟨_, Norm.headS (own := []) (keep := [0, 1, 7, 8]) (by refine ⟨?_, ?_⟩; (simp (discharger := omega) only [go_sem, simprocAttr]; with_reducible rfl); refine ⟨?_, ?_, ?_, ?_⟩ <;> (simp only [go_sem, simprocAttr]; with_reducible rfl)), 0, rfl, rfl, Nat.zero_le _, fun j x hj => by omega⟩ ?_
  rintro mm st ⟨i, rfl, rfl, hi, hno⟩
  by_cases hlt : i < l.length
  · obtain ⟨y, hy⟩ : ∃ y, l[i]! = y := ⟨_, rfl⟩
    have hg := bang_get hy hlt
    have c1 := hp y (List.mem_of_getElem? hg)
    cases hpy : p y with
    | true =>
      rw [hpy] at c1
      have hany : l.any p = true := List.any_eq_true.2 ⟨y, List.mem_of_getElem? hg, hpy⟩
      have hidx : l.findIdx p = i := by
        rw [List.findIdx_eq hlt]
        obtain ⟨q1, q2⟩ := List.getElem?_eq_some_iff.1 hg
        refine ⟨by rw [q2]; exact hpy, fun j hj => hno j _ hj (List.getElem?_eq_getElem (by omega))⟩
      rw [if_pos hany, hidx]
      have htb := Tab.cons c1 Tab.nil
      repeat' (first | (with_reducible first | apply w1 | apply w2 | apply w3 | apply w4 | apply w5 | apply w6 | apply w7 | apply w8 | apply w9 | apply wa | apply wb | apply wc) | ((with_reducible apply wd); focus decide) | ((with_reducible apply we); focus exact rfl) | ((with_reducible apply wf); focus exact rfl) | ((first | (with_reducible apply SW_run tt_ok hG htb) | ((with_reducible apply SW_draw rfl tt_ok hG htb); (focus kernel_rfl); focus simp only [List.range, List.range.loop, List.size_toArray, List.length_cons, List.length_nil, Nat.reduceAdd])); focus ((repeat' (first | (with_reducible first | exact wg | exact wh) | ((with_reducible first | apply wi | apply wj); focus (simp (discharger := omega) only [go_sem, hy, simprocAttr]; with_reducible rfl)))); done)))
      exact (by simp (discharger := omega) only [go_sem, simprocAttr])
    | false =>
      rw [hpy] at c1
      have htb := Tab.cons c1 Tab.nil
      repeat' (first | (with_reducible first | apply w1 | apply w2 | apply w3 | apply w4 | apply w5 | apply w6 | apply w7 | apply w8 | apply w9 | apply wa | apply wb | apply wc) | ((with_reducible apply wd); focus decide) | ((with_reducible apply we); focus exact rfl) | ((with_reducible apply wf); focus exact rfl) | ((first | (with_reducible apply SW_run tt_ok hG htb) | ((with_reducible apply SW_draw rfl tt_ok hG htb); (focus kernel_rfl); focus simp only [List.range, List.range.loop, List.size_toArray, List.length_cons, List.length_nil, Nat.reduceAdd])); focus ((repeat' (first | (with_reducible first | exact wg | exact wh) | ((with_reducible first | apply wi | apply wj); focus (simp (discharger := omega) only [go_sem, hy, simprocAttr]; with_reducible rfl)))); done)))
      exact ⟨l.length - (i + 1), _, by omega, Norm.headS (own := []) (keep := [0, 1, 7, 8]) (by refine ⟨?_, ?_⟩; (simp (discharger := omega) only [go_sem, simprocAttr]; with_reducible rfl); refine ⟨?_, ?_, ?_, ?_⟩ <;> (simp only [go_sem, simprocAttr]; with_reducible rfl)), i + 1, rfl, rfl, by omega, fun j x hj hx => by
        by_cases e : j = i
        · subst e; rw [hg] at hx; cases hx; exact hpy
        · exact hno j x (by omega) hx⟩
  · obtain rfl : i = l.length := by omega
    have hno2 : ¬ l.any p = true := fun q => by
      obtain ⟨x, hx, h2⟩ := List.any_eq_true.1 q
      obtain ⟨j, hj⟩ := List.mem_iff_getElem?.1 hx
      rw [hno j x (List.getElem?_eq_some_iff.1 hj).1 hj] at h2
      cases h2
    rw [if_neg hno2]
    repeat' (first | (with_reducible first | apply w1 | apply w2 | apply w3 | apply w4 | apply w5 | apply w6 | apply w7 | apply w8 | apply w9 | apply wa | apply wb | apply wc) | ((with_reducible apply wd); focus decide) | ((with_reducible apply we); focus exact rfl) | ((with_reducible apply wf); focus exact rfl) | ((first | (with_reducible apply SW_run tt_ok hG htb) | ((with_reducible apply SW_draw rfl tt_ok hG htb); (focus kernel_rfl); focus simp only [List.range, List.range.loop, List.size_toArray, List.length_cons, List.length_nil, Nat.reduceAdd])); focus ((repeat' (first | (with_reducible first | exact wg | exact wh) | ((with_reducible first | apply wi | apply wj); focus (simp (discharger := omega) only [go_sem, simprocAttr]; with_reducible rfl)))); done)))
    exact (by simp (discharger := omega) only [go_sem, simprocAttr])
theorem ContainsFunc_snd (l : List Int) (gf : Nat) (cap : List T) (p : Int → Bool) (hp : ∀ x ∈ l, Snd Try.prog G gf ([tInt x] ++ cap) (.bool (p x))) : Snd Try.prog G 54 [tInts l, .fn gf cap] (.bool (l.any p)) := by
  have c1 := IndexFunc_snd hG l gf cap p hp
  refine snd_of_body (n := 9) (tm := [(0, .t (tInts l)), (1, .t (.fn gf cap))]) (rs := [.tmp 4]) tt_ok Try.func54 rfl rfl rfl rfl rfl ?_
  cases h : l.any p with
  | true =>
    rw [h, if_pos rfl] at c1
    have htb := Tab.cons c1 Tab.nil
    have h2 : ((l.findIdx p : Nat) : Int) ≥ 0 := by omega
    generalize l.findIdx p = k at *
    repeat' (first | (with_reducible first | apply w1 | apply w2 | apply w3 | apply w4 | apply w5 | apply w6 | apply w7 | apply w8 | apply w9 | apply wa | apply wb | apply wc) | ((with_reducible apply wd); focus decide) | ((with_reducible apply we); focus exact rfl) | ((with_reducible apply wf); focus exact rfl) | ((first | (with_reducible apply SW_run tt_ok hG htb) | ((with_reducible apply SW_draw rfl tt_ok hG htb); (focus kernel_rfl); focus simp only [List.range, List.range.loop, List.size_toArray, List.length_cons, List.length_nil, Nat.reduceAdd])); focus ((repeat' (first | (with_reducible first | exact wg | exact wh) | ((with_reducible first | apply wi | apply wj); focus (simp (discharger := omega) only [go_sem, h2, simprocAttr]; with_reducible rfl)))); done)))
    exact (by simp (discharger := omega) only [go_sem, h2, simprocAttr])
  | false =>
    rw [h, if_neg (by decide)] at c1
    have htb := Tab.cons c1 Tab.nil
    repeat' (first | (with_reducible first | apply w1 | apply w2 | apply w3 | apply w4 | apply w5 | apply w6 | apply w7 | apply w8 | apply w9 | apply wa | apply wb | apply wc) | ((with_reducible apply wd); focus decide) | ((with_reducible apply we); focus exact rfl) | ((with_reducible apply wf); focus exact rfl) | ((first | (with_reducible apply SW_run tt_ok hG htb) | ((with_reducible apply SW_draw rfl tt_ok hG htb); (focus kernel_rfl); focus simp only [List.range, List.range.loop, List.size_toArray, List.length_cons, List.length_nil, Nat.reduceAdd])); focus ((repeat' (first | (with_reducible first | exact wg | exact wh) | ((with_reducible first | apply wi | apply wj); focus (simp (discharger := omega) only [go_sem, simprocAttr]; with_reducible rfl)))); done)))
    exact (by simp (discharger := omega) only [go_sem, simprocAttr])
theorem Ends_snd (sets : List (List Int)) (hlen : sets.length ≤ 100000) (gf : Nat) (cap : List T) (p : Int → Bool) (hp : ∀ s ∈ sets, ∀ x ∈ s, Snd Try.prog G gf ([tInt x] ++ cap) (.bool (p x))) : Snd Try.prog G 38 [tIntss sets, .fn gf cap] (tBools (sets.map fun s => s.any p)) := by
  have htb : Tab.ok Try.prog G [] := Tab.nil
  refine snd_of_body (n := 22) (tm := [(0, .t (tIntss sets)), (1, .t (.fn gf cap))]) (rs := [.tmp 4]) tt_ok Try.func38 rfl rfl rfl rfl rfl ?_
  repeat' (first | (with_reducible first | apply w1 | apply w2 | apply w3 | apply w4 | apply w5 | apply w6 | apply w7 | apply w8 | apply w9 | apply wa | apply wb | apply wc) | ((with_reducible apply wd); focus decide) | ((with_reducible apply we); focus exact rfl) | ((with_reducible apply wf); focus exact rfl) | ((first | (with_reducible apply SW_run tt_ok hG htb) | ((with_reducible apply SW_draw rfl tt_ok hG htb); (focus kernel_rfl); focus simp only [List.range, List.range.loop, List.size_toArray, List.length_cons, List.length_nil, Nat.reduceAdd])); focus ((repeat' (first | (with_reducible first | exact wg | exact wh) | ((with_reducible first | apply wi | apply wj); focus (simp (discharger := omega) only [go_sem, simprocAttr]; with_reducible rfl)))); done)))
  refine SW_loop (fun mm st => ∃ (i : Nat) (bs : List T), mm = sets.length - i ∧ st = ⟨22, [(1, .t (.fn gf cap)), (5, .sref 0), (8, .t (tIntss sets)), (9, .t (tNat sets.length)), (10, .t (tNat i))], [.row 4 1 true bs]⟩ ∧ i ≤ sets.length ∧ bs = ((sets.take i).map fun s => s.any p).map T.bool) sets.length
    ⟨_, Norm.headS (own := [(5, 4, 1, true)]) (keep := [1, 5, 8, 9, 10]) (by refine ⟨?_, ?_⟩; (simp (discharger := omega) only [go_sem, simprocAttr]; with_reducible rfl); refine ⟨?_, ?_, ?_, ?_⟩ <;> (simp only [go_sem, simprocAttr]; with_reducible rfl)), 0, _, rfl, rfl, Nat.zero_le _, rfl⟩ ?_
  rintro mm st ⟨i, bs, rfl, rfl, hi, hbs⟩
  have hbl : bs.length = i := by rw [hbs]; simp; omega
  by_cases hlt : i < sets.length
  · obtain ⟨s, hs⟩ : ∃ s, sets[i]! = s := ⟨_, rfl⟩
    have hg := bang_get hs hlt
    have c1 := ContainsFunc_snd hG s gf cap p (hp s (List.mem_of_getElem? hg))
    have htk : sets.take (i + 1) = sets.take i ++ [s] := by
      rw [List.take_succ_eq_append_getElem hlt]
      obtain ⟨q1, q2⟩ := List.getElem?_eq_some_iff.1 hg
      rw [q2]
    have hb2 : ((sets.take (i + 1)).map fun s => s.any p).map T.bool = bs ++ [.bool (s.any p)] := by rw [htk, hbs]; simp
    generalize s.any p = b at *
    have htb := Tab.cons c1 Tab.nil
    repeat' (first | (with_reducible first | apply w1 | apply w2 | apply w3 | apply w4 | apply w5 | apply w6 | apply w7 | apply w8 | apply w9 | apply wa | apply wb | apply wc) | ((with_reducible apply wd); focus decide) | ((with_reducible apply we); focus exact rfl) | ((with_reducible apply wf); focus exact rfl) | ((first | (with_reducible apply SW_run tt_ok hG htb) | ((with_reducible apply SW_draw rfl tt_ok hG htb); (focus kernel_rfl); focus simp only [List.range, List.range.loop, List.size_toArray, List.length_cons, List.length_nil, Nat.reduceAdd])); focus ((repeat' (first | (with_reducible first | exact wg | exact wh) | ((with_reducible first | apply wi | apply wj); focus (simp (discharger := omega) only [go_sem, hs, hbl, simprocAttr]; with_reducible rfl)))); done)))
    exact ⟨sets.length - (i + 1), _, by omega, Norm.headS (own := []) (keep := [1, 5, 8, 9, 10]) (by refine ⟨?_, ?_⟩; (simp (discharger := omega) only [go_sem, simprocAttr]; with_reducible rfl); refine ⟨?_, ?_, ?_, ?_⟩ <;> (simp only [go_sem, simprocAttr]; with_reducible rfl)), i + 1, _, rfl, rfl, by omega, hb2.symm⟩
  · obtain rfl : i = sets.length := by omega
    rw [List.take_length] at hbs
    repeat' (first | (with_reducible first | apply w1 | apply w2 | apply w3 | apply w4 | apply w5 | apply w6 | apply w7 | apply w8 | apply w9 | apply wa | apply wb | apply wc) | ((with_reducible apply wd); focus decide) | ((with_reducible apply we); focus exact rfl) | ((with_reducible apply wf); focus exact rfl) | ((first | (with_reducible apply SW_run tt_ok hG htb) | ((with_reducible apply SW_draw rfl tt_ok hG htb); (focus kernel_rfl); focus simp only [List.range, List.range.loop, List.size_toArray, List.length_cons, List.length_nil, Nat.reduceAdd])); focus ((repeat' (first | (with_reducible first | exact wg | exact wh) | ((with_reducible first | apply wi | apply wj); focus (simp (discharger := omega) only [go_sem, simprocAttr]; with_reducible rfl)))); done)))
    exact (by simp (discharger := omega) only [go_sem, hbs, simprocAttr])
end
end Go.Proofs.Ythcclcbliedodaa
namespace Go.Proofs.Ythcclcbliedodaa
open Go.RowKit

def alikeErr (a b : GAuto) : Int := if autoFault a ≠ 0 then autoFault a else if autoFault b ≠ 0 then autoFault b else if a.base ≠ b.base ∨ a.tracks ≠ b.tracks then 2 else 0
section
variable {G : World → Prop} (hG : Lasting G)
include hG
theorem Alike_snd (a b : GAuto) : Snd Try.prog G 44 [tAuto a, tAuto b] (tErr (alikeErr a b)) := by
  have htb := Tab.cons (Check_snd hG a) Tab.nil
  have htc := Tab.cons (Check_snd hG b) Tab.nil
  refine snd_of_body (n := 30) (tm := [(0, .t (tAuto a)), (1, .t (tAuto b))]) (rs := [.tmp 4]) tt_ok Try.func44 rfl rfl rfl rfl rfl ?_
  unfold alikeErr
  generalize autoFault a = f at htb htc ⊢
  generalize autoFault b = g at htb htc ⊢
  by_cases h0 : f = 0
  · by_cases h1 : g = 0
    · by_cases h2 : a.base = b.base
      · by_cases h3 : a.tracks = b.tracks
        · repeat' (first | (with_reducible first | refine SW_seq ?_ | refine SW_block ?_ | refine SThen_n ?_ | refine SThen_r ?_ | refine SThen_e ?_ | refine SIn_n ?_ | refine SIn_r ?_ | refine SIn_eq ?_ | refine SW_skip ?_ | refine SW_exit ?_ | refine SW_ret ?_ | refine SPost_r ?_) | ((with_reducible refine SIn_ne ?_ ?_); focus decide) | ((with_reducible refine SW_true ?_ ?_); focus exact rfl) | ((with_reducible refine SW_false ?_ ?_); focus exact rfl) | ((with_reducible apply SW_run tt_ok hG htb); focus ((repeat' (first | (with_reducible exact runX_nil) | ((with_reducible apply runX_cons); focus (simp (discharger := omega) only [go_sem, tAuto, tErr, h0, h1, h2, h3, simprocAttr]; with_reducible rfl)))); done)) | ((with_reducible apply SW_run tt_ok hG htc); focus ((repeat' (first | (with_reducible exact runX_nil) | ((with_reducible apply runX_cons); focus (simp (discharger := omega) only [go_sem, tAuto, tErr, h0, h1, h2, h3, simprocAttr]; with_reducible rfl)))); done)) | ((with_reducible apply SW_draw rfl tt_ok hG htb); (focus kernel_rfl); focus ((simp only [List.range, List.range.loop, List.size_toArray, List.length_cons, List.length_nil, Nat.reduceAdd]; repeat' (first | (with_reducible exact runI_nil) | ((with_reducible apply runI_cons); focus (simp (discharger := omega) only [go_sem, tAuto, tErr, h0, h1, h2, h3, simprocAttr]; with_reducible rfl)))); done)))
          exact (by simp (discharger := omega) only [go_sem, tErr, h0, h1, h2, h3, simprocAttr])
        · repeat' (first | (with_reducible first | refine SW_seq ?_ | refine SW_block ?_ | refine SThen_n ?_ | refine SThen_r ?_ | refine SThen_e ?_ | refine SIn_n ?_ | refine SIn_r ?_ | refine SIn_eq ?_ | refine SW_skip ?_ | refine SW_exit ?_ | refine SW_ret ?_ | refine SPost_r ?_) | ((with_reducible refine SIn_ne ?_ ?_); focus decide) | ((with_reducible refine SW_true ?_ ?_); focus exact rfl) | ((with_reducible refine SW_false ?_ ?_); focus exact rfl) | ((with_reducible apply SW_run tt_ok hG htb); focus ((repeat' (first | (with_reducible exact runX_nil) | ((with_reducible apply runX_cons); focus (simp (discharger := omega) only [go_sem, tAuto, tErr, h0, h1, h2, h3, simprocAttr]; with_reducible rfl)))); done)) | ((with_reducible apply SW_run tt_ok hG htc); focus ((repeat' (first | (with_reducible exact runX_nil) | ((with_reducible apply runX_cons); focus (simp (discharger := omega) only [go_sem, tAuto, tErr, h0, h1, h2, h3, simprocAttr]; with_reducible rfl)))); done)) | ((with_reducible apply SW_draw rfl tt_ok hG htb); (focus kernel_rfl); focus ((simp only [List.range, List.range.loop, List.size_toArray, List.length_cons, List.length_nil, Nat.reduceAdd]; repeat' (first | (with_reducible exact runI_nil) | ((with_reducible apply runI_cons); focus (simp (discharger := omega) only [go_sem, tAuto, tErr, h0, h1, h2, h3, simprocAttr]; with_reducible rfl)))); done)))
          exact (by simp (discharger := omega) only [go_sem, tErr, h0, h1, h2, h3, simprocAttr])
      · repeat' (first | (with_reducible first | refine SW_seq ?_ | refine SW_block ?_ | refine SThen_n ?_ | refine SThen_r ?_ | refine SThen_e ?_ | refine SIn_n ?_ | refine SIn_r ?_ | refine SIn_eq ?_ | refine SW_skip ?_ | refine SW_exit ?_ | refine SW_ret ?_ | refine SPost_r ?_) | ((with_reducible refine SIn_ne ?_ ?_); focus decide) | ((with_reducible refine SW_true ?_ ?_); focus exact rfl) | ((with_reducible refine SW_false ?_ ?_); focus exact rfl) | ((with_reducible apply SW_run tt_ok hG htb); focus ((repeat' (first | (with_reducible exact runX_nil) | ((with_reducible apply runX_cons); focus (simp (discharger := omega) only [go_sem, tAuto, tErr, h0, h1, h2, simprocAttr]; with_reducible rfl)))); done)) | ((with_reducible apply SW_run tt_ok hG htc); focus ((repeat' (first | (with_reducible exact runX_nil) | ((with_reducible apply runX_cons); focus (simp (discharger := omega) only [go_sem, tAuto, tErr, h0, h1, h2, simprocAttr]; with_reducible rfl)))); done)) | ((with_reducible apply SW_draw rfl tt_ok hG htb); (focus kernel_rfl); focus ((simp only [List.range, List.range.loop, List.size_toArray, List.length_cons, List.length_nil, Nat.reduceAdd]; repeat' (first | (with_reducible exact runI_nil) | ((with_reducible apply runI_cons); focus (simp (discharger := omega) only [go_sem, tAuto, tErr, h0, h1, h2, simprocAttr]; with_reducible rfl)))); done)))
        exact (by simp (discharger := omega) only [go_sem, tErr, h0, h1, h2, simprocAttr])
    · repeat' (first | (with_reducible first | refine SW_seq ?_ | refine SW_block ?_ | refine SThen_n ?_ | refine SThen_r ?_ | refine SThen_e ?_ | refine SIn_n ?_ | refine SIn_r ?_ | refine SIn_eq ?_ | refine SW_skip ?_ | refine SW_exit ?_ | refine SW_ret ?_ | refine SPost_r ?_) | ((with_reducible refine SIn_ne ?_ ?_); focus decide) | ((with_reducible refine SW_true ?_ ?_); focus exact rfl) | ((with_reducible refine SW_false ?_ ?_); focus exact rfl) | ((with_reducible apply SW_run tt_ok hG htb); focus ((repeat' (first | (with_reducible exact runX_nil) | ((with_reducible apply runX_cons); focus (simp (discharger := omega) only [go_sem, tAuto, tErr, h0, h1, simprocAttr]; with_reducible rfl)))); done)) | ((with_reducible apply SW_run tt_ok hG htc); focus ((repeat' (first | (with_reducible exact runX_nil) | ((with_reducible apply runX_cons); focus (simp (discharger := omega) only [go_sem, tAuto, tErr, h0, h1, simprocAttr]; with_reducible rfl)))); done)) | ((with_reducible apply SW_draw rfl tt_ok hG htb); (focus kernel_rfl); focus ((simp only [List.range, List.range.loop, List.size_toArray, List.length_cons, List.length_nil, Nat.reduceAdd]; repeat' (first | (with_reducible exact runI_nil) | ((with_reducible apply runI_cons); focus (simp (discharger := omega) only [go_sem, tAuto, tErr, h0, h1, simprocAttr]; with_reducible rfl)))); done)))
      exact (by simp (discharger := omega) only [go_sem, tErr, h0, h1, simprocAttr])
  · repeat' (first | (with_reducible first | refine SW_seq ?_ | refine SW_block ?_ | refine SThen_n ?_ | refine SThen_r ?_ | refine SThen_e ?_ | refine SIn_n ?_ | refine SIn_r ?_ | refine SIn_eq ?_ | refine SW_skip ?_ | refine SW_exit ?_ | refine SW_ret ?_ | refine SPost_r ?_) | ((with_reducible refine SIn_ne ?_ ?_); focus decide) | ((with_reducible refine SW_true ?_ ?_); focus exact rfl) | ((with_reducible refine SW_false ?_ ?_); focus exact rfl) | ((with_reducible apply SW_run tt_ok hG htb); focus ((repeat' (first | (with_reducible exact runX_nil) | ((with_reducible apply runX_cons); focus (simp (discharger := omega) only [go_sem, tAuto, tErr, h0, simprocAttr]; with_reducible rfl)))); done)) | ((with_reducible apply SW_run tt_ok hG htc); focus ((repeat' (first | (with_reducible exact runX_nil) | ((with_reducible apply runX_cons); focus (simp (discharger := omega) only [go_sem, tAuto, tErr, h0, simprocAttr]; with_reducible rfl)))); done)) | ((with_reducible apply SW_draw rfl tt_ok hG htb); (focus kernel_rfl); focus ((simp only [List.range, List.range.loop, List.size_toArray, List.length_cons, List.length_nil, Nat.reduceAdd]; repeat' (first | (with_reducible exact runI_nil) | ((with_reducible apply runI_cons); focus (simp (discharger := omega) only [go_sem, tAuto, tErr, h0, simprocAttr]; with_reducible rfl)))); done)))
    exact (by simp (discharger := omega) only [go_sem, tErr, h0, simprocAttr])
end
end Go.Proofs.Ythcclcbliedodaa
namespace Go.Proofs.Ythcclcbliedodaa
open Go.RowKit

/-- What a map from looks to classes holds. -/
def entries (κ : Int → ByteArray) (R : List Int) : List (T × T) := R.zipIdx.map fun p => (.str (κ p.1), tNat p.2)
theorem entries_length (κ : Int → ByteArray) (R : List Int) : (entries κ R).length = R.length := by simp [entries]
theorem entries_mem {κ : Int → ByteArray} {R : List Int} {p : T × T} (h : p ∈ entries κ R) : ∃ r ∈ R, p.1 = .str (κ r) := by
  obtain ⟨q, hq, rfl⟩ := List.mem_map.1 h
  have := (List.mem_zipIdx_iff_getElem?.1 (show (q.1, q.2) ∈ R.zipIdx from hq))
  exact ⟨q.1, List.mem_of_getElem? this, rfl⟩
theorem entries_none {κ : Int → ByteArray} {R : List Int} {s : Int} (h : ∀ r ∈ R, κ r ≠ κ s) : ∀ p ∈ entries κ R, p.1 ≠ .str (κ s) := fun p hp e => by
  obtain ⟨r, hr, e2⟩ := entries_mem hp
  rw [e2] at e
  exact h r hr (T.str.inj e)
theorem entries_get_none {κ : Int → ByteArray} {R : List Int} {s : Int} (h : ∀ r ∈ R, κ r ≠ κ s) : mapGet (entries κ R) (.str (κ s)) = none := mapGet_none (entries_none h)
theorem entries_set {κ : Int → ByteArray} {R : List Int} {s : Int} (h : ∀ r ∈ R, κ r ≠ κ s) : mapSet (entries κ R) (.str (κ s)) (tNat R.length) = entries κ (R ++ [s]) := by
  rw [mapSet_none (entries_none h)]; simp [entries, List.zipIdx_append]
theorem entries_get_some {κ : Int → ByteArray} {R : List Int} {s r : Int} {k : Nat} (hd : R.Pairwise fun r q => κ r ≠ κ q) (hk : R[k]? = some r) (he : κ r = κ s) : mapGet (entries κ R) (.str (κ s)) = some (tNat k) := by
  refine mapGet_some (j := k) (p := (.str (κ r), tNat k)) ?_ ?_ (by rw [he])
  · rw [List.pairwise_iff_getElem]
    intro i j hi hj hij e
    simp only [entries, List.getElem_map, List.getElem_zipIdx] at e
    rw [entries_length] at hi hj
    exact List.pairwise_iff_getElem.1 hd i j hi hj hij (T.str.inj e)
  · simp [entries, List.getElem?_map, List.getElem?_zipIdx, hk]
/-- What Shrink hands back. -/
noncomputable def shrinkT (base tracks : Int) (n : Nat) (next : List (List Int)) (ends : List Bool) : T :=
  if (leastRE n next ends).1.length ≤ 80 then .tup [tAuto ⟨base, tracks, (leastRE n next ends).1, (leastRE n next ends).2⟩, .bool true] else .tup [tAuto GAuto.zero, .bool false]
section
variable {G : World → Prop} (hG : Lasting G)
include hG
set_option maxHeartbeats 4000000 in
set_option maxRecDepth 100000 in
theorem Shrink_big (base tracks : Int) {n m : Nat} {next : List (List Int)} {ends : List Bool} (hR : Rows0 n m next) (hm : 0 < m) (hm2 : m ≤ 2000000) (hm3 : (leastRE n next ends).1.length ≤ 65536) (he : ends.length = m) (hn : n ≤ 1000) :
    Snd Try.prog G 37 [tInt base, tInt tracks, tIntss next, tBools ends] (shrinkT base tracks n next ends) := by
  have htb : Tab.ok Try.prog G [] := Tab.nil
  have hlen := hR.len
  refine snd_of_body (n := 220) (tm := [(0, .t (tInt base)), (1, .t (tInt tracks)), (2, .t (tIntss next)), (3, .t (tBools ends))]) (rs := [.cell 8 25, .tmp 9]) tt_ok Try.func37 rfl rfl rfl rfl rfl ?_
  repeat' (first | (with_reducible first | apply w1 | apply w2 | apply w3 | apply w4 | apply w5 | apply w6 | apply w7 | apply w8 | apply w9 | apply wa | apply wb | apply wc) | ((with_reducible apply wd); focus decide) | ((with_reducible apply we); focus exact rfl) | ((with_reducible apply wf); focus exact rfl) | ((first | (with_reducible apply SW_run tt_ok hG htb) | ((with_reducible apply SW_draw rfl tt_ok hG htb); (focus kernel_rfl); focus simp only [List.range, List.range.loop, List.size_toArray, List.length_cons, List.length_nil, Nat.reduceAdd])); focus ((repeat' (first | (with_reducible first | exact wg | exact wh) | ((with_reducible first | apply wi | apply wj); focus (simp (discharger := omega) only [go_sem, simprocAttr]; with_reducible rfl)))); done)))
  refine SW_loop (fun k s => ∃ (i : Nat) (out : List Int) (ot st : List T), k = m - i ∧ s = ⟨220, [(0, .t (tInt base)), (1, .t (tInt tracks)), (2, .t (tIntss next)), (3, .t (tBools ends)), (8, .bptr 0 0), (10, .sref 1), (11, .sref 2), (12, .t (tInt i))], [.box [.t (tInt 0), .t (tInt 0), .nil, .nil], .row 3 1 false ot, .row 4 1 true st]⟩ ∧
      ot = out.map tInt ∧ st = (seenOf m out).map T.bool ∧ i ≤ out.length ∧ MetOk m out ∧ Bfs next n out i 0) m ⟨_, Norm.headS (own := [(10, 3, 1, false), (11, 4, 1, true)]) (keep := [0, 1, 2, 3, 8, 10, 11, 12]) (by refine ⟨?_, ?_⟩; (simp (discharger := omega) only [go_sem, simprocAttr]; with_reducible rfl); refine ⟨?_, ?_, ?_, ?_⟩ <;> (simp only [go_sem, simprocAttr]; with_reducible rfl)), 0, [0], _, _, rfl, rfl, rfl, ?_⟩ ?_
  · refine ⟨?_, by simp, ⟨by simp, fun s hs => by simp at hs; subst hs; omega⟩, Bfs.start _ _⟩
    have := seenOf_set m [] 0
    rw [List.nil_append] at this
    rw [show ((0 : Nat) : Int) = 0 from rfl] at this
    rw [← this, seenOf_nil, List.map_set, List.map_replicate, hlen]
  · rintro k s ⟨i, out, ot, st, rfl, rfl, rfl, rfl, hi, hmo, hbf⟩
    have hol := hmo.len
    by_cases hlt : i < out.length
    · have hs : 0 ≤ out[i]! ∧ out[i]! < (m : Int) := by rw [getElem!_pos out i hlt]; exact hmo.ok _ (List.getElem_mem hlt)
      obtain ⟨row, hrow⟩ : ∃ row, next[out[i]!.toNat]! = row := ⟨_, rfl⟩
      have hrl : out[i]!.toNat < next.length := by omega
      have hrm : row ∈ next := by rw [← hrow, getElem!_pos next _ hrl]; exact List.getElem_mem hrl
      have hrn : row.length = n := hR.row _ hrm
      have hnx : ∀ l, nx next out[i]! l = row.getD l 0 := fun l => by unfold nx rowOf; rw [getD_lt hrl, ← hrow, getElem!_pos next _ hrl]
      have hio : out[i]? = some out[i]! := by rw [getElem!_pos out i hlt]; exact List.getElem?_eq_getElem hlt
      repeat' (first | (with_reducible first | apply w1 | apply w2 | apply w3 | apply w4 | apply w5 | apply w6 | apply w7 | apply w8 | apply w9 | apply wa | apply wb | apply wc) | ((with_reducible apply wd); focus decide) | ((with_reducible apply we); focus exact rfl) | ((with_reducible apply wf); focus exact rfl) | ((first | (with_reducible apply SW_run tt_ok hG htb) | ((with_reducible apply SW_draw rfl tt_ok hG htb); (focus kernel_rfl); focus simp only [List.range, List.range.loop, List.size_toArray, List.length_cons, List.length_nil, Nat.reduceAdd])); focus ((repeat' (first | (with_reducible first | exact wg | exact wh) | ((with_reducible first | apply wi | apply wj); focus (simp (discharger := omega) only [go_sem, hrow, simprocAttr]; with_reducible rfl)))); done)))
      generalize out[i]! = r at hs hrow hrl hnx hio
      refine SW_loop (fun k s => ∃ (l : Nat) (o : List Int) (ot st : List T), k = n - l ∧ s = ⟨220, [(0, .t (tInt base)), (1, .t (tInt tracks)), (2, .t (tIntss next)), (3, .t (tBools ends)), (8, .bptr 0 0), (10, .sref 1), (11, .sref 2), (12, .t (tInt i)), (52, .t (tInts row)), (53, .t (tInt row.length)), (54, .t (tInt l))], [.box [.t (tInt 0), .t (tInt 0), .nil, .nil], .row 3 1 false ot, .row 4 1 true st]⟩ ∧
          ot = o.map tInt ∧ st = (seenOf m o).map T.bool ∧ l ≤ n ∧ MetOk m o ∧ o[i]? = some r ∧ Bfs next n o i l) n ⟨_, Norm.headS (own := [(10, 3, 1, false), (11, 4, 1, true)]) (keep := [0, 1, 2, 3, 8, 10, 11, 12, 52, 53, 54]) (by refine ⟨?_, ?_⟩; (simp (discharger := omega) only [go_sem, simprocAttr]; with_reducible rfl); refine ⟨?_, ?_, ?_, ?_⟩ <;> (simp only [go_sem, simprocAttr]; with_reducible rfl)), 0, out, _, _, rfl, rfl, rfl, rfl, Nat.zero_le _, hmo, hio, hbf⟩ ?_
      clear hmo hbf hio hlt hi hol
      rintro k s ⟨l, o, ot, st, rfl, rfl, rfl, rfl, hl, hmo, hio, hbf⟩
      have hol := hmo.len
      have hil := (List.getElem?_eq_some_iff.1 hio).1
      have hsl := seenOf_length m o
      by_cases hlt : l < n
      · have hll : l < row.length := by omega
        obtain ⟨u, hul⟩ : ∃ u, row[l]! = u := ⟨_, rfl⟩
        have hu : 0 ≤ u ∧ u < (m : Int) := by rw [← hul, getElem!_pos row l hll]; exact hR.ok _ hrm _ (List.getElem_mem hll)
        have hnxl : nx next r l = u := by rw [hnx, getD_lt hll, ← hul, getElem!_pos row l hll]
        obtain ⟨j, rfl⟩ : ∃ j : Nat, u = j := ⟨u.toNat, by omega⟩
        have hsn : (seenOf m o)[j]! = decide ((j : Int) ∈ o) := by
          rw [getElem!_pos _ _ (by omega), seenOf_at]
        have hset := seenOf_set m o j
        generalize hsne : seenOf m o = sn at hsn hsl hset
        by_cases hm1 : (j : Int) ∈ o
        · rw [decide_eq_true hm1] at hsn
          repeat' (first | (with_reducible first | apply w1 | apply w2 | apply w3 | apply w4 | apply w5 | apply w6 | apply w7 | apply w8 | apply w9 | apply wa | apply wb | apply wc) | ((with_reducible apply wd); focus decide) | ((with_reducible apply we); focus exact rfl) | ((with_reducible apply wf); focus exact rfl) | ((first | (with_reducible apply SW_run tt_ok hG htb) | ((with_reducible apply SW_draw rfl tt_ok hG htb); (focus kernel_rfl); focus simp only [List.range, List.range.loop, List.size_toArray, List.length_cons, List.length_nil, Nat.reduceAdd])); focus ((repeat' (first | (with_reducible first | exact wg | exact wh) | ((with_reducible first | apply wi | apply wj); focus (simp (discharger := omega) only [go_sem, hsn, hul, simprocAttr]; with_reducible rfl)))); done)))
          exact ⟨n - (l + 1), _, by omega, Norm.headS (own := [(10, 3, 1, false), (11, 4, 1, true)]) (keep := [0, 1, 2, 3, 8, 10, 11, 12, 52, 53, 54]) (by refine ⟨?_, ?_⟩; (simp (discharger := omega) only [go_sem, simprocAttr]; with_reducible rfl); refine ⟨?_, ?_, ?_, ?_⟩ <;> (simp only [go_sem, simprocAttr]; with_reducible rfl)), l + 1, o, _, _, rfl, rfl, rfl, by rw [hsne], by omega, hmo, hio, hbf.skip hio hnxl hm1⟩
        · rw [decide_eq_false hm1] at hsn
          repeat' (first | (with_reducible first | apply w1 | apply w2 | apply w3 | apply w4 | apply w5 | apply w6 | apply w7 | apply w8 | apply w9 | apply wa | apply wb | apply wc) | ((with_reducible apply wd); focus decide) | ((with_reducible apply we); focus exact rfl) | ((with_reducible apply wf); focus exact rfl) | ((first | (with_reducible apply SW_run tt_ok hG htb) | ((with_reducible apply SW_draw rfl tt_ok hG htb); (focus kernel_rfl); focus simp only [List.range, List.range.loop, List.size_toArray, List.length_cons, List.length_nil, Nat.reduceAdd])); focus ((repeat' (first | (with_reducible first | exact wg | exact wh) | ((with_reducible first | apply wi | apply wj); focus (simp (discharger := omega) only [go_sem, hsn, hul, simprocAttr]; with_reducible rfl)))); done)))
          exact ⟨n - (l + 1), _, by omega, Norm.headS (own := [(10, 3, 1, false), (11, 4, 1, true)]) (keep := [0, 1, 2, 3, 8, 10, 11, 12, 52, 53, 54]) (by refine ⟨?_, ?_⟩; (simp (discharger := omega) only [go_sem, simprocAttr]; with_reducible rfl); refine ⟨?_, ?_, ?_, ?_⟩ <;> (simp only [go_sem, simprocAttr]; with_reducible rfl)), l + 1, o ++ [(j : Int)], _, _, rfl, rfl, by simp [tInt], by
            rw [← hset, List.map_set], by omega, hmo.snoc hu hm1, by rw [List.getElem?_append_left hil]; exact hio, hbf.snoc hlt hio hnxl hm1⟩
      · obtain rfl : l = n := by omega
        repeat' (first | (with_reducible first | apply w1 | apply w2 | apply w3 | apply w4 | apply w5 | apply w6 | apply w7 | apply w8 | apply w9 | apply wa | apply wb | apply wc) | ((with_reducible apply wd); focus decide) | ((with_reducible apply we); focus exact rfl) | ((with_reducible apply wf); focus exact rfl) | ((first | (with_reducible apply SW_run tt_ok hG htb) | ((with_reducible apply SW_draw rfl tt_ok hG htb); (focus kernel_rfl); focus simp only [List.range, List.range.loop, List.size_toArray, List.length_cons, List.length_nil, Nat.reduceAdd])); focus ((repeat' (first | (with_reducible first | exact wg | exact wh) | ((with_reducible first | apply wi | apply wj); focus (simp (discharger := omega) only [go_sem, simprocAttr]; with_reducible rfl)))); done)))
        exact ⟨m - (i + 1), _, by omega, Norm.headS (own := [(10, 3, 1, false), (11, 4, 1, true)]) (keep := [0, 1, 2, 3, 8, 10, 11, 12]) (by refine ⟨?_, ?_⟩; (simp (discharger := omega) only [go_sem, simprocAttr]; with_reducible rfl); refine ⟨?_, ?_, ?_, ?_⟩ <;> (simp only [go_sem, simprocAttr]; with_reducible rfl)), i + 1, o, _, _, rfl, rfl, rfl, rfl, by omega, hmo, hbf.line⟩
    · have hie : i = out.length := by omega
      subst hie
      clear hi hlt
      repeat' (first | (with_reducible first | apply w1 | apply w2 | apply w3 | apply w4 | apply w5 | apply w6 | apply w7 | apply w8 | apply w9 | apply wa | apply wb | apply wc) | ((with_reducible apply wd); focus decide) | ((with_reducible apply we); focus exact rfl) | ((with_reducible apply wf); focus exact rfl) | ((first | (with_reducible apply SW_run tt_ok hG htb) | ((with_reducible apply SW_draw rfl tt_ok hG htb); (focus kernel_rfl); focus simp only [List.range, List.range.loop, List.size_toArray, List.length_cons, List.length_nil, Nat.reduceAdd])); focus ((repeat' (first | (with_reducible first | exact wg | exact wh) | ((with_reducible first | apply wi | apply wj); focus (simp (discharger := omega) only [go_sem, simprocAttr]; with_reducible rfl)))); done)))
      refine SW_loop (fun k s => ∃ (i : Nat) (cls : List Nat) (ct : List T), k = m - i ∧ s = ⟨220, [(0, .t (tInt base)), (1, .t (tInt tracks)), (2, .t (tIntss next)), (3, .t (tBools ends)), (8, .bptr 0 0), (10, .sref 1), (15, .sref 2), (74, .sref 1), (75, .t (tInt out.length)), (76, .t (tInt i))], [.box [.t (tInt 0), .t (tInt 0), .nil, .nil], .row 3 1 false (out.map tInt), .row 3 1 true ct]⟩ ∧
          ct = cls.map tNat ∧ cls.length = m ∧ i ≤ out.length ∧ ∀ s : Int, 0 ≤ s → s < m → clf cls s = if s ∈ out.take i ∧ endOf ends s = true then 1 else 0) m ⟨_, Norm.headS (own := [(10, 3, 1, false), (15, 3, 1, true)]) (keep := [0, 1, 2, 3, 8, 10, 15, 74, 75, 76]) (by refine ⟨?_, ?_⟩; (simp (discharger := omega) only [go_sem, simprocAttr]; with_reducible rfl); refine ⟨?_, ?_, ?_, ?_⟩ <;> (simp only [go_sem, simprocAttr]; with_reducible rfl)), 0, List.replicate m 0, _, rfl, rfl, by rw [List.map_replicate, hlen]; rfl, by simp, Nat.zero_le _, fun s h1 h2 => by
            unfold clf
            rw [if_pos h1, getD_lt (by simp; omega)]; simp⟩ ?_
      rintro k s ⟨i, cls, ct, rfl, rfl, rfl, hcl, hi, hcs⟩
      by_cases hlt : i < out.length
      · obtain ⟨r, hor⟩ : ∃ r, out[i]! = r := ⟨_, rfl⟩
        have hio : out[i]? = some r := by rw [← hor, getElem!_pos out i hlt]; exact List.getElem?_eq_getElem hlt
        have hs : 0 ≤ r ∧ r < (m : Int) := hmo.ok _ (List.mem_of_getElem? hio)
        have htk : out.take (i + 1) = out.take i ++ [r] := by
          rw [List.take_succ_eq_append_getElem hlt]
          rw [List.getElem?_eq_getElem hlt] at hio
          rw [Option.some.inj hio]
        have hend : ends[r.toNat]! = endOf ends r := by unfold endOf; rw [getD_lt (by omega), getElem!_pos ends _ (by omega)]
        by_cases hee : endOf ends r = true
        · rw [hee] at hend
          repeat' (first | (with_reducible first | apply w1 | apply w2 | apply w3 | apply w4 | apply w5 | apply w6 | apply w7 | apply w8 | apply w9 | apply wa | apply wb | apply wc) | ((with_reducible apply wd); focus decide) | ((with_reducible apply we); focus exact rfl) | ((with_reducible apply wf); focus exact rfl) | ((first | (with_reducible apply SW_run tt_ok hG htb) | ((with_reducible apply SW_draw rfl tt_ok hG htb); (focus kernel_rfl); focus simp only [List.range, List.range.loop, List.size_toArray, List.length_cons, List.length_nil, Nat.reduceAdd])); focus ((repeat' (first | (with_reducible first | exact wg | exact wh) | ((with_reducible first | apply wi | apply wj); focus (simp (discharger := omega) only [go_sem, hor, hend, simprocAttr]; with_reducible rfl)))); done)))
          obtain ⟨c1, c2⟩ := clf_set (cls := cls) (r := r) hs.1 (by omega) 1
          exact ⟨m - (i + 1), _, by omega, Norm.headS (own := [(10, 3, 1, false), (15, 3, 1, true)]) (keep := [0, 1, 2, 3, 8, 10, 15, 74, 75, 76]) (by refine ⟨?_, ?_⟩; (simp (discharger := omega) only [go_sem, simprocAttr]; with_reducible rfl); refine ⟨?_, ?_, ?_, ?_⟩ <;> (simp only [go_sem, simprocAttr]; with_reducible rfl)), i + 1, cls.set r.toNat 1, _, rfl, rfl, by rw [List.map_set]; rfl, by simpa using hcl, by omega, fun s h1 h2 => by
            rw [htk]
            by_cases e : s = r
            · subst e; rw [c1]; simp [hee]
            · rw [c2 s e, hcs s h1 h2]; simp [e]⟩
        · have hee : endOf ends r = false := by simpa using hee
          rw [hee] at hend
          repeat' (first | (with_reducible first | apply w1 | apply w2 | apply w3 | apply w4 | apply w5 | apply w6 | apply w7 | apply w8 | apply w9 | apply wa | apply wb | apply wc) | ((with_reducible apply wd); focus decide) | ((with_reducible apply we); focus exact rfl) | ((with_reducible apply wf); focus exact rfl) | ((first | (with_reducible apply SW_run tt_ok hG htb) | ((with_reducible apply SW_draw rfl tt_ok hG htb); (focus kernel_rfl); focus simp only [List.range, List.range.loop, List.size_toArray, List.length_cons, List.length_nil, Nat.reduceAdd])); focus ((repeat' (first | (with_reducible first | exact wg | exact wh) | ((with_reducible first | apply wi | apply wj); focus (simp (discharger := omega) only [go_sem, hor, hend, simprocAttr]; with_reducible rfl)))); done)))
          exact ⟨m - (i + 1), _, by omega, Norm.headS (own := [(10, 3, 1, false), (15, 3, 1, true)]) (keep := [0, 1, 2, 3, 8, 10, 15, 74, 75, 76]) (by refine ⟨?_, ?_⟩; (simp (discharger := omega) only [go_sem, simprocAttr]; with_reducible rfl); refine ⟨?_, ?_, ?_, ?_⟩ <;> (simp only [go_sem, simprocAttr]; with_reducible rfl)), i + 1, cls, _, rfl, rfl, rfl, hcl, by omega, fun s h1 h2 => by
            rw [htk, hcs s h1 h2]
            by_cases e : s = r
            · subst e; simp [hee]
            · simp [e]⟩
      · have hie : i = out.length := by omega
        subst hie
        rw [List.take_length] at hcs
        clear hi hlt
        repeat' (first | (with_reducible first | apply w1 | apply w2 | apply w3 | apply w4 | apply w5 | apply w6 | apply w7 | apply w8 | apply w9 | apply wa | apply wb | apply wc) | ((with_reducible apply wd); focus decide) | ((with_reducible apply we); focus exact rfl) | ((with_reducible apply wf); focus exact rfl) | ((first | (with_reducible apply SW_run tt_ok hG htb) | ((with_reducible apply SW_draw rfl tt_ok hG htb); (focus kernel_rfl); focus simp only [List.range, List.range.loop, List.size_toArray, List.length_cons, List.length_nil, Nat.reduceAdd])); focus ((repeat' (first | (with_reducible first | exact wg | exact wh) | ((with_reducible first | apply wi | apply wj); focus (simp (discharger := omega) only [go_sem, simprocAttr]; with_reducible rfl)))); done)))
        refine SW_loop (fun k s => ∃ (many : Nat) (cls : List Nat), k = m + 1 - many ∧ s = ⟨220, [(0, .t (tInt base)), (1, .t (tInt tracks)), (2, .t (tIntss next)), (3, .t (tBools ends)), (8, .bptr 0 0), (10, .sref 1), (15, .sref 2), (18, .t (tNat many))], [.box [.t (tInt 0), .t (tInt 0), .nil, .nil], .row 3 1 false (out.map tInt), .row 3 1 false (cls.map tNat)]⟩ ∧
            cls.length = m ∧ many ≤ m ∧ RInv next ends n out (clf cls) many ∧ (∀ s, s ∈ out → clf cls s < 65536) ∧ ∀ s t, s ∈ out → t ∈ out → clf cls s = clf cls t → endOf ends s = endOf ends t) (m + 1) ⟨_, Norm.headS (own := [(10, 3, 1, false), (15, 3, 1, false)]) (keep := [0, 1, 2, 3, 8, 10, 15, 18]) (by refine ⟨?_, ?_⟩; (simp (discharger := omega) only [go_sem, simprocAttr]; with_reducible rfl); refine ⟨?_, ?_, ?_, ?_⟩ <;> (simp only [go_sem, simprocAttr]; with_reducible rfl)), 0, cls, rfl, rfl, hcl, Nat.zero_le _, ?_, ?_, ?_⟩ ?_
        · refine RInv.start fun s t hs ht e => ?_
          have h1 := hmo.ok s hs
          have h2 := hmo.ok t ht
          rw [hcs s h1.1 h1.2, hcs t h2.1 h2.2, e]; simp [hs, ht]
        · intro s hs
          have h1 := hmo.ok s hs
          rw [hcs s h1.1 h1.2]; split <;> omega
        · intro s t hs ht e
          have h1 := hmo.ok s hs
          have h2 := hmo.ok t ht
          rw [hcs s h1.1 h1.2, hcs t h2.1 h2.2] at e
          simp only [hs, ht, true_and] at e
          cases e1 : endOf ends s <;> cases e2 : endOf ends t <;> simp_all
        clear hcs hcl cls
        rintro k s ⟨many, cls, rfl, rfl, hcl, hmany, hinv, h16, hce⟩
        have hlook := key_looks (ends := ends) hR hmo hbf h16 hce
        repeat' (first | (with_reducible first | apply w1 | apply w2 | apply w3 | apply w4 | apply w5 | apply w6 | apply w7 | apply w8 | apply w9 | apply wa | apply wb | apply wc) | ((with_reducible apply wd); focus decide) | ((with_reducible apply we); focus exact rfl) | ((with_reducible apply wf); focus exact rfl) | ((first | (with_reducible apply SW_run tt_ok hG htb) | ((with_reducible apply SW_draw rfl tt_ok hG htb); (focus kernel_rfl); focus simp only [List.range, List.range.loop, List.size_toArray, List.length_cons, List.length_nil, Nat.reduceAdd])); focus ((repeat' (first | (with_reducible first | exact wg | exact wh) | ((with_reducible first | apply wi | apply wj); focus (simp (discharger := omega) only [go_sem, simprocAttr]; with_reducible rfl)))); done)))
        refine SW_loop (fun k s => ∃ (i : Nat) (frs : List Nat) (R : List Int) (es : List (T × T)) (ft kt : List T), k = m - i ∧ s = ⟨220, [(0, .t (tInt base)), (1, .t (tInt tracks)), (2, .t (tIntss next)), (3, .t (tBools ends)), (8, .bptr 0 0), (10, .sref 1), (15, .sref 2), (18, .t (tNat many)), (19, .map 3), (20, .sref 4), (21, .sref 5), (92, .sref 1), (93, .t (tInt out.length)), (94, .t (tInt i))], [.box [.t (tInt 0), .t (tInt 0), .nil, .nil], .row 3 1 false (out.map tInt), .row 3 1 false (cls.map tNat), .map .str es, .row 3 1 true ft, .row 5 1 true kt]⟩ ∧
            es = entries (fun s => bytesStr (keyOf' next (clf cls) s)) R ∧ ft = frs.map tNat ∧ frs.length = m ∧ i ≤ out.length ∧ Numd (out.take i) (fun s => bytesStr (keyOf' next (clf cls) s)) (clf frs) R) m ⟨_, Norm.headS (own := [(10, 3, 1, false), (15, 3, 1, false), (20, 3, 1, true), (21, 5, 1, true)]) (keep := [0, 1, 2, 3, 8, 10, 15, 18, 19, 20, 21, 92, 93, 94]) (by refine ⟨?_, ?_⟩; (simp (discharger := omega) only [go_sem, simprocAttr]; with_reducible rfl); refine ⟨?_, ?_, ?_, ?_⟩ <;> (simp only [go_sem, simprocAttr]; with_reducible rfl)), 0, List.replicate m 0, [], _, _, _, rfl, rfl, rfl, by rw [List.map_replicate, hlen]; rfl, by simp, Nat.zero_le _, by rw [List.take_zero]; exact Numd.start _ _⟩ ?_
        rintro k s ⟨i, frs, R, es, ft, kt, rfl, rfl, hes, rfl, hfl, hi, hN⟩
        by_cases hlt : i < out.length
        · obtain ⟨r, hor⟩ : ∃ r, out[i]! = r := ⟨_, rfl⟩
          have hio : out[i]? = some r := by rw [← hor, getElem!_pos out i hlt]; exact List.getElem?_eq_getElem hlt
          have hrm : r ∈ out := List.mem_of_getElem? hio
          have hs : 0 ≤ r ∧ r < (m : Int) := hmo.ok _ hrm
          have hnr : r ∉ out.take i := fun hm => by
            obtain ⟨q, hq, e⟩ := List.mem_iff_getElem.1 hm
            simp only [List.getElem_take] at e
            rw [List.getElem?_eq_getElem hlt] at hio
            have := nodup_inj hmo.nd (by simp at hq; omega) hlt (e.trans (Option.some.inj hio).symm)
            simp at hq; omega
          have htk : out.take (i + 1) = out.take i ++ [r] := by
            rw [List.take_succ_eq_append_getElem hlt]
            rw [List.getElem?_eq_getElem hlt] at hio
            rw [Option.some.inj hio]
          obtain ⟨row, hrow⟩ : ∃ row, next[r.toNat]! = row := ⟨_, rfl⟩
          have hrl : r.toNat < next.length := by omega
          have hrow2 : rowOf next r = row := by unfold rowOf; rw [getD_lt hrl, ← hrow, getElem!_pos next _ hrl]
          have hrmem : row ∈ next := by rw [← hrow, getElem!_pos next _ hrl]; exact List.getElem_mem hrl
          have hrn : row.length = n := hR.row _ hrmem
          obtain ⟨c, hc⟩ : ∃ c, cls[r.toNat]! = c := ⟨_, rfl⟩
          have hc2 : clf cls r = c := by rw [← clf_at hs.1 (by omega), hc]
          have hc16 : c < 65536 := by rw [← hc2]; exact h16 r hrm
          have hhi := u8hi hc16
          have hh2 : IntKind.u8.wrap ((c : Int).fdiv 256) = (c : Int) / 256 := by simpa [IntKind.bits] using hhi
          repeat' (first | (with_reducible first | apply w1 | apply w2 | apply w3 | apply w4 | apply w5 | apply w6 | apply w7 | apply w8 | apply w9 | apply wa | apply wb | apply wc) | ((with_reducible apply wd); focus decide) | ((with_reducible apply we); focus exact rfl) | ((with_reducible apply wf); focus exact rfl) | ((first | (with_reducible apply SW_run tt_ok hG htb) | ((with_reducible apply SW_draw rfl tt_ok hG htb); (focus kernel_rfl); focus simp only [List.range, List.range.loop, List.size_toArray, List.length_cons, List.length_nil, Nat.reduceAdd])); focus ((repeat' (first | (with_reducible first | exact wg | exact wh) | ((with_reducible first | apply wi | apply wj); focus (simp (discharger := omega) only [go_sem, hor, hrow, hc, u8lo, hhi, simprocAttr]; with_reducible rfl)))); done)))
          refine SW_loop (fun k s => ∃ (l : Nat) (kt : List T), k = n - l ∧ s = ⟨220, [(0, .t (tInt base)), (1, .t (tInt tracks)), (2, .t (tIntss next)), (3, .t (tBools ends)), (8, .bptr 0 0), (10, .sref 1), (15, .sref 2), (18, .t (tNat many)), (19, .map 3), (20, .sref 4), (21, .sref 5), (23, .t (tInt r)), (92, .sref 1), (93, .t (tInt out.length)), (94, .t (tInt i)), (116, .t (tInts row)), (117, .t (tInt row.length)), (118, .t (tInt l))], [.box [.t (tInt 0), .t (tInt 0), .nil, .nil], .row 3 1 false (out.map tInt), .row 3 1 false (cls.map tNat), .map .str es, .row 3 1 true (frs.map tNat), .row 5 1 true kt]⟩ ∧
              l ≤ n ∧ kt = (byt c ++ (row.take l).flatMap fun t => byt (clf cls t)).map tByte) n ⟨_, Norm.headS (own := [(10, 3, 1, false), (15, 3, 1, false), (20, 3, 1, true), (21, 5, 1, true)]) (keep := [0, 1, 2, 3, 8, 10, 15, 18, 19, 20, 21, 23, 92, 93, 94, 116, 117, 118]) (by refine ⟨?_, ?_⟩; (simp (discharger := omega) only [go_sem, simprocAttr]; with_reducible rfl); refine ⟨?_, ?_, ?_, ?_⟩ <;> (simp only [go_sem, simprocAttr]; with_reducible rfl)), 0, _, rfl, rfl, Nat.zero_le _, by simp [byt, tByte, hh2]⟩ ?_
          rintro k s ⟨l, kt, rfl, rfl, hl, rfl⟩
          by_cases hlt2 : l < n
          · obtain ⟨u, hul⟩ : ∃ u, row[l]! = u := ⟨_, rfl⟩
            have hul2 : row[l]? = some u := by rw [← hul, getElem!_pos row l (by omega)]; exact List.getElem?_eq_getElem (by omega)
            have hnx : nx next r l = u := by unfold nx; rw [hrow2, List.getD_eq_getElem?_getD, hul2]; rfl
            have hum : u ∈ out := by rw [← hnx]; exact hbf.closed r hrm l hlt2
            have hu : 0 ≤ u ∧ u < (m : Int) := hmo.ok _ hum
            obtain ⟨d, hd⟩ : ∃ d, cls[u.toNat]! = d := ⟨_, rfl⟩
            have hd2 : clf cls u = d := by rw [← clf_at hu.1 (by omega), hd]
            have hd16 : d < 65536 := by rw [← hd2]; exact h16 u hum
            have hdhi := u8hi hd16
            have hd2' : IntKind.u8.wrap ((d : Int).fdiv 256) = (d : Int) / 256 := by simpa [IntKind.bits] using hdhi
            have hll : l < row.length := by omega
            have hkl : ((byt c ++ (row.take l).flatMap fun t => byt (clf cls t)).length : Nat) ≤ 2002 := by
              rw [List.length_append, byt_len, List.length_take]
              simp [byt]; omega
            have htk2 : row.take (l + 1) = row.take l ++ [u] := by
              rw [List.take_succ_eq_append_getElem hll]
              rw [List.getElem?_eq_getElem hll] at hul2
              rw [Option.some.inj hul2]
            generalize hkx : (byt c ++ (row.take l).flatMap fun t => byt (clf cls t)) = kx at hkl ⊢
            repeat' (first | (with_reducible first | apply w1 | apply w2 | apply w3 | apply w4 | apply w5 | apply w6 | apply w7 | apply w8 | apply w9 | apply wa | apply wb | apply wc) | ((with_reducible apply wd); focus decide) | ((with_reducible apply we); focus exact rfl) | ((with_reducible apply wf); focus exact rfl) | ((first | (with_reducible apply SW_run tt_ok hG htb) | ((with_reducible apply SW_draw rfl tt_ok hG htb); (focus kernel_rfl); focus simp only [List.range, List.range.loop, List.size_toArray, List.length_cons, List.length_nil, Nat.reduceAdd])); focus ((repeat' (first | (with_reducible first | exact wg | exact wh) | ((with_reducible first | apply wi | apply wj); focus (simp (discharger := omega) only [go_sem, hul, hd, u8lo, hdhi, simprocAttr]; with_reducible rfl)))); done)))
            exact ⟨n - (l + 1), _, by omega, Norm.headS (own := [(10, 3, 1, false), (15, 3, 1, false), (20, 3, 1, true), (21, 5, 1, true)]) (keep := [0, 1, 2, 3, 8, 10, 15, 18, 19, 20, 21, 23, 92, 93, 94, 116, 117, 118]) (by refine ⟨?_, ?_⟩; (simp (discharger := omega) only [go_sem, simprocAttr]; with_reducible rfl); refine ⟨?_, ?_, ?_, ?_⟩ <;> (simp only [go_sem, simprocAttr]; with_reducible rfl)), l + 1, _, rfl, rfl, by omega, by
              rw [htk2, List.flatMap_append, ← List.append_assoc, hkx, List.map_append]
              simp [hd2, byt, tByte, hd2']⟩
          · obtain rfl : l = n := by omega
            rw [List.take_of_length_le (by omega)]
            have hkey : (byt c ++ row.flatMap fun t => byt (clf cls t)) = keyOf' next (clf cls) r := by unfold keyOf'; rw [hc2, hrow2]
            have hkl : ((byt c ++ row.flatMap fun t => byt (clf cls t)).length : Nat) ≤ 2002 := by
              rw [List.length_append, byt_len]; simp [byt]; omega
            rw [hkey] at hkl ⊢
            obtain ⟨ks, hks⟩ : ∃ ks, bytesStr (keyOf' next (clf cls) r) = ks := ⟨_, rfl⟩
            have hsz : ks.size ≤ 2002 := by rw [← hks]; simpa [bytesStr, ByteArray.size] using hkl
            have hstr : (⟨((keyOf' next (clf cls) r).map fun n => UInt8.ofNat n.toNat).toArray⟩ : ByteArray) = ks := hks
            generalize keyOf' next (clf cls) r = kx at hstr ⊢
            have hel : es.length = R.length := by rw [hes, entries_length]
            by_cases hx : ∃ (k : Nat) (q : Int), R[k]? = some q ∧ bytesStr (keyOf' next (clf cls) q) = bytesStr (keyOf' next (clf cls) r)
            · obtain ⟨k, q, hk1, hk2⟩ := hx
              have hget : mapGet es (.str ks) = some (tNat k) := by
                rw [hes, ← hks]; exact entries_get_some hN.distinct hk1 hk2
              obtain ⟨c1, c2⟩ := clf_set (cls := frs) (r := r) hs.1 (by omega) k
              repeat' (first | (with_reducible first | apply w1 | apply w2 | apply w3 | apply w4 | apply w5 | apply w6 | apply w7 | apply w8 | apply w9 | apply wa | apply wb | apply wc) | ((with_reducible apply wd); focus decide) | ((with_reducible apply we); focus exact rfl) | ((with_reducible apply wf); focus exact rfl) | ((first | (with_reducible apply SW_run tt_ok hG htb) | ((with_reducible apply SW_draw rfl tt_ok hG htb); (focus kernel_rfl); focus simp only [List.range, List.range.loop, List.size_toArray, List.length_cons, List.length_nil, Nat.reduceAdd])); focus ((repeat' (first | (with_reducible first | exact wg | exact wh) | ((with_reducible first | apply wi | apply wj); focus (simp (discharger := omega) only [go_sem, bytesOf_map, hstr, hget, simprocAttr]; with_reducible rfl)))); done)))
              exact ⟨m - (i + 1), _, by omega, Norm.headS (own := [(10, 3, 1, false), (15, 3, 1, false), (20, 3, 1, true), (21, 5, 1, true)]) (keep := [0, 1, 2, 3, 8, 10, 15, 18, 19, 20, 21, 92, 93, 94]) (by refine ⟨?_, ?_⟩; (simp (discharger := omega) only [go_sem, simprocAttr]; with_reducible rfl); refine ⟨?_, ?_, ?_, ?_⟩ <;> (simp only [go_sem, simprocAttr]; with_reducible rfl)), i + 1, frs.set r.toNat k, R, es, _, _, rfl, rfl, hes, by rw [List.map_set]; rfl, by simpa using hfl, by omega, by rw [htk]; exact hN.old hnr hk1 hk2 c2 c1⟩
            · have hno : ∀ q ∈ R, bytesStr (keyOf' next (clf cls) q) ≠ bytesStr (keyOf' next (clf cls) r) := fun q hq e => by
                obtain ⟨k, hk⟩ := List.mem_iff_getElem?.1 hq
                exact hx ⟨k, q, hk, e⟩
              have hget : mapGet es (.str ks) = none := by
                rw [hes, ← hks]; exact entries_get_none (κ := fun s => bytesStr (keyOf' next (clf cls) s)) hno
              have hset : mapSet es (.str ks) (tNat R.length) = entries (fun s => bytesStr (keyOf' next (clf cls) s)) (R ++ [r]) := by
                rw [hes, ← hks]; exact entries_set (κ := fun s => bytesStr (keyOf' next (clf cls) s)) hno
              obtain ⟨c1, c2⟩ := clf_set (cls := frs) (r := r) hs.1 (by omega) R.length
              repeat' (first | (with_reducible first | apply w1 | apply w2 | apply w3 | apply w4 | apply w5 | apply w6 | apply w7 | apply w8 | apply w9 | apply wa | apply wb | apply wc) | ((with_reducible apply wd); focus decide) | ((with_reducible apply we); focus exact rfl) | ((with_reducible apply wf); focus exact rfl) | ((first | (with_reducible apply SW_run tt_ok hG htb) | ((with_reducible apply SW_draw rfl tt_ok hG htb); (focus kernel_rfl); focus simp only [List.range, List.range.loop, List.size_toArray, List.length_cons, List.length_nil, Nat.reduceAdd])); focus ((repeat' (first | (with_reducible first | exact wg | exact wh) | ((with_reducible first | apply wi | apply wj); focus (simp (discharger := omega) only [go_sem, bytesOf_map, hstr, hget, hel, simprocAttr]; with_reducible rfl)))); done)))
              exact ⟨m - (i + 1), _, by omega, Norm.headS (own := [(10, 3, 1, false), (15, 3, 1, false), (20, 3, 1, true), (21, 5, 1, true)]) (keep := [0, 1, 2, 3, 8, 10, 15, 18, 19, 20, 21, 92, 93, 94]) (by refine ⟨?_, ?_⟩; (simp (discharger := omega) only [go_sem, simprocAttr]; with_reducible rfl); refine ⟨?_, ?_, ?_, ?_⟩ <;> (simp only [go_sem, simprocAttr]; with_reducible rfl)), i + 1, frs.set r.toNat R.length, R ++ [r], _, _, _, rfl, rfl, hset, by rw [List.map_set]; rfl, by simpa using hfl, by omega, by rw [htk]; exact hN.new hnr hno c2 c1⟩
        · have hie : i = out.length := by omega
          subst hie
          rw [List.take_length] at hN
          clear hi hlt
          have hel : es.length = R.length := by rw [hes, entries_length]
          have hmore := hinv.more hN hlook
          have hbig : R.length ≤ 65536 := by
            have h1 := hinv.bound hR hm hbf hlook (Q := R) (fun r hr => hN.mem hr) hN.distinct
            omega
          have hbound : R.length ≤ m := by
            have h1 := hinv.bound hR hm hbf hlook (Q := R) (fun r hr => hN.mem hr) hN.distinct
            have h2 := (leastRE_spec (ends := ends) hR hm).2
            omega
          by_cases hRm : R.length = many
          · have hdone := hinv.done hR hm hmo hbf hN hlook hRm
            have hre := leastRE_eq hR hm hdone
            have hclR : ∀ s, s ∈ out → clf frs s < R.length := fun s hs => hN.lt hs
            clear hinv hlook h16 hce hmore hes
            repeat' (first | (with_reducible first | apply w1 | apply w2 | apply w3 | apply w4 | apply w5 | apply w6 | apply w7 | apply w8 | apply w9 | apply wa | apply wb | apply wc) | ((with_reducible apply wd); focus decide) | ((with_reducible apply we); focus exact rfl) | ((with_reducible apply wf); focus exact rfl) | ((first | (with_reducible apply SW_run tt_ok hG htb) | ((with_reducible apply SW_draw rfl tt_ok hG htb); (focus kernel_rfl); focus simp only [List.range, List.range.loop, List.size_toArray, List.length_cons, List.length_nil, Nat.reduceAdd])); focus ((repeat' (first | (with_reducible first | exact wg | exact wh) | ((with_reducible first | apply wi | apply wj); focus (simp (discharger := omega) only [go_sem, hel, hRm, simprocAttr]; with_reducible rfl)))); done)))
            have hRl : (leftRows next (clf frs) R).length = R.length := by simp [leftRows]
            have hEl : (leftEnds ends R).length = R.length := by simp [leftEnds]
            refine SW_loop (fun k s => ∃ (i q : Nat) (nt et : List T), k = m - i ∧ s = ⟨220, [(2, .t (tIntss next)), (3, .t (tBools ends)), (8, .bptr 0 0), (10, .sref 1), (15, .sref 2), (28, .bptr 3 0), (167, .sref 1), (168, .t (tInt out.length)), (169, .t (tInt i))], [.box [.t (tInt 0), .t (tInt 0), .nil, .nil], .row 3 1 false (out.map tInt), .row 3 1 false (frs.map tNat), .box [.t (tInt base), .t (tInt tracks), .sref 4, .sref 5], .row 26 1 true nt, .row 4 1 true et]⟩ ∧
                nt = ((leftRows next (clf frs) R).take q).map tInts ∧ et = ((leftEnds ends R).take q).map T.bool ∧ i ≤ out.length ∧ q ≤ R.length ∧ q ≤ 80 ∧ ∀ s, s ∈ out.take i → clf frs s < q) m
              ⟨_, (Norm.ownB (j := 6) (off := 2) (e := 26) (sz := 1) rfl rfl Nat.one_pos).trans ((Norm.ownB (j := 6) (off := 3) (e := 4) (sz := 1) rfl rfl Nat.one_pos).trans (Norm.headS (own := [(10, 3, 1, false), (15, 3, 1, false)]) (keep := [2, 3, 8, 10, 15, 28, 167, 168, 169]) (by refine ⟨?_, ?_⟩; (simp (discharger := omega) only [go_sem, simprocAttr]; with_reducible rfl); refine ⟨?_, ?_, ?_, ?_⟩ <;> (simp only [go_sem, simprocAttr]; with_reducible rfl)))), 0, 0, _, _, rfl, rfl, by simp, by simp, Nat.zero_le _, Nat.zero_le _, Nat.zero_le _, fun s hs => by simp at hs⟩ ?_
            rintro k s ⟨i, q, nt, et, rfl, rfl, hnt, het, hi, hq, hq80, hall⟩
            have hnl : nt.length = q := by rw [hnt]; simp; omega
            have hel2 : et.length = q := by rw [het]; simp; omega
            by_cases hlt : i < out.length
            · obtain ⟨r, hor⟩ : ∃ r, out[i]! = r := ⟨_, rfl⟩
              have hio : out[i]? = some r := by rw [← hor, getElem!_pos out i hlt]; exact List.getElem?_eq_getElem hlt
              have hrm : r ∈ out := List.mem_of_getElem? hio
              have hs : 0 ≤ r ∧ r < (m : Int) := hmo.ok _ hrm
              have htk : out.take (i + 1) = out.take i ++ [r] := by
                rw [List.take_succ_eq_append_getElem hlt]
                rw [List.getElem?_eq_getElem hlt] at hio
                rw [Option.some.inj hio]
              obtain ⟨c, hc⟩ : ∃ c, frs[r.toNat]! = c := ⟨_, rfl⟩
              have hc2 : clf frs r = c := by rw [← clf_at hs.1 (by omega), hc]
              have hcR : c < R.length := by rw [← hc2]; exact hclR r hrm
              have hle : c ≤ q := by
                rcases Nat.lt_or_ge q c with hqc | hqc
                · exfalso
                  have hqR : q < R.length := by omega
                  obtain ⟨i0, a1, a2, a3⟩ := hN.first q _ (List.getElem?_eq_getElem hqR)
                  rcases Nat.lt_trichotomy i i0 with h | h | h
                  · have := a3 i r h hio; omega
                  · subst h; rw [hio] at a1; have := Option.some.inj a1; rw [← this, hc2] at a2; omega
                  · have : R[q] ∈ out.take i := List.mem_of_getElem? (by rw [List.getElem?_take, if_pos h]; exact a1)
                    have := hall _ this; omega
                · exact hqc
              by_cases hcq : c < q
              · repeat' (first | (with_reducible first | apply w1 | apply w2 | apply w3 | apply w4 | apply w5 | apply w6 | apply w7 | apply w8 | apply w9 | apply wa | apply wb | apply wc) | ((with_reducible apply wd); focus decide) | ((with_reducible apply we); focus exact rfl) | ((with_reducible apply wf); focus exact rfl) | ((first | (with_reducible apply SW_run tt_ok hG htb) | ((with_reducible apply SW_draw rfl tt_ok hG htb); (focus kernel_rfl); focus simp only [List.range, List.range.loop, List.size_toArray, List.length_cons, List.length_nil, Nat.reduceAdd])); focus ((repeat' (first | (with_reducible first | exact wg | exact wh) | ((with_reducible first | apply wi | apply wj); focus (simp (discharger := omega) only [go_sem, hor, hc, hnl, simprocAttr]; with_reducible rfl)))); done)))
                exact ⟨m - (i + 1), _, by omega, Norm.headS (own := [(10, 3, 1, false), (15, 3, 1, false)]) (keep := [2, 3, 8, 10, 15, 28, 167, 168, 169]) (by refine ⟨?_, ?_⟩; (simp (discharger := omega) only [go_sem, simprocAttr]; with_reducible rfl); refine ⟨?_, ?_, ?_, ?_⟩ <;> (simp only [go_sem, simprocAttr]; with_reducible rfl)), i + 1, q, nt, et, rfl, rfl, hnt, het, by omega, hq, hq80, fun s hs' => by
                  rw [htk] at hs'
                  rcases List.mem_append.1 hs' with h | h
                  · exact hall s h
                  · simp at h; subst h; omega⟩
              · obtain rfl : c = q := by omega
                have hRq : R[c] = r := by
                  obtain ⟨i0, a1, a2, a3⟩ := hN.first c _ (List.getElem?_eq_getElem hcR)
                  rcases Nat.lt_trichotomy i i0 with h | h | h
                  · have := a3 i r h hio; omega
                  · subst h; rw [hio] at a1; exact (Option.some.inj a1).symm
                  · have : R[c] ∈ out.take i := List.mem_of_getElem? (by rw [List.getElem?_take, if_pos h]; exact a1)
                    have := hall _ this; omega
                by_cases h80 : c = 80
                · have hT : shrinkT base tracks n next ends = .tup [tAuto GAuto.zero, .bool false] := by
                    unfold shrinkT; rw [hre, if_neg (by simp only [hRl]; omega)]
                  rw [hT]
                  repeat' (first | (with_reducible first | apply w1 | apply w2 | apply w3 | apply w4 | apply w5 | apply w6 | apply w7 | apply w8 | apply w9 | apply wa | apply wb | apply wc) | ((with_reducible apply wd); focus decide) | ((with_reducible apply we); focus exact rfl) | ((with_reducible apply wf); focus exact rfl) | ((first | (with_reducible apply SW_run tt_ok hG htb) | ((with_reducible apply SW_draw rfl tt_ok hG htb); (focus kernel_rfl); focus simp only [List.range, List.range.loop, List.size_toArray, List.length_cons, List.length_nil, Nat.reduceAdd])); focus ((repeat' (first | (with_reducible first | exact wg | exact wh) | ((with_reducible first | apply wi | apply wj); focus (simp (discharger := omega) only [go_sem, hor, hc, hnl, h80, simprocAttr]; with_reducible rfl)))); done)))
                  exact (by simp (discharger := omega) only [go_sem, tAuto, GAuto.zero, simprocAttr])
                · obtain ⟨row, hrow⟩ : ∃ row, next[r.toNat]! = row := ⟨_, rfl⟩
                  have hrl : r.toNat < next.length := by omega
                  have hrow2 : rowOf next r = row := by unfold rowOf; rw [getD_lt hrl, ← hrow, getElem!_pos next _ hrl]
                  have hrmem : row ∈ next := by rw [← hrow, getElem!_pos next _ hrl]; exact List.getElem_mem hrl
                  have hrn : row.length = n := hR.row _ hrmem
                  have hend : ends[r.toNat]! = endOf ends r := by unfold endOf; rw [getD_lt (by omega), getElem!_pos ends _ (by omega)]
                  repeat' (first | (with_reducible first | apply w1 | apply w2 | apply w3 | apply w4 | apply w5 | apply w6 | apply w7 | apply w8 | apply w9 | apply wa | apply wb | apply wc) | ((with_reducible apply wd); focus decide) | ((with_reducible apply we); focus exact rfl) | ((with_reducible apply wf); focus exact rfl) | ((first | (with_reducible apply SW_run tt_ok hG htb) | ((with_reducible apply SW_draw rfl tt_ok hG htb); (focus kernel_rfl); focus simp only [List.range, List.range.loop, List.size_toArray, List.length_cons, List.length_nil, Nat.reduceAdd])); focus ((repeat' (first | (with_reducible first | exact wg | exact wh) | ((with_reducible first | apply wi | apply wj); focus (simp (discharger := omega) only [go_sem, hor, hc, hnl, h80, hrow, simprocAttr]; with_reducible rfl)))); done)))
                  refine SW_loop (fun k s => ∃ (l : Nat) (rt : List T), k = n - l ∧ s = ⟨220, [(2, .t (tIntss next)), (3, .t (tBools ends)), (8, .bptr 0 0), (10, .sref 1), (15, .sref 2), (28, .bptr 3 0), (167, .sref 1), (168, .t (tInt out.length)), (169, .t (tInt i)), (30, .t (tInt r)), (31, .sref 4), (189, .t (tInts row)), (190, .t (tInt row.length)), (191, .t (tInt l))], [.box [.t (tInt 0), .t (tInt 0), .nil, .nil], .row 3 1 false (out.map tInt), .row 3 1 false (frs.map tNat), .box [.t (tInt base), .t (tInt tracks), .sref 5, .sref 6], .row 3 1 true rt, .row 26 1 true nt, .row 4 1 true et]⟩ ∧
                      l ≤ n ∧ rt = (row.take l).map fun t => tNat (clf frs t)) n ⟨_, Norm.headS (own := [(10, 3, 1, false), (15, 3, 1, false), (31, 3, 1, true)]) (keep := [2, 3, 8, 10, 15, 28, 167, 168, 169, 30, 31, 189, 190, 191]) (by refine ⟨?_, ?_⟩; (simp (discharger := omega) only [go_sem, simprocAttr]; with_reducible rfl); refine ⟨?_, ?_, ?_, ?_⟩ <;> (simp only [go_sem, simprocAttr]; with_reducible rfl)), 0, _, rfl, rfl, Nat.zero_le _, rfl⟩ ?_
                  rintro k s ⟨l, rt, rfl, rfl, hl, hrt⟩
                  have hrtl : rt.length = l := by rw [hrt]; simp; omega
                  by_cases hlt2 : l < n
                  · obtain ⟨u, hul⟩ : ∃ u, row[l]! = u := ⟨_, rfl⟩
                    have hll : l < row.length := by omega
                    have hul2 : row[l]? = some u := by rw [← hul, getElem!_pos row l hll]; exact List.getElem?_eq_getElem hll
                    have hu : 0 ≤ u ∧ u < (m : Int) := hR.ok _ hrmem _ (List.mem_of_getElem? hul2)
                    obtain ⟨d, hd⟩ : ∃ d, frs[u.toNat]! = d := ⟨_, rfl⟩
                    have hd2 : clf frs u = d := by rw [← clf_at hu.1 (by omega), hd]
                    have htk2 : row.take (l + 1) = row.take l ++ [u] := by
                      rw [List.take_succ_eq_append_getElem hll]
                      rw [List.getElem?_eq_getElem hll] at hul2
                      rw [Option.some.inj hul2]
                    repeat' (first | (with_reducible first | apply w1 | apply w2 | apply w3 | apply w4 | apply w5 | apply w6 | apply w7 | apply w8 | apply w9 | apply wa | apply wb | apply wc) | ((with_reducible apply wd); focus decide) | ((with_reducible apply we); focus exact rfl) | ((with_reducible apply wf); focus exact rfl) | ((first | (with_reducible apply SW_run tt_ok hG htb) | ((with_reducible apply SW_draw rfl tt_ok hG htb); (focus kernel_rfl); focus simp only [List.range, List.range.loop, List.size_toArray, List.length_cons, List.length_nil, Nat.reduceAdd])); focus ((repeat' (first | (with_reducible first | exact wg | exact wh) | ((with_reducible first | apply wi | apply wj); focus (simp (discharger := omega) only [go_sem, hul, hd, simprocAttr]; with_reducible rfl)))); done)))
                    exact ⟨n - (l + 1), _, by omega, Norm.headS (own := [(10, 3, 1, false), (15, 3, 1, false), (31, 3, 1, true)]) (keep := [2, 3, 8, 10, 15, 28, 167, 168, 169, 30, 31, 189, 190, 191]) (by refine ⟨?_, ?_⟩; (simp (discharger := omega) only [go_sem, simprocAttr]; with_reducible rfl); refine ⟨?_, ?_, ?_, ?_⟩ <;> (simp only [go_sem, simprocAttr]; with_reducible rfl)), l + 1, _, rfl, rfl, by omega, by rw [htk2, hrt]; simp [hd2, tNat]⟩
                  · obtain rfl : l = n := by omega
                    rw [List.take_of_length_le (by omega)] at hrt
                    repeat' (first | (with_reducible first | apply w1 | apply w2 | apply w3 | apply w4 | apply w5 | apply w6 | apply w7 | apply w8 | apply w9 | apply wa | apply wb | apply wc) | ((with_reducible apply wd); focus decide) | ((with_reducible apply we); focus exact rfl) | ((with_reducible apply wf); focus exact rfl) | ((first | (with_reducible apply SW_run tt_ok hG htb) | ((with_reducible apply SW_draw rfl tt_ok hG htb); (focus kernel_rfl); focus simp only [List.range, List.range.loop, List.size_toArray, List.length_cons, List.length_nil, Nat.reduceAdd])); focus ((repeat' (first | (with_reducible first | exact wg | exact wh) | ((with_reducible first | apply wi | apply wj); focus (simp (discharger := omega) only [go_sem, hor, hend, simprocAttr]; with_reducible rfl)))); done)))
                    have hlr : (leftRows next (clf frs) R).take (c + 1) = (leftRows next (clf frs) R).take c ++ [row.map fun t => (clf frs t : Int)] := by
                      rw [List.take_succ_eq_append_getElem (by omega)]
                      congr 1
                      simp [leftRows, hRq, hrow2]
                    have hle2 : (leftEnds ends R).take (c + 1) = (leftEnds ends R).take c ++ [endOf ends r] := by
                      rw [List.take_succ_eq_append_getElem (by omega)]
                      congr 1
                      simp [leftEnds, hRq]
                    exact ⟨m - (i + 1), _, by omega, Norm.headS (own := [(10, 3, 1, false), (15, 3, 1, false)]) (keep := [2, 3, 8, 10, 15, 28, 167, 168, 169]) (by refine ⟨?_, ?_⟩; (simp (discharger := omega) only [go_sem, simprocAttr]; with_reducible rfl); refine ⟨?_, ?_, ?_, ?_⟩ <;> (simp only [go_sem, simprocAttr]; with_reducible rfl)), i + 1, c + 1, _, _, rfl, rfl, by rw [hlr, List.map_append, ← hnt, hrt]; simp [tInts, tNat, tInt], by rw [hle2, List.map_append, ← het]; rfl, by omega, by omega, by omega, fun s hs' => by
                      rw [htk] at hs'
                      rcases List.mem_append.1 hs' with h | h
                      · have := hall s h; omega
                      · simp at h; subst h; omega⟩
            · have hie : i = out.length := by omega
              subst hie
              rw [List.take_length] at hall
              have hqR : q = R.length := by
                rcases Nat.lt_or_ge q R.length with h | h
                · have := hall _ (hN.mem (List.getElem_mem h))
                  rw [hN.cl_of (List.getElem?_eq_getElem h)] at this; omega
                · omega
              rw [List.take_of_length_le (by omega)] at hnt het
              have hT : shrinkT base tracks n next ends = .tup [tAuto ⟨base, tracks, leftRows next (clf frs) R, leftEnds ends R⟩, .bool true] := by
                unfold shrinkT; rw [hre, if_pos (by simp only [hRl]; omega)]
              rw [hT]
              repeat' (first | (with_reducible first | apply w1 | apply w2 | apply w3 | apply w4 | apply w5 | apply w6 | apply w7 | apply w8 | apply w9 | apply wa | apply wb | apply wc) | ((with_reducible apply wd); focus decide) | ((with_reducible apply we); focus exact rfl) | ((with_reducible apply wf); focus exact rfl) | ((first | (with_reducible apply SW_run tt_ok hG htb) | ((with_reducible apply SW_draw rfl tt_ok hG htb); (focus kernel_rfl); focus simp only [List.range, List.range.loop, List.size_toArray, List.length_cons, List.length_nil, Nat.reduceAdd])); focus ((repeat' (first | (with_reducible first | exact wg | exact wh) | ((with_reducible first | apply wi | apply wj); focus (simp (discharger := omega) only [go_sem, simprocAttr]; with_reducible rfl)))); done)))
              subst hnt het
              exact (by simp (discharger := omega) only [go_sem, tAuto, simprocAttr])
          · repeat' (first | (with_reducible first | apply w1 | apply w2 | apply w3 | apply w4 | apply w5 | apply w6 | apply w7 | apply w8 | apply w9 | apply wa | apply wb | apply wc) | ((with_reducible apply wd); focus decide) | ((with_reducible apply we); focus exact rfl) | ((with_reducible apply wf); focus exact rfl) | ((first | (with_reducible apply SW_run tt_ok hG htb) | ((with_reducible apply SW_draw rfl tt_ok hG htb); (focus kernel_rfl); focus simp only [List.range, List.range.loop, List.size_toArray, List.length_cons, List.length_nil, Nat.reduceAdd])); focus ((repeat' (first | (with_reducible first | exact wg | exact wh) | ((with_reducible first | apply wi | apply wj); focus (simp (discharger := omega) only [go_sem, hel, hRm, simprocAttr]; with_reducible rfl)))); done)))
            exact ⟨m + 1 - R.length, _, by omega, Norm.headS (own := [(10, 3, 1, false), (15, 3, 1, false)]) (keep := [0, 1, 2, 3, 8, 10, 15, 18]) (by refine ⟨?_, ?_⟩; (simp (discharger := omega) only [go_sem, simprocAttr]; with_reducible rfl); refine ⟨?_, ?_, ?_, ?_⟩ <;> (simp only [go_sem, simprocAttr]; with_reducible rfl)), R.length, frs, rfl, rfl, hfl, hbound, hinv.step hbf hN hlook, fun s hs => by have := hN.lt hs; omega, fun s t hs ht e => hlook.ofEnds s t hs ht ((hN.eq_iff hs ht).1 e)⟩
theorem Shrink_snd (base tracks : Int) {n m : Nat} {next : List (List Int)} {ends : List Bool} (hR : Rows0 n m next) (hm : 0 < m) (hm2 : m ≤ 65536) (he : ends.length = m) (hn : n ≤ 1000) :
    Snd Try.prog G 37 [tInt base, tInt tracks, tIntss next, tBools ends] (shrinkT base tracks n next ends) :=
  Shrink_big hG base tracks hR hm (by omega) (Nat.le_trans (leastRE_spec (ends := ends) hR hm).2 hm2) he hn
end
end Go.Proofs.Ythcclcbliedodaa
namespace Go.Proofs.Ythcclcbliedodaa
open Go.RowKit

/-- The least automaton of one without fault. -/
noncomputable def leastA (a : GAuto) : GAuto := ⟨a.base, a.tracks, (leastRE (manyOf a.base a.tracks).toNat a.next a.ends).1, (leastRE (manyOf a.base a.tracks).toNat a.next a.ends).2⟩
noncomputable def leastOf (a : GAuto) : GAuto := if autoFault a = 0 then leastA a else GAuto.zero
theorem shrink_least {a : GAuto} {n m : Nat} (g : Good a n m) : shrinkT a.base a.tracks n a.next a.ends = .tup [tAuto (leastA a), .bool true] := by
  have h := (leastRE_spec (ends := a.ends) g.rows g.m0).2
  have hn : (manyOf a.base a.tracks).toNat = n := by rw [g.n_eq]; rfl
  unfold shrinkT leastA
  rw [if_pos (by have := g.m80; omega), hn]
section
variable {G : World → Prop} (hG : Lasting G)
include hG
theorem Shrink_good {a : GAuto} {n m : Nat} (g : Good a n m) : Snd Try.prog G 37 [tInt a.base, tInt a.tracks, tIntss a.next, tBools a.ends] (.tup [tAuto (leastA a), .bool true]) := by
  have := Shrink_snd (G := G) hG a.base a.tracks g.rows g.m0 (by have := g.m80; omega) g.ends (by have := g.n36; omega)
  rwa [shrink_least g] at this
theorem Least_snd (a : GAuto) : Snd Try.prog G 18 [tAuto a] (.tup [tAuto (leastOf a), tErr (autoFault a)]) := by
  by_cases h0 : autoFault a = 0
  · have htb := Tab.cons (Check_snd hG a) (Tab.cons (Shrink_good (G := G) hG (good_of h0)) Tab.nil)
    refine snd_of_body (n := 26) (tm := [(0, .t (tAuto a))]) (rs := [.cell 2 25, .tmp 3]) tt_ok Try.func18 rfl rfl rfl rfl rfl ?_
    unfold leastOf
    rw [if_pos h0]
    generalize leastA a = b at htb ⊢
    repeat' (first | (with_reducible first | apply w1 | apply w2 | apply w3 | apply w4 | apply w5 | apply w6 | apply w7 | apply w8 | apply w9 | apply wa | apply wb | apply wc) | ((with_reducible apply wd); focus decide) | ((with_reducible apply we); focus exact rfl) | ((with_reducible apply wf); focus exact rfl) | ((first | (with_reducible apply SW_run tt_ok hG htb) | ((with_reducible apply SW_draw rfl tt_ok hG htb); (focus kernel_rfl); focus simp only [List.range, List.range.loop, List.size_toArray, List.length_cons, List.length_nil, Nat.reduceAdd])); focus ((repeat' (first | (with_reducible first | exact wg | exact wh) | ((with_reducible first | apply wi | apply wj); focus (simp (discharger := omega) only [go_sem, tAuto, tErr, h0, simprocAttr]; with_reducible rfl)))); done)))
    exact (by simp (discharger := omega) only [go_sem, tAuto, tErr, h0, simprocAttr])
  · have htb := Tab.cons (Check_snd hG a) Tab.nil
    refine snd_of_body (n := 26) (tm := [(0, .t (tAuto a))]) (rs := [.cell 2 25, .tmp 3]) tt_ok Try.func18 rfl rfl rfl rfl rfl ?_
    unfold leastOf
    rw [if_neg h0]
    repeat' (first | (with_reducible first | apply w1 | apply w2 | apply w3 | apply w4 | apply w5 | apply w6 | apply w7 | apply w8 | apply w9 | apply wa | apply wb | apply wc) | ((with_reducible apply wd); focus decide) | ((with_reducible apply we); focus exact rfl) | ((with_reducible apply wf); focus exact rfl) | ((first | (with_reducible apply SW_run tt_ok hG htb) | ((with_reducible apply SW_draw rfl tt_ok hG htb); (focus kernel_rfl); focus simp only [List.range, List.range.loop, List.size_toArray, List.length_cons, List.length_nil, Nat.reduceAdd])); focus ((repeat' (first | (with_reducible first | exact wg | exact wh) | ((with_reducible first | apply wi | apply wj); focus (simp (discharger := omega) only [go_sem, tAuto, tErr, h0, simprocAttr]; with_reducible rfl)))); done)))
    exact (by simp (discharger := omega) only [go_sem, tAuto, tErr, h0, GAuto.zero, simprocAttr])
end
end Go.Proofs.Ythcclcbliedodaa
namespace Go.Proofs.Ythcclcbliedodaa
open Go.RowKit

def autoP (a : GAuto) : T := .ptr [.int .i64 a.base, .int .i64 a.tracks, tIntss a.next, tBools a.ends]
section
variable {G : World → Prop} (hG : Lasting G)
include hG
end
end Go.Proofs.Ythcclcbliedodaa
namespace Go.Proofs.Ythcclcbliedodaa
open Go.RowKit

def autoB (a : GAuto) : List SV := [.t (tInt a.base), .t (tInt a.tracks), .t (tIntss a.next), .t (tBools a.ends)]
def stepW (next : List (List Int)) (W : List (List Int)) (s : List Int) (l : Nat) : List Int := s.flatMap fun x => (W[l]!).map fun k => nx next x k.toNat
theorem stepW_in {N m : Nat} {next W : List (List Int)} (h : Rows0 N m next) (hW2 : ∀ r ∈ W, ∀ k ∈ r, 0 ≤ k ∧ k < (N : Int)) {s : List Int} (hs : Inm m s) {l : Nat} (hl : l < W.length) : Inm m (stepW next W s l) := fun x hx => by
  obtain ⟨y, hy, hx⟩ := List.mem_flatMap.1 hx
  obtain ⟨k, hk, rfl⟩ := List.mem_map.1 hx
  have := hW2 _ (bang_mem rfl hl) k hk
  exact nx_ok h (hs y hy) (by omega)
theorem stepW_len {next W : List (List Int)} {s : List Int} {l c : Nat} (h : (W[l]!).length ≤ c) : (stepW next W s l).length ≤ s.length * c := by
  induction s with
  | nil => simp [stepW]
  | cons x s ih =>
    have e : stepW next W (x :: s) l = ((W[l]!).map fun k => nx next x k.toNat) ++ stepW next W s l := rfl
    rw [e, List.length_append, List.length_map, List.length_cons, Nat.add_mul, Nat.one_mul]
    omega
section
variable {G : World → Prop} (hG : Lasting G)
include hG
set_option maxHeartbeats 8000000 in
set_option maxRecDepth 100000 in
theorem LeftStep_snd {a : GAuto} {N m : Nat} (h : Rows0 N m a.next) {W : List (List Int)} (hW : ∀ r ∈ W, r.length ≤ 1000 ∧ ∀ k ∈ r, 0 ≤ k ∧ k < (N : Int)) (s : List Int) (hs : Inm m s) (hsl : s.length ≤ 1000) (l : Nat) (hl : l < W.length) :
    SndG Try.prog G 58 ([.t (tInts s), .t (tNat l)] ++ [.t (.ptr [tIntss W]), .bptr 0 0]) [.box (autoB a)] [] (.sref 1) ([.box (autoB a)] ++ [.row 3 1 true (iL (stepW a.next W s l))]) := by
  refine sndG_of_body tt_ok Try.func58 rfl rfl (n := 41) rfl (rs := [.tmp 6]) rfl (by simp only [List.length_cons, List.length_nil, List.length_append]; decide) [0] (fun i l h => ?_) (fun i hi => ?_) fun bs => ?_
  · match i, h with
    | 0, h => exact ⟨by simp, _, rfl⟩
  · simp only [List.mem_singleton] at hi
    subst hi
    exact ⟨_, rfl⟩
  show SW _ _ _ _ ⟨41, [(0, .t (tInts s)), (1, .t (tNat l)), (2, .t (.ptr [tIntss W])), (3, .bptr 0 0), (41, .pin 0 (bs 0))], [.box (autoB a)]⟩
  unfold autoB
  have htb : Tab.ok Try.prog G [] := Tab.nil
  have hnl := h.len
  obtain ⟨r, hr⟩ : ∃ r, W[l]! = r := ⟨_, rfl⟩
  have hrW := hW r (bang_mem hr hl)
  have hstep : ∀ (p : List Int) (x : Int), stepW a.next W (p ++ [x]) l = stepW a.next W p l ++ r.map fun k => nx a.next x k.toNat := fun p x => by
    unfold stepW
    rw [List.flatMap_append, hr]; simp
  repeat' (first | (with_reducible first | apply w1 | apply w2 | apply w3 | apply w4 | apply w5 | apply w6 | apply w7 | apply w8 | apply w9 | apply wa | apply wb | apply wc) | ((with_reducible apply wd); focus decide) | ((with_reducible apply we); focus exact rfl) | ((with_reducible apply wf); focus exact rfl) | ((first | (with_reducible apply SW_run tt_ok hG htb) | ((with_reducible apply SW_draw rfl tt_ok hG htb); (focus kernel_rfl); focus simp only [List.range, List.range.loop, List.size_toArray, List.length_cons, List.length_nil, Nat.reduceAdd])); focus ((repeat' (first | (with_reducible first | exact wg | exact wh) | ((with_reducible first | apply wi | apply wj); focus (simp (discharger := omega) only [go_sem, simprocAttr]; with_reducible rfl)))); done)))
  refine SW_loop (fun mm st => ∃ (i : Nat) (os : List T), mm = s.length - i ∧ st = ⟨41, [(41, .pin 0 (bs 0)), (1, .t (tNat l)), (2, .t (.ptr [tIntss W])), (3, .bptr 0 0), (7, .sref 1), (12, .t (tInts s)), (13, .t (tNat s.length)), (14, .t (tNat i))], [.box [.t (tInt a.base), .t (tInt a.tracks), .t (tIntss a.next), .t (tBools a.ends)], .row 3 1 true os]⟩ ∧ i ≤ s.length ∧ os = iL (stepW a.next W (s.take i) l)) s.length
    ⟨_, Norm.headS (own := [(7, 3, 1, true)]) (keep := [41, 1, 2, 3, 7, 12, 13, 14]) (by refine ⟨?_, ?_⟩; (simp (discharger := omega) only [go_sem, simprocAttr]; with_reducible rfl); refine ⟨?_, ?_, ?_, ?_⟩ <;> (simp only [go_sem, simprocAttr]; with_reducible rfl)), 0, _, rfl, rfl, Nat.zero_le _, rfl⟩ ?_
  rintro mm st ⟨i, os, rfl, rfl, hi, hos⟩
  have hos1 : os.length ≤ 1000 * 1000 := by
    rw [hos, iL_length]
    refine Nat.le_trans (stepW_len (c := 1000) (by rw [hr]; exact hrW.1)) (Nat.mul_le_mul_right _ ?_)
    rw [List.length_take]; omega
  by_cases hlt : i < s.length
  · obtain ⟨x, hx⟩ : ∃ x, s[i]! = x := ⟨_, rfl⟩
    have hg := bang_get hx hlt
    have hxb := hs x (List.mem_of_getElem? hg)
    obtain ⟨row, hrow⟩ : ∃ row, a.next[x.toNat]! = row := ⟨_, rfl⟩
    have hrl := h.row row (bang_mem hrow (by omega))
    have htk : s.take (i + 1) = s.take i ++ [x] := by
      rw [List.take_succ_eq_append_getElem hlt]
      obtain ⟨q1, q2⟩ := List.getElem?_eq_some_iff.1 hg
      rw [q2]
    have hos2 : iL (stepW a.next W (s.take (i + 1)) l) = os ++ iL (r.map fun k => nx a.next x k.toNat) := by rw [htk, hstep, hos]; simp [iL]
    repeat' (first | (with_reducible first | apply w1 | apply w2 | apply w3 | apply w4 | apply w5 | apply w6 | apply w7 | apply w8 | apply w9 | apply wa | apply wb | apply wc) | ((with_reducible apply wd); focus decide) | ((with_reducible apply we); focus exact rfl) | ((with_reducible apply wf); focus exact rfl) | ((first | (with_reducible apply SW_run tt_ok hG htb) | ((with_reducible apply SW_draw rfl tt_ok hG htb); (focus kernel_rfl); focus simp only [List.range, List.range.loop, List.size_toArray, List.length_cons, List.length_nil, Nat.reduceAdd])); focus ((repeat' (first | (with_reducible first | exact wg | exact wh) | ((with_reducible first | apply wi | apply wj); focus (simp (discharger := omega) only [go_sem, hx, hr, simprocAttr]; with_reducible rfl)))); done)))
    refine SW_loop (fun mm st => ∃ (j : Nat) (os' : List T), mm = r.length - j ∧ st = ⟨41, [(41, .pin 0 (bs 0)), (1, .t (tNat l)), (2, .t (.ptr [tIntss W])), (3, .bptr 0 0), (7, .sref 1), (9, .t (tInt x)), (12, .t (tInts s)), (13, .t (tNat s.length)), (14, .t (tNat i)), (21, .t (tInts r)), (22, .t (tNat r.length)), (23, .t (tNat j))], [.box [.t (tInt a.base), .t (tInt a.tracks), .t (tIntss a.next), .t (tBools a.ends)], .row 3 1 true os']⟩ ∧ j ≤ r.length ∧ os' = os ++ iL ((r.take j).map fun k => nx a.next x k.toNat)) r.length
      ⟨_, Norm.headS (own := []) (keep := [41, 1, 2, 3, 7, 9, 12, 13, 14, 21, 22, 23]) (by refine ⟨?_, ?_⟩; (simp (discharger := omega) only [go_sem, simprocAttr]; with_reducible rfl); refine ⟨?_, ?_, ?_, ?_⟩ <;> (simp only [go_sem, simprocAttr]; with_reducible rfl)), 0, _, rfl, rfl, Nat.zero_le _, by simp [iL]⟩ ?_
    rintro mm st ⟨j, os', rfl, rfl, hj, hos'⟩
    have hos'l : os'.length = os.length + j := by rw [hos']; simp [iL]; omega
    by_cases hjt : j < r.length
    · obtain ⟨k, hk⟩ : ∃ k, r[j]! = k := ⟨_, rfl⟩
      have hgk := bang_get hk hjt
      have hkb := hrW.2 k (List.mem_of_getElem? hgk)
      obtain ⟨t, ht⟩ : ∃ t, row[k.toNat]! = t := ⟨_, rfl⟩
      have hnx : nx a.next x k.toNat = t := by unfold nx rowOf; rw [bang_D hrow (by omega), bang_D ht (by omega)]
      have htk2 : r.take (j + 1) = r.take j ++ [k] := by
        rw [List.take_succ_eq_append_getElem hjt]
        obtain ⟨q1, q2⟩ := List.getElem?_eq_some_iff.1 hgk
        rw [q2]
      have hos3 : os ++ iL ((r.take (j + 1)).map fun k => nx a.next x k.toNat) = os' ++ [.int .i64 t] := by rw [htk2, hos']; simp [iL, hnx]
      have hr1 := hrW.1
      repeat' (first | (with_reducible first | apply w1 | apply w2 | apply w3 | apply w4 | apply w5 | apply w6 | apply w7 | apply w8 | apply w9 | apply wa | apply wb | apply wc) | ((with_reducible apply wd); focus decide) | ((with_reducible apply we); focus exact rfl) | ((with_reducible apply wf); focus exact rfl) | ((first | (with_reducible apply SW_run tt_ok hG htb) | ((with_reducible apply SW_draw rfl tt_ok hG htb); (focus kernel_rfl); focus simp only [List.range, List.range.loop, List.size_toArray, List.length_cons, List.length_nil, Nat.reduceAdd])); focus ((repeat' (first | (with_reducible first | exact wg | exact wh) | ((with_reducible first | apply wi | apply wj); focus (simp (discharger := omega) only [go_sem, hk, hrow, ht, hrl, simprocAttr]; with_reducible rfl)))); done)))
      exact ⟨r.length - (j + 1), _, by omega, Norm.headS (own := []) (keep := [41, 1, 2, 3, 7, 9, 12, 13, 14, 21, 22, 23]) (by refine ⟨?_, ?_⟩; (simp (discharger := omega) only [go_sem, simprocAttr]; with_reducible rfl); refine ⟨?_, ?_, ?_, ?_⟩ <;> (simp only [go_sem, simprocAttr]; with_reducible rfl)), j + 1, _, rfl, rfl, by omega, hos3.symm⟩
    · obtain rfl : j = r.length := by omega
      rw [List.take_length, ← hos2] at hos'
      repeat' (first | (with_reducible first | apply w1 | apply w2 | apply w3 | apply w4 | apply w5 | apply w6 | apply w7 | apply w8 | apply w9 | apply wa | apply wb | apply wc) | ((with_reducible apply wd); focus decide) | ((with_reducible apply we); focus exact rfl) | ((with_reducible apply wf); focus exact rfl) | ((first | (with_reducible apply SW_run tt_ok hG htb) | ((with_reducible apply SW_draw rfl tt_ok hG htb); (focus kernel_rfl); focus simp only [List.range, List.range.loop, List.size_toArray, List.length_cons, List.length_nil, Nat.reduceAdd])); focus ((repeat' (first | (with_reducible first | exact wg | exact wh) | ((with_reducible first | apply wi | apply wj); focus (simp (discharger := omega) only [go_sem, simprocAttr]; with_reducible rfl)))); done)))
      exact ⟨s.length - (i + 1), _, by omega, Norm.headS (own := []) (keep := [41, 1, 2, 3, 7, 12, 13, 14]) (by refine ⟨?_, ?_⟩; (simp (discharger := omega) only [go_sem, simprocAttr]; with_reducible rfl); refine ⟨?_, ?_, ?_, ?_⟩ <;> (simp only [go_sem, simprocAttr]; with_reducible rfl)), i + 1, _, rfl, rfl, by omega, hos'⟩
  · obtain rfl : i = s.length := by omega
    rw [List.take_length] at hos
    rw [← hos]
    repeat' (first | (with_reducible first | apply w1 | apply w2 | apply w3 | apply w4 | apply w5 | apply w6 | apply w7 | apply w8 | apply w9 | apply wa | apply wb | apply wc) | ((with_reducible apply wd); focus decide) | ((with_reducible apply we); focus exact rfl) | ((with_reducible apply wf); focus exact rfl) | ((first | (with_reducible apply SW_run tt_ok hG htb) | ((with_reducible apply SW_draw rfl tt_ok hG htb); (focus kernel_rfl); focus simp only [List.range, List.range.loop, List.size_toArray, List.length_cons, List.length_nil, Nat.reduceAdd])); focus ((repeat' (first | (with_reducible first | exact wg | exact wh) | ((with_reducible first | apply wi | apply wj); focus (simp (discharger := omega) only [go_sem, simprocAttr]; with_reducible rfl)))); done)))
    refine SPostG_norm (Norm.headS (own := []) (keep := [41, 6]) (by refine ⟨?_, ?_⟩; (simp (discharger := omega) only [go_sem, simprocAttr]; with_reducible rfl); refine ⟨?_, ?_, ?_, ?_⟩ <;> (simp only [go_sem, simprocAttr]; with_reducible rfl))) ?_
    exact SPostG_r (Norm.refl _) rfl rfl (fun i hi => by simp only [List.mem_singleton] at hi; subst hi; rfl)
end
end Go.Proofs.Ythcclcbliedodaa
namespace Go.Proofs.Ythcclcbliedodaa
open Go.RowKit

def tPair (p : Int × Int) : T := .agg [.int .i64 p.1, .int .i64 p.2]
def pairEntries (l : List (Int × Int)) : List (T × T) := l.zipIdx.map fun p => (tPair p.1, tNat p.2)
theorem tPair_inj {p q : Int × Int} (h : tPair p = tPair q) : p = q := by
  simp only [tPair, T.agg.injEq, List.cons.injEq, T.int.injEq, true_and, and_true] at h
  exact Prod.ext h.1 h.2
theorem pairEntries_length (l : List (Int × Int)) : (pairEntries l).length = l.length := by simp [pairEntries]
theorem pairEntries_mem {l : List (Int × Int)} {p : T × T} (h : p ∈ pairEntries l) : ∃ r ∈ l, p.1 = tPair r := by
  obtain ⟨q, hq, rfl⟩ := List.mem_map.1 h
  have := (List.mem_zipIdx_iff_getElem?.1 (show (q.1, q.2) ∈ l.zipIdx from hq))
  exact ⟨q.1, List.mem_of_getElem? this, rfl⟩
theorem pairEntries_none {l : List (Int × Int)} {s : Int × Int} (h : s ∉ l) : ∀ p ∈ pairEntries l, p.1 ≠ tPair s := fun p hp e => by
  obtain ⟨r, hr, e2⟩ := pairEntries_mem hp
  rw [e2] at e
  exact h (tPair_inj e ▸ hr)
theorem pairEntries_get_none {l : List (Int × Int)} {s : Int × Int} (h : s ∉ l) : mapGet (pairEntries l) (tPair s) = none := mapGet_none (pairEntries_none h)
theorem pairEntries_set {l : List (Int × Int)} {s : Int × Int} (h : s ∉ l) : mapSet (pairEntries l) (tPair s) (tNat l.length) = pairEntries (l ++ [s]) := by
  rw [mapSet_none (pairEntries_none h)]; simp [pairEntries, List.zipIdx_append]
theorem pairEntries_get_some {l : List (Int × Int)} {s : Int × Int} {k : Nat} (hd : l.Nodup) (hk : l[k]? = some s) : mapGet (pairEntries l) (tPair s) = some (tNat k) := by
  refine mapGet_some (j := k) (p := (tPair s, tNat k)) ?_ ?_ rfl
  · rw [List.pairwise_iff_getElem]
    intro i j hi hj hij e
    simp only [pairEntries, List.getElem_map, List.getElem_zipIdx] at e
    rw [pairEntries_length] at hi hj
    have := nodup_inj hd hi hj (tPair_inj e)
    omega
  · simp [pairEntries, List.getElem?_map, List.getElem?_zipIdx, hk]
/-- What Both hands back, and what is wrong. -/
noncomputable def bothErr (a b : GAuto) (how : Int) : Int := if how < 0 ∨ 15 < how then 1 else if alikeErr a b ≠ 0 then alikeErr a b else if 80 < (bothRE a b how).1.length then 3 else 0
noncomputable def bothOf (a b : GAuto) (how : Int) : GAuto := if bothErr a b how = 0 then ⟨a.base, a.tracks, (bothRE a b how).1, (bothRE a b how).2⟩ else GAuto.zero
theorem tk_prog {how : Int} (h0 : 0 ≤ how) (h15 : how ≤ 15) (x y : Bool) : (decide (IntKind.i64.wrap ((BitVec.ofInt IntKind.i64.bits (how.fdiv (2 ^ min ((if x then (1 : Int) else 0) + (if y then 2 else 0)).toNat IntKind.i64.bits)) &&& BitVec.ofInt IntKind.i64.bits 1).toNat : Int) = 1)) = tk how x y := by
  have : how = 0 ∨ how = 1 ∨ how = 2 ∨ how = 3 ∨ how = 4 ∨ how = 5 ∨ how = 6 ∨ how = 7 ∨ how = 8 ∨ how = 9 ∨ how = 10 ∨ how = 11 ∨ how = 12 ∨ how = 13 ∨ how = 14 ∨ how = 15 := by omega
  rcases this with rfl | rfl | rfl | rfl | rfl | rfl | rfl | rfl | rfl | rfl | rfl | rfl | rfl | rfl | rfl | rfl <;> cases x <;> cases y <;> decide
section
variable {G : World → Prop} (hG : Lasting G)
include hG
set_option maxHeartbeats 4000000 in
set_option maxRecDepth 100000 in
theorem Both_good (a b : GAuto) (how : Int) {n ma mb : Nat} (ga : Good a n ma) (gb : Good b n mb) (hbt : b.base = a.base ∧ b.tracks = a.tracks) (h0 : 0 ≤ how) (h15 : how ≤ 15) (hal : alikeErr a b = 0) :
    Snd Try.prog G 23 [tAuto a, tAuto b, tInt how] (.tup [tAuto (bothOf a b how), tErr (bothErr a b how)]) := by
  have hAl := Alike_snd (G := G) hG a b
  rw [hal] at hAl
  have htb := Tab.cons hAl Tab.nil
  have hla := ga.rows.len
  have hlb := gb.rows.len
  have ha80 := ga.m80
  have hb80 := gb.m80
  have hn36 := ga.n36
  have hmm : ma * mb ≤ 6400 := Nat.mul_le_mul ha80 hb80
  refine snd_of_body (n := 149) (tm := [(0, .t (tAuto a)), (1, .t (tAuto b)), (2, .t (tInt how))]) (rs := [.cell 6 25, .tmp 7]) tt_ok Try.func23 rfl rfl rfl rfl rfl ?_
  repeat' (first | (with_reducible first | apply w1 | apply w2 | apply w3 | apply w4 | apply w5 | apply w6 | apply w7 | apply w8 | apply w9 | apply wa | apply wb | apply wc) | ((with_reducible apply wd); focus decide) | ((with_reducible apply we); focus exact rfl) | ((with_reducible apply wf); focus exact rfl) | ((first | (with_reducible apply SW_run tt_ok hG htb) | ((with_reducible apply SW_draw rfl tt_ok hG htb); (focus kernel_rfl); focus simp only [List.range, List.range.loop, List.size_toArray, List.length_cons, List.length_nil, Nat.reduceAdd])); focus ((repeat' (first | (with_reducible first | exact wg | exact wh) | ((with_reducible first | apply wi | apply wj); focus (simp (discharger := omega) only [go_sem, tAuto, tErr, simprocAttr]; with_reducible rfl)))); done)))
  refine SW_loop (fun k s => ∃ (i : Nat) (met : List (Int × Int)) (rows : List (List Int)) (es : List (T × T)) (at_ nt et : List T), k = ma * mb - i ∧ s = ⟨149, [(2, .t (tInt how)), (3, .bptr 0 0), (4, .bptr 1 0), (6, .bptr 2 0), (9, .map 3), (10, .sref 4), (11, .sref 5), (12, .sref 6), (13, .t (tNat i))], [.box [.t (tInt a.base), .t (tInt a.tracks), .t (tIntss a.next), .t (tBools a.ends)], .box [.t (tInt b.base), .t (tInt b.tracks), .t (tIntss b.next), .t (tBools b.ends)], .box [.t (tInt 0), .t (tInt 0), .nil, .nil], .map (.ints 2) es, .row 76 2 false at_, .row 26 1 false nt, .row 4 1 false et]⟩ ∧
      es = pairEntries met ∧ at_ = met.map tPair ∧ nt = rows.map tInts ∧ et = (met.take i).map (fun p => T.bool (pend a b how p)) ∧ met.Nodup ∧ (∀ p ∈ met, (0 ≤ p.1 ∧ p.1 < (ma : Int)) ∧ 0 ≤ p.2 ∧ p.2 < (mb : Int)) ∧ met[0]? = some (0, 0) ∧ Expl (pst a b) n met rows ∧ rows.length = i ∧ i ≤ met.length) (ma * mb)
    ⟨_, Norm.headS (own := [(10, 76, 2, false), (11, 26, 1, false), (12, 4, 1, false)]) (keep := [2, 3, 4, 6, 9, 10, 11, 12, 13]) (by refine ⟨?_, ?_⟩; (simp (discharger := omega) only [go_sem, simprocAttr]; with_reducible rfl); refine ⟨?_, ?_, ?_, ?_⟩ <;> (simp only [go_sem, simprocAttr]; with_reducible rfl)), 0, [(0, 0)], [], _, _, _, _, rfl, rfl, rfl, rfl, rfl, rfl, by simp, fun p hp => by
      simp at hp; subst hp
      have h1 := ga.m0; have h2 := gb.m0
      simp only; omega, rfl, Expl.nil, rfl, by simp⟩ ?_
  rintro k s ⟨i, met, rows, es, at_, nt, et, rfl, rfl, hes, rfl, rfl, rfl, hnd, hrg, hz, hex, hrl, hi⟩
  have hml := pairs_bound hnd hrg
  have hetl : ((met.take i).map (fun p => T.bool (pend a b how p))).length = i := by simp; omega
  by_cases hlt : i < met.length
  · obtain ⟨⟨x, y⟩, hat⟩ : ∃ p, met[i]! = p := ⟨_, rfl⟩
    have hio : met[i]? = some (x, y) := by rw [← hat, getElem!_pos met i hlt]; exact List.getElem?_eq_getElem hlt
    obtain ⟨⟨x0, xm⟩, y0, ym⟩ := hrg _ (List.mem_of_getElem? hio)
    simp only at x0 xm y0 ym
    obtain ⟨ra, hra⟩ : ∃ r, a.next[x.toNat]! = r := ⟨_, rfl⟩
    obtain ⟨rb, hrb⟩ : ∃ r, b.next[y.toNat]! = r := ⟨_, rfl⟩
    have hxl : x.toNat < a.next.length := by omega
    have hyl : y.toNat < b.next.length := by omega
    have hra2 : rowOf a.next x = ra := by unfold rowOf; rw [getD_lt hxl, ← hra, getElem!_pos a.next _ hxl]
    have hrb2 : rowOf b.next y = rb := by unfold rowOf; rw [getD_lt hyl, ← hrb, getElem!_pos b.next _ hyl]
    have hram : ra ∈ a.next := by rw [← hra, getElem!_pos a.next _ hxl]; exact List.getElem_mem hxl
    have hrbm : rb ∈ b.next := by rw [← hrb, getElem!_pos b.next _ hyl]; exact List.getElem_mem hyl
    have hran := ga.rows.row _ hram
    have hrbn := gb.rows.row _ hrbm
    repeat' (first | (with_reducible first | apply w1 | apply w2 | apply w3 | apply w4 | apply w5 | apply w6 | apply w7 | apply w8 | apply w9 | apply wa | apply wb | apply wc) | ((with_reducible apply wd); focus decide) | ((with_reducible apply we); focus exact rfl) | ((with_reducible apply wf); focus exact rfl) | ((first | (with_reducible apply SW_run tt_ok hG htb) | ((with_reducible apply SW_draw rfl tt_ok hG htb); (focus kernel_rfl); focus simp only [List.range, List.range.loop, List.size_toArray, List.length_cons, List.length_nil, Nat.reduceAdd])); focus ((repeat' (first | (with_reducible first | exact wg | exact wh) | ((with_reducible first | apply wi | apply wj); focus (simp (discharger := omega) only [go_sem, tPair, hat, hra, simprocAttr]; with_reducible rfl)))); done)))
    generalize hetE : (met.take i).map (fun p => T.bool (pend a b how p)) = et at hetl
    refine SW_loop (fun k s => ∃ (l : Nat) (met' : List (Int × Int)) (q : List Nat) (es : List (T × T)) (at_ qt : List T), k = n - l ∧ s = ⟨149, [(2, .t (tInt how)), (3, .bptr 0 0), (4, .bptr 1 0), (6, .bptr 2 0), (9, .map 3), (10, .sref 4), (11, .sref 5), (12, .sref 6), (13, .t (tNat i)), (14, .t (tInt x)), (15, .t (tInt y)), (16, .sref 7), (65, .t (tNat ra.length)), (66, .t (tNat l))], [.box [.t (tInt a.base), .t (tInt a.tracks), .t (tIntss a.next), .t (tBools a.ends)], .box [.t (tInt b.base), .t (tInt b.tracks), .t (tIntss b.next), .t (tBools b.ends)], .box [.t (tInt 0), .t (tInt 0), .nil, .nil], .map (.ints 2) es, .row 76 2 false at_, .row 26 1 false (rows.map tInts), .row 4 1 false et, .row 3 1 false qt]⟩ ∧
        es = pairEntries met' ∧ at_ = met'.map tPair ∧ qt = q.map tNat ∧ met'.Nodup ∧ (∀ p ∈ met', (0 ≤ p.1 ∧ p.1 < (ma : Int)) ∧ 0 ≤ p.2 ∧ p.2 < (mb : Int)) ∧ met <+: met' ∧ q.length = l ∧ l ≤ n ∧ ∀ j, j < l → ∃ k, q[j]? = some k ∧ met'[k]? = some (pst a b (x, y) j)) n
      ⟨_, Norm.headS (own := [(10, 76, 2, false), (11, 26, 1, false), (12, 4, 1, false), (16, 3, 1, false)]) (keep := [2, 3, 4, 6, 9, 10, 11, 12, 13, 14, 15, 16, 65, 66]) (by refine ⟨?_, ?_⟩; (simp (discharger := omega) only [go_sem, simprocAttr]; with_reducible rfl); refine ⟨?_, ?_, ?_, ?_⟩ <;> (simp only [go_sem, simprocAttr]; with_reducible rfl)), 0, met, [], _, _, _, rfl, rfl, hes, rfl, rfl, hnd, hrg, List.prefix_refl _, rfl, Nat.zero_le _, fun j hj => by omega⟩ ?_
    clear hes
    rintro k s ⟨l, met', q, es, at_, qt, rfl, rfl, hes, rfl, rfl, hnd', hrg', hpre, hql, hl, hA⟩
    have hml' := pairs_bound hnd' hrg'
    have hel : es.length = met'.length := by rw [hes, pairEntries_length]
    by_cases hlt2 : l < n
    · obtain ⟨u, hul⟩ : ∃ u, ra[l]! = u := ⟨_, rfl⟩
      obtain ⟨v, hvl⟩ : ∃ v, rb[l]! = v := ⟨_, rfl⟩
      have hul2 : ra[l]? = some u := by rw [← hul, getElem!_pos ra l (by omega)]; exact List.getElem?_eq_getElem (by omega)
      have hvl2 : rb[l]? = some v := by rw [← hvl, getElem!_pos rb l (by omega)]; exact List.getElem?_eq_getElem (by omega)
      have hu : 0 ≤ u ∧ u < (ma : Int) := ga.rows.ok _ hram _ (List.mem_of_getElem? hul2)
      have hv : 0 ≤ v ∧ v < (mb : Int) := gb.rows.ok _ hrbm _ (List.mem_of_getElem? hvl2)
      have hps : pst a b (x, y) l = (u, v) := by
        simp only [pst, nx, hra2, hrb2, List.getD_eq_getElem?_getD, hul2, hvl2, Option.getD_some]
      by_cases hx : (u, v) ∈ met'
      · obtain ⟨k, hk⟩ := List.mem_iff_getElem?.1 hx
        have hget : mapGet es (.agg [.int .i64 u, .int .i64 v]) = some (tNat k) := by rw [hes]; exact pairEntries_get_some hnd' hk
        repeat' (first | (with_reducible first | apply w1 | apply w2 | apply w3 | apply w4 | apply w5 | apply w6 | apply w7 | apply w8 | apply w9 | apply wa | apply wb | apply wc) | ((with_reducible apply wd); focus decide) | ((with_reducible apply we); focus exact rfl) | ((with_reducible apply wf); focus exact rfl) | ((first | (with_reducible apply SW_run tt_ok hG htb) | ((with_reducible apply SW_draw rfl tt_ok hG htb); (focus kernel_rfl); focus simp only [List.range, List.range.loop, List.size_toArray, List.length_cons, List.length_nil, Nat.reduceAdd])); focus ((repeat' (first | (with_reducible first | exact wg | exact wh) | ((with_reducible first | apply wi | apply wj); focus (simp (discharger := omega) only [go_sem, hra, hrb, hul, hvl, hget, simprocAttr]; with_reducible rfl)))); done)))
        exact ⟨n - (l + 1), _, by omega, Norm.headS (own := [(10, 76, 2, false), (11, 26, 1, false), (12, 4, 1, false), (16, 3, 1, false)]) (keep := [2, 3, 4, 6, 9, 10, 11, 12, 13, 14, 15, 16, 65, 66]) (by refine ⟨?_, ?_⟩; (simp (discharger := omega) only [go_sem, simprocAttr]; with_reducible rfl); refine ⟨?_, ?_, ?_, ?_⟩ <;> (simp only [go_sem, simprocAttr]; with_reducible rfl)), l + 1, met', q ++ [k], _, _, _, rfl, rfl, hes, rfl, by rw [List.map_append]; rfl, hnd', hrg', hpre, by simp [hql], by omega, fun j hj => by
          by_cases e : j = l
          · subst e; exact ⟨k, by rw [List.getElem?_append_right (by omega), hql, Nat.sub_self]; rfl, by rw [hps]; exact hk⟩
          · obtain ⟨k', h1, h2⟩ := hA j (by omega)
            exact ⟨k', by rw [List.getElem?_append_left (by omega)]; exact h1, h2⟩⟩
      · have hget : mapGet es (.agg [.int .i64 u, .int .i64 v]) = none := by rw [hes]; exact pairEntries_get_none hx
        have hset : mapSet es (.agg [.int .i64 u, .int .i64 v]) (.int .i64 (met'.length : Int)) = pairEntries (met' ++ [(u, v)]) := by rw [hes]; exact pairEntries_set hx
        have hset2 := hset
        repeat' (first | (with_reducible first | apply w1 | apply w2 | apply w3 | apply w4 | apply w5 | apply w6 | apply w7 | apply w8 | apply w9 | apply wa | apply wb | apply wc) | ((with_reducible apply wd); focus decide) | ((with_reducible apply we); focus exact rfl) | ((with_reducible apply wf); focus exact rfl) | ((first | (with_reducible apply SW_run tt_ok hG htb) | ((with_reducible apply SW_draw rfl tt_ok hG htb); (focus kernel_rfl); focus simp only [List.range, List.range.loop, List.size_toArray, List.length_cons, List.length_nil, Nat.reduceAdd])); focus ((repeat' (first | (with_reducible first | exact wg | exact wh) | ((with_reducible first | apply wi | apply wj); focus (simp (discharger := omega) only [go_sem, hra, hrb, hul, hvl, hget, simprocAttr]; with_reducible rfl)))); done)))
        exact ⟨n - (l + 1), _, by omega, Norm.headS (own := [(10, 76, 2, false), (11, 26, 1, false), (12, 4, 1, false), (16, 3, 1, false)]) (keep := [2, 3, 4, 6, 9, 10, 11, 12, 13, 14, 15, 16, 65, 66]) (by refine ⟨?_, ?_⟩; (simp (discharger := omega) only [go_sem, simprocAttr]; with_reducible rfl); refine ⟨?_, ?_, ?_, ?_⟩ <;> (simp only [go_sem, simprocAttr]; with_reducible rfl)), l + 1, met' ++ [(u, v)], q ++ [met'.length], _, _, _, rfl, rfl, hset, by rw [List.map_append]; rfl, by rw [List.map_append]; simp [tNat, hel], by
          rw [List.nodup_append]
          exact ⟨hnd', by simp, fun c hc d hd => by simp at hd; subst hd; rintro rfl; exact hx hc⟩, fun p hp => by
          rcases List.mem_append.1 hp with h | h
          · exact hrg' p h
          · simp at h; subst h; exact ⟨hu, hv⟩, hpre.trans (List.prefix_append _ _), by simp [hql], by omega, fun j hj => by
          by_cases e : j = l
          · subst e; exact ⟨met'.length, by rw [List.getElem?_append_right (by omega), hql, Nat.sub_self]; rfl, by rw [hps]; simp⟩
          · obtain ⟨k', h1, h2⟩ := hA j (by omega)
            exact ⟨k', by rw [List.getElem?_append_left (by omega)]; exact h1, by rw [List.getElem?_append_left (List.getElem?_eq_some_iff.1 h2).1]; exact h2⟩⟩
    · obtain rfl : l = n := by omega
      have hea : a.ends[x.toNat]! = endOf a.ends x := by have := ga.ends; unfold endOf; rw [getD_lt (by omega), getElem!_pos a.ends _ (by omega)]
      have heb : b.ends[y.toNat]! = endOf b.ends y := by have := gb.ends; unfold endOf; rw [getD_lt (by omega), getElem!_pos b.ends _ (by omega)]
      have hae := ga.ends
      have hbe := gb.ends
      have hio' := pre_get hpre hio
      have hlt' := (List.getElem?_eq_some_iff.1 hio').1
      have htk : met'.take (i + 1) = met.take i ++ [(x, y)] := by
        rw [List.take_succ_eq_append_getElem hlt']
        rw [List.getElem?_eq_getElem hlt'] at hio'
        rw [Option.some.inj hio']
        obtain ⟨t, rfl⟩ := hpre
        rw [List.take_append_of_le_length (by omega)]
      have hnt : rows.map tInts ++ [T.list (q.map tNat)] = (rows ++ [q.map fun (k : Nat) => (k : Int)]).map tInts := by simp [tInts, tNat, tInt]
      have hex2 : Expl (pst a b) l met' (rows ++ [q.map fun (k : Nat) => (k : Int)]) := (hex.grow hpre).snoc (by simpa using hql) (s := (x, y)) (by rw [hrl]; exact pre_get hpre hio) fun j hj => by
        obtain ⟨k, h1, h2⟩ := hA j hj
        exact ⟨k, by rw [List.getElem?_map, h1]; rfl, h2⟩
      have hfin : ∀ v, v = tk how (endOf a.ends x) (endOf b.ends y) → et ++ [T.bool v] = (met'.take (i + 1)).map (fun p => T.bool (pend a b how p)) := fun v hv => by
        rw [htk, List.map_append, hetE, hv]; rfl
      cases ea : endOf a.ends x <;> cases eb : endOf b.ends y <;> rw [ea] at hea hfin <;> rw [eb] at heb hfin
      · repeat' (first | (with_reducible first | apply w1 | apply w2 | apply w3 | apply w4 | apply w5 | apply w6 | apply w7 | apply w8 | apply w9 | apply wa | apply wb | apply wc) | ((with_reducible apply wd); focus decide) | ((with_reducible apply we); focus exact rfl) | ((with_reducible apply wf); focus exact rfl) | ((first | (with_reducible apply SW_run tt_ok hG htb) | ((with_reducible apply SW_draw rfl tt_ok hG htb); (focus kernel_rfl); focus simp only [List.range, List.range.loop, List.size_toArray, List.length_cons, List.length_nil, Nat.reduceAdd])); focus ((repeat' (first | (with_reducible first | exact wg | exact wh) | ((with_reducible first | apply wi | apply wj); focus (simp (discharger := omega) only [go_sem, hea, heb, simprocAttr]; with_reducible rfl)))); done)))
        exact ⟨ma * mb - (i + 1), _, by omega, Norm.headS (own := [(10, 76, 2, false), (11, 26, 1, false), (12, 4, 1, false)]) (keep := [2, 3, 4, 6, 9, 10, 11, 12, 13]) (by refine ⟨?_, ?_⟩; (simp (discharger := omega) only [go_sem, simprocAttr]; with_reducible rfl); refine ⟨?_, ?_, ?_, ?_⟩ <;> (simp only [go_sem, simprocAttr]; with_reducible rfl)), i + 1, met', rows ++ [q.map fun (k : Nat) => (k : Int)], _, _, _, _, rfl, rfl, hes, rfl, hnt, hfin _ (tk_prog h0 h15 _ _), hnd', hrg', pre_get hpre hz, hex2, by simp [hrl], by omega⟩
      · repeat' (first | (with_reducible first | apply w1 | apply w2 | apply w3 | apply w4 | apply w5 | apply w6 | apply w7 | apply w8 | apply w9 | apply wa | apply wb | apply wc) | ((with_reducible apply wd); focus decide) | ((with_reducible apply we); focus exact rfl) | ((with_reducible apply wf); focus exact rfl) | ((first | (with_reducible apply SW_run tt_ok hG htb) | ((with_reducible apply SW_draw rfl tt_ok hG htb); (focus kernel_rfl); focus simp only [List.range, List.range.loop, List.size_toArray, List.length_cons, List.length_nil, Nat.reduceAdd])); focus ((repeat' (first | (with_reducible first | exact wg | exact wh) | ((with_reducible first | apply wi | apply wj); focus (simp (discharger := omega) only [go_sem, hea, heb, simprocAttr]; with_reducible rfl)))); done)))
        exact ⟨ma * mb - (i + 1), _, by omega, Norm.headS (own := [(10, 76, 2, false), (11, 26, 1, false), (12, 4, 1, false)]) (keep := [2, 3, 4, 6, 9, 10, 11, 12, 13]) (by refine ⟨?_, ?_⟩; (simp (discharger := omega) only [go_sem, simprocAttr]; with_reducible rfl); refine ⟨?_, ?_, ?_, ?_⟩ <;> (simp only [go_sem, simprocAttr]; with_reducible rfl)), i + 1, met', rows ++ [q.map fun (k : Nat) => (k : Int)], _, _, _, _, rfl, rfl, hes, rfl, hnt, hfin _ (tk_prog h0 h15 _ _), hnd', hrg', pre_get hpre hz, hex2, by simp [hrl], by omega⟩
      · repeat' (first | (with_reducible first | apply w1 | apply w2 | apply w3 | apply w4 | apply w5 | apply w6 | apply w7 | apply w8 | apply w9 | apply wa | apply wb | apply wc) | ((with_reducible apply wd); focus decide) | ((with_reducible apply we); focus exact rfl) | ((with_reducible apply wf); focus exact rfl) | ((first | (with_reducible apply SW_run tt_ok hG htb) | ((with_reducible apply SW_draw rfl tt_ok hG htb); (focus kernel_rfl); focus simp only [List.range, List.range.loop, List.size_toArray, List.length_cons, List.length_nil, Nat.reduceAdd])); focus ((repeat' (first | (with_reducible first | exact wg | exact wh) | ((with_reducible first | apply wi | apply wj); focus (simp (discharger := omega) only [go_sem, hea, heb, simprocAttr]; with_reducible rfl)))); done)))
        exact ⟨ma * mb - (i + 1), _, by omega, Norm.headS (own := [(10, 76, 2, false), (11, 26, 1, false), (12, 4, 1, false)]) (keep := [2, 3, 4, 6, 9, 10, 11, 12, 13]) (by refine ⟨?_, ?_⟩; (simp (discharger := omega) only [go_sem, simprocAttr]; with_reducible rfl); refine ⟨?_, ?_, ?_, ?_⟩ <;> (simp only [go_sem, simprocAttr]; with_reducible rfl)), i + 1, met', rows ++ [q.map fun (k : Nat) => (k : Int)], _, _, _, _, rfl, rfl, hes, rfl, hnt, hfin _ (tk_prog h0 h15 _ _), hnd', hrg', pre_get hpre hz, hex2, by simp [hrl], by omega⟩
      · repeat' (first | (with_reducible first | apply w1 | apply w2 | apply w3 | apply w4 | apply w5 | apply w6 | apply w7 | apply w8 | apply w9 | apply wa | apply wb | apply wc) | ((with_reducible apply wd); focus decide) | ((with_reducible apply we); focus exact rfl) | ((with_reducible apply wf); focus exact rfl) | ((first | (with_reducible apply SW_run tt_ok hG htb) | ((with_reducible apply SW_draw rfl tt_ok hG htb); (focus kernel_rfl); focus simp only [List.range, List.range.loop, List.size_toArray, List.length_cons, List.length_nil, Nat.reduceAdd])); focus ((repeat' (first | (with_reducible first | exact wg | exact wh) | ((with_reducible first | apply wi | apply wj); focus (simp (discharger := omega) only [go_sem, hea, heb, simprocAttr]; with_reducible rfl)))); done)))
        exact ⟨ma * mb - (i + 1), _, by omega, Norm.headS (own := [(10, 76, 2, false), (11, 26, 1, false), (12, 4, 1, false)]) (keep := [2, 3, 4, 6, 9, 10, 11, 12, 13]) (by refine ⟨?_, ?_⟩; (simp (discharger := omega) only [go_sem, simprocAttr]; with_reducible rfl); refine ⟨?_, ?_, ?_, ?_⟩ <;> (simp only [go_sem, simprocAttr]; with_reducible rfl)), i + 1, met', rows ++ [q.map fun (k : Nat) => (k : Int)], _, _, _, _, rfl, rfl, hes, rfl, hnt, hfin _ (tk_prog h0 h15 _ _), hnd', hrg', pre_get hpre hz, hex2, by simp [hrl], by omega⟩
  · have hie : i = met.length := by omega
    have hsE : (met.take i).map (fun p => T.bool (pend a b how p)) = (met.map (pend a b how)).map T.bool := by rw [hie, List.take_length, List.map_map]; rfl
    rw [hsE]
    have hRm : rows.length = met.length := by omega
    have hR := hex.table hRm
    have hm0 : 0 < met.length := (List.getElem?_eq_some_iff.1 hz).1
    have hre := both_expl (how := how) (ends := met.map (pend a b how)) ga.rows gb.rows ga.m0 gb.m0 hex hRm hz fun i s h => by rw [List.getElem?_map, h]; rfl
    have hlet : (letters a).toNat = n := by rw [ga.letters]; rfl
    have hS := Shrink_snd (G := G) (ends := met.map (pend a b how)) hG a.base a.tracks hR hm0 (by omega) (by simp) (by omega)
    have hT : shrinkT a.base a.tracks n rows (met.map (pend a b how)) = if (bothRE a b how).1.length ≤ 80 then .tup [tAuto ⟨a.base, a.tracks, (bothRE a b how).1, (bothRE a b how).2⟩, .bool true] else .tup [tAuto GAuto.zero, .bool false] := by
      unfold shrinkT bothRE; rw [hre, hlet]
    rw [hT] at hS
    unfold bothOf bothErr
    rw [if_neg (show ¬ (how < 0 ∨ 15 < how) by omega), hal, if_neg (show ¬ ((0 : Int) ≠ 0) by simp)]
    generalize bothRE a b how = re at hS
    clear htb
    by_cases h80 : re.1.length ≤ 80
    · rw [if_pos h80] at hS
      rw [if_neg (show ¬ 80 < re.1.length by omega), if_pos rfl]
      generalize hrA : (⟨a.base, a.tracks, re.1, re.2⟩ : GAuto) = c at hS
      have htb := Tab.cons hS Tab.nil
      refine SW_norm (Norm.frz 11 rfl rfl) ?_
      refine SW_norm (Norm.frz 12 rfl rfl) ?_
      repeat' (first | (with_reducible first | apply w1 | apply w2 | apply w3 | apply w4 | apply w5 | apply w6 | apply w7 | apply w8 | apply w9 | apply wa | apply wb | apply wc) | ((with_reducible apply wd); focus decide) | ((with_reducible apply we); focus exact rfl) | ((with_reducible apply wf); focus exact rfl) | ((first | (with_reducible apply SW_run tt_ok hG htb) | ((with_reducible apply SW_draw rfl tt_ok hG htb); (focus kernel_rfl); focus simp only [List.range, List.range.loop, List.size_toArray, List.length_cons, List.length_nil, Nat.reduceAdd])); focus ((repeat' (first | (with_reducible first | exact wg | exact wh) | ((with_reducible first | apply wi | apply wj); focus (simp (discharger := omega) only [go_sem, tAuto, tErr, simprocAttr]; with_reducible rfl)))); done)))
      exact (by simp (discharger := omega) only [go_sem, tAuto, tErr, simprocAttr])
    · rw [if_neg h80] at hS
      rw [if_pos (show 80 < re.1.length by omega), if_neg (by decide)]
      have htb := Tab.cons hS Tab.nil
      refine SW_norm (Norm.frz 11 rfl rfl) ?_
      refine SW_norm (Norm.frz 12 rfl rfl) ?_
      repeat' (first | (with_reducible first | apply w1 | apply w2 | apply w3 | apply w4 | apply w5 | apply w6 | apply w7 | apply w8 | apply w9 | apply wa | apply wb | apply wc) | ((with_reducible apply wd); focus decide) | ((with_reducible apply we); focus exact rfl) | ((with_reducible apply wf); focus exact rfl) | ((first | (with_reducible apply SW_run tt_ok hG htb) | ((with_reducible apply SW_draw rfl tt_ok hG htb); (focus kernel_rfl); focus simp only [List.range, List.range.loop, List.size_toArray, List.length_cons, List.length_nil, Nat.reduceAdd])); focus ((repeat' (first | (with_reducible first | exact wg | exact wh) | ((with_reducible first | apply wi | apply wj); focus (simp (discharger := omega) only [go_sem, tAuto, tErr, GAuto.zero, simprocAttr]; with_reducible rfl)))); done)))
      exact (by simp (discharger := omega) only [go_sem, tAuto, tErr, GAuto.zero, simprocAttr])
end
end Go.Proofs.Ythcclcbliedodaa
namespace Go.Proofs.Ythcclcbliedodaa
open Go.RowKit

theorem alike_zero {a b : GAuto} (h : alikeErr a b = 0) : autoFault a = 0 ∧ autoFault b = 0 ∧ a.base = b.base ∧ a.tracks = b.tracks := by
  unfold alikeErr at h
  split at h
  · omega
  · split at h
    · omega
    · split at h
      · omega
      · rename_i h1 h2 h3
        simp only [ne_eq, not_or, Classical.not_not] at h1 h2 h3
        exact ⟨h1, h2, h3.1, h3.2⟩
theorem alike_good {a b : GAuto} (h : alikeErr a b = 0) : ∃ n ma mb, Good a n ma ∧ Good b n mb ∧ b.base = a.base ∧ b.tracks = a.tracks := by
  obtain ⟨h1, h2, h3, h4⟩ := alike_zero h
  have ga := good_of h1
  have gb := good_of h2
  rw [← h3, ← h4] at gb
  exact ⟨_, _, _, ga, gb, h3.symm, h4.symm⟩
section
variable {G : World → Prop} (hG : Lasting G)
include hG
set_option maxHeartbeats 4000000 in
set_option maxRecDepth 100000 in
theorem Both_snd (a b : GAuto) (how : Int) : Snd Try.prog G 23 [tAuto a, tAuto b, tInt how] (.tup [tAuto (bothOf a b how), tErr (bothErr a b how)]) := by
  by_cases h0 : how < 0
  · have htb : Tab.ok Try.prog G [] := Tab.nil
    have he : bothErr a b how = 1 := by simp [bothErr, h0]
    have hv : bothOf a b how = GAuto.zero := by simp [bothOf, he]
    rw [he, hv]
    refine snd_of_body (n := 149) (tm := [(0, .t (tAuto a)), (1, .t (tAuto b)), (2, .t (tInt how))]) (rs := [.cell 6 25, .tmp 7]) tt_ok Try.func23 rfl rfl rfl rfl rfl ?_
    repeat' (first | (with_reducible first | apply w1 | apply w2 | apply w3 | apply w4 | apply w5 | apply w6 | apply w7 | apply w8 | apply w9 | apply wa | apply wb | apply wc) | ((with_reducible apply wd); focus decide) | ((with_reducible apply we); focus exact rfl) | ((with_reducible apply wf); focus exact rfl) | ((first | (with_reducible apply SW_run tt_ok hG htb) | ((with_reducible apply SW_draw rfl tt_ok hG htb); (focus kernel_rfl); focus simp only [List.range, List.range.loop, List.size_toArray, List.length_cons, List.length_nil, Nat.reduceAdd])); focus ((repeat' (first | (with_reducible first | exact wg | exact wh) | ((with_reducible first | apply wi | apply wj); focus (simp (discharger := omega) only [go_sem, tAuto, tErr, simprocAttr]; with_reducible rfl)))); done)))
    exact (by simp (discharger := omega) only [go_sem, tAuto, tErr, GAuto.zero, simprocAttr])
  · by_cases h1 : 15 < how
    · have htb : Tab.ok Try.prog G [] := Tab.nil
      have he : bothErr a b how = 1 := by simp [bothErr, h1]
      have hv : bothOf a b how = GAuto.zero := by simp [bothOf, he]
      rw [he, hv]
      refine snd_of_body (n := 149) (tm := [(0, .t (tAuto a)), (1, .t (tAuto b)), (2, .t (tInt how))]) (rs := [.cell 6 25, .tmp 7]) tt_ok Try.func23 rfl rfl rfl rfl rfl ?_
      repeat' (first | (with_reducible first | apply w1 | apply w2 | apply w3 | apply w4 | apply w5 | apply w6 | apply w7 | apply w8 | apply w9 | apply wa | apply wb | apply wc) | ((with_reducible apply wd); focus decide) | ((with_reducible apply we); focus exact rfl) | ((with_reducible apply wf); focus exact rfl) | ((first | (with_reducible apply SW_run tt_ok hG htb) | ((with_reducible apply SW_draw rfl tt_ok hG htb); (focus kernel_rfl); focus simp only [List.range, List.range.loop, List.size_toArray, List.length_cons, List.length_nil, Nat.reduceAdd])); focus ((repeat' (first | (with_reducible first | exact wg | exact wh) | ((with_reducible first | apply wi | apply wj); focus (simp (discharger := omega) only [go_sem, tAuto, tErr, simprocAttr]; with_reducible rfl)))); done)))
      exact (by simp (discharger := omega) only [go_sem, tAuto, tErr, GAuto.zero, simprocAttr])
    · by_cases h2 : alikeErr a b = 0
      · obtain ⟨n, ma, mb, ga, gb, hbt⟩ := alike_good h2
        exact Both_good hG a b how ga gb hbt (by omega) (by omega) h2
      · have hAl := Alike_snd (G := G) hG a b
        have he : bothErr a b how = alikeErr a b := by simp [bothErr, h0, h1, h2]
        have hv : bothOf a b how = GAuto.zero := by simp [bothOf, he, h2]
        rw [he, hv]
        generalize alikeErr a b = f at hAl h2
        have htb := Tab.cons hAl Tab.nil
        refine snd_of_body (n := 149) (tm := [(0, .t (tAuto a)), (1, .t (tAuto b)), (2, .t (tInt how))]) (rs := [.cell 6 25, .tmp 7]) tt_ok Try.func23 rfl rfl rfl rfl rfl ?_
        repeat' (first | (with_reducible first | apply w1 | apply w2 | apply w3 | apply w4 | apply w5 | apply w6 | apply w7 | apply w8 | apply w9 | apply wa | apply wb | apply wc) | ((with_reducible apply wd); focus decide) | ((with_reducible apply we); focus exact rfl) | ((with_reducible apply wf); focus exact rfl) | ((first | (with_reducible apply SW_run tt_ok hG htb) | ((with_reducible apply SW_draw rfl tt_ok hG htb); (focus kernel_rfl); focus simp only [List.range, List.range.loop, List.size_toArray, List.length_cons, List.length_nil, Nat.reduceAdd])); focus ((repeat' (first | (with_reducible first | exact wg | exact wh) | ((with_reducible first | apply wi | apply wj); focus (simp (discharger := omega) only [go_sem, tAuto, tErr, h2, simprocAttr]; with_reducible rfl)))); done)))
        exact (by simp (discharger := omega) only [go_sem, tAuto, tErr, GAuto.zero, h2, simprocAttr])
end
end Go.Proofs.Ythcclcbliedodaa
namespace Go.Proofs.Ythcclcbliedodaa

/-- The language of an automaton. -/
def lng (a : GAuto) : List Nat → Bool := lang a.next a.ends 0
/-- It is the least automaton of a language. -/
structure IsLeast (a : GAuto) (n : Nat) (base tracks : Int) (L : List Nat → Bool) : Prop where
  base : a.base = base
  tracks : a.tracks = tracks
  least : Least n a.next a.ends L
theorem IsLeast.unique {a b : GAuto} {n : Nat} {base tracks : Int} {L L' : List Nat → Bool} (h : IsLeast a n base tracks L) (h' : IsLeast b n base tracks L') (hL : ∀ w, Ltr n w → L w = L' w) : a = b := by
  have := (h.least.lang_congr hL).unique h'.least
  cases a; cases b
  simp only [GAuto.mk.injEq]
  exact ⟨h.base.trans h'.base.symm, h.tracks.trans h'.tracks.symm, this.1, this.2⟩
theorem Least.length_pos {n : Nat} {N : List (List Int)} {E : List Bool} {L : List Nat → Bool} (h : Least n N E L) : 0 < N.length := h.canon.m0
theorem IsLeast.good {a a0 : GAuto} {n m : Nat} {L : List Nat → Bool} (g : Good a0 n m) (h : IsLeast a n a0.base a0.tracks L) (h80 : a.next.length ≤ 80) : Good a n a.next.length :=
  ⟨by rw [h.base, h.tracks]; exact g.many, by rw [h.base, h.tracks]; exact g.n_eq, g.n0, g.n36, h.least.length_pos, h80, h.least.len, h.least.rows⟩
theorem leastA_isLeast {a : GAuto} {n m : Nat} (g : Good a n m) : IsLeast (leastA a) n a.base a.tracks (lng a) ∧ (leastA a).next.length ≤ m := by
  have h := leastRE_spec (ends := a.ends) g.rows g.m0
  have hn : (manyOf a.base a.tracks).toNat = n := by rw [g.n_eq]; rfl
  unfold leastA
  rw [hn]
  exact ⟨⟨rfl, rfl, h.1⟩, h.2⟩
theorem both_isLeast {a b : GAuto} {how : Int} {n ma mb : Nat} (ga : Good a n ma) (gb : Good b n mb) : Least n (bothRE a b how).1 (bothRE a b how).2 fun w => tk how (lng a w) (lng b w) := by
  have hz := prod_zero (a := a) (b := b) (by rw [ga.rows.len]; exact ga.m0) (by rw [gb.rows.len]; exact gb.m0)
  have h := leastRE_spec (ends := prodEnds a b how) ((prod_expl ga.rows gb.rows).table (prod_len a b n)) (List.getElem?_eq_some_iff.1 hz).1
  have hn : (letters a).toNat = n := by rw [ga.letters]; rfl
  unfold bothRE
  rw [hn]
  refine h.1.lang_congr fun w hw => ?_
  rw [(prod_expl ga.rows gb.rows).lang (prod_len a b n) hz (prod_ends a b how) hw, pend_run]; rfl
/-- Nothing is wrong, if the least automaton of the language is small enough. -/
theorem bothErr_zero {a b c : GAuto} {how : Int} {n ma mb : Nat} {L : List Nat → Bool} (ga : Good a n ma) (gb : Good b n mb) (e1 : b.base = a.base) (e2 : b.tracks = a.tracks) (h0 : 0 ≤ how ∧ how ≤ 15) (hc : IsLeast c n a.base a.tracks L) (h80 : c.next.length ≤ 80) (hL : ∀ w, Ltr n w → tk how (lng a w) (lng b w) = L w) : bothErr a b how = 0 ∧ bothOf a b how = c := by
  have hal : alikeErr a b = 0 := by
    unfold alikeErr
    rw [if_neg (by rw [ga.fault]; decide), if_neg (by rw [gb.fault]; decide), if_neg (by simp [e1, e2])]
  have hb := both_isLeast (how := how) ga gb
  have hu := (hb.lang_congr hL).unique hc.least
  have he : bothErr a b how = 0 := by
    unfold bothErr
    rw [if_neg (by omega), if_neg (by rw [hal]; decide), if_neg (by rw [hu.1]; omega)]
  refine ⟨he, ?_⟩
  unfold bothOf
  rw [if_pos he]
  cases c
  simp only [GAuto.mk.injEq]
  exact ⟨hc.base.symm, hc.tracks.symm, hu.1, hu.2⟩
theorem Least.not {n : Nat} {N : List (List Int)} {E : List Bool} {L : List Nat → Bool} (h : Least n N E L) : Least n N (E.map (!·)) fun w => !L w := by
  have key : ∀ k, k < N.length → (E.map (!·)).getD k false = !E.getD k false := fun k hk => by
    have := h.len
    rw [getD_lt (by simp; omega), getD_lt (by omega)]; simp
  have hrun : ∀ (w : List Nat) (s : Nat), s < N.length → Ltr n w → runN (fun k l => ((N.getD k []).getD l 0).toNat) s w < N.length := by
    intro w
    induction w with
    | nil => intro s hs _; exact hs
    | cons l w ih => intro s hs hw; exact ih _ (h.canon.lt s l hs (hw l List.mem_cons_self)) fun x hx => hw x (List.mem_cons_of_mem _ hx)
  refine ⟨by simp [h.len], h.row, h.pos, h.canon.m0, h.canon.lt, fun w hw => ?_, h.canon.rg, h.canon.reach, fun s t hs ht hh => h.canon.red s t hs ht fun w hw => ?_⟩
  · rw [key _ (hrun w 0 h.canon.m0 hw)]; exact congrArg _ (h.canon.lang w hw)
  · have := hh w hw
    rw [key _ (hrun w s hs hw), key _ (hrun w t ht hw)] at this
    simpa using this
/-- One state alone. -/
theorem least_const (n : Nat) (c : Bool) : Least n [List.replicate n 0] [c] fun _ => c := by
  have hd : ∀ s l : Nat, ((([List.replicate n (0 : Int)]).getD s []).getD l 0).toNat = 0 := fun s l => by
    match s with
    | 0 => simp [List.getD_eq_getElem?_getD, List.getElem?_replicate]; split <;> simp
    | s + 1 => simp
  have hr : ∀ w : List Nat, runN (fun k l => ((([List.replicate n (0 : Int)]).getD k []).getD l 0).toNat) 0 w = 0 := fun w => by
    induction w with
    | nil => rfl
    | cons l w ih => show runN _ ((([List.replicate n (0 : Int)]).getD 0 []).getD l 0).toNat w = 0; rw [hd]; exact ih
  refine ⟨rfl, fun r hr => by simp at hr; subst hr; simp, fun r hr x hx => by simp at hr; subst hr; simp at hx; omega, by simp, fun s l hs hl => by simp only [hd]; simp, fun w hw => by rw [hr]; rfl, fun s l hs hl t h0 ht => by simp only [hd] at ht; omega, fun t h0 ht => by simp at ht; omega, fun s t hs ht _ => by simp at hs ht; omega⟩
/-- A least automaton takes the words of its language. -/
theorem IsLeast.lng {a : GAuto} {n : Nat} {base tracks : Int} {L : List Nat → Bool} (h : IsLeast a n base tracks L) {w : List Nat} (hw : Ltr n w) : Go.Proofs.Ythcclcbliedodaa.lng a w = L w := h.least.takes hw
end Go.Proofs.Ythcclcbliedodaa
namespace Go.Proofs.Ythcclcbliedodaa

def relet (next : List (List Int)) (to : List Int) : List (List Int) := next.map fun row => to.map fun l => row.getD l.toNat 0
section
variable {n n' m : Nat} {next : List (List Int)} {to : List Int}
theorem relet_rows (h : Rows0 n m next) (ht : to.length = n') (hto : ∀ l ∈ to, 0 ≤ l ∧ l < (n : Int)) : Rows0 n' m (relet next to) := by
  refine ⟨by simp [relet, h.len], fun r hr => ?_, fun r hr x hx => ?_⟩
  · obtain ⟨row, _, rfl⟩ := List.mem_map.1 hr
    simpa using ht
  · obtain ⟨row, hrow, rfl⟩ := List.mem_map.1 hr
    obtain ⟨l, hl, rfl⟩ := List.mem_map.1 hx
    have := hto l hl
    have hlen := h.row row hrow
    rw [getD_lt (by omega)]
    exact h.ok row hrow _ (List.getElem_mem _)
theorem relet_nx (h : Rows0 n m next) (ht : to.length = n') {s : Int} (hs : 0 ≤ s ∧ s < (m : Int)) {l : Nat} (hl : l < n') : nx (relet next to) s l = nx next s (to.getD l 0).toNat := by
  have hlen := h.len
  unfold nx rowOf relet
  rw [getD_lt (show s.toNat < (next.map _).length by simp; omega), getD_lt (show s.toNat < next.length by omega)]
  simp only [List.getElem_map]
  rw [getD_lt (show l < (to.map _).length by simp; omega), getD_lt (show l < to.length by omega)]
  simp only [List.getElem_map]
theorem relet_run (h : Rows0 n m next) (ht : to.length = n') (hto : ∀ l ∈ to, 0 ≤ l ∧ l < (n : Int)) : ∀ (w : List Nat) (s : Int), (0 ≤ s ∧ s < (m : Int)) → Ltr n' w → runS (relet next to) s w = runS next s (w.map fun l => (to.getD l 0).toNat)
  | [], _, _, _ => rfl
  | l :: w, s, hs, hw => by
    have hl := hw l List.mem_cons_self
    show runS _ (nx (relet next to) s l) w = runS next (nx next s (to.getD l 0).toNat) _
    rw [relet_nx h ht hs hl]
    refine relet_run h ht hto w _ (nx_ok h hs ?_) fun x hx => hw x (List.mem_cons_of_mem _ hx)
    rw [getD_lt (by omega)]
    have := hto _ (List.getElem_mem (show l < to.length by omega))
    omega
theorem relet_lang (h : Rows0 n m next) (hm : 0 < m) (ht : to.length = n') (hto : ∀ l ∈ to, 0 ≤ l ∧ l < (n : Int)) (ends : List Bool) {w : List Nat} (hw : Ltr n' w) : lang (relet next to) ends 0 w = lang next ends 0 (w.map fun l => (to.getD l 0).toNat) := by
  unfold lang
  rw [relet_run h ht hto w 0 (by omega) hw]
end
/-- The least automaton over other letters. -/
noncomputable def reletA (a : GAuto) (t : Int) (to : List Int) : GAuto := ⟨a.base, t, (leastRE to.length (relet a.next to) a.ends).1, (leastRE to.length (relet a.next to) a.ends).2⟩
theorem reletA_isLeast {a : GAuto} {n m : Nat} (g : Good a n m) (t : Int) {to : List Int} (hto : ∀ l ∈ to, 0 ≤ l ∧ l < (n : Int)) : IsLeast (reletA a t to) to.length a.base t (fun w => lng a (w.map fun l => (to.getD l 0).toNat)) ∧ (reletA a t to).next.length ≤ m := by
  have h := leastRE_spec (ends := a.ends) (relet_rows g.rows rfl hto) g.m0
  exact ⟨⟨rfl, rfl, h.1.lang_congr fun w hw => relet_lang g.rows g.m0 rfl hto a.ends hw⟩, h.2⟩
theorem reletA_good {a : GAuto} {n m : Nat} (g : Good a n m) {t : Nat} {to : List Int} (hto : ∀ l ∈ to, 0 ≤ l ∧ l < (n : Int)) (h0 : manyErr a.base t = 0) (hn : manyOf a.base t = (to.length : Nat)) : Good (reletA a t to) to.length (reletA a t to).next.length := by
  obtain ⟨h, hm⟩ := reletA_isLeast g t hto
  obtain ⟨r0, _, _, p36, hmo⟩ := many_ok h0
  have hp := powW_pos (radix_two r0).1 (t : Int).toNat
  have := g.m80
  exact ⟨h0, hn, by omega, by omega, h.least.length_pos, by omega, h.least.len, h.least.rows⟩

/-- What a letter of the new tracks is read as. -/
def spreadL (base : Int) (t : Nat) (at' : List Int) (l : Nat) : Int := pack (radix base) (at'.map fun i => digitAt (radix base) t (l : Int) i.toNat)
def spreadTo (base : Int) (t : Nat) (at' : List Int) : List Int := (List.range (manyOf base t).toNat).map (spreadL base t at')
def spreadErr (a : GAuto) (tracks : Int) (at' : List Int) : Int :=
  if autoFault a ≠ 0 then autoFault a else if manyErr a.base tracks ≠ 0 then manyErr a.base tracks else if (at'.length : Int) ≠ a.tracks then 2 else if at'.all (fun i => decide (0 ≤ i ∧ i < tracks)) then 0 else 1
noncomputable def spreadOf (a : GAuto) (tracks : Int) (at' : List Int) : GAuto := if spreadErr a tracks at' = 0 then reletA a tracks (spreadTo a.base tracks.toNat at') else GAuto.zero
def fixD (base : Int) (t k : Nat) (x : Int) (l : Nat) : List Int := (unpack (radix base) t (l : Int)).take k ++ [x] ++ (unpack (radix base) t (l : Int)).drop k
def fixL (base : Int) (t k : Nat) (x : Int) (l : Nat) : Int := pack (radix base) (fixD base t k x l)
theorem digitAt_ok {k : Int} (hk : 2 ≤ k) (t : Nat) (l : Int) (i : Nat) : 0 ≤ digitAt k t l i ∧ digitAt k t l i < k := by
  unfold digitAt
  by_cases h : i < (unpack k t l).length
  · rw [getD_lt h]; exact unpack_ok hk t l _ (List.getElem_mem h)
  · rw [List.getD_eq_getElem?_getD, List.getElem?_eq_none (by omega)]
    simp only [Option.getD_none]; omega
theorem spreadL_bd {base : Int} (hr : radix base ≠ 0) (t : Nat) (at' : List Int) (l : Nat) : 0 ≤ spreadL base t at' l ∧ spreadL base t at' l < powW (radix base) at'.length := by
  have h2 := (radix_two hr).1
  have h := pack_bd h2 (at'.map fun i => digitAt (radix base) t (l : Int) i.toNat) fun x hx => by
    obtain ⟨i, _, rfl⟩ := List.mem_map.1 hx; exact digitAt_ok h2 t l _
  rwa [List.length_map] at h
theorem fixD_len {base : Int} {t k : Nat} (x : Int) (l : Nat) (hk : k ≤ t) : (fixD base t k x l).length = t + 1 := by
  have := unpack_length (radix base) t (l : Int)
  simp [fixD]; omega
theorem fixD_ok {base : Int} (hr : radix base ≠ 0) {t k : Nat} {x : Int} (hx : 0 ≤ x ∧ x < radix base) (l : Nat) : ∀ y ∈ fixD base t k x l, 0 ≤ y ∧ y < radix base := fun y hy => by
  have h := unpack_ok (radix_two hr).1 t (l : Int)
  simp only [fixD, List.mem_append, List.mem_singleton] at hy
  rcases hy with (hy | rfl) | hy
  · exact h y (List.mem_of_mem_take hy)
  · exact hx
  · exact h y (List.mem_of_mem_drop hy)
theorem fixL_bd {base : Int} (hr : radix base ≠ 0) {t k : Nat} {x : Int} (hx : 0 ≤ x ∧ x < radix base) (hk : k ≤ t) (l : Nat) : 0 ≤ fixL base t k x l ∧ fixL base t k x l < powW (radix base) (t + 1) := by
  have h := pack_bd (radix_two hr).1 _ (fixD_ok hr (t := t) (k := k) hx l)
  rwa [fixD_len x l hk] at h
theorem manyErr_less {base : Int} {t : Nat} (h : manyErr base ((t + 1 : Nat) : Int) = 0) : manyErr base (t : Nat) = 0 := by
  obtain ⟨r0, t0, t5, p36, _⟩ := many_ok h
  have h2 := (radix_two r0).1
  have hp := powW_pos h2 t
  have e : powW (radix base) (t + 1) = powW (radix base) t * radix base := rfl
  rw [Int.toNat_natCast, e] at p36
  have h3 : powW (radix base) t * 1 ≤ powW (radix base) t * radix base := Int.mul_le_mul_of_nonneg_left (by omega) (by omega)
  unfold manyErr
  rw [if_neg (by omega), Int.toNat_natCast, if_neg (by omega)]
/-- What is known where nothing is wrong. -/
theorem spread_ok {a : GAuto} {tracks : Int} {at' : List Int} (h : spreadErr a tracks at' = 0) : ∃ n m t n' : Nat, Good a n m ∧ tracks = t ∧ t ≤ 5 ∧ manyErr a.base t = 0 ∧ manyOf a.base t = n' ∧ 0 < n' ∧ n' ≤ 36 ∧ (at'.length : Int) = a.tracks ∧ (∀ i ∈ at', 0 ≤ i ∧ i < (t : Int)) ∧ (∀ l, 0 ≤ spreadL a.base t at' l ∧ spreadL a.base t at' l < (n : Int)) ∧ spreadOf a tracks at' = reletA a t ((List.range n').map (spreadL a.base t at')) ∧ at'.length ≤ 5 ∧ radix a.base ≠ 0 := by
  have h' := h
  unfold spreadErr at h
  split at h
  · omega
  · rename_i h1
    split at h
    · omega
    · rename_i h2
      split at h
      · omega
      · rename_i h3
        split at h
        · rename_i h4
          have g := good_of (Classical.not_not.1 h1)
          have h2 := Classical.not_not.1 h2
          obtain ⟨r0, t0, t5, p36, hm⟩ := many_ok h2
          obtain ⟨t, rfl⟩ := Int.eq_ofNat_of_zero_le t0
          have hp := powW_pos (radix_two r0).1 (t : Int).toNat
          have gm := many_ok g.many
          have h3 : (at'.length : Int) = a.tracks := Classical.not_not.1 h3
          refine ⟨_, _, t, (manyOf a.base t).toNat, g, rfl, by omega, h2, by omega, by omega, by omega, h3, by simpa using h4, fun l => ?_, ?_, by omega, r0⟩
          · have hb := spreadL_bd r0 t at' l
            have e1 : manyOf a.base a.tracks = powW (radix a.base) at'.length := by rw [gm.2.2.2.2, ← h3, Int.toNat_natCast]
            have e2 := g.n_eq
            omega
          · unfold spreadOf; rw [if_pos h']; rfl
        · omega
theorem toNat_range {f : Nat → Int} {n l : Nat} (h : l < n) : ((List.range n).map f).getD l 0 = f l := by
  rw [getD_lt (by simpa using h)]; simp
theorem spread_isLeast {a : GAuto} {t n n' m : Nat} {at' : List Int} (g : Good a n m) (hb : ∀ l, 0 ≤ spreadL a.base t at' l ∧ spreadL a.base t at' l < (n : Int)) : IsLeast (reletA a t ((List.range n').map (spreadL a.base t at'))) n' a.base t (fun w => lng a (w.map fun l => (spreadL a.base t at' l).toNat)) ∧ (reletA a t ((List.range n').map (spreadL a.base t at'))).next.length ≤ m := by
  have h := reletA_isLeast g t (to := (List.range n').map (spreadL a.base t at')) fun l hl => by obtain ⟨j, _, rfl⟩ := List.mem_map.1 hl; exact hb j
  have e : ((List.range n').map (spreadL a.base t at')).length = n' := by simp
  rw [e] at h
  refine ⟨⟨rfl, rfl, h.1.least.lang_congr fun w hw => congrArg (lng a) (List.map_congr_left fun l hl => ?_)⟩, h.2⟩
  rw [toNat_range (hw l hl)]
end Go.Proofs.Ythcclcbliedodaa
namespace Go.Proofs.Ythcclcbliedodaa
open Go.RowKit

section
variable {P : Program} {G : World → Prop} {κ : Type} {tt : Nat → Option TI} {tb : Tab} {K : St → (κ → Option HR) → Prop} {Q : Exit → St → (κ → Option HR) → Prop} {st : St} {g : κ → Option HR} {i id : Nat}
theorem HThen_n (h : K st g) : HThen K Q .normal st g := h
theorem HThen_r (h : Q .ret st g) : HThen K Q .ret st g := h
theorem HThen_e (h : Q (.exit i) st g) : HThen K Q (.exit i) st g := h
theorem HIn_n (h : Q .normal st g) : HIn id Q .normal st g := h
theorem HIn_r (h : Q .ret st g) : HIn id Q .ret st g := h
theorem HIn_eq (h : Q .normal st g) : HIn id Q (.exit id) st g := by simp [HIn, h]
theorem HIn_ne (hne : i ≠ id) (h : Q (.exit i) st g) : HIn id Q (.exit i) st g := by simp [HIn, hne, h]
theorem HW_run (hT : TTok P tt) (hGl : Lasting G) (htb : Tab.ok P G tb) {id : Nat} {l : List Oper} {st st' : St} {g : κ → Option HR} (h : runX tt tb l.toArray l st = some st') (hq : Q .normal st' g) : HW P G (.region id l.toArray false) Q st g :=
  HW_sw (SW_run hT hGl htb h hq)
theorem HW_draw (hm : P.follows .mixedOrders = true) (hT : TTok P tt) (hGl : Lasting G) (htb : Tab.ok P G tb) {id : Nat} {ops : Array Oper} (htopo : topoB ops = true) {s t : St} {g : κ → Option HR} (h : runI tt tb ops (List.range ops.size) s = some t) (hq : Q .normal t g) : HW P G (.region id ops true) Q s g :=
  HW_sw (SW_draw hm hT hGl htb htopo h hq)
end
theorem v1 : type_of% @HW_seq := @HW_seq
theorem v2 : type_of% @HW_block := @HW_block
theorem v3 : type_of% @HThen_n := @HThen_n
theorem v4 : type_of% @HThen_r := @HThen_r
theorem v5 : type_of% @HThen_e := @HThen_e
theorem v6 : type_of% @HIn_n := @HIn_n
theorem v7 : type_of% @HIn_r := @HIn_r
theorem v8 : type_of% @HIn_eq := @HIn_eq
theorem v9 : type_of% @HW_skip := @HW_skip
theorem va : type_of% @HW_exit := @HW_exit
theorem vb : type_of% @HW_ret := @HW_ret
theorem vc : type_of% @SPost_r := @SPost_r
theorem vd : type_of% @HIn_ne := @HIn_ne
theorem ve : type_of% @HW_true := @HW_true
theorem vf : type_of% @HW_false := @HW_false
/-- The types, a nil []int being told as its header. -/
def ttR (t : Nat) : Option TI := if t = 26 then some ⟨.slice 3, 1, 24, [.t (.raw none 0 0)], false⟩ else tt t
attribute [go_sem] ttR
theorem ttR_ok : TTok Try.prog ttR := fun t i h => by
  unfold ttR at h
  split at h
  · rename_i e
    subst e
    cases h
    have k := tt_ok 26 ⟨.slice 3, 1, 24, [.nil], false⟩ rfl
    obtain ⟨inf, i1, i2, i3, z, i4, i5, i6, i7, i8⟩ := k.info
    refine ⟨⟨inf, i1, i2, i3, z, i4, i5, rfl, fun q x v h1 h2 => ?_, i8⟩, k.pos, k.says, fun h => by cases h⟩
    match q, h1 with
    | 0, h1 =>
      cases h1
      have := i7 0 .nil v rfl h2
      unfold zm at this
      split at this <;> first | rfl | (cases this; done) | (simp_all; done) | skip
  · exact tt_ok t i h
end Go.Proofs.Ythcclcbliedodaa
namespace Go.Proofs.Ythcclcbliedodaa
open Go.RowKit

section
variable {G : World → Prop} (hG : Lasting G)
include hG
end
end Go.Proofs.Ythcclcbliedodaa
namespace Go.Proofs.Ythcclcbliedodaa
open Go.RowKit

section
variable {G : World → Prop} (hG : Lasting G)
include hG
end
end Go.Proofs.Ythcclcbliedodaa
namespace Go.Proofs.Ythcclcbliedodaa

theorem spreadErr_ok {a : GAuto} {n m : Nat} (g : Good a n m) {t : Nat} (h0 : manyErr a.base t = 0) {at' : List Int} (hl : (at'.length : Int) = a.tracks) (hr : ∀ i ∈ at', 0 ≤ i ∧ i < (t : Int)) : spreadErr a t at' = 0 := by
  unfold spreadErr
  rw [if_neg (by have := g.fault; omega), if_neg (by omega), if_neg (by omega), if_pos (by rw [List.all_eq_true]; intro x hx; simpa using hr x hx)]
/-- What is spread: its language, and that it is right. -/
theorem spread_of {a : GAuto} {n m : Nat} (g : Good a n m) {t n' : Nat} (h0 : manyErr a.base t = 0) (hn : manyOf a.base t = n') {at' : List Int} (hl : (at'.length : Int) = a.tracks) (hr : ∀ i ∈ at', 0 ≤ i ∧ i < (t : Int)) :
    IsLeast (spreadOf a t at') n' a.base t (fun w => lng a (w.map fun l => (spreadL a.base t at' l).toNat)) ∧ Good (spreadOf a t at') n' (spreadOf a t at').next.length := by
  obtain ⟨n1, m1, t1, n1', g1, e1, _, _, q2, q3, _, _, _, q7, q8, _, _⟩ := spread_ok (spreadErr_ok g h0 hl hr)
  obtain rfl : t1 = t := by omega
  obtain rfl : n1' = n' := by omega
  rw [q8]
  have h := (spread_isLeast (n' := n1') g1 q7).1
  exact ⟨h, by
    have := reletA_good g1 (t := t1) (to := (List.range n1').map (spreadL a.base t1 at')) (fun l hl => by obtain ⟨j, _, rfl⟩ := List.mem_map.1 hl; exact q7 j) h0 (by simpa using hn)
    simpa using this⟩
end Go.Proofs.Ythcclcbliedodaa
namespace Go.Proofs.Ythcclcbliedodaa

theorem least_again {a : GAuto} {n m : Nat} (g : Good a n m) : leastOf (leastA a) = leastA a ∧ autoFault (leastA a) = 0 ∧ Good (leastA a) n (leastA a).next.length := by
  obtain ⟨h1, h2⟩ := leastA_isLeast g
  have g' := IsLeast.good g h1 (by have := g.m80; omega)
  obtain ⟨h3, _⟩ := leastA_isLeast g'
  refine ⟨?_, g'.fault, g'⟩
  unfold leastOf
  rw [if_pos g'.fault]
  exact IsLeast.unique (n := n) (base := a.base) (tracks := a.tracks) h3 h1 fun w hw => h1.lng hw
end Go.Proofs.Ythcclcbliedodaa
namespace Go.Proofs.Ythcclcbliedodaa
open Go.RowKit

/-- At each letter of what is left the letters with a digit more. -/
def withR (base : Int) (t k l : Nat) : List Int := (List.range (radix base).toNat).map fun x : Nat => fixL base t k x l
def withW (base : Int) (t k : Nat) : List (List Int) := (List.range (manyOf base (t : Int)).toNat).map (withR base t k)
def leftW (a : GAuto) (track : Int) : List (List Int) := withW a.base (a.tracks - 1).toNat track.toNat
def leftN (a : GAuto) : Nat := (manyOf a.base (((a.tracks - 1).toNat : Nat) : Int)).toNat
noncomputable def leftF (a : GAuto) (track : Int) : List Int := closeL (leastA a) ((leftW a track)[0]!)
def leftBad (a : GAuto) (track : Int) : Prop := autoFault a ≠ 0 ∨ track < 0 ∨ a.tracks ≤ track
noncomputable def leftOk (a : GAuto) (track : Int) : Bool := growOk (stepW (leastA a).next (leftW a track)) (leftN a) (leftF a track)
open Classical in
noncomputable def leftErr (a : GAuto) (track : Int) : Int := if autoFault a ≠ 0 then autoFault a else if track < 0 ∨ a.tracks ≤ track then 1 else if leftOk a track = false then 3 else 0
open Classical in
noncomputable def leftS (a : GAuto) (track : Int) : List (List Int) := if leftBad a track then [] else growSets (stepW (leastA a).next (leftW a track)) (leftN a) (leftF a track)
open Classical in
noncomputable def leftR (a : GAuto) (track : Int) : List (List Int) := if leftBad a track then [] else growRows (stepW (leastA a).next (leftW a track)) (leftN a) (leftF a track)
/-- What is known where nothing is wrong. -/
structure LeftOk (a : GAuto) (k t N nW r : Nat) : Prop where
  good : Good a N a.next.length
  tr : a.tracks = ((t + 1 : Nat) : Int)
  kt : k ≤ t
  t4 : t ≤ 4
  rad : radix a.base = (r : Int)
  r2 : 2 ≤ r
  r6 : r ≤ 6
  many : manyErr a.base (t : Int) = 0
  nWe : manyOf a.base (t : Int) = (nW : Int)
  nW0 : 0 < nW
  nW36 : nW ≤ 36
  N_eq : (N : Int) = powW (radix a.base) (t + 1)
theorem left_ok {a : GAuto} {k : Nat} (hf : autoFault a = 0) (hk : (k : Int) < a.tracks) : ∃ t nW r, LeftOk a k t (manyOf a.base a.tracks).toNat nW r := by
  have g := good_of hf
  obtain ⟨r0, t0, t5, p36, hm⟩ := many_ok g.many
  obtain ⟨h2, h6⟩ := radix_two r0
  obtain ⟨r, hr⟩ := Int.eq_ofNat_of_zero_le (show 0 ≤ radix a.base by omega)
  obtain ⟨t, ht⟩ : ∃ t : Nat, a.tracks = ((t + 1 : Nat) : Int) := ⟨(a.tracks - 1).toNat, by omega⟩
  have h1 := manyErr_less (base := a.base) (t := t) (by rw [← ht]; exact g.many)
  obtain ⟨_, _, _, q36, qm⟩ := many_ok h1
  have hp := powW_pos h2 (t : Int).toNat
  obtain ⟨nW, hn⟩ := Int.eq_ofNat_of_zero_le (show 0 ≤ manyOf a.base (t : Int) by omega)
  have hne := g.n_eq
  have e0 : a.tracks.toNat = t + 1 := by omega
  refine ⟨t, nW, r, g, ht, by omega, by omega, hr, by omega, by omega, h1, hn, by omega, by omega, ?_⟩
  rw [← hne, hm, e0]
theorem withR_len {base : Int} {t k l r : Nat} (hr : radix base = (r : Int)) : (withR base t k l).length = r := by
  unfold withR; rw [List.length_map, List.length_range, hr]; rfl
theorem withR_bd {a : GAuto} {k t N nW r : Nat} (h : LeftOk a k t N nW r) (l : Nat) : ∀ x ∈ withR a.base t k l, 0 ≤ x ∧ x < (N : Int) := fun x hx => by
  unfold withR at hx
  obtain ⟨y, hy, rfl⟩ := List.mem_map.1 hx
  have hyr : y < (radix a.base).toNat := List.mem_range.1 hy
  have hr := h.rad
  have hr2 := h.r2
  have := fixL_bd (base := a.base) (by omega) (t := t) (k := k) (x := (y : Int)) (by omega) h.kt l
  have := h.N_eq
  omega
theorem withW_len {a : GAuto} {k t N nW r : Nat} (h : LeftOk a k t N nW r) : (withW a.base t k).length = nW := by
  unfold withW; rw [List.length_map, List.length_range, h.nWe]; rfl
theorem withW_get {a : GAuto} {k t N nW r : Nat} (h : LeftOk a k t N nW r) {l : Nat} (hl : l < nW) : (withW a.base t k)[l]? = some (withR a.base t k l) := by
  unfold withW
  rw [List.getElem?_map, List.getElem?_range (by rw [h.nWe]; exact hl)]; rfl
theorem withR_take {base : Int} {t k l r : Nat} (hr : radix base = (r : Int)) {x : Nat} (hx : x < r) : (withR base t k l).take (x + 1) = (withR base t k l).take x ++ [fixL base t k x l] := by
  unfold withR
  rw [← List.map_take, ← List.map_take, List.take_range, List.take_range, Nat.min_eq_left (by rw [hr]; exact hx), Nat.min_eq_left (by rw [hr]; exact Nat.le_of_lt hx), List.range_succ, List.map_append]
  rfl

/-- Rows of hidden rows, and what they hold. -/
def HdrInv (g : Nat → Option HR) (ws : List T) (n : Nat) (cont : Nat → List Int) : Prop := ws.length = n ∧ ∀ j, j < n → HdrOk g j 3 1 (iL (cont j)) (ws[j]!)
theorem HdrInv.init (n : Nat) : HdrInv (fun _ => none) (List.replicate n (.raw none 0 0)) n (fun _ => []) :=
  ⟨List.length_replicate, fun j hj => .inl ⟨rfl, rfl, by rw [getElem!_pos _ _ (by rw [List.length_replicate]; exact hj), List.getElem_replicate]⟩⟩
theorem HdrInv.congr {g : Nat → Option HR} {ws : List T} {n : Nat} {cont cont' : Nat → List Int} (h : HdrInv g ws n cont) (he : ∀ j, j < n → cont' j = cont j) : HdrInv g ws n cont' :=
  ⟨h.1, fun j hj => by rw [he j hj]; exact h.2 j hj⟩
theorem HdrInv.step {g : Nat → Option HR} {ws : List T} {n : Nat} {cont cont' : Nat → List Int} (h : HdrInv g ws n cont) {l : Nat} (hl : l < n) (v : Int) (c : Option Addr × Nat × Nat) (h1 : cont' l = cont l ++ [v]) (h2 : ∀ j, j ≠ l → j < n → cont' j = cont j) :
    HdrInv (upd g l (some ⟨c.1, c.2.1, c.2.2, 3, 1, iL (cont l) ++ [.int .i64 v]⟩)) (ws.set l (.raw c.1 c.2.1 c.2.2)) n cont' := by
  refine ⟨by rw [List.length_set]; exact h.1, fun j hj => ?_⟩
  have hlen := h.1
  have hg : (ws.set l (T.raw c.1 c.2.1 c.2.2))[j]! = if l = j then T.raw c.1 c.2.1 c.2.2 else ws[j]! := by
    rw [getElem!_pos _ _ (by rw [List.length_set]; omega), List.getElem_set]
    split
    · rfl
    · rw [getElem!_pos _ _ (by omega)]
  rw [hg]
  by_cases e : l = j
  · subst e
    rw [if_pos rfl, h1]
    refine .inr ⟨⟨c.1, c.2.1, c.2.2, 3, 1, iL (cont l) ++ [.int .i64 v]⟩, by simp [upd], rfl, rfl, by simp [iL], rfl⟩
  · rw [if_neg e, h2 j (fun q => e q.symm) hj]
    have e2 : upd g l (some ⟨c.1, c.2.1, c.2.2, 3, 1, iL (cont l) ++ [.int .i64 v]⟩) j = g j := by
      show (if j = l then _ else g j) = g j
      rw [if_neg fun q => e q.symm]
    rcases h.2 j hj with ⟨q1, q2, q3⟩ | ⟨r, q1, q2, q3, q4, q5⟩
    · exact .inl ⟨by rw [e2]; exact q1, q2, q3⟩
    · exact .inr ⟨r, by rw [e2]; exact q1, q2, q3, q4, q5⟩
theorem HdrInv.opens {g : Nat → Option HR} {ws : List T} {n : Nat} {W : List (List Int)} (h : HdrInv g ws n (fun j => W[j]!)) (hW : W.length = n) (hne : ∀ r ∈ W, r ≠ []) : (W.map tInts).length = ws.length ∧ ∀ (i : Nat) (y y' : T), ws[i]? = some y → (W.map tInts)[i]? = some y' → OpenH g y y' := by
  refine ⟨by rw [List.length_map, h.1, hW], fun i y y' h1 h2 => ?_⟩
  obtain ⟨hi, e1⟩ := List.getElem?_eq_some_iff.1 h1
  have hin : i < n := by rw [← h.1]; exact hi
  have ey : ws[i]! = y := by rw [getElem!_pos ws i hi, e1]
  rw [List.getElem?_map, Option.map_eq_some_iff] at h2
  obtain ⟨r, hr, rfl⟩ := h2
  have er : W[i]! = r := by
    obtain ⟨q1, q2⟩ := List.getElem?_eq_some_iff.1 hr
    rw [getElem!_pos W i q1, q2]
  have hk := h.2 i hin
  simp only [er, ey] at hk
  rcases hk with ⟨_, q2, _⟩ | ⟨q, q1, _, _, q4, rfl⟩
  · exfalso
    exact hne r (List.mem_of_getElem? hr) (List.eq_nil_of_length_eq_zero (by have := congrArg List.length q2; rw [iL_length] at this; exact this))
  · exact .raw i q (iL r) q1 (by rw [q4]) fun k y z e1 e2 => by
      rw [q4, e2] at e1
      cases e1
      exact .refl _
end Go.Proofs.Ythcclcbliedodaa
namespace Go.Proofs.Ythcclcbliedodaa
open Go.RowKit

section
variable {G : World → Prop} (hG : Lasting G)
include hG
set_option maxHeartbeats 16000000 in
set_option maxRecDepth 100000 in
theorem GrowN_snd {m : Nat} (hm80 : m ≤ 80) (first : List Int) (n : Nat) (sf : Nat) (c0 b0 b1 b2 b3 : T) (stp : List Int → Nat → List Int) (hf : Inm m first) (hfl : first.length ≤ 1000000) (hn : n ≤ 36) (hsm : ∀ s l, Inm m s → l < n → Inm m (stp s l)) (hlen : ∀ s l, Inm m s → s.Pairwise (· < ·) → l < n → (stp s l).length ≤ 1000000)
    (hstp : ∀ s l, Inm m s → s.Pairwise (· < ·) → l < n → SndG Try.prog G sf ([.t (tInts s), .t (tNat l)] ++ [.t c0, .bptr 0 0]) [.box [.t b0, .t b1, .t b2, .t b3]] [] (.sref 1) ([.box [.t b0, .t b1, .t b2, .t b3]] ++ [.row 3 1 true (iL (stp s l))])) :
    SndG Try.prog G 45 [.sref 0, .t (tNat n), .fn sf [.t c0, .bptr 1 0]] [.row 3 1 true (iL first), .box [.t b0, .t b1, .t b2, .t b3]] [] (.t (.tup [tIntss (growSets stp n first), tIntss (growRows stp n first), .bool (growOk stp n first)])) [.hole, .box [.t b0, .t b1, .t b2, .t b3], .box [.t (tIntss (growSets stp n first))]] := by
  refine sndG_of_body tt_ok Try.func45 rfl rfl (n := 54) rfl (rs := [.cell 6 22, .tmp 7, .tmp 8]) rfl (by simp only [List.length_cons, List.length_nil]; decide) [1] (fun i l h => ?_) (fun i hi => ?_) fun bs => ?_
  · match i, h with
    | 0, h => cases h
    | 1, h => exact ⟨by simp, _, rfl⟩
  · simp only [List.mem_singleton] at hi
    subst hi
    exact ⟨_, rfl⟩
  show SW _ _ _ _ ⟨54, [(0, .sref 0), (1, .t (tNat n)), (2, .fn sf [.t c0, .bptr 1 0]), (55, .pin 1 (bs 1))], [.row 3 1 true (iL first), .box [.t b0, .t b1, .t b2, .t b3]]⟩
  have htb : Tab.ok Try.prog G [] := Tab.nil
  obtain ⟨δ, hδ⟩ : ∃ δ, nextD stp = δ := ⟨_, rfl⟩
  obtain ⟨s0, hs0⟩ : ∃ s0, canonL first = s0 := ⟨_, rfl⟩
  have c1 := find_snd hG [] first (hf.small hm80) hfl (fun q hq => by simp at hq) List.nodup_nil (by simp)
  have e1 : addS ([] : List (List Int)) (canonL first) = [canonL first] := by simp [addS]
  rw [e1, hs0] at c1
  repeat' (first | (with_reducible first | refine SW_seq ?_ | refine SW_block ?_ | refine SThen_n ?_ | refine SThen_r ?_ | refine SThen_e ?_ | refine SIn_n ?_ | refine SIn_r ?_ | refine SIn_eq ?_ | refine SW_skip ?_ | refine SW_exit ?_ | refine SW_ret ?_ | refine SPost_r ?_) | ((with_reducible refine SIn_ne ?_ ?_); focus decide) | ((with_reducible refine SW_true ?_ ?_); focus exact rfl) | ((with_reducible refine SW_false ?_ ?_); focus exact rfl) | ((with_reducible apply SW_run tt_ok hG htb); focus ((repeat' (first | (with_reducible exact runX_nil) | ((with_reducible apply runX_cons); focus (simp (discharger := omega) only [go_sem, simprocAttr]; with_reducible rfl)))); done)))
  refine SW_norm ((Norm.headS (own := []) (keep := [55, 9, 6, 0, 1, 2, 7, 8, 10]) (by refine ⟨?_, ?_⟩; (simp (discharger := omega) only [go_sem, simprocAttr]; with_reducible rfl); refine ⟨?_, ?_, ?_, ?_⟩ <;> (simp only [go_sem, simprocAttr]; with_reducible rfl))).trans (Norm.ownB (j := 2) (off := 0) (e := 26) (sz := 1) rfl rfl (by decide))) ?_
  refine SW_norm (Norm.headP [1, 2, 4, 5, 3] rfl (own := []) (keep := [55, 9, 6, 0, 1, 2, 7, 8, 10]) (by refine ⟨?_, ?_⟩; (simp (discharger := omega) only [go_sem, simprocAttr]; with_reducible rfl); refine ⟨?_, ?_, ?_, ?_⟩ <;> (simp only [go_sem, simprocAttr]; with_reducible rfl))) ?_
  refine SW_region ?_
  refine SL_k tt_ok hG htb 2 (by simp only [List.take_succ_cons, List.take_zero]; rfl) (by simp only [List.drop_succ_cons, List.drop_zero, Nat.reduceAdd]; rfl) (by (repeat' (first | (with_reducible exact runX_nil) | ((with_reducible apply runX_cons); focus (simp (discharger := omega) only [go_sem, simprocAttr]; with_reducible rfl))))) ?_
  refine SL_callH (g := 59) (cap := [.bptr 0 0, .bptr 1 0]) (obs := [.box [.map 2], .box [.sref 3], .map .str (strEntries []), .row 26 1 true ([].map tInts), .row 3 1 true (iL first)]) (ks := []) (obs' := [.box [.map 2], .box [.sref 3], .map .str (strEntries [s0]), .row 26 1 true ([s0].map tInts), .hole]) (rst := ?zra) (r := .t (tNat (idxS [s0] s0))) (s3 := ?zua) rfl rfl ?q1a ?q2a ?q3a ?q4a ?q5a ?q6a ?q7a ?q8a ?q9a
  case q5a => exact c1
  case q1a => rfl
  case q2a => rfl
  case q3a => rfl
  case q4a => rfl
  case q6a => rfl
  case q7a => rfl
  case q8a =>
    simp only [go_sem, St.back, List.map_cons, List.map_nil, SV.ren, Ob.ren, renL, pastG, lateG, List.length_cons, List.length_nil, List.take_succ_cons, List.take_zero, List.drop_succ_cons, List.drop_zero, List.getElem?_cons_zero, List.getElem?_cons_succ, List.getElem?_nil, simprocAttr]
    rfl
  refine SL_done tt_ok hG htb (by (repeat' (first | (with_reducible exact runX_nil) | ((with_reducible apply runX_cons); focus (simp (discharger := omega) only [go_sem, simprocAttr]; with_reducible rfl))))) ?_
  repeat' (first | (with_reducible first | refine SW_seq ?_ | refine SW_block ?_ | refine SThen_n ?_ | refine SThen_r ?_ | refine SThen_e ?_ | refine SIn_n ?_ | refine SIn_r ?_ | refine SIn_eq ?_ | refine SW_skip ?_ | refine SW_exit ?_ | refine SW_ret ?_ | refine SPost_r ?_) | ((with_reducible refine SIn_ne ?_ ?_); focus decide) | ((with_reducible refine SW_true ?_ ?_); focus exact rfl) | ((with_reducible refine SW_false ?_ ?_); focus exact rfl) | ((with_reducible apply SW_run tt_ok hG htb); focus ((repeat' (first | (with_reducible exact runX_nil) | ((with_reducible apply runX_cons); focus (simp (discharger := omega) only [go_sem, simprocAttr]; with_reducible rfl)))); done)))
  have hp0 : Inm m s0 ∧ s0.Pairwise (· < ·) := ⟨hs0 ▸ hf.canon, hs0 ▸ (canonL_spec first).1⟩
  have hpd : ∀ s l, l < n → Inm m s ∧ s.Pairwise (· < ·) → Inm m (δ s l) ∧ (δ s l).Pairwise (· < ·) := fun s l hl h => by
    rw [← hδ]
    exact ⟨(hsm s l h.1 hl).canon, (canonL_spec _).1⟩
  have hgood : ∀ k, ∀ q ∈ growS δ n s0 k, Inm m q ∧ q.Pairwise (· < ·) := growS_in' hp0 hpd
  unfold growSets growRows growOk
  rw [hδ, hs0]
  refine SW_loop (fun mm st => ∃ (i : Nat) (nx ms : List T) (es : List (T × T)), mm = 2001 - i ∧ st = ⟨54, [(55, .pin 0 (bs 1)), (9, .bptr 1 0), (6, .bptr 2 0), (1, .t (tNat n)), (2, .fn sf [.t c0, .bptr 0 0]), (7, .sref 3), (8, .t (.bool false)), (10, .fn 59 [.bptr 1 0, .bptr 2 0]), (11, .t (tNat i))], [.box [.t b0, .t b1, .t b2, .t b3], .box [.map 4], .box [.sref 5], .row 26 1 true nx, .map .str es, .row 26 1 true ms]⟩ ∧ i ≤ 2000 ∧ i ≤ (growS δ n s0 i).length ∧ es = strEntries (growS δ n s0 i) ∧ ms = (growS δ n s0 i).map tInts ∧ nx = (rowsIn δ n (growS δ n s0 i) i).map tInts) 2001
    ⟨_, Norm.headS (own := [(7, 26, 1, true)]) (keep := [55, 9, 6, 1, 2, 7, 8, 10, 11]) (by refine ⟨?_, ?_⟩; (simp (discharger := omega) only [go_sem, simprocAttr]; with_reducible rfl); refine ⟨?_, ?_, ?_, ?_⟩ <;> (simp only [go_sem, simprocAttr]; with_reducible rfl)), 0, _, _, _, rfl, rfl, Nat.zero_le _, Nat.zero_le _, rfl, rfl, rfl⟩ ?_
  rintro mm st ⟨i, nx, ms, es, rfl, rfl, hi, hil, hes, hms, hnx⟩
  have hml : ms.length = (growS δ n s0 i).length := by rw [hms, List.length_map]
  by_cases hlt : i < (growS δ n s0 i).length
  rotate_left
  · have hie : (growS δ n s0 i).length = i := by omega
    have hok := grow_few (δ := δ) (n := n) (s0 := s0) hi hie
    rw [if_pos hok, if_pos hok, hok, grow_end (i := i) (by omega) (by omega), grow_rows (by omega) hie]
    have hlt2 : ¬ ((i : Nat) : Int) < ((ms.length : Nat) : Int) := by omega
    have hle2 : ((ms.length : Nat) : Int) ≤ 2000 := by omega
    have hle3 := eq_true hle2
    repeat' (first | (with_reducible first | apply w1 | apply w2 | apply w3 | apply w4 | apply w5 | apply w6 | apply w7 | apply w8 | apply w9 | apply wa | apply wb | apply wc) | ((with_reducible apply wd); focus decide) | ((with_reducible apply we); focus exact rfl) | ((with_reducible apply wf); focus exact rfl) | ((first | (with_reducible apply SW_run tt_ok hG htb) | ((with_reducible apply SW_draw rfl tt_ok hG htb); (focus kernel_rfl); focus simp only [List.range, List.range.loop, List.size_toArray, List.length_cons, List.length_nil, Nat.reduceAdd])); focus ((repeat' (first | (with_reducible first | exact wg | exact wh) | ((with_reducible first | apply wi | apply wj); focus (simp (discharger := omega) only [go_sem, hlt2, hle3, simprocAttr]; with_reducible rfl)))); done)))
    subst hms hnx
    refine SPostG_norm (Norm.headS (own := []) (keep := [55, 6, 7, 8]) (by refine ⟨?_, ?_⟩; (simp (discharger := omega) only [go_sem, simprocAttr]; with_reducible rfl); refine ⟨?_, ?_, ?_, ?_⟩ <;> (simp only [go_sem, simprocAttr]; with_reducible rfl))) ?_
    refine SPostG_normE (Norm.frzRow 3 rfl) (by simp only [go_sem, simprocAttr]; rfl) ?_
    refine SPostG_normE (Norm.frzRow 2 rfl) (by simp only [go_sem, simprocAttr]; rfl) ?_
    refine SPostG_normE (Norm.trB 1 0 rfl rfl rfl) (by simp only [go_sem, simprocAttr]; rfl) ?_
    refine SPostG_normE (Norm.datum 7 2 rfl rfl) (by simp only [go_sem, simprocAttr]; rfl) ?_
    refine SPostG_norm (Norm.headS (own := []) (keep := [55, 6, 7, 8]) (by refine ⟨?_, ?_⟩; (simp (discharger := omega) only [go_sem, simprocAttr]; with_reducible rfl); refine ⟨?_, ?_, ?_, ?_⟩ <;> (simp only [go_sem, simprocAttr]; with_reducible rfl))) ?_
    refine SPostG_normE (Norm.hole _) (by simp only [go_sem, simprocAttr]; rfl) ?_
    refine SPostG_norm (Norm.headP [2, 0, 1] rfl (own := []) (keep := [55, 6, 7, 8]) (by refine ⟨?_, ?_⟩; (simp (discharger := omega) only [go_sem, simprocAttr]; with_reducible rfl); refine ⟨?_, ?_, ?_, ?_⟩ <;> (simp only [go_sem, simprocAttr]; with_reducible rfl))) ?_
    exact SPostG_r (Norm.refl _) rfl rfl (fun i hi => by simp only [List.mem_singleton] at hi; subst hi; rfl)
  by_cases hbig : 2000 < (growS δ n s0 i).length
  · have hok := grow_many (δ := δ) (n := n) (s0 := s0) (i := i) (by omega) hbig
    rw [hok, if_neg (by decide), if_neg (by decide)]
    have hlt2 : ((i : Nat) : Int) < ((ms.length : Nat) : Int) := by omega
    have hgt2 : ((ms.length : Nat) : Int) > 2000 := by omega
    repeat' (first | (with_reducible first | apply w1 | apply w2 | apply w3 | apply w4 | apply w5 | apply w6 | apply w7 | apply w8 | apply w9 | apply wa | apply wb | apply wc) | ((with_reducible apply wd); focus decide) | ((with_reducible apply we); focus exact rfl) | ((with_reducible apply wf); focus exact rfl) | ((first | (with_reducible apply SW_run tt_ok hG htb) | ((with_reducible apply SW_draw rfl tt_ok hG htb); (focus kernel_rfl); focus simp only [List.range, List.range.loop, List.size_toArray, List.length_cons, List.length_nil, Nat.reduceAdd])); focus ((repeat' (first | (with_reducible first | exact wg | exact wh) | ((with_reducible first | apply wi | apply wj); focus (simp (discharger := omega) only [go_sem, hlt2, hgt2, simprocAttr]; with_reducible rfl)))); done)))
    refine SPostG_norm (Norm.headS (own := []) (keep := [55, 6, 7, 8]) (by refine ⟨?_, ?_⟩; (simp (discharger := omega) only [go_sem, simprocAttr]; with_reducible rfl); refine ⟨?_, ?_, ?_, ?_⟩ <;> (simp only [go_sem, simprocAttr]; with_reducible rfl))) ?_
    refine SPostG_normE (Norm.trB 1 0 rfl rfl rfl) (by simp only [go_sem, simprocAttr]; rfl) ?_
    refine SPostG_normE (Norm.tr 7 rfl rfl) (by simp only [go_sem, simprocAttr]; rfl) ?_
    refine SPostG_norm (Norm.headS (own := []) (keep := [55, 6, 7, 8]) (by refine ⟨?_, ?_⟩; (simp (discharger := omega) only [go_sem, simprocAttr]; with_reducible rfl); refine ⟨?_, ?_, ?_, ?_⟩ <;> (simp only [go_sem, simprocAttr]; with_reducible rfl))) ?_
    refine SPostG_normE (Norm.hole _) (by simp only [go_sem, simprocAttr]; rfl) ?_
    refine SPostG_norm (Norm.headP [2, 0, 1] rfl (own := []) (keep := [55, 6, 7, 8]) (by refine ⟨?_, ?_⟩; (simp (discharger := omega) only [go_sem, simprocAttr]; with_reducible rfl); refine ⟨?_, ?_, ?_, ?_⟩ <;> (simp only [go_sem, simprocAttr]; with_reducible rfl))) ?_
    exact SPostG_r (Norm.refl _) rfl rfl (fun i hi => by simp only [List.mem_singleton] at hi; subst hi; rfl)
  obtain ⟨s, hs⟩ : ∃ s, (growS δ n s0 i)[i]? = some s := ⟨_, List.getElem?_eq_getElem hlt⟩
  have hsg := hgood i s (List.mem_of_getElem? hs)
  have hgi := hgood i
  have hndi := growS_nodup (δ := δ) (n := n) (s0 := s0) i
  have hnext := growS_some hs
  have hrows := rows_step hs
  rw [hnext] at hrows
  generalize hP : growS δ n s0 i = P at *
  have hlt2 : ((i : Nat) : Int) < ((ms.length : Nat) : Int) := by omega
  have hgt2 : ¬ ((ms.length : Nat) : Int) > 2000 := by omega
  repeat' (first | (with_reducible first | apply w1 | apply w2 | apply w3 | apply w4 | apply w5 | apply w6 | apply w7 | apply w8 | apply w9 | apply wa | apply wb | apply wc) | ((with_reducible apply wd); focus decide) | ((with_reducible apply we); focus exact rfl) | ((with_reducible apply wf); focus exact rfl) | ((first | (with_reducible apply SW_run tt_ok hG htb) | ((with_reducible apply SW_draw rfl tt_ok hG htb); (focus kernel_rfl); focus simp only [List.range, List.range.loop, List.size_toArray, List.length_cons, List.length_nil, Nat.reduceAdd])); focus ((repeat' (first | (with_reducible first | exact wg | exact wh) | ((with_reducible first | apply wi | apply wj); focus (simp (discharger := omega) only [go_sem, hlt2, hgt2, simprocAttr]; with_reducible rfl)))); done)))
  refine SW_loop (fun mm st => ∃ (l : Nat) (rw' ms' : List T) (es' : List (T × T)), mm = n - l ∧ st = ⟨54, [(55, .pin 0 (bs 1)), (9, .bptr 1 0), (6, .bptr 2 0), (1, .t (tNat n)), (2, .fn sf [.t c0, .bptr 0 0]), (7, .sref 3), (8, .t (.bool false)), (10, .fn 59 [.bptr 1 0, .bptr 2 0]), (11, .t (tNat i)), (12, .sref 4), (28, .t (tNat n)), (29, .t (tNat l))], [.box [.t b0, .t b1, .t b2, .t b3], .box [.map 5], .box [.sref 6], .row 26 1 true nx, .row 3 1 true rw', .map .str es', .row 26 1 true ms']⟩ ∧ l ≤ n ∧ es' = strEntries (partS δ P s l) ∧ ms' = (partS δ P s l).map tInts ∧ rw' = (rowIn δ (partS δ P s l) s l).map tInt) n
    ⟨_, Norm.headS (own := [(12, 3, 1, true)]) (keep := [55, 9, 6, 1, 2, 7, 8, 10, 11, 12, 28, 29]) (by refine ⟨?_, ?_⟩; (simp (discharger := omega) only [go_sem, simprocAttr]; with_reducible rfl); refine ⟨?_, ?_, ?_, ?_⟩ <;> (simp only [go_sem, simprocAttr]; with_reducible rfl)), 0, _, _, _, rfl, rfl, Nat.zero_le _, hes, hms, rfl⟩ ?_
  rintro mm st ⟨l, rw', ms', es', rfl, rfl, hl, hes', hms', hrw'⟩
  by_cases hll : l < n
  · have e2 : canonL (stp s l) = δ s l := by rw [← hδ]; rfl
    have hpl := partS_len δ P s l
    have c2 := find_snd hG (partS δ P s l) (stp s l) ((hsm s l hsg.1 hll).small hm80) (hlen s l hsg.1 hsg.2 hll) (fun q hq => (partS_in' (p := fun q => Inm m q ∧ q.Pairwise (· < ·)) hgi l (fun j hj => hpd s j (by omega) hsg) q hq).1.small hm80) (partS_nodup hndi s l) (by omega)
    rw [e2, show addS (partS δ P s l) (δ s l) = partS δ P s (l + 1) from rfl, ← hes', ← hms'] at c2
    have c3 := hstp s l hsg.1 hsg.2 hll
    have hil2 : i < (partS δ P s l).length := by
      have := (partS_pre δ P s l).length_le
      omega
    have hsi : ms'[i]! = tInts s := by
      have h1 : (partS δ P s l)[i]? = some s := pre_get (partS_pre δ P s l) hs
      rw [hms', getElem!_pos _ _ (by rw [List.length_map]; exact hil2)]
      obtain ⟨q1, q2⟩ := List.getElem?_eq_some_iff.1 h1
      simp [q2]
    have hms2 : ms'.length = (partS δ P s l).length := by rw [hms', List.length_map]
    have hrl : rw'.length = l := by rw [hrw', List.length_map]; simp [rowIn]
    obtain ⟨es2, hes2⟩ : ∃ es2, strEntries (partS δ P s (l + 1)) = es2 := ⟨_, rfl⟩
    obtain ⟨ms2, hms3⟩ : ∃ ms2, (partS δ P s (l + 1)).map tInts = ms2 := ⟨_, rfl⟩
    obtain ⟨k, hk⟩ : ∃ k, idxS (partS δ P s (l + 1)) (δ s l) = k := ⟨_, rfl⟩
    have hstep := rowIn_step (δ := δ) (met := P) (s := s) l
    rw [hk] at hstep
    rw [hes2, hms3, hk] at c2
    generalize stp s l = u at *
    repeat' (first | (with_reducible first | refine SW_seq ?_ | refine SW_block ?_ | refine SThen_n ?_ | refine SThen_r ?_ | refine SThen_e ?_ | refine SIn_n ?_ | refine SIn_r ?_ | refine SIn_eq ?_ | refine SW_skip ?_ | refine SW_exit ?_ | refine SW_ret ?_ | refine SPost_r ?_) | ((with_reducible refine SIn_ne ?_ ?_); focus decide) | ((with_reducible refine SW_true ?_ ?_); focus exact rfl) | ((with_reducible refine SW_false ?_ ?_); focus exact rfl) | ((with_reducible apply SW_run tt_ok hG htb); focus ((repeat' (first | (with_reducible exact runX_nil) | ((with_reducible apply runX_cons); focus (simp (discharger := omega) only [go_sem, simprocAttr]; with_reducible rfl)))); done)))
    refine SW_region ?_
    refine SL_k tt_ok hG htb 8 (by simp only [List.take_succ_cons, List.take_zero]; rfl) (by simp only [List.drop_succ_cons, List.drop_zero, Nat.reduceAdd]; rfl) (by (repeat' (first | (with_reducible exact runX_nil) | ((with_reducible apply runX_cons); focus (simp (discharger := omega) only [go_sem, hsi, simprocAttr]; with_reducible rfl))))) ?_
    refine SL_callH (g := sf) (cap := [.t c0, .bptr 0 0]) (obs := [.box [.t b0, .t b1, .t b2, .t b3]]) (ks := []) (obs' := [.box [.t b0, .t b1, .t b2, .t b3]] ++ [.row 3 1 true (iL u)]) (rst := ?zrb) (r := .sref 1) (s3 := ?zub) rfl rfl ?q1b ?q2b ?q3b ?q4b ?q5b ?q6b ?q7b ?q8b ?q9b
    case q5b => exact c3
    case q1b => rfl
    case q2b => rfl
    case q3b => rfl
    case q4b => rfl
    case q6b => rfl
    case q7b => rfl
    case q8b =>
      simp only [go_sem, St.back, List.map_cons, List.map_nil, SV.ren, Ob.ren, renL, pastG, lateG, List.length_cons, List.length_nil, List.take_succ_cons, List.take_zero, List.drop_succ_cons, List.drop_zero, List.getElem?_cons_zero, List.getElem?_cons_succ, List.getElem?_nil, List.cons_append, List.nil_append, simprocAttr]
      rfl
    refine SL_norm (Norm.headP [1, 2, 5, 6, 7] rfl (own := []) (keep := [55, 9, 6, 1, 2, 7, 8, 10, 11, 12, 28, 29, 32, 33, 40]) (by refine ⟨?_, ?_⟩; (simp (discharger := omega) only [go_sem, simprocAttr]; with_reducible rfl); refine ⟨?_, ?_, ?_, ?_⟩ <;> (simp only [go_sem, simprocAttr]; with_reducible rfl))) ?_
    refine SL_callH (g := 59) (cap := [.bptr 0 0, .bptr 1 0]) (obs := [.box [.map 2], .box [.sref 3], .map .str es', .row 26 1 true ms', .row 3 1 true (iL u)]) (ks := []) (obs' := [.box [.map 2], .box [.sref 3], .map .str es2, .row 26 1 true ms2, .hole]) (rst := ?zrc) (r := .t (tNat k)) (s3 := ?zuc) rfl rfl ?q1c ?q2c ?q3c ?q4c ?q5c ?q6c ?q7c ?q8c ?q9c
    case q5c => exact c2
    case q1c => rfl
    case q2c => rfl
    case q3c => rfl
    case q4c => rfl
    case q6c => rfl
    case q7c => rfl
    case q8c =>
      simp only [go_sem, St.back, List.map_cons, List.map_nil, SV.ren, Ob.ren, renL, pastG, lateG, List.length_cons, List.length_nil, List.take_succ_cons, List.take_zero, List.drop_succ_cons, List.drop_zero, List.getElem?_cons_zero, List.getElem?_cons_succ, List.getElem?_nil, simprocAttr]
      rfl
    refine SL_done tt_ok hG htb (by (repeat' (first | (with_reducible exact runX_nil) | ((with_reducible apply runX_cons); focus (simp (discharger := omega) only [go_sem, hrl, simprocAttr]; with_reducible rfl))))) ?_
    repeat' (first | (with_reducible first | refine SW_seq ?_ | refine SW_block ?_ | refine SThen_n ?_ | refine SThen_r ?_ | refine SThen_e ?_ | refine SIn_n ?_ | refine SIn_r ?_ | refine SIn_eq ?_ | refine SW_skip ?_ | refine SW_exit ?_ | refine SW_ret ?_ | refine SPost_r ?_) | ((with_reducible refine SIn_ne ?_ ?_); focus decide) | ((with_reducible refine SW_true ?_ ?_); focus exact rfl) | ((with_reducible refine SW_false ?_ ?_); focus exact rfl) | ((with_reducible apply SW_run tt_ok hG htb); focus ((repeat' (first | (with_reducible exact runX_nil) | ((with_reducible apply runX_cons); focus (simp (discharger := omega) only [go_sem, simprocAttr]; with_reducible rfl)))); done)))
    exact ⟨n - (l + 1), _, by omega, Norm.headS (own := []) (keep := [55, 9, 6, 1, 2, 7, 8, 10, 11, 12, 28, 29]) (by refine ⟨?_, ?_⟩; (simp (discharger := omega) only [go_sem, simprocAttr]; with_reducible rfl); refine ⟨?_, ?_, ?_, ?_⟩ <;> (simp only [go_sem, simprocAttr]; with_reducible rfl)), l + 1, _, _, _, rfl, rfl, by omega, hes2.symm, hms3.symm, by rw [← hstep, List.map_append, ← hrw']; rfl⟩
  · obtain rfl : l = n := by omega
    have hnl : nx.length = i := by
      rw [hnx, List.length_map]
      simp [rowsIn]; omega
    repeat' (first | (with_reducible first | apply w1 | apply w2 | apply w3 | apply w4 | apply w5 | apply w6 | apply w7 | apply w8 | apply w9 | apply wa | apply wb | apply wc) | ((with_reducible apply wd); focus decide) | ((with_reducible apply we); focus exact rfl) | ((with_reducible apply wf); focus exact rfl) | ((first | (with_reducible apply SW_run tt_ok hG htb) | ((with_reducible apply SW_draw rfl tt_ok hG htb); (focus kernel_rfl); focus simp only [List.range, List.range.loop, List.size_toArray, List.length_cons, List.length_nil, Nat.reduceAdd])); focus ((repeat' (first | (with_reducible first | exact wg | exact wh) | ((with_reducible first | apply wi | apply wj); focus (simp (discharger := omega) only [go_sem, hnl, simprocAttr]; with_reducible rfl)))); done)))
    exact ⟨2001 - (i + 1), _, by omega, Norm.headS (own := []) (keep := [55, 9, 6, 1, 2, 7, 8, 10, 11]) (by refine ⟨?_, ?_⟩; (simp (discharger := omega) only [go_sem, simprocAttr]; with_reducible rfl); refine ⟨?_, ?_, ?_, ?_⟩ <;> (simp only [go_sem, simprocAttr]; with_reducible rfl)), i + 1, _, _, _, rfl, rfl, by omega, by rw [hnext]; have := (partS_pre δ P s l).length_le; omega, by rw [hnext]; exact hes', by rw [hnext]; exact hms', by rw [hnext, ← hrows, List.map_append, ← hnx, hrw']; rfl⟩
end
end Go.Proofs.Ythcclcbliedodaa
namespace Go.Proofs.Ythcclcbliedodaa
open Go.RowKit

theorem bang0 {l : List (List Int)} {x : List Int} (h : l[0]? = some x) : l[0]! = x := by
  cases l with
  | nil => simp at h
  | cons y l => simpa using h
theorem grow_facts {stp : List Int → Nat → List Int} {n : Nat} {first : List Int} (h : growOk stp n first = true) :
    (growRows stp n first).length = (growSets stp n first).length ∧ 0 < (growSets stp n first).length ∧ (growSets stp n first).length ≤ 2000 ∧ Rows0 n (growSets stp n first).length (growRows stp n first) ∧ (growSets stp n first)[0]! = canonL first ∧ Expl (nextD stp) n (growSets stp n first) (growRows stp n first) := by
  have hs : growSets stp n first = setsOf (nextD stp) n (canonL first) := if_pos h
  have hr : growRows stp n first = rowsOf (nextD stp) n (canonL first) := if_pos h
  have hex := rowsOf_expl h
  have hl : (rowsOf (nextD stp) n (canonL first)).length = (setsOf (nextD stp) n (canonL first)).length := rowsOf_len
  have h0 : (setsOf (nextD stp) n (canonL first))[0]? = some (canonL first) := by unfold setsOf; generalize 2001 = k; exact growS_zero k
  have h2 : (setsOf (nextD stp) n (canonL first)).length ≤ 2000 := by
    have h' := h
    unfold growOk setsOk at h'
    exact of_decide_eq_true h'
  rw [hs, hr]
  obtain ⟨q1, q2⟩ := List.getElem?_eq_some_iff.1 h0
  exact ⟨hl, q1, h2, hex.table hl, bang0 h0, hex⟩
theorem grow_inm {stp : List Int → Nat → List Int} {n m : Nat} {first : List Int} (hf : Inm m first) (hs : ∀ s l, Inm m s → l < n → Inm m (stp s l)) : ∀ s ∈ growSets stp n first, Inm m s ∧ s.Pairwise (· < ·) := fun s h => by
  unfold growSets at h
  split at h
  · unfold setsOf at h
    generalize 2001 = k at h
    exact growS_in' (p := fun s => Inm m s ∧ s.Pairwise (· < ·)) ⟨hf.canon, (canonL_spec _).1⟩ (fun s l hl hp => ⟨(hs s l hp.1 hl).canon, (canonL_spec _).1⟩) k s h
  · simp at h
theorem inm_len {m : Nat} {s : List Int} (h : Inm m s) (ha : s.Pairwise (· < ·)) : s.length ≤ m := asc_len ha h
end Go.Proofs.Ythcclcbliedodaa
