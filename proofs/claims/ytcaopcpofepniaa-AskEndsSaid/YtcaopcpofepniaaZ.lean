/- The law AskEnds returns true at every input and leaves its arguments as they read. No conditions. -/
import Derived.Test.YtcaopcpofepniaaM3
import Derived.Test.YtcaopcpofepniaaChecked
set_option linter.unusedSimpArgs false
set_option linter.unusedVariables false
set_option linter.unnecessarySimpa false
set_option linter.unusedSectionVars false
namespace Go.Proofs.Ytcaopcpofepniaa
open Go.RowKit

def tt0 : Nat → Option TI
  | 1 => some ⟨.plain, 1, 8, [.t .undef], false⟩
  | 2 => some ⟨.int .i64, 1, 8, [.t (.int .i64 0)], false⟩
  | 3 => some ⟨.int .i64, 1, 8, [.t (.int .i64 0)], false⟩
  | 4 => some ⟨.bool, 1, 1, [.t (.bool false)], false⟩
  | 5 => some ⟨.int .u8, 1, 1, [.t (.int .u8 0)], false⟩
  | 6 => some ⟨.int .u8, 1, 1, [.t (.int .u8 0)], false⟩
  | 7 => some ⟨.struct [(0, 1), (1, 1), (2, 1), (3, 1)], 4, 24, [.t (.int .i64 0), .t (.int .i64 0), .t (.bool false), .t (.int .u8 0)], false⟩
  | _ => none
def tt1 : Nat → Option TI
  | 8 => some ⟨.struct [(0, 1), (1, 1), (2, 1), (3, 1)], 4, 24, [.t (.int .i64 0), .t (.int .i64 0), .t (.bool false), .t (.int .u8 0)], false⟩
  | 9 => some ⟨.str, 1, 16, [.t (.str ByteArray.empty)], false⟩
  | 10 => some ⟨.str, 1, 16, [.t (.str ByteArray.empty)], false⟩
  | 11 => some ⟨.str, 1, 16, [.t (.str ByteArray.empty)], false⟩
  | 12 => some ⟨.int .u64, 1, 8, [.t (.int .u64 0)], false⟩
  | 13 => some ⟨.struct [(0, 1), (1, 1)], 2, 24, [.t (.str ByteArray.empty), .t (.int .u64 0)], false⟩
  | 14 => some ⟨.struct [(0, 1), (1, 1)], 2, 24, [.t (.str ByteArray.empty), .t (.int .u64 0)], false⟩
  | 15 => some ⟨.plain, 1, 8, [.t .undef], false⟩
  | _ => none
def tt2 : Nat → Option TI
  | 16 => some ⟨.plain, 1, 8, [.t .undef], false⟩
  | 17 => some ⟨.plain, 1, 8, [.t .undef], false⟩
  | 18 => some ⟨.struct [(0, 1)], 1, 8, [.t .undef], false⟩
  | 19 => some ⟨.struct [(0, 1)], 1, 8, [.t .undef], false⟩
  | 20 => some ⟨.iface, 1, 16, [.t .nilI], false⟩
  | 21 => some ⟨.int .i32, 1, 4, [.t (.int .i32 0)], false⟩
  | 22 => some ⟨.slice 26, 1, 24, [.nil], false⟩
  | 23 => some ⟨.slice 4, 1, 24, [.nil], false⟩
  | _ => none
def tt3 : Nat → Option TI
  | 24 => some ⟨.struct [(0, 1), (1, 1), (2, 1), (3, 1)], 4, 64, [.t (.int .i64 0), .t (.int .i64 0), .nil, .nil], false⟩
  | 25 => some ⟨.struct [(0, 1), (1, 1), (2, 1), (3, 1)], 4, 64, [.t (.int .i64 0), .t (.int .i64 0), .nil, .nil], false⟩
  | 26 => some ⟨.slice 3, 1, 24, [.nil], false⟩
  | 27 => some ⟨.iface, 1, 16, [.t .nilI], false⟩
  | 28 => some ⟨.iface, 1, 16, [.t .nilI], false⟩
  | 30 => some ⟨.plain, 1, 8, [.t .undef], false⟩
  | 31 => some ⟨.plain, 1, 8, [.t .undef], false⟩
  | _ => none
def tt4 : Nat → Option TI
  | 33 => some ⟨.plain, 1, 8, [.t .undef], false⟩
  | 35 => some ⟨.plain, 1, 8, [.t .undef], false⟩
  | 36 => some ⟨.plain, 1, 8, [.t .undef], false⟩
  | 38 => some ⟨.plain, 1, 8, [.t .undef], false⟩
  | 39 => some ⟨.plain, 1, 8, [.t .undef], false⟩
  | _ => none
def tt5 : Nat → Option TI
  | 40 => some ⟨.plain, 1, 8, [.t .undef], false⟩
  | 41 => some ⟨.plain, 1, 8, [.t .undef], false⟩
  | 42 => some ⟨.plain, 1, 8, [.t .undef], false⟩
  | 43 => some ⟨.plain, 1, 8, [.t .undef], false⟩
  | 44 => some ⟨.plain, 1, 8, [.t .undef], false⟩
  | 46 => some ⟨.plain, 1, 8, [.t .undef], false⟩
  | 47 => some ⟨.plain, 1, 8, [.t .undef], false⟩
  | _ => none
def tt6 : Nat → Option TI
  | 48 => some ⟨.plain, 1, 8, [.t .undef], false⟩
  | 49 => some ⟨.plain, 1, 8, [.t .undef], false⟩
  | 50 => some ⟨.int .i64, 1, 8, [.t (.int .i64 0)], false⟩
  | 51 => some ⟨.plain, 1, 8, [.t .undef], false⟩
  | 52 => some ⟨.plain, 1, 8, [.t .undef], false⟩
  | 53 => some ⟨.plain, 1, 8, [.t .undef], false⟩
  | 55 => some ⟨.plain, 1, 8, [.t .undef], false⟩
  | _ => none
def tt7 : Nat → Option TI
  | 56 => some ⟨.plain, 1, 8, [.t .undef], false⟩
  | 57 => some ⟨.plain, 1, 8, [.t .undef], false⟩
  | 59 => some ⟨.plain, 1, 8, [.t .undef], false⟩
  | 60 => some ⟨.struct [(0, 1), (1, 1)], 2, 16, [.t (.int .i64 0), .t (.int .i64 0)], true⟩
  | 61 => some ⟨.struct [(0, 1), (1, 1)], 2, 16, [.t (.int .i64 0), .t (.int .i64 0)], true⟩
  | 62 => some ⟨.plain, 1, 8, [.t .undef], false⟩
  | 63 => some ⟨.plain, 1, 8, [.t .undef], false⟩
  | _ => none
def tt8 : Nat → Option TI
  | 64 => some ⟨.plain, 1, 8, [.t .undef], false⟩
  | 65 => some ⟨.slice 23, 1, 24, [.nil], false⟩
  | 66 => some ⟨.plain, 1, 8, [.t .undef], false⟩
  | 67 => some ⟨.plain, 1, 8, [.t .undef], false⟩
  | 68 => some ⟨.map (.str) 9 3, 1, 8, [.t .undef], false⟩
  | 69 => some ⟨.slice 5, 1, 24, [.nil], false⟩
  | 70 => some ⟨.int .u64, 1, 8, [.t (.int .u64 0)], false⟩
  | _ => none
def tt9 : Nat → Option TI
  | 72 => some ⟨.slice 61, 1, 24, [.nil], false⟩
  | 73 => some ⟨.struct [(0, 1), (1, 1)], 2, 16, [.t (.int .i64 0), .t (.int .i64 0)], true⟩
  | 74 => some ⟨.struct [(0, 1), (1, 1)], 2, 16, [.t (.int .i64 0), .t (.int .i64 0)], true⟩
  | 75 => some ⟨.slice 74, 1, 24, [.nil], false⟩
  | 76 => some ⟨.map (.ints 2) 61 3, 1, 8, [.t .undef], false⟩
  | 77 => some ⟨.plain, 1, 8, [.t .undef], false⟩
  | 78 => some ⟨.plain, 1, 8, [.t .undef], false⟩
  | 79 => some ⟨.struct [(0, 1), (1, 1), (2, 1), (3, 1)], 4, 40, [.t .undef, .t .undef, .t .undef, .t (.str ByteArray.empty)], false⟩
  | _ => none
def tt10 : Nat → Option TI
  | 80 => some ⟨.struct [(0, 1), (1, 1), (2, 1), (3, 1)], 4, 40, [.t .undef, .t .undef, .t .undef, .t (.str ByteArray.empty)], false⟩
  | 84 => some ⟨.plain, 1, 8, [.t .undef], false⟩
  | 85 => some ⟨.int .u32, 1, 4, [.t (.int .u32 0)], false⟩
  | 86 => some ⟨.int .u8, 1, 1, [.t (.int .u8 0)], false⟩
  | 87 => some ⟨.int .u8, 1, 1, [.t (.int .u8 0)], false⟩
  | _ => none
def tt11 : Nat → Option TI
  | 88 => some ⟨.plain, 1, 8, [.t .undef], false⟩
  | 89 => some ⟨.plain, 1, 8, [.t .undef], false⟩
  | 90 => some ⟨.int .i32, 1, 4, [.t (.int .i32 0)], false⟩
  | 91 => some ⟨.int .i32, 1, 4, [.t (.int .i32 0)], false⟩
  | 92 => some ⟨.struct [(0, 1), (1, 1), (2, 1), (3, 1), (4, 1), (5, 1), (6, 1), (7, 1), (8, 1), (9, 1), (10, 1)], 11, 48, [.t (.int .u64 0), .t (.int .u64 0), .t (.int .u32 0), .t (.int .u8 0), .t (.int .u8 0), .t (.int .u8 0), .t (.int .u8 0), .t .undef, .t .undef, .t (.int .i32 0), .t (.int .i32 0)], false⟩
  | 93 => some ⟨.struct [(0, 1), (1, 1), (2, 1), (3, 1), (4, 1), (5, 1), (6, 1), (7, 1), (8, 1), (9, 1), (10, 1)], 11, 48, [.t (.int .u64 0), .t (.int .u64 0), .t (.int .u32 0), .t (.int .u8 0), .t (.int .u8 0), .t (.int .u8 0), .t (.int .u8 0), .t .undef, .t .undef, .t (.int .i32 0), .t (.int .i32 0)], false⟩
  | _ => none
def tts0 (n : Nat) : Nat → Option TI
  | 0 => tt0 n
  | 1 => tt1 n
  | 2 => tt2 n
  | 3 => tt3 n
  | 4 => tt4 n
  | 5 => tt5 n
  | 6 => tt6 n
  | 7 => tt7 n
  | _ => none
def tts1 (n : Nat) : Nat → Option TI
  | 8 => tt8 n
  | 9 => tt9 n
  | 10 => tt10 n
  | 11 => tt11 n
  | _ => none
def tt (n : Nat) : Option TI := match n / 64 with
  | 0 => tts0 n (n / 8)
  | 1 => tts1 n (n / 8)
  | _ => none
set_option maxRecDepth 100000
theorem laid : laidOutB Try.prog = true := by kernel_rfl
theorem small : Try.prog.types.size + 2 ≤ 10000 := of_decide_eq_true (by kernel_rfl)
theorem tt0_ok : TTok Try.prog tt0 := by
  intro t i h
  unfold tt0 at h
  split at h <;> first
    | (cases h; exact chkTI_ok laid small (by kernel_rfl))
    | cases h
theorem tt1_ok : TTok Try.prog tt1 := by
  intro t i h
  unfold tt1 at h
  split at h <;> first
    | (cases h; exact chkTI_ok laid small (by kernel_rfl))
    | cases h
theorem tt2_ok : TTok Try.prog tt2 := by
  intro t i h
  unfold tt2 at h
  split at h <;> first
    | (cases h; exact chkTI_ok laid small (by kernel_rfl))
    | cases h
theorem tt3_ok : TTok Try.prog tt3 := by
  intro t i h
  unfold tt3 at h
  split at h <;> first
    | (cases h; exact chkTI_ok laid small (by kernel_rfl))
    | cases h
theorem tt4_ok : TTok Try.prog tt4 := by
  intro t i h
  unfold tt4 at h
  split at h <;> first
    | (cases h; exact chkTI_ok laid small (by kernel_rfl))
    | cases h
theorem tt5_ok : TTok Try.prog tt5 := by
  intro t i h
  unfold tt5 at h
  split at h <;> first
    | (cases h; exact chkTI_ok laid small (by kernel_rfl))
    | cases h
theorem tt6_ok : TTok Try.prog tt6 := by
  intro t i h
  unfold tt6 at h
  split at h <;> first
    | (cases h; exact chkTI_ok laid small (by kernel_rfl))
    | cases h
theorem tt7_ok : TTok Try.prog tt7 := by
  intro t i h
  unfold tt7 at h
  split at h <;> first
    | (cases h; exact chkTI_ok laid small (by kernel_rfl))
    | cases h
theorem tt8_ok : TTok Try.prog tt8 := by
  intro t i h
  unfold tt8 at h
  split at h <;> first
    | (cases h; exact chkTI_ok laid small (by kernel_rfl))
    | cases h
theorem tt9_ok : TTok Try.prog tt9 := by
  intro t i h
  unfold tt9 at h
  split at h <;> first
    | (cases h; exact chkTI_ok laid small (by kernel_rfl))
    | cases h
theorem tt10_ok : TTok Try.prog tt10 := by
  intro t i h
  unfold tt10 at h
  split at h <;> first
    | (cases h; exact chkTI_ok laid small (by kernel_rfl))
    | cases h
theorem tt11_ok : TTok Try.prog tt11 := by
  intro t i h
  unfold tt11 at h
  split at h <;> first
    | (cases h; exact chkTI_ok laid small (by kernel_rfl))
    | cases h
theorem tts0_ok (k : Nat) : TTok Try.prog (fun n => tts0 n k) := by
  intro t i h
  unfold tts0 at h
  split at h <;> first
    | exact tt0_ok _ _ h
    | exact tt1_ok _ _ h
    | exact tt2_ok _ _ h
    | exact tt3_ok _ _ h
    | exact tt4_ok _ _ h
    | exact tt5_ok _ _ h
    | exact tt6_ok _ _ h
    | exact tt7_ok _ _ h
    | cases h
theorem tts1_ok (k : Nat) : TTok Try.prog (fun n => tts1 n k) := by
  intro t i h
  unfold tts1 at h
  split at h <;> first
    | exact tt8_ok _ _ h
    | exact tt9_ok _ _ h
    | exact tt10_ok _ _ h
    | exact tt11_ok _ _ h
    | cases h
theorem tt_ok : TTok Try.prog tt := by
  intro t i h
  unfold tt at h
  split at h <;> first
    | exact tts0_ok _ _ _ h
    | exact tts1_ok _ _ _ h
    | cases h
end Go.Proofs.Ytcaopcpofepniaa
namespace Go.Proofs.Ytcaopcpofepniaa
open Go.RowKit

attribute [go_sem] nLe nNle nLt nNlt nEq nNe iLe iNle iLt iNlt iEq iNe
attribute [go_sem] runOps stepOp stepOp0 stepOp1 evalOp dstOk St.ev.eq_1 St.ev.eq_2 St.ev.eq_3 St.ev.eq_4 ofConst St.get
attribute [go_sem] St.put look T.bin isConst mkFn allT St.len St.lst St.obj St.load loadT loadS
attribute [go_sem] mkAgg TK.isAgg St.index treeIndex SV.plus T.cells T.max2 T.min2 fillS SV.storable T.storable SV.cells
attribute [go_sem] St.litS idxOk zipFrz frz frzC frzL St.append St.appLen scrub St.bd SV.ren renL
attribute [go_sem] Ob.ren St.store T.put TI.zT SV.toT0 List.length_replicate List.getElem?_replicate Nat.one_mul Nat.mul_one List.isEmpty_cons List.isEmpty_nil or_self
attribute [go_sem] true_or or_true false_or or_false and_self decide_eq_true_eq if_true if_false ite_true ite_false Option.getD_some Option.getD_none
attribute [go_sem] Option.map_some Option.map_none Option.bind_some Option.bind_none decide_true decide_false Bool.true_and Bool.and_true Bool.false_and Bool.and_false Bool.not_true Bool.not_false
attribute [go_sem] beq_self_eq_true List.getElem?_cons_zero List.getElem?_cons_succ List.map_cons List.map_nil List.cons_append List.nil_append List.length_cons List.length_nil List.toList_toArray true_and and_true
attribute [go_sem] false_and and_false List.all_cons List.all_nil List.drop_zero List.drop_succ_cons List.take_succ_cons List.take_zero List.head?_cons List.set_cons_zero List.set_cons_succ Bool.or_true
attribute [go_sem] Bool.true_or Bool.or_false Bool.false_or ne_eq not_true_eq_false not_false_eq_true Nat.zero_add List.getElem?_toArray tInt tNat tInts tBools
attribute [go_sem] tIntss wrap_i64 List.getElem?_map List.length_map Int.toNat_natCast List.all_map stepX stepX0 evalX St.callR findCo
attribute [go_sem] St.litQ St.sliceQ St.rdL St.rd St.trL St.tr T.flatData flatAll lookR St.mapUp St.slice strSlice
attribute [go_sem] T.okKey T.inR bytesOf eq_self stepI quietOp St.ownAll St.own setSlot true_implies implies_true false_implies
attribute [go_sem] keepL reach addNew refsL SV.refs Ob.refs List.append_nil List.mem_cons List.not_mem_nil List.getElem?_nil posIn St.resL
attribute [go_sem] St.res1 St.gc St.head
theorem gb_a (l : List Int) (k : Nat) (h : k < l.length) : l[k]? = some l[k]! := get_bang l k h
theorem gb_b (l : List Bool) (k : Nat) (h : k < l.length) : l[k]? = some l[k]! := get_bang l k h
theorem gb_c (l : List (List Int)) (k : Nat) (h : k < l.length) : l[k]? = some l[k]! := get_bang l k h
theorem gb_d (l : List Nat) (k : Nat) (h : k < l.length) : l[k]? = some l[k]! := get_bang l k h
theorem gb_e (l : List T) (k : Nat) (h : k < l.length) : l[k]? = some l[k]! := get_bang l k h
theorem gb_f (l : List (List (List Int))) (k : Nat) (h : k < l.length) : l[k]? = some l[k]! := get_bang l k h
theorem gb_g (l : List (List Bool)) (k : Nat) (h : k < l.length) : l[k]? = some l[k]! := get_bang l k h
theorem gb_h (l : List (List Nat)) (k : Nat) (h : k < l.length) : l[k]? = some l[k]! := get_bang l k h
theorem gb_i (l : List (List (List (List Int)))) (k : Nat) (h : k < l.length) : l[k]? = some l[k]! := get_bang l k h
theorem gb_j (l : List (Int × Int)) (k : Nat) (h : k < l.length) : l[k]? = some l[k]! := get_bang l k h
theorem gb_k (l : List (Nat × Nat)) (k : Nat) (h : k < l.length) : l[k]? = some l[k]! := get_bang l k h
theorem gb_l (l : List UInt8) (k : Nat) (h : k < l.length) : l[k]? = some l[k]! := get_bang l k h
theorem gb_m (l : List (List T)) (k : Nat) (h : k < l.length) : l[k]? = some l[k]! := get_bang l k h
theorem gb_n (l : List String) (k : Nat) (h : k < l.length) : l[k]? = some l[k]! := get_bang l k h
attribute [go_sem] gb_a gb_b gb_c gb_d gb_e gb_f gb_g gb_h gb_i gb_j gb_k gb_l gb_m gb_n
attribute [go_sem] T.beqA eqIs SV.gd Option.some.injEq
attribute [go_sem] St.sliceA T.isCell stepA allocAt List.lookup
attribute [go_sem] St.res tt tts0 tts1 tt0 tt1 tt2 tt3 tt4 tt5 tt6 tt7 tt8 tt9 tt10 tt11
theorem w1 : type_of% @SW_seq := @SW_seq
theorem w2 : type_of% @SW_block := @SW_block
theorem w3 : type_of% @SThen_n := @SThen_n
theorem w4 : type_of% @SThen_r := @SThen_r
theorem w5 : type_of% @SThen_e := @SThen_e
theorem w6 : type_of% @SIn_n := @SIn_n
theorem w7 : type_of% @SIn_r := @SIn_r
theorem w8 : type_of% @SIn_eq := @SIn_eq
theorem w9 : type_of% @SW_skip := @SW_skip
theorem wa : type_of% @SW_exit := @SW_exit
theorem wb : type_of% @SW_ret := @SW_ret
theorem wc : type_of% @SPost_r := @SPost_r
theorem wd : type_of% @SIn_ne := @SIn_ne
theorem we : type_of% @SW_true := @SW_true
theorem wf : type_of% @SW_false := @SW_false
theorem wg : type_of% @runX_nil := @runX_nil
theorem wh : type_of% @runI_nil := @runI_nil
theorem wi : type_of% @runX_cons := @runX_cons
theorem wj : type_of% @runI_cons := @runI_cons
end Go.Proofs.Ytcaopcpofepniaa
namespace Go.Proofs.Ytcaopcpofepniaa
open Go.RowKit

def tErr (e : Int) : T := if e = 0 then .nilI else .iface 50 (.int .i64 e)
theorem tErr0 : tErr 0 = .nilI := rfl
def tAuto (a : GAuto) : T := .agg [tInt a.base, tInt a.tracks, tIntss a.next, tBools a.ends]
def I64s (l : List Int) : Prop := ∀ x ∈ l, I64 x
structure I64A (a : GAuto) : Prop where
  base : I64 a.base
  tracks : I64 a.tracks
  next : ∀ r ∈ a.next, I64s r
section
variable {P : Program} {G : World → Prop}
end
theorem bang_get {α : Type} [Inhabited α] {l : List α} {i : Nat} {x : α} (h : l[i]! = x) (hi : i < l.length) : l[i]? = some x := by rw [← h, getElem!_pos l i hi]; exact List.getElem?_eq_getElem hi
theorem bang_mem {α : Type} [Inhabited α] {l : List α} {i : Nat} {x : α} (h : l[i]! = x) (hi : i < l.length) : x ∈ l := List.mem_of_getElem? (bang_get h hi)
theorem bang_D {α : Type} [Inhabited α] {l : List α} {i : Nat} {x d : α} (h : l[i]! = x) (hi : i < l.length) : l.getD i d = x := by rw [getD_lt hi, ← h, getElem!_pos l i hi]
theorem bang_at {α : Type} [Inhabited α] {l : List α} {i : Nat} {x : α} (h : l[i]! = x) (hi : i < l.length) : l[i] = x := by rw [← h, getElem!_pos l i hi]
theorem take_next {α : Type} [Inhabited α] {l : List α} {i : Nat} {x : α} (h : l[i]! = x) (hi : i < l.length) : l.take (i + 1) = l.take i ++ [x] := by
  rw [List.take_succ_eq_append_getElem hi, bang_at h hi]
theorem nextOf_bang {next : List (List Int)} {s l u : Int} {row : List Int} (hrow : next[s.toNat]! = row) (hs : s.toNat < next.length) (hu : row[l.toNat]! = u) (hl : l.toNat < row.length) : nextOf next s l = u := by
  unfold nextOf; rw [bang_D hrow hs, bang_D hu hl]
theorem runFrom_take (next : List (List Int)) {w : List Int} {i : Nat} {x : Int} (hx : w[i]! = x) (hi : i < w.length) (s : Int) : runFrom next s (w.take (i + 1)) = nextOf next (runFrom next s (w.take i)) x := by
  rw [take_next hx hi, runFrom_append]; rfl
section
variable {G : World → Prop} (hG : Lasting G)
include hG
theorem Radix_snd (base : Int) : Snd Try.prog G 32 [tInt base] (tInt (radix base)) := by
  have htb : Tab.ok Try.prog G [] := Tab.nil
  refine snd_of_body (n := 12) (tm := [(0, .t (tInt base))]) (rs := [.tmp 2]) tt_ok Try.func32 rfl rfl rfl rfl rfl ?_
  unfold radix
  by_cases h1 : base = 1
  · repeat' (first | (with_reducible first | apply w1 | apply w2 | apply w3 | apply w4 | apply w5 | apply w6 | apply w7 | apply w8 | apply w9 | apply wa | apply wb | apply wc) | ((with_reducible apply wd); focus decide) | ((with_reducible apply we); focus exact rfl) | ((with_reducible apply wf); focus exact rfl) | ((first | (with_reducible apply SW_run tt_ok hG htb) | ((with_reducible apply SW_draw rfl tt_ok hG htb); (focus kernel_rfl); focus simp only [List.range, List.range.loop, List.size_toArray, List.length_cons, List.length_nil, Nat.reduceAdd])); focus ((repeat' (first | (with_reducible first | exact wg | exact wh) | ((with_reducible first | apply wi | apply wj); focus (simp (discharger := omega) only [go_sem, h1, simprocAttr]; with_reducible rfl)))); done)))
    exact (by simp (discharger := omega) only [go_sem, h1, simprocAttr])
  · by_cases h2 : 2 ≤ base
    · by_cases h3 : base ≤ 6
      · repeat' (first | (with_reducible first | apply w1 | apply w2 | apply w3 | apply w4 | apply w5 | apply w6 | apply w7 | apply w8 | apply w9 | apply wa | apply wb | apply wc) | ((with_reducible apply wd); focus decide) | ((with_reducible apply we); focus exact rfl) | ((with_reducible apply wf); focus exact rfl) | ((first | (with_reducible apply SW_run tt_ok hG htb) | ((with_reducible apply SW_draw rfl tt_ok hG htb); (focus kernel_rfl); focus simp only [List.range, List.range.loop, List.size_toArray, List.length_cons, List.length_nil, Nat.reduceAdd])); focus ((repeat' (first | (with_reducible first | exact wg | exact wh) | ((with_reducible first | apply wi | apply wj); focus (simp (discharger := omega) only [go_sem, simprocAttr]; with_reducible rfl)))); done)))
        exact (by simp (discharger := omega) only [go_sem, simprocAttr])
      · repeat' (first | (with_reducible first | apply w1 | apply w2 | apply w3 | apply w4 | apply w5 | apply w6 | apply w7 | apply w8 | apply w9 | apply wa | apply wb | apply wc) | ((with_reducible apply wd); focus decide) | ((with_reducible apply we); focus exact rfl) | ((with_reducible apply wf); focus exact rfl) | ((first | (with_reducible apply SW_run tt_ok hG htb) | ((with_reducible apply SW_draw rfl tt_ok hG htb); (focus kernel_rfl); focus simp only [List.range, List.range.loop, List.size_toArray, List.length_cons, List.length_nil, Nat.reduceAdd])); focus ((repeat' (first | (with_reducible first | exact wg | exact wh) | ((with_reducible first | apply wi | apply wj); focus (simp (discharger := omega) only [go_sem, simprocAttr]; with_reducible rfl)))); done)))
        exact (by simp (discharger := omega) only [go_sem, simprocAttr])
    · repeat' (first | (with_reducible first | apply w1 | apply w2 | apply w3 | apply w4 | apply w5 | apply w6 | apply w7 | apply w8 | apply w9 | apply wa | apply wb | apply wc) | ((with_reducible apply wd); focus decide) | ((with_reducible apply we); focus exact rfl) | ((with_reducible apply wf); focus exact rfl) | ((first | (with_reducible apply SW_run tt_ok hG htb) | ((with_reducible apply SW_draw rfl tt_ok hG htb); (focus kernel_rfl); focus simp only [List.range, List.range.loop, List.size_toArray, List.length_cons, List.length_nil, Nat.reduceAdd])); focus ((repeat' (first | (with_reducible first | exact wg | exact wh) | ((with_reducible first | apply wi | apply wj); focus (simp (discharger := omega) only [go_sem, simprocAttr]; with_reducible rfl)))); done)))
      exact (by simp (discharger := omega) only [go_sem, simprocAttr])
set_option maxHeartbeats 4000000 in
theorem Many_snd (base t : Int) : Snd Try.prog G 30 [tInt base, tInt t] (.tup [tInt (manyOf base t), tErr (manyErr base t)]) := by
  have htb := Tab.cons (Radix_snd hG base) Tab.nil
  refine snd_of_body (n := 32) (tm := [(0, .t (tInt base)), (1, .t (tInt t))]) (rs := [.tmp 4, .tmp 5]) tt_ok Try.func30 rfl rfl rfl rfl rfl ?_
  unfold manyOf manyErr
  generalize hk : radix base = k at htb ⊢
  by_cases h1 : k = 0
  · subst h1
    repeat' (first | (with_reducible first | apply w1 | apply w2 | apply w3 | apply w4 | apply w5 | apply w6 | apply w7 | apply w8 | apply w9 | apply wa | apply wb | apply wc) | ((with_reducible apply wd); focus decide) | ((with_reducible apply we); focus exact rfl) | ((with_reducible apply wf); focus exact rfl) | ((first | (with_reducible apply SW_run tt_ok hG htb) | ((with_reducible apply SW_draw rfl tt_ok hG htb); (focus kernel_rfl); focus simp only [List.range, List.range.loop, List.size_toArray, List.length_cons, List.length_nil, Nat.reduceAdd])); focus ((repeat' (first | (with_reducible first | exact wg | exact wh) | ((with_reducible first | apply wi | apply wj); focus (simp (discharger := omega) only [go_sem, simprocAttr]; with_reducible rfl)))); done)))
    exact (by simp (discharger := omega) only [go_sem, tErr, simprocAttr])
  · by_cases h2 : t < 0
    · repeat' (first | (with_reducible first | apply w1 | apply w2 | apply w3 | apply w4 | apply w5 | apply w6 | apply w7 | apply w8 | apply w9 | apply wa | apply wb | apply wc) | ((with_reducible apply wd); focus decide) | ((with_reducible apply we); focus exact rfl) | ((with_reducible apply wf); focus exact rfl) | ((first | (with_reducible apply SW_run tt_ok hG htb) | ((with_reducible apply SW_draw rfl tt_ok hG htb); (focus kernel_rfl); focus simp only [List.range, List.range.loop, List.size_toArray, List.length_cons, List.length_nil, Nat.reduceAdd])); focus ((repeat' (first | (with_reducible first | exact wg | exact wh) | ((with_reducible first | apply wi | apply wj); focus (simp (discharger := omega) only [go_sem, simprocAttr]; with_reducible rfl)))); done)))
      exact (by simp (discharger := omega) only [go_sem, tErr, simprocAttr])
    · by_cases h3 : 5 < t
      · repeat' (first | (with_reducible first | apply w1 | apply w2 | apply w3 | apply w4 | apply w5 | apply w6 | apply w7 | apply w8 | apply w9 | apply wa | apply wb | apply wc) | ((with_reducible apply wd); focus decide) | ((with_reducible apply we); focus exact rfl) | ((with_reducible apply wf); focus exact rfl) | ((first | (with_reducible apply SW_run tt_ok hG htb) | ((with_reducible apply SW_draw rfl tt_ok hG htb); (focus kernel_rfl); focus simp only [List.range, List.range.loop, List.size_toArray, List.length_cons, List.length_nil, Nat.reduceAdd])); focus ((repeat' (first | (with_reducible first | exact wg | exact wh) | ((with_reducible first | apply wi | apply wj); focus (simp (discharger := omega) only [go_sem, simprocAttr]; with_reducible rfl)))); done)))
        exact (by simp (discharger := omega) only [go_sem, tErr, simprocAttr])
      · obtain ⟨r2, r6⟩ := radix_two (b := base) (by omega)
        rw [hk] at r2 r6
        obtain ⟨t, rfl⟩ := Int.eq_ofNat_of_zero_le (show 0 ≤ t by omega)
        rw [show (if k = 0 ∨ (t : Int) < 0 ∨ 5 < (t : Int) then (1 : Int) else if 36 < powW k (t : Int).toNat then 3 else 0) = if 36 < powW k t then 3 else 0 by rw [if_neg (by omega)]; rfl]
        repeat' (first | (with_reducible first | apply w1 | apply w2 | apply w3 | apply w4 | apply w5 | apply w6 | apply w7 | apply w8 | apply w9 | apply wa | apply wb | apply wc) | ((with_reducible apply wd); focus decide) | ((with_reducible apply we); focus exact rfl) | ((with_reducible apply wf); focus exact rfl) | ((first | (with_reducible apply SW_run tt_ok hG htb) | ((with_reducible apply SW_draw rfl tt_ok hG htb); (focus kernel_rfl); focus simp only [List.range, List.range.loop, List.size_toArray, List.length_cons, List.length_nil, Nat.reduceAdd])); focus ((repeat' (first | (with_reducible first | exact wg | exact wh) | ((with_reducible first | apply wi | apply wj); focus (simp (discharger := omega) only [go_sem, simprocAttr]; with_reducible rfl)))); done)))
        refine SW_loop (fun m s => ∃ i : Nat, m = t - i ∧ s = ⟨32, [(6, .t (tInt k)), (7, .t (tInt (powW k i))), (21, .t (tInt t)), (22, .t (tInt i))], []⟩ ∧ i ≤ t) t ⟨_, Norm.headS (own := []) (keep := [6, 7, 21, 22]) (by refine ⟨?_, ?_⟩; (simp (discharger := omega) only [go_sem, simprocAttr]; with_reducible rfl); refine ⟨?_, ?_, ?_, ?_⟩ <;> (simp only [go_sem, simprocAttr]; with_reducible rfl)), 0, rfl, rfl, Nat.zero_le _⟩ ?_
        rintro m s ⟨i, rfl, rfl, hi⟩
        have hb := powW_bd r2 r6 (j := i) (by omega)
        by_cases hlt : i < t
        · have hb1 : 1 ≤ powW k i * k ∧ powW k i * k ≤ 7776 := powW_bd r2 r6 (j := i + 1) (by omega)
          repeat' (first | (with_reducible first | apply w1 | apply w2 | apply w3 | apply w4 | apply w5 | apply w6 | apply w7 | apply w8 | apply w9 | apply wa | apply wb | apply wc) | ((with_reducible apply wd); focus decide) | ((with_reducible apply we); focus exact rfl) | ((with_reducible apply wf); focus exact rfl) | ((first | (with_reducible apply SW_run tt_ok hG htb) | ((with_reducible apply SW_draw rfl tt_ok hG htb); (focus kernel_rfl); focus simp only [List.range, List.range.loop, List.size_toArray, List.length_cons, List.length_nil, Nat.reduceAdd])); focus ((repeat' (first | (with_reducible first | exact wg | exact wh) | ((with_reducible first | apply wi | apply wj); focus (simp (discharger := omega) only [go_sem, simprocAttr]; with_reducible rfl)))); done)))
          exact ⟨t - (i + 1), _, by omega, Norm.headS (own := []) (keep := [6, 7, 21, 22]) (by refine ⟨?_, ?_⟩; (simp (discharger := omega) only [go_sem, simprocAttr]; with_reducible rfl); refine ⟨?_, ?_, ?_, ?_⟩ <;> (simp only [go_sem, simprocAttr]; with_reducible rfl)), i + 1, rfl, rfl, by omega⟩
        · obtain rfl : i = t := by omega
          by_cases h36 : 36 < powW k i
          · repeat' (first | (with_reducible first | apply w1 | apply w2 | apply w3 | apply w4 | apply w5 | apply w6 | apply w7 | apply w8 | apply w9 | apply wa | apply wb | apply wc) | ((with_reducible apply wd); focus decide) | ((with_reducible apply we); focus exact rfl) | ((with_reducible apply wf); focus exact rfl) | ((first | (with_reducible apply SW_run tt_ok hG htb) | ((with_reducible apply SW_draw rfl tt_ok hG htb); (focus kernel_rfl); focus simp only [List.range, List.range.loop, List.size_toArray, List.length_cons, List.length_nil, Nat.reduceAdd])); focus ((repeat' (first | (with_reducible first | exact wg | exact wh) | ((with_reducible first | apply wi | apply wj); focus (simp (discharger := omega) only [go_sem, simprocAttr]; with_reducible rfl)))); done)))
            exact (by simp (discharger := omega) only [go_sem, tErr, simprocAttr])
          · repeat' (first | (with_reducible first | apply w1 | apply w2 | apply w3 | apply w4 | apply w5 | apply w6 | apply w7 | apply w8 | apply w9 | apply wa | apply wb | apply wc) | ((with_reducible apply wd); focus decide) | ((with_reducible apply we); focus exact rfl) | ((with_reducible apply wf); focus exact rfl) | ((first | (with_reducible apply SW_run tt_ok hG htb) | ((with_reducible apply SW_draw rfl tt_ok hG htb); (focus kernel_rfl); focus simp only [List.range, List.range.loop, List.size_toArray, List.length_cons, List.length_nil, Nat.reduceAdd])); focus ((repeat' (first | (with_reducible first | exact wg | exact wh) | ((with_reducible first | apply wi | apply wj); focus (simp (discharger := omega) only [go_sem, simprocAttr]; with_reducible rfl)))); done)))
            exact (by simp (discharger := omega) only [go_sem, tErr, simprocAttr])
set_option maxHeartbeats 4000000 in
theorem Check_snd (a : GAuto) : Snd Try.prog G 20 [tAuto a] (tErr (autoFault a)) := by
  have htb := Tab.cons (Many_snd hG a.base a.tracks) Tab.nil
  refine snd_of_body (n := 72) (tm := [(0, .t (tAuto a))]) (rs := [.tmp 2]) tt_ok Try.func20 rfl rfl rfl rfl rfl ?_
  unfold autoFault
  by_cases h0 : manyErr a.base a.tracks = 0
  · rw [if_neg (by omega)]
    rw [h0] at htb
    have h36 := (many_ok h0).2.2.2.1
    rw [← (many_ok h0).2.2.2.2] at h36
    generalize hmo : manyOf a.base a.tracks = mo at *
    by_cases h1 : a.next.length = 0
    · repeat' (first | (with_reducible first | apply w1 | apply w2 | apply w3 | apply w4 | apply w5 | apply w6 | apply w7 | apply w8 | apply w9 | apply wa | apply wb | apply wc) | ((with_reducible apply wd); focus decide) | ((with_reducible apply we); focus exact rfl) | ((with_reducible apply wf); focus exact rfl) | ((first | (with_reducible apply SW_run tt_ok hG htb) | ((with_reducible apply SW_draw rfl tt_ok hG htb); (focus kernel_rfl); focus simp only [List.range, List.range.loop, List.size_toArray, List.length_cons, List.length_nil, Nat.reduceAdd])); focus ((repeat' (first | (with_reducible first | exact wg | exact wh) | ((with_reducible first | apply wi | apply wj); focus (simp (discharger := omega) only [go_sem, tAuto, tErr, simprocAttr]; with_reducible rfl)))); done)))
      exact (by simp (discharger := omega) only [go_sem, tErr, simprocAttr])
    · by_cases h2 : 80 < a.next.length
      · repeat' (first | (with_reducible first | apply w1 | apply w2 | apply w3 | apply w4 | apply w5 | apply w6 | apply w7 | apply w8 | apply w9 | apply wa | apply wb | apply wc) | ((with_reducible apply wd); focus decide) | ((with_reducible apply we); focus exact rfl) | ((with_reducible apply wf); focus exact rfl) | ((first | (with_reducible apply SW_run tt_ok hG htb) | ((with_reducible apply SW_draw rfl tt_ok hG htb); (focus kernel_rfl); focus simp only [List.range, List.range.loop, List.size_toArray, List.length_cons, List.length_nil, Nat.reduceAdd])); focus ((repeat' (first | (with_reducible first | exact wg | exact wh) | ((with_reducible first | apply wi | apply wj); focus (simp (discharger := omega) only [go_sem, tAuto, tErr, simprocAttr]; with_reducible rfl)))); done)))
        exact (by simp (discharger := omega) only [go_sem, tErr, simprocAttr])
      · by_cases h3 : a.ends.length = a.next.length
        · rw [if_neg h1, if_neg h2, if_neg (by omega)]
          repeat' (first | (with_reducible first | apply w1 | apply w2 | apply w3 | apply w4 | apply w5 | apply w6 | apply w7 | apply w8 | apply w9 | apply wa | apply wb | apply wc) | ((with_reducible apply wd); focus decide) | ((with_reducible apply we); focus exact rfl) | ((with_reducible apply wf); focus exact rfl) | ((first | (with_reducible apply SW_run tt_ok hG htb) | ((with_reducible apply SW_draw rfl tt_ok hG htb); (focus kernel_rfl); focus simp only [List.range, List.range.loop, List.size_toArray, List.length_cons, List.length_nil, Nat.reduceAdd])); focus ((repeat' (first | (with_reducible first | exact wg | exact wh) | ((with_reducible first | apply wi | apply wj); focus (simp (discharger := omega) only [go_sem, tAuto, tErr, h3, simprocAttr]; with_reducible rfl)))); done)))
          refine SW_loop (fun m s => ∃ i : Nat, m = a.next.length - i ∧ s = ⟨72, [(1, .bptr 0 0), (3, .t (tInt mo)), (43, .t (tIntss a.next)), (44, .t (tInt a.next.length)), (45, .t (tInt i))], [.box [.t (tInt a.base), .t (tInt a.tracks), .t (tIntss a.next), .t (tBools a.ends)]]⟩ ∧ i ≤ a.next.length ∧ ∀ j (hj : j < a.next.length), j < i → (a.next[j].length : Int) = mo ∧ ∀ s ∈ a.next[j], 0 ≤ s ∧ s < (a.next.length : Int)) a.next.length
            ⟨_, Norm.headS (own := []) (keep := [1, 3, 43, 44, 45]) (by refine ⟨?_, ?_⟩; (simp (discharger := omega) only [go_sem, simprocAttr]; with_reducible rfl); refine ⟨?_, ?_, ?_, ?_⟩ <;> (simp only [go_sem, simprocAttr]; with_reducible rfl)), 0, rfl, rfl, Nat.zero_le _, fun j hj h => by omega⟩ ?_
          rintro m s ⟨i, rfl, rfl, hi, hA⟩
          by_cases hlt : i < a.next.length
          · obtain ⟨row, hrow⟩ : ∃ row, a.next[i]! = row := ⟨_, rfl⟩
            have hat := bang_at hrow hlt
            obtain ⟨f1, f2⟩ := rowsFault_at hlt hA
            rw [hat] at f1 f2
            by_cases hrl : (row.length : Int) = mo
            · repeat' (first | (with_reducible first | apply w1 | apply w2 | apply w3 | apply w4 | apply w5 | apply w6 | apply w7 | apply w8 | apply w9 | apply wa | apply wb | apply wc) | ((with_reducible apply wd); focus decide) | ((with_reducible apply we); focus exact rfl) | ((with_reducible apply wf); focus exact rfl) | ((first | (with_reducible apply SW_run tt_ok hG htb) | ((with_reducible apply SW_draw rfl tt_ok hG htb); (focus kernel_rfl); focus simp only [List.range, List.range.loop, List.size_toArray, List.length_cons, List.length_nil, Nat.reduceAdd])); focus ((repeat' (first | (with_reducible first | exact wg | exact wh) | ((with_reducible first | apply wi | apply wj); focus (simp (discharger := omega) only [go_sem, hrow, simprocAttr]; with_reducible rfl)))); done)))
              refine SW_loop (fun m s => ∃ l : Nat, m = row.length - l ∧ s = ⟨72, [(1, .bptr 0 0), (3, .t (tInt mo)), (43, .t (tIntss a.next)), (44, .t (tInt a.next.length)), (45, .t (tInt i)), (54, .t (tInts row)), (55, .t (tInt row.length)), (56, .t (tInt l))], [.box [.t (tInt a.base), .t (tInt a.tracks), .t (tIntss a.next), .t (tBools a.ends)]]⟩ ∧ l ≤ row.length ∧ ∀ x ∈ row.take l, 0 ≤ x ∧ x < (a.next.length : Int)) row.length
                ⟨_, Norm.headS (own := []) (keep := [1, 3, 43, 44, 45, 54, 55, 56]) (by refine ⟨?_, ?_⟩; (simp (discharger := omega) only [go_sem, simprocAttr]; with_reducible rfl); refine ⟨?_, ?_, ?_, ?_⟩ <;> (simp only [go_sem, simprocAttr]; with_reducible rfl)), 0, rfl, rfl, Nat.zero_le _, fun x hx => by simp at hx⟩ ?_
              rintro m s ⟨l, rfl, rfl, hl, hB⟩
              by_cases hlt2 : l < row.length
              · obtain ⟨x, hx⟩ : ∃ x, row[l]! = x := ⟨_, rfl⟩
                have htk := take_next hx hlt2
                have hxm := bang_mem hx hlt2
                by_cases hx0 : 0 ≤ x
                · by_cases hxm2 : x < (a.next.length : Int)
                  · repeat' (first | (with_reducible first | apply w1 | apply w2 | apply w3 | apply w4 | apply w5 | apply w6 | apply w7 | apply w8 | apply w9 | apply wa | apply wb | apply wc) | ((with_reducible apply wd); focus decide) | ((with_reducible apply we); focus exact rfl) | ((with_reducible apply wf); focus exact rfl) | ((first | (with_reducible apply SW_run tt_ok hG htb) | ((with_reducible apply SW_draw rfl tt_ok hG htb); (focus kernel_rfl); focus simp only [List.range, List.range.loop, List.size_toArray, List.length_cons, List.length_nil, Nat.reduceAdd])); focus ((repeat' (first | (with_reducible first | exact wg | exact wh) | ((with_reducible first | apply wi | apply wj); focus (simp (discharger := omega) only [go_sem, hx, simprocAttr]; with_reducible rfl)))); done)))
                    exact ⟨row.length - (l + 1), _, by omega, Norm.headS (own := []) (keep := [1, 3, 43, 44, 45, 54, 55, 56]) (by refine ⟨?_, ?_⟩; (simp (discharger := omega) only [go_sem, simprocAttr]; with_reducible rfl); refine ⟨?_, ?_, ?_, ?_⟩ <;> (simp only [go_sem, simprocAttr]; with_reducible rfl)), l + 1, rfl, rfl, by omega, fun y hy => by
                      rw [htk] at hy
                      rcases List.mem_append.1 hy with h | h
                      · exact hB y h
                      · simp at h; subst h; exact ⟨hx0, hxm2⟩⟩
                  · rw [f2 hrl ⟨x, hxm, by omega⟩]
                    repeat' (first | (with_reducible first | apply w1 | apply w2 | apply w3 | apply w4 | apply w5 | apply w6 | apply w7 | apply w8 | apply w9 | apply wa | apply wb | apply wc) | ((with_reducible apply wd); focus decide) | ((with_reducible apply we); focus exact rfl) | ((with_reducible apply wf); focus exact rfl) | ((first | (with_reducible apply SW_run tt_ok hG htb) | ((with_reducible apply SW_draw rfl tt_ok hG htb); (focus kernel_rfl); focus simp only [List.range, List.range.loop, List.size_toArray, List.length_cons, List.length_nil, Nat.reduceAdd])); focus ((repeat' (first | (with_reducible first | exact wg | exact wh) | ((with_reducible first | apply wi | apply wj); focus (simp (discharger := omega) only [go_sem, hx, simprocAttr]; with_reducible rfl)))); done)))
                    exact (by simp (discharger := omega) only [go_sem, tErr, simprocAttr])
                · rw [f2 hrl ⟨x, hxm, by omega⟩]
                  repeat' (first | (with_reducible first | apply w1 | apply w2 | apply w3 | apply w4 | apply w5 | apply w6 | apply w7 | apply w8 | apply w9 | apply wa | apply wb | apply wc) | ((with_reducible apply wd); focus decide) | ((with_reducible apply we); focus exact rfl) | ((with_reducible apply wf); focus exact rfl) | ((first | (with_reducible apply SW_run tt_ok hG htb) | ((with_reducible apply SW_draw rfl tt_ok hG htb); (focus kernel_rfl); focus simp only [List.range, List.range.loop, List.size_toArray, List.length_cons, List.length_nil, Nat.reduceAdd])); focus ((repeat' (first | (with_reducible first | exact wg | exact wh) | ((with_reducible first | apply wi | apply wj); focus (simp (discharger := omega) only [go_sem, hx, simprocAttr]; with_reducible rfl)))); done)))
                  exact (by simp (discharger := omega) only [go_sem, tErr, simprocAttr])
              · obtain rfl : l = row.length := by omega
                rw [List.take_length] at hB
                repeat' (first | (with_reducible first | apply w1 | apply w2 | apply w3 | apply w4 | apply w5 | apply w6 | apply w7 | apply w8 | apply w9 | apply wa | apply wb | apply wc) | ((with_reducible apply wd); focus decide) | ((with_reducible apply we); focus exact rfl) | ((with_reducible apply wf); focus exact rfl) | ((first | (with_reducible apply SW_run tt_ok hG htb) | ((with_reducible apply SW_draw rfl tt_ok hG htb); (focus kernel_rfl); focus simp only [List.range, List.range.loop, List.size_toArray, List.length_cons, List.length_nil, Nat.reduceAdd])); focus ((repeat' (first | (with_reducible first | exact wg | exact wh) | ((with_reducible first | apply wi | apply wj); focus (simp (discharger := omega) only [go_sem, simprocAttr]; with_reducible rfl)))); done)))
                exact ⟨a.next.length - (i + 1), _, by omega, Norm.headS (own := []) (keep := [1, 3, 43, 44, 45]) (by refine ⟨?_, ?_⟩; (simp (discharger := omega) only [go_sem, simprocAttr]; with_reducible rfl); refine ⟨?_, ?_, ?_, ?_⟩ <;> (simp only [go_sem, simprocAttr]; with_reducible rfl)), i + 1, rfl, rfl, by omega, fun j hj h => by
                  by_cases e : j = i
                  · subst e; rw [hat]; exact ⟨hrl, hB⟩
                  · exact hA j hj (by omega)⟩
            · rw [f1 hrl]
              repeat' (first | (with_reducible first | apply w1 | apply w2 | apply w3 | apply w4 | apply w5 | apply w6 | apply w7 | apply w8 | apply w9 | apply wa | apply wb | apply wc) | ((with_reducible apply wd); focus decide) | ((with_reducible apply we); focus exact rfl) | ((with_reducible apply wf); focus exact rfl) | ((first | (with_reducible apply SW_run tt_ok hG htb) | ((with_reducible apply SW_draw rfl tt_ok hG htb); (focus kernel_rfl); focus simp only [List.range, List.range.loop, List.size_toArray, List.length_cons, List.length_nil, Nat.reduceAdd])); focus ((repeat' (first | (with_reducible first | exact wg | exact wh) | ((with_reducible first | apply wi | apply wj); focus (simp (discharger := omega) only [go_sem, hrow, simprocAttr]; with_reducible rfl)))); done)))
              exact (by simp (discharger := omega) only [go_sem, tErr, simprocAttr])
          · obtain rfl : i = a.next.length := by omega
            rw [rowsFault_zero.2 fun r hr => by obtain ⟨j, hj, rfl⟩ := List.mem_iff_getElem.1 hr; exact hA j hj hj]
            repeat' (first | (with_reducible first | apply w1 | apply w2 | apply w3 | apply w4 | apply w5 | apply w6 | apply w7 | apply w8 | apply w9 | apply wa | apply wb | apply wc) | ((with_reducible apply wd); focus decide) | ((with_reducible apply we); focus exact rfl) | ((with_reducible apply wf); focus exact rfl) | ((first | (with_reducible apply SW_run tt_ok hG htb) | ((with_reducible apply SW_draw rfl tt_ok hG htb); (focus kernel_rfl); focus simp only [List.range, List.range.loop, List.size_toArray, List.length_cons, List.length_nil, Nat.reduceAdd])); focus ((repeat' (first | (with_reducible first | exact wg | exact wh) | ((with_reducible first | apply wi | apply wj); focus (simp (discharger := omega) only [go_sem, simprocAttr]; with_reducible rfl)))); done)))
            exact (by simp (discharger := omega) only [go_sem, tErr, simprocAttr])
        · repeat' (first | (with_reducible first | apply w1 | apply w2 | apply w3 | apply w4 | apply w5 | apply w6 | apply w7 | apply w8 | apply w9 | apply wa | apply wb | apply wc) | ((with_reducible apply wd); focus decide) | ((with_reducible apply we); focus exact rfl) | ((with_reducible apply wf); focus exact rfl) | ((first | (with_reducible apply SW_run tt_ok hG htb) | ((with_reducible apply SW_draw rfl tt_ok hG htb); (focus kernel_rfl); focus simp only [List.range, List.range.loop, List.size_toArray, List.length_cons, List.length_nil, Nat.reduceAdd])); focus ((repeat' (first | (with_reducible first | exact wg | exact wh) | ((with_reducible first | apply wi | apply wj); focus (simp (discharger := omega) only [go_sem, tAuto, tErr, h3, simprocAttr]; with_reducible rfl)))); done)))
          exact (by simp (discharger := omega) only [go_sem, tErr, h3, simprocAttr])
  · generalize manyErr a.base a.tracks = e at *
    repeat' (first | (with_reducible first | apply w1 | apply w2 | apply w3 | apply w4 | apply w5 | apply w6 | apply w7 | apply w8 | apply w9 | apply wa | apply wb | apply wc) | ((with_reducible apply wd); focus decide) | ((with_reducible apply we); focus exact rfl) | ((with_reducible apply wf); focus exact rfl) | ((first | (with_reducible apply SW_run tt_ok hG htb) | ((with_reducible apply SW_draw rfl tt_ok hG htb); (focus kernel_rfl); focus simp only [List.range, List.range.loop, List.size_toArray, List.length_cons, List.length_nil, Nat.reduceAdd])); focus ((repeat' (first | (with_reducible first | exact wg | exact wh) | ((with_reducible first | apply wi | apply wj); focus (simp (discharger := omega) only [go_sem, tAuto, tErr, h0, simprocAttr]; with_reducible rfl)))); done)))
    exact (by simp (discharger := omega) only [go_sem, tErr, h0, simprocAttr])
end
end Go.Proofs.Ytcaopcpofepniaa
namespace Go.Proofs.Ytcaopcpofepniaa
open Go.RowKit

section
variable {G : World → Prop} (hG : Lasting G)
include hG
set_option maxHeartbeats 16000000 in
set_option maxRecDepth 100000 in
theorem alive_snd {a : GAuto} {n m : Nat} (g : Good a n m) : Snd Try.prog G 27 [tAuto a] (tBools (aliveL a n)) := by
  have hlen := g.rows.len
  have hel := g.ends
  have hm80 := g.m80
  have hn36 := g.n36
  have hrow' := g.rows.row
  have hok := g.rows.ok
  have hallb : ∀ l : List Bool, (l.all fun _ => true) = true := fun l => by simp
  refine snd_of_body (n := 42) (tm := [(0, .t (tAuto a))]) (rs := [.tmp 2]) tt_ok Try.func27 rfl rfl rfl rfl rfl ?_
  have htb : Tab.ok Try.prog G [] := Tab.nil
  repeat' (first | (with_reducible first | apply w1 | apply w2 | apply w3 | apply w4 | apply w5 | apply w6 | apply w7 | apply w8 | apply w9 | apply wa | apply wb | apply wc) | ((with_reducible apply wd); focus decide) | ((with_reducible apply we); focus exact rfl) | ((with_reducible apply wf); focus exact rfl) | ((first | (with_reducible apply SW_run tt_ok hG htb) | ((with_reducible apply SW_draw rfl tt_ok hG htb); (focus kernel_rfl); focus simp only [List.range, List.range.loop, List.size_toArray, List.length_cons, List.length_nil, Nat.reduceAdd])); focus ((repeat' (first | (with_reducible first | exact wg | exact wh) | ((with_reducible first | apply wi | apply wj); focus (simp (discharger := omega) only [go_sem, tAuto, simprocAttr]; with_reducible rfl)))); done)))
  refine SW_scopeL rfl (fun k st => ∃ E, k = cntF E ∧ st = ⟨42, [(1, .bptr 0 0), (3, .sref 1)], [.box [.t (tInt a.base), .t (tInt a.tracks), .t (tIntss a.next), .t (tBools a.ends)], .row 4 1 true (E.map T.bool)]⟩ ∧ AlInv a n E) ?_ ?_
  · repeat' (first | (with_reducible first | apply w1 | apply w2 | apply w3 | apply w4 | apply w5 | apply w6 | apply w7 | apply w8 | apply w9 | apply wa | apply wb | apply wc) | ((with_reducible apply wd); focus decide) | ((with_reducible apply we); focus exact rfl) | ((with_reducible apply wf); focus exact rfl) | ((first | (with_reducible apply SW_run tt_ok hG htb) | ((with_reducible apply SW_draw rfl tt_ok hG htb); (focus kernel_rfl); focus simp only [List.range, List.range.loop, List.size_toArray, List.length_cons, List.length_nil, Nat.reduceAdd])); focus ((repeat' (first | (with_reducible first | exact wg | exact wh) | ((with_reducible first | apply wi | apply wj); focus (simp (discharger := omega) only [go_sem, Function.comp_def, hallb, simprocAttr]; with_reducible rfl)))); done)))
    exact ⟨_, _, Norm.headS (own := []) (keep := [1, 3]) (by refine ⟨?_, ?_⟩; (simp (discharger := omega) only [go_sem, simprocAttr]; with_reducible rfl); refine ⟨?_, ?_, ?_, ?_⟩ <;> (simp only [go_sem, simprocAttr]; with_reducible rfl)), a.ends, rfl, rfl, AlInv.start g⟩
  · rintro k st ⟨E, rfl, rfl, hE⟩
    have hEl := hE.len
    repeat' (first | (with_reducible first | apply w1 | apply w2 | apply w3 | apply w4 | apply w5 | apply w6 | apply w7 | apply w8 | apply w9 | apply wa | apply wb | apply wc) | ((with_reducible apply wd); focus decide) | ((with_reducible apply we); focus exact rfl) | ((with_reducible apply wf); focus exact rfl) | ((first | (with_reducible apply SW_run tt_ok hG htb) | ((with_reducible apply SW_draw rfl tt_ok hG htb); (focus kernel_rfl); focus simp only [List.range, List.range.loop, List.size_toArray, List.length_cons, List.length_nil, Nat.reduceAdd])); focus ((repeat' (first | (with_reducible first | exact wg | exact wh) | ((with_reducible first | apply wi | apply wj); focus (simp (discharger := omega) only [go_sem, simprocAttr]; with_reducible rfl)))); done)))
    refine SW_loop (fun mm st => ∃ i : Nat, mm = m - i ∧ st = ⟨42, [(1, .bptr 0 0), (3, .sref 1), (12, .t (tIntss a.next)), (13, .t (tInt a.next.length)), (14, .t (tNat i))], [.box [.t (tInt a.base), .t (tInt a.tracks), .t (tIntss a.next), .t (tBools a.ends)], .row 4 1 true (E.map T.bool)]⟩ ∧ i ≤ m ∧ ∀ s l : Nat, s < i → l < n → E.getD (nx a.next s l).toNat false = true → E.getD s false = true) m
      ⟨_, Norm.headS (own := []) (keep := [1, 3, 12, 13, 14]) (by refine ⟨?_, ?_⟩; (simp (discharger := omega) only [go_sem, simprocAttr]; with_reducible rfl); refine ⟨?_, ?_, ?_, ?_⟩ <;> (simp only [go_sem, simprocAttr]; with_reducible rfl)), 0, rfl, rfl, Nat.zero_le _, fun s l hs => by omega⟩ ?_
    rintro mm st ⟨i, rfl, rfl, hi, hcl⟩
    by_cases hlt : i < m
    · obtain ⟨row, hrow⟩ : ∃ row, a.next[i]! = row := ⟨_, rfl⟩
      have hrl := hrow' row (bang_mem hrow (by omega))
      have hrok := hok row (bang_mem hrow (by omega))
      have hnx : ∀ l : Nat, nx a.next i l = row.getD l 0 := fun l => by unfold nx rowOf; rw [Int.toNat_natCast, bang_D hrow (by omega)]
      obtain ⟨es, hes⟩ : ∃ es, E[i]! = es := ⟨_, rfl⟩
      have hesD : E.getD i false = es := bang_D hes (by omega)
      repeat' (first | (with_reducible first | apply w1 | apply w2 | apply w3 | apply w4 | apply w5 | apply w6 | apply w7 | apply w8 | apply w9 | apply wa | apply wb | apply wc) | ((with_reducible apply wd); focus decide) | ((with_reducible apply we); focus exact rfl) | ((with_reducible apply wf); focus exact rfl) | ((first | (with_reducible apply SW_run tt_ok hG htb) | ((with_reducible apply SW_draw rfl tt_ok hG htb); (focus kernel_rfl); focus simp only [List.range, List.range.loop, List.size_toArray, List.length_cons, List.length_nil, Nat.reduceAdd])); focus ((repeat' (first | (with_reducible first | exact wg | exact wh) | ((with_reducible first | apply wi | apply wj); focus (simp (discharger := omega) only [go_sem, hrow, simprocAttr]; with_reducible rfl)))); done)))
      refine SW_loop (fun mm st => ∃ l : Nat, mm = n - l ∧ st = ⟨42, [(1, .bptr 0 0), (3, .sref 1), (4, .t (tNat i)), (12, .t (tIntss a.next)), (13, .t (tInt a.next.length)), (14, .t (tNat i)), (19, .t (tInts row)), (20, .t (tInt row.length)), (21, .t (tNat l))], [.box [.t (tInt a.base), .t (tInt a.tracks), .t (tIntss a.next), .t (tBools a.ends)], .row 4 1 true (E.map T.bool)]⟩ ∧ l ≤ n ∧ ∀ k : Nat, k < l → E.getD (row.getD k 0).toNat false = true → es = true) n
        ⟨_, Norm.headS (own := []) (keep := [1, 3, 4, 12, 13, 14, 19, 20, 21]) (by refine ⟨?_, ?_⟩; (simp (discharger := omega) only [go_sem, simprocAttr]; with_reducible rfl); refine ⟨?_, ?_, ?_, ?_⟩ <;> (simp only [go_sem, simprocAttr]; with_reducible rfl)), 0, rfl, rfl, Nat.zero_le _, fun k hk => by omega⟩ ?_
      rintro mm st ⟨l, rfl, rfl, hl, hcl2⟩
      by_cases hlt2 : l < n
      · obtain ⟨u, hu⟩ : ∃ u, row[l]! = u := ⟨_, rfl⟩
        have hub := hrok u (bang_mem hu (by omega))
        have huD : row.getD l 0 = u := bang_D hu (by omega)
        obtain ⟨eu, heu⟩ : ∃ eu, E[u.toNat]! = eu := ⟨_, rfl⟩
        have heuD : E.getD u.toNat false = eu := bang_D heu (by omega)
        have hnext : (E.getD (row.getD l 0).toNat false = true → es = true) → ∀ k : Nat, k < l + 1 → E.getD (row.getD k 0).toNat false = true → es = true := fun h k hk he => by
          by_cases e : k = l
          · subst e; exact h he
          · exact hcl2 k (by omega) he
        cases eu with
        | false =>
          repeat' (first | (with_reducible first | apply w1 | apply w2 | apply w3 | apply w4 | apply w5 | apply w6 | apply w7 | apply w8 | apply w9 | apply wa | apply wb | apply wc) | ((with_reducible apply wd); focus decide) | ((with_reducible apply we); focus exact rfl) | ((with_reducible apply wf); focus exact rfl) | ((first | (with_reducible apply SW_run tt_ok hG htb) | ((with_reducible apply SW_draw rfl tt_ok hG htb); (focus kernel_rfl); focus simp only [List.range, List.range.loop, List.size_toArray, List.length_cons, List.length_nil, Nat.reduceAdd])); focus ((repeat' (first | (with_reducible first | exact wg | exact wh) | ((with_reducible first | apply wi | apply wj); focus (simp (discharger := omega) only [go_sem, hu, heu, simprocAttr]; with_reducible rfl)))); done)))
          exact ⟨n - (l + 1), _, by omega, Norm.headS (own := []) (keep := [1, 3, 4, 12, 13, 14, 19, 20, 21]) (by refine ⟨?_, ?_⟩; (simp (discharger := omega) only [go_sem, simprocAttr]; with_reducible rfl); refine ⟨?_, ?_, ?_, ?_⟩ <;> (simp only [go_sem, simprocAttr]; with_reducible rfl)), l + 1, rfl, rfl, by omega, hnext fun h => by rw [huD, heuD] at h; cases h⟩
        | true =>
          cases es with
          | true =>
            repeat' (first | (with_reducible first | apply w1 | apply w2 | apply w3 | apply w4 | apply w5 | apply w6 | apply w7 | apply w8 | apply w9 | apply wa | apply wb | apply wc) | ((with_reducible apply wd); focus decide) | ((with_reducible apply we); focus exact rfl) | ((with_reducible apply wf); focus exact rfl) | ((first | (with_reducible apply SW_run tt_ok hG htb) | ((with_reducible apply SW_draw rfl tt_ok hG htb); (focus kernel_rfl); focus simp only [List.range, List.range.loop, List.size_toArray, List.length_cons, List.length_nil, Nat.reduceAdd])); focus ((repeat' (first | (with_reducible first | exact wg | exact wh) | ((with_reducible first | apply wi | apply wj); focus (simp (discharger := omega) only [go_sem, hu, heu, hes, simprocAttr]; with_reducible rfl)))); done)))
            exact ⟨n - (l + 1), _, by omega, Norm.headS (own := []) (keep := [1, 3, 4, 12, 13, 14, 19, 20, 21]) (by refine ⟨?_, ?_⟩; (simp (discharger := omega) only [go_sem, simprocAttr]; with_reducible rfl); refine ⟨?_, ?_, ?_, ?_⟩ <;> (simp only [go_sem, simprocAttr]; with_reducible rfl)), l + 1, rfl, rfl, by omega, hnext fun _ => rfl⟩
          | false =>
            have hst := hE.step g (s := i) (l := l) (by omega) hlt2 (by rw [hnx, huD, heuD])
            have hlt3 := cntF_set (E := E) (s := i) (by rw [List.getElem?_eq_getElem (by omega), bang_at hes (by omega)])
            repeat' (first | (with_reducible first | apply w1 | apply w2 | apply w3 | apply w4 | apply w5 | apply w6 | apply w7 | apply w8 | apply w9 | apply wa | apply wb | apply wc) | ((with_reducible apply wd); focus decide) | ((with_reducible apply we); focus exact rfl) | ((with_reducible apply wf); focus exact rfl) | ((first | (with_reducible apply SW_run tt_ok hG htb) | ((with_reducible apply SW_draw rfl tt_ok hG htb); (focus kernel_rfl); focus simp only [List.range, List.range.loop, List.size_toArray, List.length_cons, List.length_nil, Nat.reduceAdd])); focus ((repeat' (first | (with_reducible first | exact wg | exact wh) | ((with_reducible first | apply wi | apply wj); focus (simp (discharger := omega) only [go_sem, hu, heu, hes, simprocAttr]; with_reducible rfl)))); done)))
            refine SW_goto ?_
            repeat (first | refine SThen_g ?_ | refine SIn_g ?_)
            exact ⟨rfl, _, _, hlt3, Norm.headS (own := []) (keep := [1, 3]) (by refine ⟨?_, ?_⟩; (simp (discharger := omega) only [go_sem, simprocAttr]; with_reducible rfl); refine ⟨?_, ?_, ?_, ?_⟩ <;> (simp only [go_sem, simprocAttr]; with_reducible rfl)), E.set i true, rfl, by rw [List.map_set]; rfl, hst⟩
      · obtain rfl : l = n := by omega
        repeat' (first | (with_reducible first | apply w1 | apply w2 | apply w3 | apply w4 | apply w5 | apply w6 | apply w7 | apply w8 | apply w9 | apply wa | apply wb | apply wc) | ((with_reducible apply wd); focus decide) | ((with_reducible apply we); focus exact rfl) | ((with_reducible apply wf); focus exact rfl) | ((first | (with_reducible apply SW_run tt_ok hG htb) | ((with_reducible apply SW_draw rfl tt_ok hG htb); (focus kernel_rfl); focus simp only [List.range, List.range.loop, List.size_toArray, List.length_cons, List.length_nil, Nat.reduceAdd])); focus ((repeat' (first | (with_reducible first | exact wg | exact wh) | ((with_reducible first | apply wi | apply wj); focus (simp (discharger := omega) only [go_sem, hrl, simprocAttr]; with_reducible rfl)))); done)))
        exact ⟨m - (i + 1), _, by omega, Norm.headS (own := []) (keep := [1, 3, 12, 13, 14]) (by refine ⟨?_, ?_⟩; (simp (discharger := omega) only [go_sem, simprocAttr]; with_reducible rfl); refine ⟨?_, ?_, ?_, ?_⟩ <;> (simp only [go_sem, simprocAttr]; with_reducible rfl)), i + 1, rfl, rfl, by omega, fun s k hs hk he => by
          by_cases e : s = i
          · subst e
            rw [hnx] at he
            rw [hesD]; exact hcl2 k hk he
          · exact hcl s k (by omega) hk he⟩
    · obtain rfl : i = m := by omega
      have hfin := hE.done g fun s l hs hl he => hcl s l (by omega) hl he
      rw [← hfin]
      repeat' (first | (with_reducible first | apply w1 | apply w2 | apply w3 | apply w4 | apply w5 | apply w6 | apply w7 | apply w8 | apply w9 | apply wa | apply wb | apply wc) | ((with_reducible apply wd); focus decide) | ((with_reducible apply we); focus exact rfl) | ((with_reducible apply wf); focus exact rfl) | ((first | (with_reducible apply SW_run tt_ok hG htb) | ((with_reducible apply SW_draw rfl tt_ok hG htb); (focus kernel_rfl); focus simp only [List.range, List.range.loop, List.size_toArray, List.length_cons, List.length_nil, Nat.reduceAdd])); focus ((repeat' (first | (with_reducible first | exact wg | exact wh) | ((with_reducible first | apply wi | apply wj); focus (simp (discharger := omega) only [go_sem, simprocAttr]; with_reducible rfl)))); done)))
      exact SPost_r (by simp (discharger := omega) only [go_sem, simprocAttr])
end
end Go.Proofs.Ytcaopcpofepniaa
namespace Go.Proofs.Ytcaopcpofepniaa
open Go.RowKit

def akCap : List SV := [.bptr 0 0, .bptr 1 0, .bptr 2 0, .bptr 3 0]
def akObs (a : GAuto) (U : List Bool) (C : List Int) : List Ob := [.box [.sref 4], .box [.t (tInt a.base), .t (tInt a.tracks), .t (tIntss a.next), .t (tBools a.ends)], .box [.t (tBools U)], .box [.fn 28 akCap], .row 3 1 true (C.map tInt)]
/-- What the closure gives of a state. -/
def AkC (G : World → Prop) (a : GAuto) (U : List Bool) (f : Nat) (s : Int) (C : List Int) : Prop :=
  SndC Try.prog G 28 (.t (tInt s) :: akCap) (akObs a U C) (.bool (dfs a.next U f s C).1) (akObs a U (dfs a.next U f s C).2)
theorem ak_pins {a : GAuto} {U : List Bool} {C C' : List Int} (i : Nat) (l : List SV) (h : (akObs a U C)[i]? = some (.box l)) : i ∈ [0, 1, 2, 3] ∧ ∃ l', (akObs a U C')[i]? = some (.box l') := by
  have := (List.getElem?_eq_some_iff.1 h).1
  have hi : i < 5 := this
  have hc : i = 0 ∨ i = 1 ∨ i = 2 ∨ i = 3 ∨ i = 4 := by omega
  rcases hc with rfl | rfl | rfl | rfl | rfl
  · exact ⟨by simp, _, rfl⟩
  · exact ⟨by simp, _, rfl⟩
  · exact ⟨by simp, _, rfl⟩
  · exact ⟨by simp, _, rfl⟩
  · simp [akObs] at h
theorem ak_pins2 {a : GAuto} {U : List Bool} {C : List Int} : ∀ i ∈ [0, 1, 2, 3], ∃ l, (akObs a U C)[i]? = some (.box l) := fun i hi => by
  simp only [List.mem_cons, List.not_mem_nil, or_false] at hi
  rcases hi with rfl | rfl | rfl | rfl <;> exact ⟨_, rfl⟩
theorem ak_ren (a : GAuto) (U : List Bool) (C : List Int) : (akObs a U C).map (Ob.ren (upto (akObs a U C).length)) = akObs a U C := rfl
theorem ak_xren (k : T) : ((SV.t k) :: akCap).map (SV.ren (upto 5)) = (SV.t k) :: akCap := rfl
theorem ak_pins4 {s' : St} {bs : Nat → Nat} (h0 : look s'.tmps 49 = some (.pin 0 (bs 0))) (h1 : look s'.tmps 50 = some (.pin 1 (bs 1))) (h2 : look s'.tmps 51 = some (.pin 2 (bs 2))) (h3 : look s'.tmps 52 = some (.pin 3 (bs 3))) : ∀ i ∈ [0, 1, 2, 3], look s'.tmps (49 + i) = some (.pin i (bs i)) := fun i hi => by
  simp only [List.mem_cons, List.not_mem_nil, or_false] at hi
  rcases hi with rfl | rfl | rfl | rfl
  · exact h0
  · exact h1
  · exact h2
  · exact h3
section
variable {G : World → Prop} (hG : Lasting G)
include hG
set_option maxHeartbeats 16000000 in
set_option maxRecDepth 100000 in
theorem ak_step {a : GAuto} {n m : Nat} (g : Good a n m) {U : List Bool} (hU : U.length = m) {f : Nat} (ih : ∀ (s : Int) (C : List Int), C.length = m → 0 ≤ s → s < (m : Int) → colAt C s = 0 → whites C ≤ f → AkC G a U f s C) {s : Int} {C : List Int} (hC : C.length = m) (s0 : 0 ≤ s) (sm : s < (m : Int)) (hw : colAt C s = 0) (hf : whites C ≤ f + 1) : AkC G a U (f + 1) s C := by
  have hlen := g.rows.len
  have hm80 := g.m80
  have hn36 := g.n36
  obtain ⟨row, hrow⟩ : ∃ row, a.next[s.toNat]! = row := ⟨_, rfl⟩
  have hrl := g.rows.row row (bang_mem hrow (by omega))
  have hrok := g.rows.ok row (bang_mem hrow (by omega))
  have hro : rowOf a.next s = row := by unfold rowOf; exact bang_D hrow (by omega)
  have hC0 : C[s.toNat]? = some 0 := by
    unfold colAt at hw
    rw [getD_lt (by omega)] at hw
    rw [List.getElem?_eq_getElem (by omega), hw]
  have hw1 := whites_less (x := 1) (by decide) hC0
  have hk := fun l => dfold_keeps a.next U f l (false, C.set s.toNat 1)
  have hCl : (C.set s.toNat 1).length = m := by rw [List.length_set]; exact hC
  unfold AkC
  rw [dfs_succ, hro]
  simp only at hk
  refine sndC_of_body tt_ok Try.func28 rfl rfl (n := 49) rfl (tm := []) (rs := [.tmp 6]) rfl rfl rfl [0, 1, 2, 3] ak_pins ak_pins2 fun bs => ?_
  show SW Try.prog G _ _ ⟨49, [(0, .t (tInt s)), (1, .bptr 0 0), (2, .bptr 1 0), (3, .bptr 2 0), (4, .bptr 3 0), (49, .pin 0 (bs 0)), (50, .pin 1 (bs 1)), (51, .pin 2 (bs 2)), (52, .pin 3 (bs 3))], [.box [.sref 4], .box [.t (tInt a.base), .t (tInt a.tracks), .t (tIntss a.next), .t (tBools a.ends)], .box [.t (tBools U)], .box [.fn 28 [.bptr 0 0, .bptr 1 0, .bptr 2 0, .bptr 3 0]], .row 3 1 true (C.map tInt)]⟩
  have htb : Tab.ok Try.prog G [] := Tab.nil
  repeat' (first | (with_reducible first | apply w1 | apply w2 | apply w3 | apply w4 | apply w5 | apply w6 | apply w7 | apply w8 | apply w9 | apply wa | apply wb | apply wc) | ((with_reducible apply wd); focus decide) | ((with_reducible apply we); focus exact rfl) | ((with_reducible apply wf); focus exact rfl) | ((first | (with_reducible apply SW_run tt_ok hG htb) | ((with_reducible apply SW_draw rfl tt_ok hG htb); (focus kernel_rfl); focus simp only [List.range, List.range.loop, List.size_toArray, List.length_cons, List.length_nil, Nat.reduceAdd])); focus ((repeat' (first | (with_reducible first | exact wg | exact wh) | ((with_reducible first | apply wi | apply wj); focus (simp (discharger := omega) only [go_sem, hrow, hrl, simprocAttr]; with_reducible rfl)))); done)))
  refine SW_loop (fun mm st => ∃ (i : Nat) (Ci : List Int) (rt : List T), mm = n - i ∧ st = ⟨49, [(49, .pin 0 (bs 0)), (50, .pin 1 (bs 1)), (51, .pin 2 (bs 2)), (52, .pin 3 (bs 3)), (0, .t (tInt s)), (1, .bptr 0 0), (2, .bptr 1 0), (3, .bptr 2 0), (4, .bptr 3 0), (16, .t (tInts row)), (17, .t (tInt n)), (18, .t (tNat i))], [.box [.sref 4], .box [.t (tInt a.base), .t (tInt a.tracks), .t (tIntss a.next), .t (tBools a.ends)], .box [.t (tBools U)], .box [.fn 28 [.bptr 0 0, .bptr 1 0, .bptr 2 0, .bptr 3 0]], .row 3 1 true rt]⟩ ∧ i ≤ n ∧ rt = Ci.map tInt ∧ (row.take i).foldl (dstep a.next U f) (false, C.set s.toNat 1) = (false, Ci)) n
    ⟨_, Norm.headS (own := []) (keep := [49, 50, 51, 52, 0, 1, 2, 3, 4, 16, 17, 18]) (by refine ⟨?_, ?_⟩; (simp (discharger := omega) only [go_sem, simprocAttr]; with_reducible rfl); refine ⟨?_, ?_, ?_, ?_⟩ <;> (simp only [go_sem, simprocAttr]; with_reducible rfl)), 0, C.set s.toNat 1, _, rfl, rfl, Nat.zero_le _, by rw [List.map_set]; rfl, rfl⟩ ?_
  rintro mm st ⟨i, Ci, rt, rfl, rfl, hi, hrt, hfo⟩
  have hki := hk (row.take i)
  rw [hfo] at hki
  simp only at hki
  have hCi : Ci.length = m := hki.1.trans hCl
  by_cases hlt : i < n
  · obtain ⟨t, ht⟩ : ∃ t, row[i]! = t := ⟨_, rfl⟩
    have htb2 := hrok t (bang_mem ht (by omega))
    have htk := take_next ht (by omega : i < row.length)
    have hnext : ∀ q, dstep a.next U f (false, Ci) t = q → (row.take (i + 1)).foldl (dstep a.next U f) (false, C.set s.toNat 1) = q := fun q hq => by rw [htk, List.foldl_append, hfo]; exact hq
    have hall2 : ∀ Cj, dstep a.next U f (false, Ci) t = (true, Cj) → row.foldl (dstep a.next U f) (false, C.set s.toNat 1) = (true, Cj) := fun Cj hq => by
      have h1 := hnext _ hq
      have h2 : row = row.take (i + 1) ++ row.drop (i + 1) := (List.take_append_drop (i + 1) row).symm
      rw [h2, List.foldl_append, h1]; exact dfold_true _ _ _ _ _
    obtain ⟨ut, hut⟩ : ∃ ut, U[t.toNat]! = ut := ⟨_, rfl⟩
    have hup : upAt U t = ut := by unfold upAt; exact bang_D hut (by omega)
    obtain ⟨c, hc⟩ : ∃ c, Ci[t.toNat]! = c := ⟨_, rfl⟩
    have hcol : colAt Ci t = c := by unfold colAt; exact bang_D hc (by omega)
    have hds : dstep a.next U f (false, Ci) t = if ut = true then (if c = 1 then (true, Ci) else if c = 0 then dfs a.next U f t Ci else (false, Ci)) else (false, Ci) := by
      unfold dstep
      simp only
      rw [if_neg (by decide), hup, hcol]
    subst hrt
    clear hk
    cases ut with
    | false =>
      rw [if_neg (by decide)] at hds
      have hgo := hnext _ hds
      clear hnext hall2 hds hfo
      repeat' (first | (with_reducible first | apply w1 | apply w2 | apply w3 | apply w4 | apply w5 | apply w6 | apply w7 | apply w8 | apply w9 | apply wa | apply wb | apply wc) | ((with_reducible apply wd); focus decide) | ((with_reducible apply we); focus exact rfl) | ((with_reducible apply wf); focus exact rfl) | ((first | (with_reducible apply SW_run tt_ok hG htb) | ((with_reducible apply SW_draw rfl tt_ok hG htb); (focus kernel_rfl); focus simp only [List.range, List.range.loop, List.size_toArray, List.length_cons, List.length_nil, Nat.reduceAdd])); focus ((repeat' (first | (with_reducible first | exact wg | exact wh) | ((with_reducible first | apply wi | apply wj); focus (simp (discharger := omega) only [go_sem, ht, hut, simprocAttr]; with_reducible rfl)))); done)))
      exact ⟨n - (i + 1), _, by omega, Norm.headS (own := []) (keep := [49, 50, 51, 52, 0, 1, 2, 3, 4, 16, 17, 18]) (by refine ⟨?_, ?_⟩; (simp (discharger := omega) only [go_sem, simprocAttr]; with_reducible rfl); refine ⟨?_, ?_, ?_, ?_⟩ <;> (simp only [go_sem, simprocAttr]; with_reducible rfl)), i + 1, Ci, _, rfl, rfl, by omega, rfl, hgo⟩
    | true =>
      rw [if_pos rfl] at hds
      by_cases h1 : c = 1
      · rw [if_pos h1] at hds
        have hfin := hall2 _ hds
        rw [hfin]
        clear hnext hall2 hds hfo hfin
        repeat' (first | (with_reducible first | apply w1 | apply w2 | apply w3 | apply w4 | apply w5 | apply w6 | apply w7 | apply w8 | apply w9 | apply wa | apply wb | apply wc) | ((with_reducible apply wd); focus decide) | ((with_reducible apply we); focus exact rfl) | ((with_reducible apply wf); focus exact rfl) | ((first | (with_reducible apply SW_run tt_ok hG htb) | ((with_reducible apply SW_draw rfl tt_ok hG htb); (focus kernel_rfl); focus simp only [List.range, List.range.loop, List.size_toArray, List.length_cons, List.length_nil, Nat.reduceAdd])); focus ((repeat' (first | (with_reducible first | exact wg | exact wh) | ((with_reducible first | apply wi | apply wj); focus (simp (discharger := omega) only [go_sem, ht, hut, hc, h1, simprocAttr]; with_reducible rfl)))); done)))
        simp only [if_true]
        refine SPostC_r ?_ (Norm.headS (own := []) (keep := [49, 50, 51, 52]) (by refine ⟨?_, ?_⟩; (simp (discharger := omega) only [go_sem, simprocAttr]; with_reducible rfl); refine ⟨?_, ?_, ?_, ?_⟩ <;> (simp only [go_sem, simprocAttr]; with_reducible rfl))) ?_ ?_
        · exact (by simp (discharger := omega) only [go_sem, simprocAttr])
        · rfl
        · exact ak_pins4 rfl rfl rfl rfl
      · rw [if_neg h1] at hds
        by_cases h0 : c = 0
        · rw [if_pos h0] at hds
          have hr := ih t Ci hCi htb2.1 htb2.2 (by rw [hcol]; exact h0) (by omega)
          unfold AkC at hr
          obtain ⟨⟨b2, C2⟩, hD⟩ : ∃ q, dfs a.next U f t Ci = q := ⟨_, rfl⟩
          have hkd := dfs_keeps a.next U f t Ci
          rw [hD] at hr hds hkd
          simp only at hr hkd
          repeat' (first | (with_reducible first | refine SW_seq ?_ | refine SW_block ?_ | refine SThen_n ?_ | refine SThen_r ?_ | refine SThen_e ?_ | refine SIn_n ?_ | refine SIn_r ?_ | refine SIn_eq ?_ | refine SW_skip ?_ | refine SW_exit ?_ | refine SW_ret ?_ | refine SPost_r ?_) | ((with_reducible refine SIn_ne ?_ ?_); focus decide) | ((with_reducible refine SW_true ?_ ?_); focus exact rfl) | ((with_reducible refine SW_false ?_ ?_); focus exact rfl) | ((with_reducible apply SW_run tt_ok hG htb); focus ((repeat' (first | (with_reducible exact runX_nil) | ((with_reducible apply runX_cons); focus (simp (discharger := omega) only [go_sem, ht, simprocAttr]; with_reducible rfl)))); done)))
          refine SW_norm (Norm.headS (own := []) (keep := [49, 50, 51, 52, 0, 1, 2, 3, 4, 8, 16, 17, 18]) (by refine ⟨?_, ?_⟩; (simp (discharger := omega) only [go_sem, simprocAttr]; with_reducible rfl); refine ⟨?_, ?_, ?_, ?_⟩ <;> (simp only [go_sem, simprocAttr]; with_reducible rfl))) ?_
          refine SW_runCk tt_ok hG htb 19 rfl (by simp only [List.take_succ_cons, List.take_zero]; rfl) (by simp only [List.drop_succ_cons, List.drop_zero, Nat.reduceAdd]; rfl) (by (repeat' (first | (with_reducible exact runX_nil) | ((with_reducible apply runX_cons); focus (simp (discharger := omega) only [go_sem, hut, hc, h0, simprocAttr]; with_reducible rfl))))) rfl rfl (g := 28) (cap := akCap) (obs := akObs a U Ci) (obs' := akObs a U C2) (rst := ?zr) (r := ?zt) (s2 := ?zs) (s3 := ?zu) ?q1 ?q2 ?q3 ?q4 ?q5 ?q6 ?q7 ?q8 ?q9 ?q10
          case q1 => rfl
          case q2 => rfl
          case q3 => rfl
          case q4 => rfl
          case q5 => exact hr
          case q6 => exact ak_ren a U Ci
          case q7 => exact ak_xren _
          case q8 =>
            simp only [List.map_cons, List.map_nil, List.append_nil, SV.ren, renL, past, akObs, akCap, List.getElem?_cons_zero, List.getElem?_cons_succ, List.getElem?_nil]
            rfl
          case q9 => (repeat' (first | (with_reducible exact runX_nil) | ((with_reducible apply runX_cons); focus (simp (discharger := omega) only [go_sem, simprocAttr]; with_reducible rfl))))
          cases b2 with
          | true =>
            have hfin := hall2 _ hds
            rw [hfin]
            clear hnext hall2 hds hfo hfin
            repeat' (first | (with_reducible first | apply w1 | apply w2 | apply w3 | apply w4 | apply w5 | apply w6 | apply w7 | apply w8 | apply w9 | apply wa | apply wb | apply wc) | ((with_reducible apply wd); focus decide) | ((with_reducible apply we); focus exact rfl) | ((with_reducible apply wf); focus exact rfl) | ((first | (with_reducible apply SW_run tt_ok hG htb) | ((with_reducible apply SW_draw rfl tt_ok hG htb); (focus kernel_rfl); focus simp only [List.range, List.range.loop, List.size_toArray, List.length_cons, List.length_nil, Nat.reduceAdd])); focus ((repeat' (first | (with_reducible first | exact wg | exact wh) | ((with_reducible first | apply wi | apply wj); focus (simp (discharger := omega) only [go_sem, simprocAttr]; with_reducible rfl)))); done)))
            simp only [if_true]
            refine SPostC_r ?_ (Norm.headS (own := []) (keep := [49, 50, 51, 52]) (by refine ⟨?_, ?_⟩; (simp (discharger := omega) only [go_sem, simprocAttr]; with_reducible rfl); refine ⟨?_, ?_, ?_, ?_⟩ <;> (simp only [go_sem, simprocAttr]; with_reducible rfl))) ?_ ?_
            · exact (by simp (discharger := omega) only [go_sem, simprocAttr])
            · rfl
            · exact ak_pins4 rfl rfl rfl rfl
          | false =>
            have hgo := hnext _ hds
            clear hnext hall2 hds hfo
            repeat' (first | (with_reducible first | apply w1 | apply w2 | apply w3 | apply w4 | apply w5 | apply w6 | apply w7 | apply w8 | apply w9 | apply wa | apply wb | apply wc) | ((with_reducible apply wd); focus decide) | ((with_reducible apply we); focus exact rfl) | ((with_reducible apply wf); focus exact rfl) | ((first | (with_reducible apply SW_run tt_ok hG htb) | ((with_reducible apply SW_draw rfl tt_ok hG htb); (focus kernel_rfl); focus simp only [List.range, List.range.loop, List.size_toArray, List.length_cons, List.length_nil, Nat.reduceAdd])); focus ((repeat' (first | (with_reducible first | exact wg | exact wh) | ((with_reducible first | apply wi | apply wj); focus (simp (discharger := omega) only [go_sem, simprocAttr]; with_reducible rfl)))); done)))
            exact ⟨n - (i + 1), _, by omega, Norm.headS (own := []) (keep := [49, 50, 51, 52, 0, 1, 2, 3, 4, 16, 17, 18]) (by refine ⟨?_, ?_⟩; (simp (discharger := omega) only [go_sem, simprocAttr]; with_reducible rfl); refine ⟨?_, ?_, ?_, ?_⟩ <;> (simp only [go_sem, simprocAttr]; with_reducible rfl)), i + 1, C2, _, rfl, rfl, by omega, rfl, hgo⟩
        · rw [if_neg h0] at hds
          have hgo := hnext _ hds
          clear hnext hall2 hds hfo
          repeat' (first | (with_reducible first | apply w1 | apply w2 | apply w3 | apply w4 | apply w5 | apply w6 | apply w7 | apply w8 | apply w9 | apply wa | apply wb | apply wc) | ((with_reducible apply wd); focus decide) | ((with_reducible apply we); focus exact rfl) | ((with_reducible apply wf); focus exact rfl) | ((first | (with_reducible apply SW_run tt_ok hG htb) | ((with_reducible apply SW_draw rfl tt_ok hG htb); (focus kernel_rfl); focus simp only [List.range, List.range.loop, List.size_toArray, List.length_cons, List.length_nil, Nat.reduceAdd])); focus ((repeat' (first | (with_reducible first | exact wg | exact wh) | ((with_reducible first | apply wi | apply wj); focus (simp (discharger := omega) only [go_sem, ht, hut, hc, h1, h0, simprocAttr]; with_reducible rfl)))); done)))
          exact ⟨n - (i + 1), _, by omega, Norm.headS (own := []) (keep := [49, 50, 51, 52, 0, 1, 2, 3, 4, 16, 17, 18]) (by refine ⟨?_, ?_⟩; (simp (discharger := omega) only [go_sem, simprocAttr]; with_reducible rfl); refine ⟨?_, ?_, ?_, ?_⟩ <;> (simp only [go_sem, simprocAttr]; with_reducible rfl)), i + 1, Ci, _, rfl, rfl, by omega, rfl, hgo⟩
  · obtain rfl : i = n := by omega
    rw [List.take_of_length_le (by omega)] at hfo
    rw [hfo]
    simp only [Bool.false_eq_true, if_false]
    subst hrt
    clear hk hki
    repeat' (first | (with_reducible first | apply w1 | apply w2 | apply w3 | apply w4 | apply w5 | apply w6 | apply w7 | apply w8 | apply w9 | apply wa | apply wb | apply wc) | ((with_reducible apply wd); focus decide) | ((with_reducible apply we); focus exact rfl) | ((with_reducible apply wf); focus exact rfl) | ((first | (with_reducible apply SW_run tt_ok hG htb) | ((with_reducible apply SW_draw rfl tt_ok hG htb); (focus kernel_rfl); focus simp only [List.range, List.range.loop, List.size_toArray, List.length_cons, List.length_nil, Nat.reduceAdd])); focus ((repeat' (first | (with_reducible first | exact wg | exact wh) | ((with_reducible first | apply wi | apply wj); focus (simp (discharger := omega) only [go_sem, simprocAttr]; with_reducible rfl)))); done)))
    refine SPostC_r ?_ (Norm.headS (own := []) (keep := [49, 50, 51, 52]) (by refine ⟨?_, ?_⟩; (simp (discharger := omega) only [go_sem, simprocAttr]; with_reducible rfl); refine ⟨?_, ?_, ?_, ?_⟩ <;> (simp only [go_sem, simprocAttr]; with_reducible rfl))) ?_ ?_
    · exact (by simp (discharger := omega) only [go_sem, simprocAttr])
    · unfold akObs
      rw [List.map_set]; rfl
    · exact ak_pins4 rfl rfl rfl rfl
/-- At every depth that is left. -/
theorem ak_all {a : GAuto} {n m : Nat} (g : Good a n m) {U : List Bool} (hU : U.length = m) : ∀ (f : Nat) (s : Int) (C : List Int), C.length = m → 0 ≤ s → s < (m : Int) → colAt C s = 0 → whites C ≤ f → AkC G a U f s C
  | 0, s, C, hC, s0, sm, hw, hf => by
    exfalso
    have hC0 : C[s.toNat]? = some 0 := by
      unfold colAt at hw
      rw [getD_lt (by omega)] at hw
      rw [List.getElem?_eq_getElem (by omega), hw]
    have := whites_less (x := 1) (by decide) hC0
    omega
  | f + 1, s, C, hC, s0, sm, hw, hf => ak_step hG g hU (fun s C => ak_all g hU f s C) hC s0 sm hw hf
end
end Go.Proofs.Ytcaopcpofepniaa
namespace Go.Proofs.Ytcaopcpofepniaa
open Go.RowKit

/-- Over the first letters, from one on. -/
def finGo (next : List (List Int)) (U : List Bool) (f : Nat) : List Int → Nat → List Int → Bool
  | [], _, _ => true
  | t :: r, l, C => if 0 < l ∧ upAt U t = true ∧ colAt C t = 0 then (if (dfs next U f t C).1 = true then false else finGo next U f r (l + 1) (dfs next U f t C).2) else finGo next U f r (l + 1) C
noncomputable def finOf (a : GAuto) : Bool := if autoFault a = 0 then finGo a.next (aliveL a (manyOf a.base a.tracks).toNat) a.next.length (rowOf a.next 0) 0 (List.replicate a.next.length 0) else false
theorem whites_rep (m : Nat) : whites (List.replicate m 0) = m := by
  unfold whites
  rw [List.filter_eq_self.2 (by intro x hx; have := List.eq_of_mem_replicate hx; simp [this]), List.length_replicate]
theorem drop_cons' {l : List Int} {i : Nat} {x : Int} (hi : i < l.length) (h : l[i]! = x) : l.drop i = x :: l.drop (i + 1) := by
  rw [List.drop_eq_getElem_cons hi, ← h, getElem!_pos l i hi]
section
variable {G : World → Prop} (hG : Lasting G)
include hG
set_option maxHeartbeats 16000000 in
set_option maxRecDepth 100000 in
theorem Finite_snd (a : GAuto) : Snd Try.prog G 15 [tAuto a] (.tup [.bool (finOf a), tErr (autoFault a)]) := by
  have c1 := Check_snd hG a
  refine snd_of_body (n := 53) (tm := [(0, .t (tAuto a))]) (rs := [.tmp 2, .tmp 3]) tt_ok Try.func15 rfl rfl rfl rfl rfl ?_
  unfold finOf
  by_cases h : autoFault a = 0
  rotate_left
  · rw [if_neg h]
    generalize autoFault a = e at *
    have htb := Tab.cons c1 Tab.nil
    repeat' (first | (with_reducible first | apply w1 | apply w2 | apply w3 | apply w4 | apply w5 | apply w6 | apply w7 | apply w8 | apply w9 | apply wa | apply wb | apply wc) | ((with_reducible apply wd); focus decide) | ((with_reducible apply we); focus exact rfl) | ((with_reducible apply wf); focus exact rfl) | ((first | (with_reducible apply SW_run tt_ok hG htb) | ((with_reducible apply SW_draw rfl tt_ok hG htb); (focus kernel_rfl); focus simp only [List.range, List.range.loop, List.size_toArray, List.length_cons, List.length_nil, Nat.reduceAdd])); focus ((repeat' (first | (with_reducible first | exact wg | exact wh) | ((with_reducible first | apply wi | apply wj); focus (simp (discharger := omega) only [go_sem, tAuto, tErr, h, simprocAttr]; with_reducible rfl)))); done)))
    exact (by simp (discharger := omega) only [go_sem, tErr, h, simprocAttr])
  rw [if_pos h, h]
  rw [h] at c1
  have g := good_of h
  generalize (manyOf a.base a.tracks).toNat = n at *
  obtain ⟨m, hm⟩ : ∃ m, a.next.length = m := ⟨_, rfl⟩
  rw [hm] at g ⊢
  have c2 := alive_snd hG g
  have hU : (aliveL a n).length = m := by unfold aliveL; rw [List.length_map, List.length_range]; exact hm
  generalize aliveL a n = U at *
  have hm80 := g.m80
  have hm0 := g.m0
  have hn36 := g.n36
  obtain ⟨row, hrow⟩ : ∃ row, a.next[0]! = row := ⟨_, rfl⟩
  have hrl := g.rows.row row (bang_mem hrow (by omega))
  have hrok := g.rows.ok row (bang_mem hrow (by omega))
  have hro : rowOf a.next 0 = row := by unfold rowOf; exact bang_D hrow (by show 0 < a.next.length; omega)
  rw [hro]
  have hall := ak_all hG g hU m
  have htb := Tab.cons c1 (Tab.cons c2 Tab.nil)
  repeat' (first | (with_reducible first | apply w1 | apply w2 | apply w3 | apply w4 | apply w5 | apply w6 | apply w7 | apply w8 | apply w9 | apply wa | apply wb | apply wc) | ((with_reducible apply wd); focus decide) | ((with_reducible apply we); focus exact rfl) | ((with_reducible apply wf); focus exact rfl) | ((first | (with_reducible apply SW_run tt_ok hG htb) | ((with_reducible apply SW_draw rfl tt_ok hG htb); (focus kernel_rfl); focus simp only [List.range, List.range.loop, List.size_toArray, List.length_cons, List.length_nil, Nat.reduceAdd])); focus ((repeat' (first | (with_reducible first | exact wg | exact wh) | ((with_reducible first | apply wi | apply wj); focus (simp (discharger := omega) only [go_sem, tAuto, tErr0, hm, hrow, hrl, simprocAttr]; with_reducible rfl)))); done)))
  clear htb
  have htb : Tab.ok Try.prog G [] := Tab.nil
  refine SW_loop (fun mm st => ∃ (l : Nat) (C : List Int) (rt : List T), mm = n - l ∧ st = ⟨53, [(6, .bptr 0 0), (1, .bptr 1 0), (5, .bptr 2 0), (7, .bptr 3 0), (25, .t (tInts row)), (26, .t (tInt n)), (27, .t (tNat l))], [.box [.sref 4], .box [.t (tInt a.base), .t (tInt a.tracks), .t (tIntss a.next), .t (tBools a.ends)], .box [.t (tBools U)], .box [.fn 28 [.bptr 0 0, .bptr 1 0, .bptr 2 0, .bptr 3 0]], .row 3 1 true rt]⟩ ∧ l ≤ n ∧ rt = C.map tInt ∧ C.length = m ∧ whites C ≤ m ∧ finGo a.next U m (row.drop l) l C = finGo a.next U m row 0 (List.replicate m 0)) n
    ⟨_, Norm.headS (own := []) (keep := [6, 1, 5, 7, 25, 26, 27]) (by refine ⟨?_, ?_⟩; (simp (discharger := omega) only [go_sem, simprocAttr]; with_reducible rfl); refine ⟨?_, ?_, ?_, ?_⟩ <;> (simp only [go_sem, simprocAttr]; with_reducible rfl)), 0, List.replicate m 0, _, rfl, rfl, Nat.zero_le _, by simp [tInt], by simp, by rw [whites_rep]; exact Nat.le_refl _, by rw [List.drop_zero]⟩ ?_
  rintro mm st ⟨l, C, rt, rfl, rfl, hl, hrt, hC, hw, hfg⟩
  by_cases hlt : l < n
  · obtain ⟨t, ht⟩ : ∃ t, row[l]! = t := ⟨_, rfl⟩
    have htb2 := hrok t (bang_mem ht (by omega))
    rw [drop_cons' (by omega : l < row.length) ht, finGo] at hfg
    obtain ⟨ut, hut⟩ : ∃ ut, U[t.toNat]! = ut := ⟨_, rfl⟩
    have hup : upAt U t = ut := by unfold upAt; exact bang_D hut (by omega)
    obtain ⟨c, hc⟩ : ∃ c, C[t.toNat]! = c := ⟨_, rfl⟩
    have hcol : colAt C t = c := by unfold colAt; exact bang_D hc (by omega)
    rw [hup, hcol] at hfg
    subst hrt
    by_cases hl0 : l = 0
    · subst hl0
      rw [if_neg (by simp)] at hfg
      repeat' (first | (with_reducible first | apply w1 | apply w2 | apply w3 | apply w4 | apply w5 | apply w6 | apply w7 | apply w8 | apply w9 | apply wa | apply wb | apply wc) | ((with_reducible apply wd); focus decide) | ((with_reducible apply we); focus exact rfl) | ((with_reducible apply wf); focus exact rfl) | ((first | (with_reducible apply SW_run tt_ok hG htb) | ((with_reducible apply SW_draw rfl tt_ok hG htb); (focus kernel_rfl); focus simp only [List.range, List.range.loop, List.size_toArray, List.length_cons, List.length_nil, Nat.reduceAdd])); focus ((repeat' (first | (with_reducible first | exact wg | exact wh) | ((with_reducible first | apply wi | apply wj); focus (simp (discharger := omega) only [go_sem, ht, simprocAttr]; with_reducible rfl)))); done)))
      exact ⟨n - (0 + 1), _, by omega, Norm.headS (own := []) (keep := [6, 1, 5, 7, 25, 26, 27]) (by refine ⟨?_, ?_⟩; (simp (discharger := omega) only [go_sem, simprocAttr]; with_reducible rfl); refine ⟨?_, ?_, ?_, ?_⟩ <;> (simp only [go_sem, simprocAttr]; with_reducible rfl)), 0 + 1, C, _, rfl, rfl, by omega, rfl, hC, hw, hfg⟩
    have hl1 : ((l : Nat) : Int) > 0 := by omega
    cases ut with
    | false =>
      rw [if_neg (by simp)] at hfg
      repeat' (first | (with_reducible first | apply w1 | apply w2 | apply w3 | apply w4 | apply w5 | apply w6 | apply w7 | apply w8 | apply w9 | apply wa | apply wb | apply wc) | ((with_reducible apply wd); focus decide) | ((with_reducible apply we); focus exact rfl) | ((with_reducible apply wf); focus exact rfl) | ((first | (with_reducible apply SW_run tt_ok hG htb) | ((with_reducible apply SW_draw rfl tt_ok hG htb); (focus kernel_rfl); focus simp only [List.range, List.range.loop, List.size_toArray, List.length_cons, List.length_nil, Nat.reduceAdd])); focus ((repeat' (first | (with_reducible first | exact wg | exact wh) | ((with_reducible first | apply wi | apply wj); focus (simp (discharger := omega) only [go_sem, ht, hut, simprocAttr]; with_reducible rfl)))); done)))
      exact ⟨n - (l + 1), _, by omega, Norm.headS (own := []) (keep := [6, 1, 5, 7, 25, 26, 27]) (by refine ⟨?_, ?_⟩; (simp (discharger := omega) only [go_sem, simprocAttr]; with_reducible rfl); refine ⟨?_, ?_, ?_, ?_⟩ <;> (simp only [go_sem, simprocAttr]; with_reducible rfl)), l + 1, C, _, rfl, rfl, by omega, rfl, hC, hw, hfg⟩
    | true =>
      by_cases h0 : c = 0
      rotate_left
      · rw [if_neg (fun q => h0 q.2.2)] at hfg
        repeat' (first | (with_reducible first | apply w1 | apply w2 | apply w3 | apply w4 | apply w5 | apply w6 | apply w7 | apply w8 | apply w9 | apply wa | apply wb | apply wc) | ((with_reducible apply wd); focus decide) | ((with_reducible apply we); focus exact rfl) | ((with_reducible apply wf); focus exact rfl) | ((first | (with_reducible apply SW_run tt_ok hG htb) | ((with_reducible apply SW_draw rfl tt_ok hG htb); (focus kernel_rfl); focus simp only [List.range, List.range.loop, List.size_toArray, List.length_cons, List.length_nil, Nat.reduceAdd])); focus ((repeat' (first | (with_reducible first | exact wg | exact wh) | ((with_reducible first | apply wi | apply wj); focus (simp (discharger := omega) only [go_sem, ht, hut, hc, h0, simprocAttr]; with_reducible rfl)))); done)))
        exact ⟨n - (l + 1), _, by omega, Norm.headS (own := []) (keep := [6, 1, 5, 7, 25, 26, 27]) (by refine ⟨?_, ?_⟩; (simp (discharger := omega) only [go_sem, simprocAttr]; with_reducible rfl); refine ⟨?_, ?_, ?_, ?_⟩ <;> (simp only [go_sem, simprocAttr]; with_reducible rfl)), l + 1, C, _, rfl, rfl, by omega, rfl, hC, hw, hfg⟩
      rw [if_pos ⟨by omega, rfl, h0⟩] at hfg
      have hr := hall t C hC htb2.1 htb2.2 (by rw [hcol]; exact h0) hw
      unfold AkC at hr
      have hkd := dfs_keeps a.next U m t C
      obtain ⟨⟨b2, C2⟩, hD⟩ : ∃ q, dfs a.next U m t C = q := ⟨_, rfl⟩
      rw [hD] at hr hfg hkd
      simp only at hr hfg hkd
      repeat' (first | (with_reducible first | refine SW_seq ?_ | refine SW_block ?_ | refine SThen_n ?_ | refine SThen_r ?_ | refine SThen_e ?_ | refine SIn_n ?_ | refine SIn_r ?_ | refine SIn_eq ?_ | refine SW_skip ?_ | refine SW_exit ?_ | refine SW_ret ?_ | refine SPost_r ?_) | ((with_reducible refine SIn_ne ?_ ?_); focus decide) | ((with_reducible refine SW_true ?_ ?_); focus exact rfl) | ((with_reducible refine SW_false ?_ ?_); focus exact rfl) | ((with_reducible apply SW_run tt_ok hG htb); focus ((repeat' (first | (with_reducible exact runX_nil) | ((with_reducible apply runX_cons); focus (simp (discharger := omega) only [go_sem, ht, simprocAttr]; with_reducible rfl)))); done)))
      refine SW_norm (Norm.headS (own := []) (keep := [6, 1, 5, 7, 8, 9, 25, 26, 27]) (by refine ⟨?_, ?_⟩; (simp (discharger := omega) only [go_sem, simprocAttr]; with_reducible rfl); refine ⟨?_, ?_, ?_, ?_⟩ <;> (simp only [go_sem, simprocAttr]; with_reducible rfl))) ?_
      refine SW_runCk tt_ok hG htb 18 rfl (by simp only [List.take_succ_cons, List.take_zero]; rfl) (by simp only [List.drop_succ_cons, List.drop_zero, Nat.reduceAdd]; rfl) (by (repeat' (first | (with_reducible exact runX_nil) | ((with_reducible apply runX_cons); focus (simp (discharger := omega) only [go_sem, hut, hc, h0, simprocAttr]; with_reducible rfl))))) rfl rfl (g := 28) (cap := akCap) (obs := akObs a U C) (obs' := akObs a U C2) (rst := ?zr) (r := ?zt) (s2 := ?zs) (s3 := ?zu) ?q1 ?q2 ?q3 ?q4 ?q5 ?q6 ?q7 ?q8 ?q9 ?q10
      case q1 => rfl
      case q2 => rfl
      case q3 => rfl
      case q4 => rfl
      case q5 => exact hr
      case q6 => exact ak_ren a U C
      case q7 => exact ak_xren _
      case q8 =>
        simp only [List.map_cons, List.map_nil, List.append_nil, SV.ren, renL, past, akObs, akCap, List.getElem?_cons_zero, List.getElem?_cons_succ, List.getElem?_nil]
        rfl
      case q9 => (repeat' (first | (with_reducible exact runX_nil) | ((with_reducible apply runX_cons); focus (simp (discharger := omega) only [go_sem, simprocAttr]; with_reducible rfl))))
      cases b2 with
      | true =>
        rw [if_pos rfl] at hfg
        rw [← hfg]
        repeat' (first | (with_reducible first | apply w1 | apply w2 | apply w3 | apply w4 | apply w5 | apply w6 | apply w7 | apply w8 | apply w9 | apply wa | apply wb | apply wc) | ((with_reducible apply wd); focus decide) | ((with_reducible apply we); focus exact rfl) | ((with_reducible apply wf); focus exact rfl) | ((first | (with_reducible apply SW_run tt_ok hG htb) | ((with_reducible apply SW_draw rfl tt_ok hG htb); (focus kernel_rfl); focus simp only [List.range, List.range.loop, List.size_toArray, List.length_cons, List.length_nil, Nat.reduceAdd])); focus ((repeat' (first | (with_reducible first | exact wg | exact wh) | ((with_reducible first | apply wi | apply wj); focus (simp (discharger := omega) only [go_sem, simprocAttr]; with_reducible rfl)))); done)))
        exact (by simp (discharger := omega) only [go_sem, tErr0, simprocAttr])
      | false =>
        rw [if_neg (by decide)] at hfg
        repeat' (first | (with_reducible first | apply w1 | apply w2 | apply w3 | apply w4 | apply w5 | apply w6 | apply w7 | apply w8 | apply w9 | apply wa | apply wb | apply wc) | ((with_reducible apply wd); focus decide) | ((with_reducible apply we); focus exact rfl) | ((with_reducible apply wf); focus exact rfl) | ((first | (with_reducible apply SW_run tt_ok hG htb) | ((with_reducible apply SW_draw rfl tt_ok hG htb); (focus kernel_rfl); focus simp only [List.range, List.range.loop, List.size_toArray, List.length_cons, List.length_nil, Nat.reduceAdd])); focus ((repeat' (first | (with_reducible first | exact wg | exact wh) | ((with_reducible first | apply wi | apply wj); focus (simp (discharger := omega) only [go_sem, simprocAttr]; with_reducible rfl)))); done)))
        exact ⟨n - (l + 1), _, by omega, Norm.headS (own := []) (keep := [6, 1, 5, 7, 25, 26, 27]) (by refine ⟨?_, ?_⟩; (simp (discharger := omega) only [go_sem, simprocAttr]; with_reducible rfl); refine ⟨?_, ?_, ?_, ?_⟩ <;> (simp only [go_sem, simprocAttr]; with_reducible rfl)), l + 1, C2, _, rfl, rfl, by omega, rfl, by omega, by omega, hfg⟩
  · obtain rfl : l = n := by omega
    rw [List.drop_of_length_le (by omega), finGo] at hfg
    rw [← hfg]
    repeat' (first | (with_reducible first | apply w1 | apply w2 | apply w3 | apply w4 | apply w5 | apply w6 | apply w7 | apply w8 | apply w9 | apply wa | apply wb | apply wc) | ((with_reducible apply wd); focus decide) | ((with_reducible apply we); focus exact rfl) | ((with_reducible apply wf); focus exact rfl) | ((first | (with_reducible apply SW_run tt_ok hG htb) | ((with_reducible apply SW_draw rfl tt_ok hG htb); (focus kernel_rfl); focus simp only [List.range, List.range.loop, List.size_toArray, List.length_cons, List.length_nil, Nat.reduceAdd])); focus ((repeat' (first | (with_reducible first | exact wg | exact wh) | ((with_reducible first | apply wi | apply wj); focus (simp (discharger := omega) only [go_sem, simprocAttr]; with_reducible rfl)))); done)))
    exact (by simp (discharger := omega) only [go_sem, tErr0, simprocAttr])
end
end Go.Proofs.Ytcaopcpofepniaa
namespace Go.Proofs.Ytcaopcpofepniaa

theorem finGo_left {a : GAuto} {n m : Nat} {U : List Bool} (g : Good a n m) (f : Nat) : ∀ (r : List Int) (l : Nat) (C : List Int) (B : List Nat), (∀ t ∈ r, 0 ≤ t ∧ t < (m : Int)) → OrdB a n m U C B → (∀ t : Nat, t < m → C.getD t 0 ≠ 1) → whites C ≤ f → finGo a.next U f r l C = true →
    ∃ C' B', OrdB a n m U C' (B ++ B') ∧ ∀ (k : Nat) (t : Int), r[k]? = some t → 0 < l + k → upAt U t = true → t.toNat ∈ B ++ B'
  | [], l, C, B, _, hO, _, _, _ => ⟨C, [], by rw [List.append_nil]; exact hO, fun k t h => by simp at h⟩
  | t :: r, l, C, B, hr, hO, hng, hw, hf => by
    have htb := hr t List.mem_cons_self
    have hr' : ∀ t ∈ r, 0 ≤ t ∧ t < (m : Int) := fun x hx => hr x (List.mem_cons_of_mem _ hx)
    rw [finGo] at hf
    by_cases hc : 0 < l ∧ upAt U t = true ∧ colAt C t = 0
    · rw [if_pos hc] at hf
      by_cases hb : (dfs a.next U f t C).1 = true
      · rw [if_pos hb] at hf; cases hf
      · rw [if_neg hb] at hf
        obtain ⟨B1, hO1, hm1, hg1⟩ := dfs_left g f t C B hO htb.1 htb.2 hc.2.2 hw (Bool.eq_false_iff.2 hb)
        have hk := dfs_keeps a.next U f t C
        obtain ⟨C', B', hO2, hm2⟩ := finGo_left g f r (l + 1) _ (B ++ B1) hr' hO1 (fun x hx e => hng x hx ((hg1 x hx).1 e)) (by omega) hf
        refine ⟨C', B1 ++ B', by rw [← List.append_assoc]; exact hO2, fun k x hx hk0 hu => ?_⟩
        rw [← List.append_assoc]
        cases k with
        | zero =>
          obtain rfl : t = x := by simpa using hx
          exact List.mem_append_left _ hm1
        | succ k => exact hm2 k x (by simpa using hx) (by omega) hu
    · rw [if_neg hc] at hf
      obtain ⟨C', B', hO2, hm2⟩ := finGo_left g f r (l + 1) C B hr' hO hng hw hf
      refine ⟨C', B', hO2, fun k x hx hk0 hu => ?_⟩
      cases k with
      | zero =>
        obtain rfl : t = x := by simpa using hx
        have h2 : C.getD t.toNat 0 = 2 := by
          have h3 := hO.rng t.toNat (by omega)
          have h4 := hng t.toNat (by omega)
          have h5 : ¬ C.getD t.toNat 0 = 0 := fun e => hc ⟨by omega, hu, e⟩
          omega
        exact List.mem_append_left _ ((hO.col _ (by omega)).2 h2)
      | succ k => exact hm2 k x (by simpa using hx) (by omega) hu
theorem fin_short {a : GAuto} (hf : autoFault a = 0) (h : finOf a = true) {x : Nat} {u : List Nat} (hw : Ltr (manyOf a.base a.tracks).toNat (x :: u)) (hx : 0 < x) (hL : lang a.next a.ends 0 (x :: u) = true) : (x :: u).length ≤ a.next.length := by
  have g := good_of hf
  unfold finOf at h
  rw [if_pos hf] at h
  generalize (manyOf a.base a.tracks).toNat = n at *
  have hm0 := g.m0
  have hz : ∀ t : Nat, (List.replicate a.next.length (0 : Int)).getD t 0 = 0 := fun t => by
    rw [List.getD_eq_getElem?_getD, List.getElem?_replicate]; split <;> rfl
  have hO : OrdB a n a.next.length (aliveL a n) (List.replicate a.next.length 0) [] := ⟨by simp, by simp, fun s hs => by simp at hs, fun s _ => by rw [hz]; simp, fun s _ => .inl (hz s), fun i s hi => by simp at hi⟩
  have hrow : rowOf a.next 0 ∈ a.next := by
    unfold rowOf
    rw [getD_lt (by show 0 < a.next.length; exact hm0)]
    exact List.getElem_mem _
  obtain ⟨C', B', hO2, hm2⟩ := finGo_left g a.next.length (rowOf a.next 0) 0 _ [] (g.rows.ok _ hrow) hO (fun t _ => by rw [hz]; decide) (by rw [whites_rep]; exact Nat.le_refl _) h
  have hxn := hw x List.mem_cons_self
  have hrl := g.rows.row _ hrow
  have h1 := nx_ok g.rows (s := 0) ⟨by omega, by omega⟩ hxn
  have hu : Ltr n u := fun y hy => hw y (List.mem_cons_of_mem _ hy)
  have hat : (rowOf a.next 0)[x]? = some (nx a.next 0 x) := by
    unfold nx
    rw [getD_lt (by omega), List.getElem?_eq_getElem (by omega)]
  have hup : upAt (aliveL a n) (nx a.next 0 x) = true := by
    unfold upAt aliveL
    rw [getD_lt (by simp; omega), List.getElem_map, List.getElem_range, aliveB_iff, show (((nx a.next 0 x).toNat : Nat) : Int) = nx a.next 0 x by omega]
    exact ⟨u, hu, hL⟩
  have hmem := hm2 x _ hat (by omega) hup
  rw [List.nil_append] at hO2 hmem
  obtain ⟨i, hi⟩ := List.mem_iff_getElem?.1 hmem
  have hil := (List.getElem?_eq_some_iff.1 hi).1
  have h2 := hO2.word g u _ i hi hu (by rw [show (((nx a.next 0 x).toNat : Nat) : Int) = nx a.next 0 x by omega]; exact hL)
  have h3 := nodup_boundN a.next.length B' hO2.nd hO2.lt
  simp only [List.length_cons]; omega
def threesA : GAuto := ⟨2, 1, [[0, 1], [2, 0], [1, 2]], [true, false, false]⟩
def fewA : GAuto := ⟨2, 1, [[1, 1], [1, 1]], [true, false]⟩
theorem threes_fault : autoFault threesA = 0 := by decide
theorem few_fault : autoFault fewA = 0 := by decide
theorem threes_fin : finOf threesA = false := by
  have g : Good threesA 2 3 := good_of threes_fault
  have e : [true, true, true] = aliveL threesA 2 := by
    refine AlInv.done g ⟨rfl, fun s hs _ => ?_, fun s hs _ => ?_⟩ fun s l hs _ _ => ?_
    · have hs : s < 3 := hs
      have hc : s = 0 ∨ s = 1 ∨ s = 2 := by omega
      rcases hc with rfl | rfl | rfl <;> rfl
    · have hs : s < 3 := hs
      have hc : s = 0 ∨ s = 1 ∨ s = 2 := by omega
      rcases hc with rfl | rfl | rfl
      · exact ⟨[], fun x hx => by simp at hx, rfl⟩
      · exact ⟨[1], fun x hx => by simp at hx; omega, rfl⟩
      · exact ⟨[0, 1], fun x hx => by simp at hx; omega, rfl⟩
    · have hs : s < 3 := hs
      have hc : s = 0 ∨ s = 1 ∨ s = 2 := by omega
      rcases hc with rfl | rfl | rfl <;> rfl
  have hn : (manyOf threesA.base threesA.tracks).toNat = 2 := by decide
  unfold finOf
  rw [if_pos threes_fault, hn, ← e]
  decide
theorem few_fin : finOf fewA = true := by
  have g : Good fewA 2 2 := good_of few_fault
  have e : [true, false] = aliveL fewA 2 := by
    refine AlInv.done g ⟨rfl, fun s hs he => ?_, fun s hs he => ?_⟩ fun s l hs hl he => ?_
    · have hs : s < 2 := hs
      have hc : s = 0 ∨ s = 1 := by omega
      rcases hc with rfl | rfl
      · rfl
      · exact absurd he (by decide)
    · have hs : s < 2 := hs
      have hc : s = 0 ∨ s = 1 := by omega
      rcases hc with rfl | rfl
      · exact ⟨[], fun x hx => by simp at hx, rfl⟩
      · exact absurd he (by decide)
    · have hs : s < 2 := hs
      have hc : s = 0 ∨ s = 1 := by omega
      have hd : l = 0 ∨ l = 1 := by omega
      rcases hc with rfl | rfl <;> rcases hd with rfl | rfl <;> exact absurd he (by decide)
  have hn : (manyOf fewA.base fewA.tracks).toNat = 2 := by decide
  unfold finOf
  rw [if_pos few_fault, hn, ← e]
  decide
end Go.Proofs.Ytcaopcpofepniaa
namespace Go.Proofs.Ytcaopcpofepniaa
open Go.RowKit

section
variable {G : World → Prop} (hG : Lasting G)
include hG
set_option maxHeartbeats 4000000 in
theorem Run_snd (a : GAuto) (w : List Int) : Snd Try.prog G 9 [tAuto a, tInts w] (.tup [tInt (runOf a w), tErr (runErr a w)]) := by
  have htb := Tab.cons (Check_snd hG a) Tab.nil
  refine snd_of_body (n := 56) (tm := [(0, .t (tAuto a)), (1, .t (tInts w))]) (rs := [.tmp 4, .tmp 5]) tt_ok Try.func9 rfl rfl rfl rfl rfl ?_
  by_cases h0 : autoFault a = 0
  · have g := good_of h0
    have hlet : letters a = ((manyOf a.base a.tracks).toNat : Nat) := g.letters
    generalize (manyOf a.base a.tracks).toNat = n at g hlet
    generalize hm : a.next.length = m at g
    have hm0 := g.m0
    have hm80 := g.m80
    have hn36 := g.n36
    have e0 : runErr a w = longFault n w := by unfold runErr; rw [if_neg (by omega), hlet]
    have htb' := htb
    rw [h0] at htb
    clear htb'
    by_cases h4 : 400 < w.length
    · have e1 : runErr a w = 3 := by rw [e0]; unfold longFault; rw [if_pos h4]
      have e2 : runOf a w = 0 := by unfold runOf; rw [e1]; rfl
      rw [e1, e2]
      repeat' (first | (with_reducible first | apply w1 | apply w2 | apply w3 | apply w4 | apply w5 | apply w6 | apply w7 | apply w8 | apply w9 | apply wa | apply wb | apply wc) | ((with_reducible apply wd); focus decide) | ((with_reducible apply we); focus exact rfl) | ((with_reducible apply wf); focus exact rfl) | ((first | (with_reducible apply SW_run tt_ok hG htb) | ((with_reducible apply SW_draw rfl tt_ok hG htb); (focus kernel_rfl); focus simp only [List.range, List.range.loop, List.size_toArray, List.length_cons, List.length_nil, Nat.reduceAdd])); focus ((repeat' (first | (with_reducible first | exact wg | exact wh) | ((with_reducible first | apply wi | apply wj); focus (simp (discharger := omega) only [go_sem, tAuto, tErr, simprocAttr]; with_reducible rfl)))); done)))
      exact (by simp (discharger := omega) only [go_sem, tErr, simprocAttr])
    · obtain ⟨r0, hr0⟩ : ∃ r, a.next[0]! = r := ⟨_, rfl⟩
      have hr0l : r0.length = n := g.rows.row _ (bang_mem hr0 (by omega))
      repeat' (first | (with_reducible first | apply w1 | apply w2 | apply w3 | apply w4 | apply w5 | apply w6 | apply w7 | apply w8 | apply w9 | apply wa | apply wb | apply wc) | ((with_reducible apply wd); focus decide) | ((with_reducible apply we); focus exact rfl) | ((with_reducible apply wf); focus exact rfl) | ((first | (with_reducible apply SW_run tt_ok hG htb) | ((with_reducible apply SW_draw rfl tt_ok hG htb); (focus kernel_rfl); focus simp only [List.range, List.range.loop, List.size_toArray, List.length_cons, List.length_nil, Nat.reduceAdd])); focus ((repeat' (first | (with_reducible first | exact wg | exact wh) | ((with_reducible first | apply wi | apply wj); focus (simp (discharger := omega) only [go_sem, tAuto, tErr, simprocAttr]; with_reducible rfl)))); done)))
      refine SW_loop (fun k s => ∃ i : Nat, k = w.length - i ∧ s = ⟨56, [(1, .t (tInts w)), (2, .bptr 0 0), (21, .t (tInts w)), (22, .t (tInt w.length)), (23, .t (tInt i))], [.box [.t (tInt a.base), .t (tInt a.tracks), .t (tIntss a.next), .t (tBools a.ends)]]⟩ ∧ i ≤ w.length ∧ ∀ j (hj : j < w.length), j < i → 0 ≤ w[j] ∧ w[j] < (n : Int)) w.length
        ⟨_, Norm.headS (own := []) (keep := [1, 2, 21, 22, 23]) (by refine ⟨?_, ?_⟩; (simp (discharger := omega) only [go_sem, simprocAttr]; with_reducible rfl); refine ⟨?_, ?_, ?_, ?_⟩ <;> (simp only [go_sem, simprocAttr]; with_reducible rfl)), 0, rfl, rfl, Nat.zero_le _, fun j hj h => by omega⟩ ?_
      rintro k s ⟨i, rfl, rfl, hi, hA⟩
      by_cases hlt : i < w.length
      · obtain ⟨x, hx⟩ : ∃ x, w[i]! = x := ⟨_, rfl⟩
        have hat := bang_at hx hlt
        by_cases hx0 : 0 ≤ x
        · by_cases hxn : x < (n : Int)
          · repeat' (first | (with_reducible first | apply w1 | apply w2 | apply w3 | apply w4 | apply w5 | apply w6 | apply w7 | apply w8 | apply w9 | apply wa | apply wb | apply wc) | ((with_reducible apply wd); focus decide) | ((with_reducible apply we); focus exact rfl) | ((with_reducible apply wf); focus exact rfl) | ((first | (with_reducible apply SW_run tt_ok hG htb) | ((with_reducible apply SW_draw rfl tt_ok hG htb); (focus kernel_rfl); focus simp only [List.range, List.range.loop, List.size_toArray, List.length_cons, List.length_nil, Nat.reduceAdd])); focus ((repeat' (first | (with_reducible first | exact wg | exact wh) | ((with_reducible first | apply wi | apply wj); focus (simp (discharger := omega) only [go_sem, hx, hr0, simprocAttr]; with_reducible rfl)))); done)))
            exact ⟨w.length - (i + 1), _, by omega, Norm.headS (own := []) (keep := [1, 2, 21, 22, 23]) (by refine ⟨?_, ?_⟩; (simp (discharger := omega) only [go_sem, simprocAttr]; with_reducible rfl); refine ⟨?_, ?_, ?_, ?_⟩ <;> (simp only [go_sem, simprocAttr]; with_reducible rfl)), i + 1, rfl, rfl, by omega, fun j hj h => by
              by_cases e : j = i
              · subst e; rw [hat]; omega
              · exact hA j hj (by omega)⟩
          · have e1 : runErr a w = 1 := by rw [e0]; exact longFault_at h4 hlt (by rw [hat]; omega)
            have e2 : runOf a w = 0 := by unfold runOf; rw [e1]; rfl
            rw [e1, e2]
            repeat' (first | (with_reducible first | apply w1 | apply w2 | apply w3 | apply w4 | apply w5 | apply w6 | apply w7 | apply w8 | apply w9 | apply wa | apply wb | apply wc) | ((with_reducible apply wd); focus decide) | ((with_reducible apply we); focus exact rfl) | ((with_reducible apply wf); focus exact rfl) | ((first | (with_reducible apply SW_run tt_ok hG htb) | ((with_reducible apply SW_draw rfl tt_ok hG htb); (focus kernel_rfl); focus simp only [List.range, List.range.loop, List.size_toArray, List.length_cons, List.length_nil, Nat.reduceAdd])); focus ((repeat' (first | (with_reducible first | exact wg | exact wh) | ((with_reducible first | apply wi | apply wj); focus (simp (discharger := omega) only [go_sem, hx, hr0, simprocAttr]; with_reducible rfl)))); done)))
            exact (by simp (discharger := omega) only [go_sem, tErr, simprocAttr])
        · have e1 : runErr a w = 1 := by rw [e0]; exact longFault_at h4 hlt (by rw [hat]; omega)
          have e2 : runOf a w = 0 := by unfold runOf; rw [e1]; rfl
          rw [e1, e2]
          repeat' (first | (with_reducible first | apply w1 | apply w2 | apply w3 | apply w4 | apply w5 | apply w6 | apply w7 | apply w8 | apply w9 | apply wa | apply wb | apply wc) | ((with_reducible apply wd); focus decide) | ((with_reducible apply we); focus exact rfl) | ((with_reducible apply wf); focus exact rfl) | ((first | (with_reducible apply SW_run tt_ok hG htb) | ((with_reducible apply SW_draw rfl tt_ok hG htb); (focus kernel_rfl); focus simp only [List.range, List.range.loop, List.size_toArray, List.length_cons, List.length_nil, Nat.reduceAdd])); focus ((repeat' (first | (with_reducible first | exact wg | exact wh) | ((with_reducible first | apply wi | apply wj); focus (simp (discharger := omega) only [go_sem, hx, hr0, simprocAttr]; with_reducible rfl)))); done)))
          exact (by simp (discharger := omega) only [go_sem, tErr, simprocAttr])
      · obtain rfl : i = w.length := by omega
        have e1 : runErr a w = 0 := by rw [e0]; exact longFault_ok h4 fun j hj => hA j hj hj
        have e2 : runOf a w = runFrom a.next 0 w := by unfold runOf; rw [e1]; rfl
        rw [e1, e2]
        repeat' (first | (with_reducible first | apply w1 | apply w2 | apply w3 | apply w4 | apply w5 | apply w6 | apply w7 | apply w8 | apply w9 | apply wa | apply wb | apply wc) | ((with_reducible apply wd); focus decide) | ((with_reducible apply we); focus exact rfl) | ((with_reducible apply wf); focus exact rfl) | ((first | (with_reducible apply SW_run tt_ok hG htb) | ((with_reducible apply SW_draw rfl tt_ok hG htb); (focus kernel_rfl); focus simp only [List.range, List.range.loop, List.size_toArray, List.length_cons, List.length_nil, Nat.reduceAdd])); focus ((repeat' (first | (with_reducible first | exact wg | exact wh) | ((with_reducible first | apply wi | apply wj); focus (simp (discharger := omega) only [go_sem, simprocAttr]; with_reducible rfl)))); done)))
        refine SW_loop (fun k s => ∃ (i : Nat) (q : Int), k = w.length - i ∧ s = ⟨56, [(2, .bptr 0 0), (9, .t (tInt q)), (40, .t (tInts w)), (41, .t (tInt w.length)), (42, .t (tInt i))], [.box [.t (tInt a.base), .t (tInt a.tracks), .t (tIntss a.next), .t (tBools a.ends)]]⟩ ∧ i ≤ w.length ∧ q = runFrom a.next 0 (w.take i)) w.length
          ⟨_, Norm.headS (own := []) (keep := [2, 9, 40, 41, 42]) (by refine ⟨?_, ?_⟩; (simp (discharger := omega) only [go_sem, simprocAttr]; with_reducible rfl); refine ⟨?_, ?_, ?_, ?_⟩ <;> (simp only [go_sem, simprocAttr]; with_reducible rfl)), 0, 0, rfl, rfl, Nat.zero_le _, rfl⟩ ?_
        rintro k s ⟨i, q, rfl, rfl, hi, hq⟩
        have hAm : ∀ x ∈ w, 0 ≤ x ∧ x < (n : Int) := fun x hx => by obtain ⟨j, hj, rfl⟩ := List.mem_iff_getElem.1 hx; exact hA j hj hj
        have hqm : 0 ≤ q ∧ q < (m : Int) := by rw [hq]; exact runFrom_ok g.rows _ 0 (by omega) fun x hx => hAm x (List.mem_of_mem_take hx)
        by_cases hlt : i < w.length
        · obtain ⟨x, hx⟩ : ∃ x, w[i]! = x := ⟨_, rfl⟩
          have hxn := hAm x (bang_mem hx hlt)
          obtain ⟨row, hrow⟩ : ∃ row, a.next[q.toNat]! = row := ⟨_, rfl⟩
          have hrl : row.length = n := g.rows.row _ (bang_mem hrow (by omega))
          obtain ⟨u, hu⟩ : ∃ u, row[x.toNat]! = u := ⟨_, rfl⟩
          have hstep := runFrom_take a.next hx hlt 0
          rw [← hq, nextOf_bang hrow (by omega) hu (by omega)] at hstep
          repeat' (first | (with_reducible first | apply w1 | apply w2 | apply w3 | apply w4 | apply w5 | apply w6 | apply w7 | apply w8 | apply w9 | apply wa | apply wb | apply wc) | ((with_reducible apply wd); focus decide) | ((with_reducible apply we); focus exact rfl) | ((with_reducible apply wf); focus exact rfl) | ((first | (with_reducible apply SW_run tt_ok hG htb) | ((with_reducible apply SW_draw rfl tt_ok hG htb); (focus kernel_rfl); focus simp only [List.range, List.range.loop, List.size_toArray, List.length_cons, List.length_nil, Nat.reduceAdd])); focus ((repeat' (first | (with_reducible first | exact wg | exact wh) | ((with_reducible first | apply wi | apply wj); focus (simp (discharger := omega) only [go_sem, hx, hrow, hu, simprocAttr]; with_reducible rfl)))); done)))
          exact ⟨w.length - (i + 1), _, by omega, Norm.headS (own := []) (keep := [2, 9, 40, 41, 42]) (by refine ⟨?_, ?_⟩; (simp (discharger := omega) only [go_sem, simprocAttr]; with_reducible rfl); refine ⟨?_, ?_, ?_, ?_⟩ <;> (simp only [go_sem, simprocAttr]; with_reducible rfl)), i + 1, u, rfl, rfl, by omega, hstep.symm⟩
        · obtain rfl : i = w.length := by omega
          rw [List.take_length] at hq
          rw [← hq]
          repeat' (first | (with_reducible first | apply w1 | apply w2 | apply w3 | apply w4 | apply w5 | apply w6 | apply w7 | apply w8 | apply w9 | apply wa | apply wb | apply wc) | ((with_reducible apply wd); focus decide) | ((with_reducible apply we); focus exact rfl) | ((with_reducible apply wf); focus exact rfl) | ((first | (with_reducible apply SW_run tt_ok hG htb) | ((with_reducible apply SW_draw rfl tt_ok hG htb); (focus kernel_rfl); focus simp only [List.range, List.range.loop, List.size_toArray, List.length_cons, List.length_nil, Nat.reduceAdd])); focus ((repeat' (first | (with_reducible first | exact wg | exact wh) | ((with_reducible first | apply wi | apply wj); focus (simp (discharger := omega) only [go_sem, simprocAttr]; with_reducible rfl)))); done)))
          exact (by simp (discharger := omega) only [go_sem, tErr, simprocAttr])
  · have e1 : runErr a w = autoFault a := by unfold runErr; rw [if_pos h0]
    have e2 : runOf a w = 0 := by unfold runOf; rw [e1, if_neg h0]
    rw [e1, e2]
    generalize autoFault a = e at *
    repeat' (first | (with_reducible first | apply w1 | apply w2 | apply w3 | apply w4 | apply w5 | apply w6 | apply w7 | apply w8 | apply w9 | apply wa | apply wb | apply wc) | ((with_reducible apply wd); focus decide) | ((with_reducible apply we); focus exact rfl) | ((with_reducible apply wf); focus exact rfl) | ((first | (with_reducible apply SW_run tt_ok hG htb) | ((with_reducible apply SW_draw rfl tt_ok hG htb); (focus kernel_rfl); focus simp only [List.range, List.range.loop, List.size_toArray, List.length_cons, List.length_nil, Nat.reduceAdd])); focus ((repeat' (first | (with_reducible first | exact wg | exact wh) | ((with_reducible first | apply wi | apply wj); focus (simp (discharger := omega) only [go_sem, tAuto, tErr, h0, simprocAttr]; with_reducible rfl)))); done)))
    exact (by simp (discharger := omega) only [go_sem, tErr, h0, simprocAttr])
theorem Takes_snd (a : GAuto) (w : List Int) : Snd Try.prog G 7 [tAuto a, tInts w] (.tup [.bool (takesOf a w), tErr (runErr a w)]) := by
  have htb := Tab.cons (Run_snd hG a w) Tab.nil
  refine snd_of_body (n := 24) (tm := [(0, .t (tAuto a)), (1, .t (tInts w))]) (rs := [.tmp 4, .tmp 5]) tt_ok Try.func7 rfl rfl rfl rfl rfl ?_
  by_cases h0 : runErr a w = 0
  · obtain ⟨h1, h2, h3⟩ := runErr_zero h0
    have g := good_of h1
    have hq := runFrom_ok g.rows w 0 (by have := g.m0; omega) (by rw [← g.letters]; exact h3)
    have e2 : runOf a w = runFrom a.next 0 w := by unfold runOf; rw [h0]; rfl
    have he := g.ends
    have e3 : takesOf a w = a.ends[(runFrom a.next 0 w).toNat]! := by
      unfold takesOf endOf; rw [h0, getD_lt (by omega), getElem!_pos a.ends _ (by omega)]; rfl
    rw [e3, h0]
    rw [h0, e2] at htb
    generalize runFrom a.next 0 w = q at *
    repeat' (first | (with_reducible first | apply w1 | apply w2 | apply w3 | apply w4 | apply w5 | apply w6 | apply w7 | apply w8 | apply w9 | apply wa | apply wb | apply wc) | ((with_reducible apply wd); focus decide) | ((with_reducible apply we); focus exact rfl) | ((with_reducible apply wf); focus exact rfl) | ((first | (with_reducible apply SW_run tt_ok hG htb) | ((with_reducible apply SW_draw rfl tt_ok hG htb); (focus kernel_rfl); focus simp only [List.range, List.range.loop, List.size_toArray, List.length_cons, List.length_nil, Nat.reduceAdd])); focus ((repeat' (first | (with_reducible first | exact wg | exact wh) | ((with_reducible first | apply wi | apply wj); focus (simp (discharger := omega) only [go_sem, tAuto, tErr, simprocAttr]; with_reducible rfl)))); done)))
    exact (by simp (discharger := omega) only [go_sem, tErr, simprocAttr])
  · have e2 : takesOf a w = false := by unfold takesOf; simp [h0]
    rw [e2]
    generalize runErr a w = e at *
    repeat' (first | (with_reducible first | apply w1 | apply w2 | apply w3 | apply w4 | apply w5 | apply w6 | apply w7 | apply w8 | apply w9 | apply wa | apply wb | apply wc) | ((with_reducible apply wd); focus decide) | ((with_reducible apply we); focus exact rfl) | ((with_reducible apply wf); focus exact rfl) | ((first | (with_reducible apply SW_run tt_ok hG htb) | ((with_reducible apply SW_draw rfl tt_ok hG htb); (focus kernel_rfl); focus simp only [List.range, List.range.loop, List.size_toArray, List.length_cons, List.length_nil, Nat.reduceAdd])); focus ((repeat' (first | (with_reducible first | exact wg | exact wh) | ((with_reducible first | apply wi | apply wj); focus (simp (discharger := omega) only [go_sem, tAuto, tErr, h0, simprocAttr]; with_reducible rfl)))); done)))
    exact (by simp (discharger := omega) only [go_sem, tErr, h0, simprocAttr])
end
end Go.Proofs.Ytcaopcpofepniaa
namespace Go.Proofs.Ytcaopcpofepniaa
open Go.RowKit

section
variable {G : World → Prop} (hG : Lasting G)
include hG
end
end Go.Proofs.Ytcaopcpofepniaa
namespace Go.Proofs.Ytcaopcpofepniaa
open Go.RowKit

/-- What a map from looks to classes holds. -/
def entries (κ : Int → ByteArray) (R : List Int) : List (T × T) := R.zipIdx.map fun p => (.str (κ p.1), tNat p.2)
section
variable {G : World → Prop} (hG : Lasting G)
include hG
end
end Go.Proofs.Ytcaopcpofepniaa
namespace Go.Proofs.Ytcaopcpofepniaa
open Go.RowKit

section
variable {G : World → Prop} (hG : Lasting G)
include hG
end
end Go.Proofs.Ytcaopcpofepniaa
namespace Go.Proofs.Ytcaopcpofepniaa
open Go.RowKit

section
variable {G : World → Prop} (hG : Lasting G)
include hG
end
end Go.Proofs.Ytcaopcpofepniaa
namespace Go.Proofs.Ytcaopcpofepniaa
open Go.RowKit

section
variable {G : World → Prop} (hG : Lasting G)
include hG
end
end Go.Proofs.Ytcaopcpofepniaa
namespace Go.Proofs.Ytcaopcpofepniaa

/-- The language of an automaton. -/
def lng (a : GAuto) : List Nat → Bool := lang a.next a.ends 0
/-- It is the least automaton of a language. -/
structure IsLeast (a : GAuto) (n : Nat) (base tracks : Int) (L : List Nat → Bool) : Prop where
  base : a.base = base
  tracks : a.tracks = tracks
  least : Least n a.next a.ends L
theorem Least.not {n : Nat} {N : List (List Int)} {E : List Bool} {L : List Nat → Bool} (h : Least n N E L) : Least n N (E.map (!·)) fun w => !L w := by
  have key : ∀ k, k < N.length → (E.map (!·)).getD k false = !E.getD k false := fun k hk => by
    have := h.len
    rw [getD_lt (by simp; omega), getD_lt (by omega)]; simp
  have hrun : ∀ (w : List Nat) (s : Nat), s < N.length → Ltr n w → runN (fun k l => ((N.getD k []).getD l 0).toNat) s w < N.length := by
    intro w
    induction w with
    | nil => intro s hs _; exact hs
    | cons l w ih => intro s hs hw; exact ih _ (h.canon.lt s l hs (hw l List.mem_cons_self)) fun x hx => hw x (List.mem_cons_of_mem _ hx)
  refine ⟨by simp [h.len], h.row, h.pos, h.canon.m0, h.canon.lt, fun w hw => ?_, h.canon.rg, h.canon.reach, fun s t hs ht hh => h.canon.red s t hs ht fun w hw => ?_⟩
  · rw [key _ (hrun w 0 h.canon.m0 hw)]; exact congrArg _ (h.canon.lang w hw)
  · have := hh w hw
    rw [key _ (hrun w s hs hw), key _ (hrun w t ht hw)] at this
    simpa using this
/-- A least automaton takes the words of its language. -/
theorem IsLeast.lng {a : GAuto} {n : Nat} {base tracks : Int} {L : List Nat → Bool} (h : IsLeast a n base tracks L) {w : List Nat} (hw : Ltr n w) : Go.Proofs.Ytcaopcpofepniaa.lng a w = L w := h.least.takes hw
end Go.Proofs.Ytcaopcpofepniaa
namespace Go.Proofs.Ytcaopcpofepniaa

section
variable {n n' m : Nat} {next : List (List Int)} {to : List Int}
end
end Go.Proofs.Ytcaopcpofepniaa
namespace Go.Proofs.Ytcaopcpofepniaa

theorem takes_lng' {a : GAuto} {n m : Nat} (g : Good a n m) {w : List Int} (h : w.length ≤ 400 ∧ ∀ l ∈ w, 0 ≤ l ∧ l < (n : Int)) : takesOf a w = lng a (w.map Int.toNat) := by
  rw [takes_good g h.1 h.2, runFrom_runS]; rfl
end Go.Proofs.Ytcaopcpofepniaa
namespace Go.Proofs.Ytcaopcpofepniaa
open Go.ChangeShapes Go.WideShapes Go.ChangeAt Go.RowKit Go.Joins Go.Deep

section
variable {H : Type} {enc : TypeId × Value → H} {w : World} {sp : Nat → Bool} {held : Bool}
/-- One cell that reads as a datum. -/
def OpensT (enc : TypeId × Value → H) (w : World) (sp : Nat → Bool) (held : Bool) (T : TypeId) (Q : Go.Proofs.Ytcaopcpofepniaa.T → Prop) : Prop :=
  ∀ n v y, DataW.trod enc Try.prog w 0 sp held n T [v] = some y → v.oneCell' = true ∧ ∃ x, Q x ∧ x.cells = [x] ∧ RepT (· < w.heap.size) w x v
theorem flat_cells : ∀ {l : List Go.Proofs.Ytcaopcpofepniaa.T}, (∀ x ∈ l, x.cells = [x]) → Go.Proofs.Ytcaopcpofepniaa.flat l = l
  | [], _ => rfl
  | a :: t, h => by
    have := flat_cells fun x hx => h x (List.mem_cons_of_mem a hx)
    simp only [Go.Proofs.Ytcaopcpofepniaa.flat, List.flatMap_cons] at this ⊢
    rw [this, h a List.mem_cons_self]; rfl
theorem opensT_int {T : TypeId} (ht : Try.prog.underlying T = some (.int .i64)) : OpensT enc w sp held T fun x => ∃ n, x = tInt n ∧ I64 n := by
  intro n v y h
  obtain ⟨a, rfl, h2⟩ := opens_int ht n v y h
  exact ⟨rfl, _, ⟨a, rfl, h2⟩, rfl, .int _ _⟩
theorem opensT_bool {T : TypeId} (ht : Try.prog.underlying T = some .bool) : OpensT enc w sp held T fun x => ∃ b, x = .bool b := by
  intro n v y h
  obtain ⟨a, rfl⟩ := opens_bool ht n v y h
  exact ⟨rfl, _, ⟨a, rfl⟩, rfl, .bool _⟩
theorem opensT_slice {T e : TypeId} {Q : Go.Proofs.Ytcaopcpofepniaa.T → Prop} (ht : Try.prog.underlying T = some (.slice e)) (hc : Try.prog.cellsOf e = 1) (hE : OpensT enc w sp held e Q) :
    OpensT enc w sp held T fun x => ∃ l, x = .list l ∧ ∀ y ∈ l, Q y := by
  intro n v y h
  rcases open_slice1 ht hc h with ⟨hcs, _⟩ | ⟨a, len, cap, m, n', V, D, Pl, hcs, _, hl, hcap, hm, _, hx⟩
  · obtain rfl : v = .slice none 0 0 := by simpa using hcs
    exact ⟨rfl, _, ⟨[], rfl, fun y hy => by simp at hy⟩, rfl, .list [] none 0 1 (fun _ => undef) (Nat.zero_le _) Nat.one_pos (fun x hx => by simp at hx) (fun h => (h rfl).elim) (fun k hk => by simp at hk) (fun k y hy => by simp [Go.Proofs.Ytcaopcpofepniaa.flat] at hy) (Nat.le_refl _)⟩
  · obtain rfl : v = .slice (some a) len cap := by simpa using hcs
    have hlm : len ≤ m := by rw [hm]; split <;> omega
    have hall : ∀ i, i < len → (V i).oneCell' = true ∧ ∃ b, Q b ∧ b.cells = [b] ∧ RepT (· < w.heap.size) w b (V i) := fun i hi => hE _ _ _ (hx i (by omega)).2
    have key : ∀ k, k ≤ len → ∃ l : List Go.Proofs.Ytcaopcpofepniaa.T, l.length = k ∧ ∀ i (hi : i < l.length), Q l[i] ∧ l[i].cells = [l[i]] ∧ RepT (· < w.heap.size) w l[i] (V i) := by
      intro k
      induction k with
      | zero => intro _; exact ⟨[], rfl, fun i hi => absurd hi (by simp)⟩
      | succ k ih =>
        intro hk
        obtain ⟨l, hl1, hl2⟩ := ih (by omega)
        obtain ⟨_, b, hb⟩ := hall k (by omega)
        refine ⟨l ++ [b], by simp [hl1], fun i hi => ?_⟩
        rw [List.getElem_append]
        split
        · exact hl2 i ‹_›
        · obtain rfl : i = k := by simp at hi; omega
          simpa using hb
    obtain ⟨l, hl1, hl2⟩ := key len (Nat.le_refl _)
    subst hl1
    have hcells : ∀ x ∈ l, x.cells = [x] := fun x hx => by obtain ⟨i, hi, rfl⟩ := List.mem_iff_getElem.1 hx; exact (hl2 i hi).2.1
    have hfl := flat_cells hcells
    refine ⟨rfl, _, ⟨l, rfl, fun y hy => by obtain ⟨i, hi, rfl⟩ := List.mem_iff_getElem.1 hy; exact (hl2 i hi).1⟩, rfl, ?_⟩
    refine .list l (some a) cap 1 V (by simp only [maxLen] at hcap ⊢; omega) Nat.one_pos (fun x hx => by rw [hcells x hx]; rfl) (fun hne => ?_) (fun k hk => (hall k (by omega)).1) (fun k y hy => ?_) (by omega)
    · obtain ⟨b, off, spot⟩ := a
      have hpos : 0 < l.length := List.length_pos_iff.2 hne
      have hc1 := (hx 0 (by omega)).1
      have hspot : spot = none := by simpa [Addr.add] using World.cell?_spot hc1
      subst hspot
      have hadd : ∀ i, (⟨b, off, none⟩ : Addr).add i = ⟨b, off + i, none⟩ := fun i => by unfold Addr.add; split <;> simp_all
      refine ⟨b, off, rfl, ?_, fun k hk => ?_⟩
      · rw [hadd] at hc1; exact cell_lt hc1
      · have := (hx k (by omega)).1
        rw [hadd] at this; exact this
    · rw [hfl] at hy
      obtain ⟨hk, rfl⟩ := List.getElem?_eq_some_iff.1 hy
      exact (hl2 k hk).2.2
theorem allMap {α : Type} {f : α → Go.Proofs.Ytcaopcpofepniaa.T} {Q : α → Prop} : ∀ {l : List Go.Proofs.Ytcaopcpofepniaa.T}, (∀ y ∈ l, ∃ a, y = f a ∧ Q a) → ∃ q : List α, l = q.map f ∧ ∀ a ∈ q, Q a
  | [], _ => ⟨[], rfl, fun a ha => by simp at ha⟩
  | x :: t, h => by
    obtain ⟨a, rfl, ha⟩ := h x List.mem_cons_self
    obtain ⟨q, rfl, hq⟩ := allMap fun y hy => h y (List.mem_cons_of_mem _ hy)
    exact ⟨a :: q, rfl, fun b hb => by
      rcases List.mem_cons.1 hb with rfl | hb
      · exact ha
      · exact hq b hb⟩
theorem opensT_ints {T : TypeId} (h : OpensT enc w sp held T fun x => ∃ l, x = .list l ∧ ∀ y ∈ l, ∃ n, y = tInt n ∧ I64 n) : OpensT enc w sp held T fun x => ∃ l, x = tInts l ∧ I64s l := fun n v y hy => by
  obtain ⟨h1, x, ⟨l, rfl, hl⟩, h2, h3⟩ := h n v y hy
  obtain ⟨q, rfl, hq⟩ := allMap hl
  exact ⟨h1, _, ⟨q, rfl, hq⟩, rfl, h3⟩
theorem opensIntsT : OpensT enc w sp held 26 fun x => ∃ l, x = tInts l ∧ I64s l := opensT_ints (opensT_slice Try.underlying26 (by kernel_rfl) (opensT_int Try.underlying3))
theorem opensIntssT : OpensT enc w sp held 22 fun x => ∃ l, x = tIntss l ∧ ∀ r ∈ l, I64s r := fun n v y hy => by
  obtain ⟨h1, x, ⟨l, rfl, hl⟩, h2, h3⟩ := opensT_slice Try.underlying22 (by kernel_rfl) opensIntsT n v y hy
  obtain ⟨q, rfl, hq⟩ := allMap hl
  exact ⟨h1, _, ⟨q, rfl, hq⟩, rfl, h3⟩
theorem opensBoolsT : OpensT enc w sp held 23 fun x => ∃ l, x = tBools l := fun n v y hy => by
  obtain ⟨h1, x, ⟨l, rfl, hl⟩, h2, h3⟩ := opensT_slice Try.underlying23 (by kernel_rfl) (opensT_bool Try.underlying4) n v y hy
  obtain ⟨q, rfl, hq⟩ := allMap (Q := fun _ => True) fun y hy => by obtain ⟨b, hb⟩ := hl y hy; exact ⟨b, hb, trivial⟩
  exact ⟨h1, _, ⟨q, rfl⟩, rfl, h3⟩
/-- An argument that reads as a list of numbers. -/
def ReadsInts (w : World) (v : Value) (l : List Int) : Prop := I64s l ∧ RepT (· < w.heap.size) w (tInts l) v
def ReadsAuto (w : World) (v : Value) (a : GAuto) : Prop := I64A a ∧ RepT (· < w.heap.size) w (tAuto a) v
theorem openIntsT {v : Value} (hv : v.cells = #[v]) {d : DataW H} {p : List MemPlace} (hd : DataW.Trod enc Try.prog w 0 sp held 26 v d p) : ∃ l, ReadsInts w v l := by
  obtain ⟨n, hn⟩ := hd
  rw [hv] at hn
  obtain ⟨_, x, ⟨l, rfl, hl⟩, _, h3⟩ := opensIntsT n v _ hn
  exact ⟨l, hl, h3⟩
set_option maxRecDepth 100000 in
theorem openAutoT {base : Nat} {v : Value} {d : DataW H} {p : List MemPlace} (hv : Value.okWide Try.prog w .any base 25 v) (h : DataW.Trod enc Try.prog w 0 sp held 25 v d p) :
    ∃ a : GAuto, ReadsAuto w v a := by
  obtain ⟨v0, v1, v2, v3, y0, y1, y2, y3, n, rfl, _, _, h0, h1, h2, h3⟩ := open_agg4 Try.underlying25 (by kernel_rfl) (by kernel_rfl) hv h
  obtain ⟨a0, rfl, i0⟩ := opens_int Try.underlying3 _ _ _ h0
  obtain ⟨a1, rfl, i1⟩ := opens_int Try.underlying3 _ _ _ h1
  obtain ⟨o2, x2, ⟨a2, rfl, i2⟩, _, hn⟩ := opensIntssT _ _ _ h2
  obtain ⟨o3, x3, ⟨a3, rfl⟩, _, he⟩ := opensBoolsT _ _ _ h3
  refine ⟨⟨a0, a1, a2, a3⟩, ⟨i0, i1, i2⟩, .agg _ _ rfl (fun k v hk => ?_) fun k y v hy hk => ?_⟩
  · match k, hk with
    | 0, hk => cases hk; rfl
    | 1, hk => cases hk; rfl
    | 2, hk => cases hk; exact o2
    | 3, hk => cases hk; exact o3
  · match k, hy, hk with
    | 0, hy, hk => cases hy; cases hk; exact .int _ _
    | 1, hy, hk => cases hy; cases hk; exact .int _ _
    | 2, hy, hk => cases hy; cases hk; exact hn
    | 3, hy, hk => cases hy; cases hk; exact he
end
theorem walkN {P : Program} {G : World → Prop} {f : Nat} {xs : List T} {w : World} {vs : Array Value} (h : Snd P G f xs (.bool true)) (hG : G w) (hl : vs.size = xs.length) (hx : ∀ (k : Nat) (y : T) (v : Value), xs[k]? = some y → vs[k]? = some v → RepT (· < w.heap.size) w y v) : Calls P f vs w (Ret (.bool true) w) :=
  (h.calls (· < w.heap.size) w vs hG hl hx).mono fun e w' hq => by obtain ⟨u, h1, h2, h3⟩ := hq; cases h2; exact ⟨h1, h3⟩
end Go.Proofs.Ytcaopcpofepniaa
namespace Go.Proofs.Ytcaopcpofepniaa
open Go.RowKit

section
variable {G : World → Prop} (hG : Lasting G)
include hG
theorem threes_snd : Snd Try.prog G 16 [] (tAuto threesA) := by
  refine snd_of_body (n := 7) (tm := []) (rs := [.cell 0 25]) tt_ok Try.func16 rfl rfl rfl rfl rfl ?_
  have htb : Tab.ok Try.prog G [] := Tab.nil
  repeat' (first | (with_reducible first | apply w1 | apply w2 | apply w3 | apply w4 | apply w5 | apply w6 | apply w7 | apply w8 | apply w9 | apply wa | apply wb | apply wc) | ((with_reducible apply wd); focus decide) | ((with_reducible apply we); focus exact rfl) | ((with_reducible apply wf); focus exact rfl) | ((first | (with_reducible apply SW_run tt_ok hG htb) | ((with_reducible apply SW_draw rfl tt_ok hG htb); (focus kernel_rfl); focus simp only [List.range, List.range.loop, List.size_toArray, List.length_cons, List.length_nil, Nat.reduceAdd])); focus ((repeat' (first | (with_reducible first | exact wg | exact wh) | ((with_reducible first | apply wi | apply wj); focus (simp (discharger := omega) only [go_sem, simprocAttr]; with_reducible rfl)))); done)))
  exact (by simp (discharger := omega) only [go_sem, tAuto, threesA, simprocAttr])
set_option maxHeartbeats 8000000 in
set_option maxRecDepth 100000 in
theorem AskEnds_snd (a : GAuto) (w : List Int) : Snd Try.prog G 5 [tAuto a, tInts w] (.bool true) := by
  have c1 := threes_snd hG
  have c2 := Finite_snd hG threesA
  rw [threes_fin, threes_fault] at c2
  have c3 := Finite_snd hG fewA
  rw [few_fin, few_fault] at c3
  have c4 := Finite_snd hG a
  have c5 := Takes_snd hG a w
  refine snd_of_body (n := 79) (tm := [(0, .t (tAuto a)), (1, .t (tInts w))]) (rs := [.tmp 4]) tt_ok Try.func5 rfl rfl rfl rfl rfl ?_
  generalize threesA = th at *
  have htb := Tab.cons c1 (Tab.cons c2 Tab.nil)
  repeat' (first | (with_reducible first | apply w1 | apply w2 | apply w3 | apply w4 | apply w5 | apply w6 | apply w7 | apply w8 | apply w9 | apply wa | apply wb | apply wc) | ((with_reducible apply wd); focus decide) | ((with_reducible apply we); focus exact rfl) | ((with_reducible apply wf); focus exact rfl) | ((first | (with_reducible apply SW_run tt_ok hG htb) | ((with_reducible apply SW_draw rfl tt_ok hG htb); (focus kernel_rfl); focus simp only [List.range, List.range.loop, List.size_toArray, List.length_cons, List.length_nil, Nat.reduceAdd])); focus ((repeat' (first | (with_reducible first | exact wg | exact wh) | ((with_reducible first | apply wi | apply wj); focus (simp (discharger := omega) only [go_sem, tErr0, tAuto, simprocAttr]; with_reducible rfl)))); done)))
  clear htb
  have htb := Tab.cons c3 Tab.nil
  repeat' (first | (with_reducible first | apply w1 | apply w2 | apply w3 | apply w4 | apply w5 | apply w6 | apply w7 | apply w8 | apply w9 | apply wa | apply wb | apply wc) | ((with_reducible apply wd); focus decide) | ((with_reducible apply we); focus exact rfl) | ((with_reducible apply wf); focus exact rfl) | ((first | (with_reducible apply SW_run tt_ok hG htb) | ((with_reducible apply SW_draw rfl tt_ok hG htb); (focus kernel_rfl); focus simp only [List.range, List.range.loop, List.size_toArray, List.length_cons, List.length_nil, Nat.reduceAdd])); focus ((repeat' (first | (with_reducible first | exact wg | exact wh) | ((with_reducible first | apply wi | apply wj); focus (simp (discharger := omega) only [go_sem, tErr0, tAuto, fewA, simprocAttr]; with_reducible rfl)))); done)))
  clear htb c1 c2 c3
  have htb := Tab.cons c4 Tab.nil
  by_cases hf : autoFault a = 0
  rotate_left
  · generalize autoFault a = e at *
    generalize finOf a = b at *
    repeat' (first | (with_reducible first | apply w1 | apply w2 | apply w3 | apply w4 | apply w5 | apply w6 | apply w7 | apply w8 | apply w9 | apply wa | apply wb | apply wc) | ((with_reducible apply wd); focus decide) | ((with_reducible apply we); focus exact rfl) | ((with_reducible apply wf); focus exact rfl) | ((first | (with_reducible apply SW_run tt_ok hG htb) | ((with_reducible apply SW_draw rfl tt_ok hG htb); (focus kernel_rfl); focus simp only [List.range, List.range.loop, List.size_toArray, List.length_cons, List.length_nil, Nat.reduceAdd])); focus ((repeat' (first | (with_reducible first | exact wg | exact wh) | ((with_reducible first | apply wi | apply wj); focus (simp (discharger := omega) only [go_sem, tErr, tAuto, hf, simprocAttr]; with_reducible rfl)))); done)))
    exact (by simp (discharger := omega) only [go_sem, simprocAttr])
  rw [hf] at c4 htb
  cases hfin : finOf a with
  | false =>
    rw [hfin] at htb
    repeat' (first | (with_reducible first | apply w1 | apply w2 | apply w3 | apply w4 | apply w5 | apply w6 | apply w7 | apply w8 | apply w9 | apply wa | apply wb | apply wc) | ((with_reducible apply wd); focus decide) | ((with_reducible apply we); focus exact rfl) | ((with_reducible apply wf); focus exact rfl) | ((first | (with_reducible apply SW_run tt_ok hG htb) | ((with_reducible apply SW_draw rfl tt_ok hG htb); (focus kernel_rfl); focus simp only [List.range, List.range.loop, List.size_toArray, List.length_cons, List.length_nil, Nat.reduceAdd])); focus ((repeat' (first | (with_reducible first | exact wg | exact wh) | ((with_reducible first | apply wi | apply wj); focus (simp (discharger := omega) only [go_sem, tErr0, tAuto, simprocAttr]; with_reducible rfl)))); done)))
    exact (by simp (discharger := omega) only [go_sem, simprocAttr])
  | true =>
    rw [hfin] at htb
    repeat' (first | (with_reducible first | apply w1 | apply w2 | apply w3 | apply w4 | apply w5 | apply w6 | apply w7 | apply w8 | apply w9 | apply wa | apply wb | apply wc) | ((with_reducible apply wd); focus decide) | ((with_reducible apply we); focus exact rfl) | ((with_reducible apply wf); focus exact rfl) | ((first | (with_reducible apply SW_run tt_ok hG htb) | ((with_reducible apply SW_draw rfl tt_ok hG htb); (focus kernel_rfl); focus simp only [List.range, List.range.loop, List.size_toArray, List.length_cons, List.length_nil, Nat.reduceAdd])); focus ((repeat' (first | (with_reducible first | exact wg | exact wh) | ((with_reducible first | apply wi | apply wj); focus (simp (discharger := omega) only [go_sem, tErr0, tAuto, simprocAttr]; with_reducible rfl)))); done)))
    clear htb
    have htb := Tab.cons c5 Tab.nil
    by_cases hr : runErr a w = 0
    rotate_left
    · generalize runErr a w = e at *
      generalize takesOf a w = b at *
      repeat' (first | (with_reducible first | apply w1 | apply w2 | apply w3 | apply w4 | apply w5 | apply w6 | apply w7 | apply w8 | apply w9 | apply wa | apply wb | apply wc) | ((with_reducible apply wd); focus decide) | ((with_reducible apply we); focus exact rfl) | ((with_reducible apply wf); focus exact rfl) | ((first | (with_reducible apply SW_run tt_ok hG htb) | ((with_reducible apply SW_draw rfl tt_ok hG htb); (focus kernel_rfl); focus simp only [List.range, List.range.loop, List.size_toArray, List.length_cons, List.length_nil, Nat.reduceAdd])); focus ((repeat' (first | (with_reducible first | exact wg | exact wh) | ((with_reducible first | apply wi | apply wj); focus (simp (discharger := omega) only [go_sem, tErr, tAuto, hr, simprocAttr]; with_reducible rfl)))); done)))
      exact (by simp (discharger := omega) only [go_sem, simprocAttr])
    rw [hr] at htb
    cases htk : takesOf a w with
    | false =>
      rw [htk] at htb
      repeat' (first | (with_reducible first | apply w1 | apply w2 | apply w3 | apply w4 | apply w5 | apply w6 | apply w7 | apply w8 | apply w9 | apply wa | apply wb | apply wc) | ((with_reducible apply wd); focus decide) | ((with_reducible apply we); focus exact rfl) | ((with_reducible apply wf); focus exact rfl) | ((first | (with_reducible apply SW_run tt_ok hG htb) | ((with_reducible apply SW_draw rfl tt_ok hG htb); (focus kernel_rfl); focus simp only [List.range, List.range.loop, List.size_toArray, List.length_cons, List.length_nil, Nat.reduceAdd])); focus ((repeat' (first | (with_reducible first | exact wg | exact wh) | ((with_reducible first | apply wi | apply wj); focus (simp (discharger := omega) only [go_sem, tErr0, tAuto, simprocAttr]; with_reducible rfl)))); done)))
      exact (by simp (discharger := omega) only [go_sem, simprocAttr])
    | true =>
      rw [htk] at htb
      by_cases hl : w.length = 0
      · repeat' (first | (with_reducible first | apply w1 | apply w2 | apply w3 | apply w4 | apply w5 | apply w6 | apply w7 | apply w8 | apply w9 | apply wa | apply wb | apply wc) | ((with_reducible apply wd); focus decide) | ((with_reducible apply we); focus exact rfl) | ((with_reducible apply wf); focus exact rfl) | ((first | (with_reducible apply SW_run tt_ok hG htb) | ((with_reducible apply SW_draw rfl tt_ok hG htb); (focus kernel_rfl); focus simp only [List.range, List.range.loop, List.size_toArray, List.length_cons, List.length_nil, Nat.reduceAdd])); focus ((repeat' (first | (with_reducible first | exact wg | exact wh) | ((with_reducible first | apply wi | apply wj); focus (simp (discharger := omega) only [go_sem, tErr0, tAuto, simprocAttr]; with_reducible rfl)))); done)))
        exact (by simp (discharger := omega) only [go_sem, simprocAttr])
      obtain ⟨x, hx⟩ : ∃ x, w[0]! = x := ⟨_, rfl⟩
      by_cases hx0 : x = 0
      · repeat' (first | (with_reducible first | apply w1 | apply w2 | apply w3 | apply w4 | apply w5 | apply w6 | apply w7 | apply w8 | apply w9 | apply wa | apply wb | apply wc) | ((with_reducible apply wd); focus decide) | ((with_reducible apply we); focus exact rfl) | ((with_reducible apply wf); focus exact rfl) | ((first | (with_reducible apply SW_run tt_ok hG htb) | ((with_reducible apply SW_draw rfl tt_ok hG htb); (focus kernel_rfl); focus simp only [List.range, List.range.loop, List.size_toArray, List.length_cons, List.length_nil, Nat.reduceAdd])); focus ((repeat' (first | (with_reducible first | exact wg | exact wh) | ((with_reducible first | apply wi | apply wj); focus (simp (discharger := omega) only [go_sem, tErr0, tAuto, hx, hx0, simprocAttr]; with_reducible rfl)))); done)))
        exact (by simp (discharger := omega) only [go_sem, simprocAttr])
      have g := good_of hf
      have hr2 := (runErr_good g w).1 hr
      have hlen : w.length ≤ a.next.length := by
        cases w with
        | nil => simp at hl
        | cons y u =>
          obtain rfl : y = x := hx
          have hyb := hr2.2 y List.mem_cons_self
          have hL := takes_lng' g hr2
          rw [htk] at hL
          have := fin_short hf hfin (x := y.toNat) (u := u.map Int.toNat) (fun z hz => by
            rcases List.mem_cons.1 hz with rfl | hz
            · omega
            · obtain ⟨q, hq, rfl⟩ := List.mem_map.1 hz
              have := hr2.2 q (List.mem_cons_of_mem _ hq); omega) (by omega) hL.symm
          simpa using this
      repeat' (first | (with_reducible first | apply w1 | apply w2 | apply w3 | apply w4 | apply w5 | apply w6 | apply w7 | apply w8 | apply w9 | apply wa | apply wb | apply wc) | ((with_reducible apply wd); focus decide) | ((with_reducible apply we); focus exact rfl) | ((with_reducible apply wf); focus exact rfl) | ((first | (with_reducible apply SW_run tt_ok hG htb) | ((with_reducible apply SW_draw rfl tt_ok hG htb); (focus kernel_rfl); focus simp only [List.range, List.range.loop, List.size_toArray, List.length_cons, List.length_nil, Nat.reduceAdd])); focus ((repeat' (first | (with_reducible first | exact wg | exact wh) | ((with_reducible first | apply wi | apply wj); focus (simp (discharger := omega) only [go_sem, tErr0, tAuto, hx, hx0, simprocAttr]; with_reducible rfl)))); done)))
      exact (by simp (discharger := omega) only [go_sem, simprocAttr])
end
theorem AskEnds_walk (t : Value) (a : GAuto) (u : Value) (l : List Int) (w : World) (h : ReadsAuto w t a) (h' : ReadsInts w u l) : Calls Try.prog 5 #[t, u] w (Ret (.bool true) w) :=
  walkN (AskEnds_snd (G := fun _ => True) (fun _ _ _ _ => trivial) a l) trivial rfl fun k y z p q => by
    match k, p, q with
    | 0, p, q => cases p; cases q; exact h.2
    | 1, p, q => cases p; cases q; exact h'.2
end Go.Proofs.Ytcaopcpofepniaa
namespace Go.Proofs.Ytcaopcpofepniaa.askEnds
open Go.ChangeShapes Go.WideShapes Go.ChangeAt Go.RowKit

set_option maxRecDepth 100000 in
theorem lifted (os : Os) (started : os.Started) (H : Type) (enc : TypeId × Value → H) :
    ReturnsInHanded {} Try.checked os 5 .any (Rows.askEndsSpec.pre6 enc Try.prog Try.f5 Rows.askEndsRow.domain false) (Rows.askEndsSpec.post enc Try.prog Try.f5 false true false false) := by
  refine returnsInHanded_of_change (C := Try.checked) own started (by kernel_rfl) Try.func5
    (ChangeSpec.witness6 (enc := enc) (C := Try.checked) false ⟨#[], #[.agg #[.int .i64 0, .int .i64 0, .slice none 0 0, .slice none 0 0], .slice none 0 0], []⟩ 8 (by kernel_rfl) (by kernel_rfl) (by kernel_rfl) (by kernel_rfl)) ?_
  intro W base args ds gs before hval0 hW hcnd _
  have hval : ∀ (j : Nat) t v, Try.f5.params[j]? = some t → args[j]? = some v → Value.okWide Try.prog W .any base t v := hval0
  have hW' := hW
  obtain ⟨p, q, hA0, hV, rfl, hfz, hnd⟩ := hW
  have hA : DataW.TrodAll enc Try.prog W 0 (fun _ => true) true Try.f5.params.toList args.toList ds p := hA0
  rw [Try.params5] at hA hval
  obtain ⟨v0, vs0, d0, ds0, p0, q0, hargs, rfl, rfl, h0, r0⟩ := trodAll_cons hA
  obtain ⟨v1, vs1, d1, ds1, p1, q1, rfl, rfl, rfl, h1, r1⟩ := trodAll_cons r0
  obtain ⟨rfl, rfl, rfl⟩ := trodAll_nil r1
  obtain rfl : args = #[v0, v1] := by cases args; simp_all
  obtain ⟨rfl, rfl⟩ := trodVars_none hV
  have k0 := h0
  have lt0 : ∀ x ∈ p0, x.block < W.heap.size := by obtain ⟨m, hm⟩ := k0; exact DataW.trod_lt m _ _ _ hm
  obtain ⟨a0, w0⟩ := openAutoT (hval 0 25 v0 rfl rfl) h0
  obtain ⟨b1, len1, cap1, rfl⟩ := okWide_slice Try.underlying26 (hval 1 26 v1 rfl rfl)
  have k1 := h1
  have lt1 : ∀ x ∈ p1, x.block < W.heap.size := by obtain ⟨m, hm⟩ := k1; exact DataW.trod_lt m _ _ _ hm
  obtain ⟨a1, w1⟩ := openIntsT rfl h1
  clear hA0 hval0
  refine (AskEnds_walk _ a0 _ a1 W w0 w1).mono fun e W' ⟨he, bel⟩ => ?_
  subst he
  exact ⟨_, rfl, _, _, _, [], _, [], hW', trodAll_mk1 (shut_bool Try.underlying4 _), (trodAll_cons_mk (Below.trod laidOut (by kernel_rfl) (of_decide_eq_true (by kernel_rfl)) k0 bel lt0) (trodAll_cons_mk (Below.trod laidOut (by kernel_rfl) (of_decide_eq_true (by kernel_rfl)) k1 bel lt1) trodAll_mk0)), rfl, bel.frame _, fun h => by cases h⟩

theorem over : Rows.askEndsRow.holds Try.pinned (OpenSpec.ofChange Rows.askEndsSpec) :=
  OpenClaim.holds_of_wide 5 Try.f5 rfl rfl rfl rfl rfl rfl rfl ⟨rfl, rfl, rfl, rfl, rfl⟩ rfl rfl rfl rfl rfl (by kernel_rfl) Try.func5 (by kernel_rfl)
    (of_decide_eq_true (by kernel_rfl)) (by unfold Func.isWrapper; first | (rw [if_pos (by decide +kernel)]; kernel_rfl) | (rw [if_neg (by decide +kernel)]; exact ⟨rfl, rfl⟩))
    (fun os started H enc _ => lifted os started H enc)

/-- THE STATEMENT. -/
theorem proved : Rows.AskEndsSaid := over
#print axioms proved
end Go.Proofs.Ytcaopcpofepniaa.askEnds
