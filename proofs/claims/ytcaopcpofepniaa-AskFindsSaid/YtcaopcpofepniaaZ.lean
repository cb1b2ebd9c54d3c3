/- The law AskFinds returns true at every input and leaves its arguments as they read. No conditions. -/
import Derived.Test.YtcaopcpofepniaaM3
import Derived.Test.YtcaopcpofepniaaChecked
set_option linter.unusedSimpArgs false
set_option linter.unusedVariables false
set_option linter.unnecessarySimpa false
set_option linter.unusedSectionVars false
namespace Go.Proofs.Ytcaopcpofepniaa
open Go.RowKit

def tt0 : Nat → Option TI
  | 1 => some ⟨.plain, 1, 8, [.t .undef], false⟩
  | 2 => some ⟨.int .i64, 1, 8, [.t (.int .i64 0)], false⟩
  | 3 => some ⟨.int .i64, 1, 8, [.t (.int .i64 0)], false⟩
  | 4 => some ⟨.bool, 1, 1, [.t (.bool false)], false⟩
  | 5 => some ⟨.int .u8, 1, 1, [.t (.int .u8 0)], false⟩
  | 6 => some ⟨.int .u8, 1, 1, [.t (.int .u8 0)], false⟩
  | 7 => some ⟨.struct [(0, 1), (1, 1), (2, 1), (3, 1)], 4, 24, [.t (.int .i64 0), .t (.int .i64 0), .t (.bool false), .t (.int .u8 0)], false⟩
  | _ => none
def tt1 : Nat → Option TI
  | 8 => some ⟨.struct [(0, 1), (1, 1), (2, 1), (3, 1)], 4, 24, [.t (.int .i64 0), .t (.int .i64 0), .t (.bool false), .t (.int .u8 0)], false⟩
  | 9 => some ⟨.str, 1, 16, [.t (.str ByteArray.empty)], false⟩
  | 10 => some ⟨.str, 1, 16, [.t (.str ByteArray.empty)], false⟩
  | 11 => some ⟨.str, 1, 16, [.t (.str ByteArray.empty)], false⟩
  | 12 => some ⟨.int .u64, 1, 8, [.t (.int .u64 0)], false⟩
  | 13 => some ⟨.struct [(0, 1), (1, 1)], 2, 24, [.t (.str ByteArray.empty), .t (.int .u64 0)], false⟩
  | 14 => some ⟨.struct [(0, 1), (1, 1)], 2, 24, [.t (.str ByteArray.empty), .t (.int .u64 0)], false⟩
  | 15 => some ⟨.plain, 1, 8, [.t .undef], false⟩
  | _ => none
def tt2 : Nat → Option TI
  | 16 => some ⟨.plain, 1, 8, [.t .undef], false⟩
  | 17 => some ⟨.plain, 1, 8, [.t .undef], false⟩
  | 18 => some ⟨.struct [(0, 1)], 1, 8, [.t .undef], false⟩
  | 19 => some ⟨.struct [(0, 1)], 1, 8, [.t .undef], false⟩
  | 20 => some ⟨.iface, 1, 16, [.t .nilI], false⟩
  | 21 => some ⟨.int .i32, 1, 4, [.t (.int .i32 0)], false⟩
  | 22 => some ⟨.slice 26, 1, 24, [.nil], false⟩
  | 23 => some ⟨.slice 4, 1, 24, [.nil], false⟩
  | _ => none
def tt3 : Nat → Option TI
  | 24 => some ⟨.struct [(0, 1), (1, 1), (2, 1), (3, 1)], 4, 64, [.t (.int .i64 0), .t (.int .i64 0), .nil, .nil], false⟩
  | 25 => some ⟨.struct [(0, 1), (1, 1), (2, 1), (3, 1)], 4, 64, [.t (.int .i64 0), .t (.int .i64 0), .nil, .nil], false⟩
  | 26 => some ⟨.slice 3, 1, 24, [.nil], false⟩
  | 27 => some ⟨.iface, 1, 16, [.t .nilI], false⟩
  | 28 => some ⟨.iface, 1, 16, [.t .nilI], false⟩
  | 30 => some ⟨.plain, 1, 8, [.t .undef], false⟩
  | 31 => some ⟨.plain, 1, 8, [.t .undef], false⟩
  | _ => none
def tt4 : Nat → Option TI
  | 33 => some ⟨.plain, 1, 8, [.t .undef], false⟩
  | 35 => some ⟨.plain, 1, 8, [.t .undef], false⟩
  | 36 => some ⟨.plain, 1, 8, [.t .undef], false⟩
  | 38 => some ⟨.plain, 1, 8, [.t .undef], false⟩
  | 39 => some ⟨.plain, 1, 8, [.t .undef], false⟩
  | _ => none
def tt5 : Nat → Option TI
  | 40 => some ⟨.plain, 1, 8, [.t .undef], false⟩
  | 41 => some ⟨.plain, 1, 8, [.t .undef], false⟩
  | 42 => some ⟨.plain, 1, 8, [.t .undef], false⟩
  | 43 => some ⟨.plain, 1, 8, [.t .undef], false⟩
  | 44 => some ⟨.plain, 1, 8, [.t .undef], false⟩
  | 46 => some ⟨.plain, 1, 8, [.t .undef], false⟩
  | 47 => some ⟨.plain, 1, 8, [.t .undef], false⟩
  | _ => none
def tt6 : Nat → Option TI
  | 48 => some ⟨.plain, 1, 8, [.t .undef], false⟩
  | 49 => some ⟨.plain, 1, 8, [.t .undef], false⟩
  | 50 => some ⟨.int .i64, 1, 8, [.t (.int .i64 0)], false⟩
  | 51 => some ⟨.plain, 1, 8, [.t .undef], false⟩
  | 52 => some ⟨.plain, 1, 8, [.t .undef], false⟩
  | 53 => some ⟨.plain, 1, 8, [.t .undef], false⟩
  | 55 => some ⟨.plain, 1, 8, [.t .undef], false⟩
  | _ => none
def tt7 : Nat → Option TI
  | 56 => some ⟨.plain, 1, 8, [.t .undef], false⟩
  | 57 => some ⟨.plain, 1, 8, [.t .undef], false⟩
  | 59 => some ⟨.plain, 1, 8, [.t .undef], false⟩
  | 60 => some ⟨.struct [(0, 1), (1, 1)], 2, 16, [.t (.int .i64 0), .t (.int .i64 0)], true⟩
  | 61 => some ⟨.struct [(0, 1), (1, 1)], 2, 16, [.t (.int .i64 0), .t (.int .i64 0)], true⟩
  | 62 => some ⟨.plain, 1, 8, [.t .undef], false⟩
  | 63 => some ⟨.plain, 1, 8, [.t .undef], false⟩
  | _ => none
def tt8 : Nat → Option TI
  | 64 => some ⟨.plain, 1, 8, [.t .undef], false⟩
  | 65 => some ⟨.slice 23, 1, 24, [.nil], false⟩
  | 66 => some ⟨.plain, 1, 8, [.t .undef], false⟩
  | 67 => some ⟨.plain, 1, 8, [.t .undef], false⟩
  | 68 => some ⟨.map (.str) 9 3, 1, 8, [.t .undef], false⟩
  | 69 => some ⟨.slice 5, 1, 24, [.nil], false⟩
  | 70 => some ⟨.int .u64, 1, 8, [.t (.int .u64 0)], false⟩
  | _ => none
def tt9 : Nat → Option TI
  | 72 => some ⟨.slice 61, 1, 24, [.nil], false⟩
  | 73 => some ⟨.struct [(0, 1), (1, 1)], 2, 16, [.t (.int .i64 0), .t (.int .i64 0)], true⟩
  | 74 => some ⟨.struct [(0, 1), (1, 1)], 2, 16, [.t (.int .i64 0), .t (.int .i64 0)], true⟩
  | 75 => some ⟨.slice 74, 1, 24, [.nil], false⟩
  | 76 => some ⟨.map (.ints 2) 61 3, 1, 8, [.t .undef], false⟩
  | 77 => some ⟨.plain, 1, 8, [.t .undef], false⟩
  | 78 => some ⟨.plain, 1, 8, [.t .undef], false⟩
  | 79 => some ⟨.struct [(0, 1), (1, 1), (2, 1), (3, 1)], 4, 40, [.t .undef, .t .undef, .t .undef, .t (.str ByteArray.empty)], false⟩
  | _ => none
def tt10 : Nat → Option TI
  | 80 => some ⟨.struct [(0, 1), (1, 1), (2, 1), (3, 1)], 4, 40, [.t .undef, .t .undef, .t .undef, .t (.str ByteArray.empty)], false⟩
  | 84 => some ⟨.plain, 1, 8, [.t .undef], false⟩
  | 85 => some ⟨.int .u32, 1, 4, [.t (.int .u32 0)], false⟩
  | 86 => some ⟨.int .u8, 1, 1, [.t (.int .u8 0)], false⟩
  | 87 => some ⟨.int .u8, 1, 1, [.t (.int .u8 0)], false⟩
  | _ => none
def tt11 : Nat → Option TI
  | 88 => some ⟨.plain, 1, 8, [.t .undef], false⟩
  | 89 => some ⟨.plain, 1, 8, [.t .undef], false⟩
  | 90 => some ⟨.int .i32, 1, 4, [.t (.int .i32 0)], false⟩
  | 91 => some ⟨.int .i32, 1, 4, [.t (.int .i32 0)], false⟩
  | 92 => some ⟨.struct [(0, 1), (1, 1), (2, 1), (3, 1), (4, 1), (5, 1), (6, 1), (7, 1), (8, 1), (9, 1), (10, 1)], 11, 48, [.t (.int .u64 0), .t (.int .u64 0), .t (.int .u32 0), .t (.int .u8 0), .t (.int .u8 0), .t (.int .u8 0), .t (.int .u8 0), .t .undef, .t .undef, .t (.int .i32 0), .t (.int .i32 0)], false⟩
  | 93 => some ⟨.struct [(0, 1), (1, 1), (2, 1), (3, 1), (4, 1), (5, 1), (6, 1), (7, 1), (8, 1), (9, 1), (10, 1)], 11, 48, [.t (.int .u64 0), .t (.int .u64 0), .t (.int .u32 0), .t (.int .u8 0), .t (.int .u8 0), .t (.int .u8 0), .t (.int .u8 0), .t .undef, .t .undef, .t (.int .i32 0), .t (.int .i32 0)], false⟩
  | _ => none
def tts0 (n : Nat) : Nat → Option TI
  | 0 => tt0 n
  | 1 => tt1 n
  | 2 => tt2 n
  | 3 => tt3 n
  | 4 => tt4 n
  | 5 => tt5 n
  | 6 => tt6 n
  | 7 => tt7 n
  | _ => none
def tts1 (n : Nat) : Nat → Option TI
  | 8 => tt8 n
  | 9 => tt9 n
  | 10 => tt10 n
  | 11 => tt11 n
  | _ => none
def tt (n : Nat) : Option TI := match n / 64 with
  | 0 => tts0 n (n / 8)
  | 1 => tts1 n (n / 8)
  | _ => none
set_option maxRecDepth 100000
theorem laid : laidOutB Try.prog = true := by kernel_rfl
theorem small : Try.prog.types.size + 2 ≤ 10000 := of_decide_eq_true (by kernel_rfl)
theorem tt0_ok : TTok Try.prog tt0 := by
  intro t i h
  unfold tt0 at h
  split at h <;> first
    | (cases h; exact chkTI_ok laid small (by kernel_rfl))
    | cases h
theorem tt1_ok : TTok Try.prog tt1 := by
  intro t i h
  unfold tt1 at h
  split at h <;> first
    | (cases h; exact chkTI_ok laid small (by kernel_rfl))
    | cases h
theorem tt2_ok : TTok Try.prog tt2 := by
  intro t i h
  unfold tt2 at h
  split at h <;> first
    | (cases h; exact chkTI_ok laid small (by kernel_rfl))
    | cases h
theorem tt3_ok : TTok Try.prog tt3 := by
  intro t i h
  unfold tt3 at h
  split at h <;> first
    | (cases h; exact chkTI_ok laid small (by kernel_rfl))
    | cases h
theorem tt4_ok : TTok Try.prog tt4 := by
  intro t i h
  unfold tt4 at h
  split at h <;> first
    | (cases h; exact chkTI_ok laid small (by kernel_rfl))
    | cases h
theorem tt5_ok : TTok Try.prog tt5 := by
  intro t i h
  unfold tt5 at h
  split at h <;> first
    | (cases h; exact chkTI_ok laid small (by kernel_rfl))
    | cases h
theorem tt6_ok : TTok Try.prog tt6 := by
  intro t i h
  unfold tt6 at h
  split at h <;> first
    | (cases h; exact chkTI_ok laid small (by kernel_rfl))
    | cases h
theorem tt7_ok : TTok Try.prog tt7 := by
  intro t i h
  unfold tt7 at h
  split at h <;> first
    | (cases h; exact chkTI_ok laid small (by kernel_rfl))
    | cases h
theorem tt8_ok : TTok Try.prog tt8 := by
  intro t i h
  unfold tt8 at h
  split at h <;> first
    | (cases h; exact chkTI_ok laid small (by kernel_rfl))
    | cases h
theorem tt9_ok : TTok Try.prog tt9 := by
  intro t i h
  unfold tt9 at h
  split at h <;> first
    | (cases h; exact chkTI_ok laid small (by kernel_rfl))
    | cases h
theorem tt10_ok : TTok Try.prog tt10 := by
  intro t i h
  unfold tt10 at h
  split at h <;> first
    | (cases h; exact chkTI_ok laid small (by kernel_rfl))
    | cases h
theorem tt11_ok : TTok Try.prog tt11 := by
  intro t i h
  unfold tt11 at h
  split at h <;> first
    | (cases h; exact chkTI_ok laid small (by kernel_rfl))
    | cases h
theorem tts0_ok (k : Nat) : TTok Try.prog (fun n => tts0 n k) := by
  intro t i h
  unfold tts0 at h
  split at h <;> first
    | exact tt0_ok _ _ h
    | exact tt1_ok _ _ h
    | exact tt2_ok _ _ h
    | exact tt3_ok _ _ h
    | exact tt4_ok _ _ h
    | exact tt5_ok _ _ h
    | exact tt6_ok _ _ h
    | exact tt7_ok _ _ h
    | cases h
theorem tts1_ok (k : Nat) : TTok Try.prog (fun n => tts1 n k) := by
  intro t i h
  unfold tts1 at h
  split at h <;> first
    | exact tt8_ok _ _ h
    | exact tt9_ok _ _ h
    | exact tt10_ok _ _ h
    | exact tt11_ok _ _ h
    | cases h
theorem tt_ok : TTok Try.prog tt := by
  intro t i h
  unfold tt at h
  split at h <;> first
    | exact tts0_ok _ _ _ h
    | exact tts1_ok _ _ _ h
    | cases h
end Go.Proofs.Ytcaopcpofepniaa
namespace Go.Proofs.Ytcaopcpofepniaa
open Go.RowKit

attribute [go_sem] nLe nNle nLt nNlt nEq nNe iLe iNle iLt iNlt iEq iNe
attribute [go_sem] runOps stepOp stepOp0 stepOp1 evalOp dstOk St.ev.eq_1 St.ev.eq_2 St.ev.eq_3 St.ev.eq_4 ofConst St.get
attribute [go_sem] St.put look T.bin isConst mkFn allT St.len St.lst St.obj St.load loadT loadS
attribute [go_sem] mkAgg TK.isAgg St.index treeIndex SV.plus T.cells T.max2 T.min2 fillS SV.storable T.storable SV.cells
attribute [go_sem] St.litS idxOk zipFrz frz frzC frzL St.append St.appLen scrub St.bd SV.ren renL
attribute [go_sem] Ob.ren St.store T.put TI.zT SV.toT0 List.length_replicate List.getElem?_replicate Nat.one_mul Nat.mul_one List.isEmpty_cons List.isEmpty_nil or_self
attribute [go_sem] true_or or_true false_or or_false and_self decide_eq_true_eq if_true if_false ite_true ite_false Option.getD_some Option.getD_none
attribute [go_sem] Option.map_some Option.map_none Option.bind_some Option.bind_none decide_true decide_false Bool.true_and Bool.and_true Bool.false_and Bool.and_false Bool.not_true Bool.not_false
attribute [go_sem] beq_self_eq_true List.getElem?_cons_zero List.getElem?_cons_succ List.map_cons List.map_nil List.cons_append List.nil_append List.length_cons List.length_nil List.toList_toArray true_and and_true
attribute [go_sem] false_and and_false List.all_cons List.all_nil List.drop_zero List.drop_succ_cons List.take_succ_cons List.take_zero List.head?_cons List.set_cons_zero List.set_cons_succ Bool.or_true
attribute [go_sem] Bool.true_or Bool.or_false Bool.false_or ne_eq not_true_eq_false not_false_eq_true Nat.zero_add List.getElem?_toArray tInt tNat tInts tBools
attribute [go_sem] tIntss wrap_i64 List.getElem?_map List.length_map Int.toNat_natCast List.all_map stepX stepX0 evalX St.callR findCo
attribute [go_sem] St.litQ St.sliceQ St.rdL St.rd St.trL St.tr T.flatData flatAll lookR St.mapUp St.slice strSlice
attribute [go_sem] T.okKey T.inR bytesOf eq_self stepI quietOp St.ownAll St.own setSlot true_implies implies_true false_implies
attribute [go_sem] keepL reach addNew refsL SV.refs Ob.refs List.append_nil List.mem_cons List.not_mem_nil List.getElem?_nil posIn St.resL
attribute [go_sem] St.res1 St.gc St.head
theorem gb_a (l : List Int) (k : Nat) (h : k < l.length) : l[k]? = some l[k]! := get_bang l k h
theorem gb_b (l : List Bool) (k : Nat) (h : k < l.length) : l[k]? = some l[k]! := get_bang l k h
theorem gb_c (l : List (List Int)) (k : Nat) (h : k < l.length) : l[k]? = some l[k]! := get_bang l k h
theorem gb_d (l : List Nat) (k : Nat) (h : k < l.length) : l[k]? = some l[k]! := get_bang l k h
theorem gb_e (l : List T) (k : Nat) (h : k < l.length) : l[k]? = some l[k]! := get_bang l k h
theorem gb_f (l : List (List (List Int))) (k : Nat) (h : k < l.length) : l[k]? = some l[k]! := get_bang l k h
theorem gb_g (l : List (List Bool)) (k : Nat) (h : k < l.length) : l[k]? = some l[k]! := get_bang l k h
theorem gb_h (l : List (List Nat)) (k : Nat) (h : k < l.length) : l[k]? = some l[k]! := get_bang l k h
theorem gb_i (l : List (List (List (List Int)))) (k : Nat) (h : k < l.length) : l[k]? = some l[k]! := get_bang l k h
theorem gb_j (l : List (Int × Int)) (k : Nat) (h : k < l.length) : l[k]? = some l[k]! := get_bang l k h
theorem gb_k (l : List (Nat × Nat)) (k : Nat) (h : k < l.length) : l[k]? = some l[k]! := get_bang l k h
theorem gb_l (l : List UInt8) (k : Nat) (h : k < l.length) : l[k]? = some l[k]! := get_bang l k h
theorem gb_m (l : List (List T)) (k : Nat) (h : k < l.length) : l[k]? = some l[k]! := get_bang l k h
theorem gb_n (l : List String) (k : Nat) (h : k < l.length) : l[k]? = some l[k]! := get_bang l k h
attribute [go_sem] gb_a gb_b gb_c gb_d gb_e gb_f gb_g gb_h gb_i gb_j gb_k gb_l gb_m gb_n
attribute [go_sem] T.beqA eqIs SV.gd Option.some.injEq
attribute [go_sem] St.sliceA T.isCell stepA allocAt List.lookup
attribute [go_sem] St.res tt tts0 tts1 tt0 tt1 tt2 tt3 tt4 tt5 tt6 tt7 tt8 tt9 tt10 tt11
theorem w1 : type_of% @SW_seq := @SW_seq
theorem w2 : type_of% @SW_block := @SW_block
theorem w3 : type_of% @SThen_n := @SThen_n
theorem w4 : type_of% @SThen_r := @SThen_r
theorem w5 : type_of% @SThen_e := @SThen_e
theorem w6 : type_of% @SIn_n := @SIn_n
theorem w7 : type_of% @SIn_r := @SIn_r
theorem w8 : type_of% @SIn_eq := @SIn_eq
theorem w9 : type_of% @SW_skip := @SW_skip
theorem wa : type_of% @SW_exit := @SW_exit
theorem wb : type_of% @SW_ret := @SW_ret
theorem wc : type_of% @SPost_r := @SPost_r
theorem wd : type_of% @SIn_ne := @SIn_ne
theorem we : type_of% @SW_true := @SW_true
theorem wf : type_of% @SW_false := @SW_false
theorem wg : type_of% @runX_nil := @runX_nil
theorem wh : type_of% @runI_nil := @runI_nil
theorem wi : type_of% @runX_cons := @runX_cons
theorem wj : type_of% @runI_cons := @runI_cons
end Go.Proofs.Ytcaopcpofepniaa
namespace Go.Proofs.Ytcaopcpofepniaa
open Go.RowKit

def tErr (e : Int) : T := if e = 0 then .nilI else .iface 50 (.int .i64 e)
theorem tErr0 : tErr 0 = .nilI := rfl
def tAuto (a : GAuto) : T := .agg [tInt a.base, tInt a.tracks, tIntss a.next, tBools a.ends]
def I64s (l : List Int) : Prop := ∀ x ∈ l, I64 x
structure I64A (a : GAuto) : Prop where
  base : I64 a.base
  tracks : I64 a.tracks
  next : ∀ r ∈ a.next, I64s r
section
variable {P : Program} {G : World → Prop}
end
theorem bang_get {α : Type} [Inhabited α] {l : List α} {i : Nat} {x : α} (h : l[i]! = x) (hi : i < l.length) : l[i]? = some x := by rw [← h, getElem!_pos l i hi]; exact List.getElem?_eq_getElem hi
theorem bang_mem {α : Type} [Inhabited α] {l : List α} {i : Nat} {x : α} (h : l[i]! = x) (hi : i < l.length) : x ∈ l := List.mem_of_getElem? (bang_get h hi)
theorem bang_D {α : Type} [Inhabited α] {l : List α} {i : Nat} {x d : α} (h : l[i]! = x) (hi : i < l.length) : l.getD i d = x := by rw [getD_lt hi, ← h, getElem!_pos l i hi]
theorem bang_at {α : Type} [Inhabited α] {l : List α} {i : Nat} {x : α} (h : l[i]! = x) (hi : i < l.length) : l[i] = x := by rw [← h, getElem!_pos l i hi]
theorem take_next {α : Type} [Inhabited α] {l : List α} {i : Nat} {x : α} (h : l[i]! = x) (hi : i < l.length) : l.take (i + 1) = l.take i ++ [x] := by
  rw [List.take_succ_eq_append_getElem hi, bang_at h hi]
theorem nextOf_bang {next : List (List Int)} {s l u : Int} {row : List Int} (hrow : next[s.toNat]! = row) (hs : s.toNat < next.length) (hu : row[l.toNat]! = u) (hl : l.toNat < row.length) : nextOf next s l = u := by
  unfold nextOf; rw [bang_D hrow hs, bang_D hu hl]
theorem runFrom_take (next : List (List Int)) {w : List Int} {i : Nat} {x : Int} (hx : w[i]! = x) (hi : i < w.length) (s : Int) : runFrom next s (w.take (i + 1)) = nextOf next (runFrom next s (w.take i)) x := by
  rw [take_next hx hi, runFrom_append]; rfl
section
variable {G : World → Prop} (hG : Lasting G)
include hG
theorem Radix_snd (base : Int) : Snd Try.prog G 32 [tInt base] (tInt (radix base)) := by
  have htb : Tab.ok Try.prog G [] := Tab.nil
  refine snd_of_body (n := 12) (tm := [(0, .t (tInt base))]) (rs := [.tmp 2]) tt_ok Try.func32 rfl rfl rfl rfl rfl ?_
  unfold radix
  by_cases h1 : base = 1
  · repeat' (first | (with_reducible first | apply w1 | apply w2 | apply w3 | apply w4 | apply w5 | apply w6 | apply w7 | apply w8 | apply w9 | apply wa | apply wb | apply wc) | ((with_reducible apply wd); focus decide) | ((with_reducible apply we); focus exact rfl) | ((with_reducible apply wf); focus exact rfl) | ((first | (with_reducible apply SW_run tt_ok hG htb) | ((with_reducible apply SW_draw rfl tt_ok hG htb); (focus kernel_rfl); focus simp only [List.range, List.range.loop, List.size_toArray, List.length_cons, List.length_nil, Nat.reduceAdd])); focus ((repeat' (first | (with_reducible first | exact wg | exact wh) | ((with_reducible first | apply wi | apply wj); focus (simp (discharger := omega) only [go_sem, h1, simprocAttr]; with_reducible rfl)))); done)))
    exact (by simp (discharger := omega) only [go_sem, h1, simprocAttr])
  · by_cases h2 : 2 ≤ base
    · by_cases h3 : base ≤ 6
      · repeat' (first | (with_reducible first | apply w1 | apply w2 | apply w3 | apply w4 | apply w5 | apply w6 | apply w7 | apply w8 | apply w9 | apply wa | apply wb | apply wc) | ((with_reducible apply wd); focus decide) | ((with_reducible apply we); focus exact rfl) | ((with_reducible apply wf); focus exact rfl) | ((first | (with_reducible apply SW_run tt_ok hG htb) | ((with_reducible apply SW_draw rfl tt_ok hG htb); (focus kernel_rfl); focus simp only [List.range, List.range.loop, List.size_toArray, List.length_cons, List.length_nil, Nat.reduceAdd])); focus ((repeat' (first | (with_reducible first | exact wg | exact wh) | ((with_reducible first | apply wi | apply wj); focus (simp (discharger := omega) only [go_sem, simprocAttr]; with_reducible rfl)))); done)))
        exact (by simp (discharger := omega) only [go_sem, simprocAttr])
      · repeat' (first | (with_reducible first | apply w1 | apply w2 | apply w3 | apply w4 | apply w5 | apply w6 | apply w7 | apply w8 | apply w9 | apply wa | apply wb | apply wc) | ((with_reducible apply wd); focus decide) | ((with_reducible apply we); focus exact rfl) | ((with_reducible apply wf); focus exact rfl) | ((first | (with_reducible apply SW_run tt_ok hG htb) | ((with_reducible apply SW_draw rfl tt_ok hG htb); (focus kernel_rfl); focus simp only [List.range, List.range.loop, List.size_toArray, List.length_cons, List.length_nil, Nat.reduceAdd])); focus ((repeat' (first | (with_reducible first | exact wg | exact wh) | ((with_reducible first | apply wi | apply wj); focus (simp (discharger := omega) only [go_sem, simprocAttr]; with_reducible rfl)))); done)))
        exact (by simp (discharger := omega) only [go_sem, simprocAttr])
    · repeat' (first | (with_reducible first | apply w1 | apply w2 | apply w3 | apply w4 | apply w5 | apply w6 | apply w7 | apply w8 | apply w9 | apply wa | apply wb | apply wc) | ((with_reducible apply wd); focus decide) | ((with_reducible apply we); focus exact rfl) | ((with_reducible apply wf); focus exact rfl) | ((first | (with_reducible apply SW_run tt_ok hG htb) | ((with_reducible apply SW_draw rfl tt_ok hG htb); (focus kernel_rfl); focus simp only [List.range, List.range.loop, List.size_toArray, List.length_cons, List.length_nil, Nat.reduceAdd])); focus ((repeat' (first | (with_reducible first | exact wg | exact wh) | ((with_reducible first | apply wi | apply wj); focus (simp (discharger := omega) only [go_sem, simprocAttr]; with_reducible rfl)))); done)))
      exact (by simp (discharger := omega) only [go_sem, simprocAttr])
set_option maxHeartbeats 4000000 in
theorem Many_snd (base t : Int) : Snd Try.prog G 30 [tInt base, tInt t] (.tup [tInt (manyOf base t), tErr (manyErr base t)]) := by
  have htb := Tab.cons (Radix_snd hG base) Tab.nil
  refine snd_of_body (n := 32) (tm := [(0, .t (tInt base)), (1, .t (tInt t))]) (rs := [.tmp 4, .tmp 5]) tt_ok Try.func30 rfl rfl rfl rfl rfl ?_
  unfold manyOf manyErr
  generalize hk : radix base = k at htb ⊢
  by_cases h1 : k = 0
  · subst h1
    repeat' (first | (with_reducible first | apply w1 | apply w2 | apply w3 | apply w4 | apply w5 | apply w6 | apply w7 | apply w8 | apply w9 | apply wa | apply wb | apply wc) | ((with_reducible apply wd); focus decide) | ((with_reducible apply we); focus exact rfl) | ((with_reducible apply wf); focus exact rfl) | ((first | (with_reducible apply SW_run tt_ok hG htb) | ((with_reducible apply SW_draw rfl tt_ok hG htb); (focus kernel_rfl); focus simp only [List.range, List.range.loop, List.size_toArray, List.length_cons, List.length_nil, Nat.reduceAdd])); focus ((repeat' (first | (with_reducible first | exact wg | exact wh) | ((with_reducible first | apply wi | apply wj); focus (simp (discharger := omega) only [go_sem, simprocAttr]; with_reducible rfl)))); done)))
    exact (by simp (discharger := omega) only [go_sem, tErr, simprocAttr])
  · by_cases h2 : t < 0
    · repeat' (first | (with_reducible first | apply w1 | apply w2 | apply w3 | apply w4 | apply w5 | apply w6 | apply w7 | apply w8 | apply w9 | apply wa | apply wb | apply wc) | ((with_reducible apply wd); focus decide) | ((with_reducible apply we); focus exact rfl) | ((with_reducible apply wf); focus exact rfl) | ((first | (with_reducible apply SW_run tt_ok hG htb) | ((with_reducible apply SW_draw rfl tt_ok hG htb); (focus kernel_rfl); focus simp only [List.range, List.range.loop, List.size_toArray, List.length_cons, List.length_nil, Nat.reduceAdd])); focus ((repeat' (first | (with_reducible first | exact wg | exact wh) | ((with_reducible first | apply wi | apply wj); focus (simp (discharger := omega) only [go_sem, simprocAttr]; with_reducible rfl)))); done)))
      exact (by simp (discharger := omega) only [go_sem, tErr, simprocAttr])
    · by_cases h3 : 5 < t
      · repeat' (first | (with_reducible first | apply w1 | apply w2 | apply w3 | apply w4 | apply w5 | apply w6 | apply w7 | apply w8 | apply w9 | apply wa | apply wb | apply wc) | ((with_reducible apply wd); focus decide) | ((with_reducible apply we); focus exact rfl) | ((with_reducible apply wf); focus exact rfl) | ((first | (with_reducible apply SW_run tt_ok hG htb) | ((with_reducible apply SW_draw rfl tt_ok hG htb); (focus kernel_rfl); focus simp only [List.range, List.range.loop, List.size_toArray, List.length_cons, List.length_nil, Nat.reduceAdd])); focus ((repeat' (first | (with_reducible first | exact wg | exact wh) | ((with_reducible first | apply wi | apply wj); focus (simp (discharger := omega) only [go_sem, simprocAttr]; with_reducible rfl)))); done)))
        exact (by simp (discharger := omega) only [go_sem, tErr, simprocAttr])
      · obtain ⟨r2, r6⟩ := radix_two (b := base) (by omega)
        rw [hk] at r2 r6
        obtain ⟨t, rfl⟩ := Int.eq_ofNat_of_zero_le (show 0 ≤ t by omega)
        rw [show (if k = 0 ∨ (t : Int) < 0 ∨ 5 < (t : Int) then (1 : Int) else if 36 < powW k (t : Int).toNat then 3 else 0) = if 36 < powW k t then 3 else 0 by rw [if_neg (by omega)]; rfl]
        repeat' (first | (with_reducible first | apply w1 | apply w2 | apply w3 | apply w4 | apply w5 | apply w6 | apply w7 | apply w8 | apply w9 | apply wa | apply wb | apply wc) | ((with_reducible apply wd); focus decide) | ((with_reducible apply we); focus exact rfl) | ((with_reducible apply wf); focus exact rfl) | ((first | (with_reducible apply SW_run tt_ok hG htb) | ((with_reducible apply SW_draw rfl tt_ok hG htb); (focus kernel_rfl); focus simp only [List.range, List.range.loop, List.size_toArray, List.length_cons, List.length_nil, Nat.reduceAdd])); focus ((repeat' (first | (with_reducible first | exact wg | exact wh) | ((with_reducible first | apply wi | apply wj); focus (simp (discharger := omega) only [go_sem, simprocAttr]; with_reducible rfl)))); done)))
        refine SW_loop (fun m s => ∃ i : Nat, m = t - i ∧ s = ⟨32, [(6, .t (tInt k)), (7, .t (tInt (powW k i))), (21, .t (tInt t)), (22, .t (tInt i))], []⟩ ∧ i ≤ t) t ⟨_, Norm.headS (own := []) (keep := [6, 7, 21, 22]) (by refine ⟨?_, ?_⟩; (simp (discharger := omega) only [go_sem, simprocAttr]; with_reducible rfl); refine ⟨?_, ?_, ?_, ?_⟩ <;> (simp only [go_sem, simprocAttr]; with_reducible rfl)), 0, rfl, rfl, Nat.zero_le _⟩ ?_
        rintro m s ⟨i, rfl, rfl, hi⟩
        have hb := powW_bd r2 r6 (j := i) (by omega)
        by_cases hlt : i < t
        · have hb1 : 1 ≤ powW k i * k ∧ powW k i * k ≤ 7776 := powW_bd r2 r6 (j := i + 1) (by omega)
          repeat' (first | (with_reducible first | apply w1 | apply w2 | apply w3 | apply w4 | apply w5 | apply w6 | apply w7 | apply w8 | apply w9 | apply wa | apply wb | apply wc) | ((with_reducible apply wd); focus decide) | ((with_reducible apply we); focus exact rfl) | ((with_reducible apply wf); focus exact rfl) | ((first | (with_reducible apply SW_run tt_ok hG htb) | ((with_reducible apply SW_draw rfl tt_ok hG htb); (focus kernel_rfl); focus simp only [List.range, List.range.loop, List.size_toArray, List.length_cons, List.length_nil, Nat.reduceAdd])); focus ((repeat' (first | (with_reducible first | exact wg | exact wh) | ((with_reducible first | apply wi | apply wj); focus (simp (discharger := omega) only [go_sem, simprocAttr]; with_reducible rfl)))); done)))
          exact ⟨t - (i + 1), _, by omega, Norm.headS (own := []) (keep := [6, 7, 21, 22]) (by refine ⟨?_, ?_⟩; (simp (discharger := omega) only [go_sem, simprocAttr]; with_reducible rfl); refine ⟨?_, ?_, ?_, ?_⟩ <;> (simp only [go_sem, simprocAttr]; with_reducible rfl)), i + 1, rfl, rfl, by omega⟩
        · obtain rfl : i = t := by omega
          by_cases h36 : 36 < powW k i
          · repeat' (first | (with_reducible first | apply w1 | apply w2 | apply w3 | apply w4 | apply w5 | apply w6 | apply w7 | apply w8 | apply w9 | apply wa | apply wb | apply wc) | ((with_reducible apply wd); focus decide) | ((with_reducible apply we); focus exact rfl) | ((with_reducible apply wf); focus exact rfl) | ((first | (with_reducible apply SW_run tt_ok hG htb) | ((with_reducible apply SW_draw rfl tt_ok hG htb); (focus kernel_rfl); focus simp only [List.range, List.range.loop, List.size_toArray, List.length_cons, List.length_nil, Nat.reduceAdd])); focus ((repeat' (first | (with_reducible first | exact wg | exact wh) | ((with_reducible first | apply wi | apply wj); focus (simp (discharger := omega) only [go_sem, simprocAttr]; with_reducible rfl)))); done)))
            exact (by simp (discharger := omega) only [go_sem, tErr, simprocAttr])
          · repeat' (first | (with_reducible first | apply w1 | apply w2 | apply w3 | apply w4 | apply w5 | apply w6 | apply w7 | apply w8 | apply w9 | apply wa | apply wb | apply wc) | ((with_reducible apply wd); focus decide) | ((with_reducible apply we); focus exact rfl) | ((with_reducible apply wf); focus exact rfl) | ((first | (with_reducible apply SW_run tt_ok hG htb) | ((with_reducible apply SW_draw rfl tt_ok hG htb); (focus kernel_rfl); focus simp only [List.range, List.range.loop, List.size_toArray, List.length_cons, List.length_nil, Nat.reduceAdd])); focus ((repeat' (first | (with_reducible first | exact wg | exact wh) | ((with_reducible first | apply wi | apply wj); focus (simp (discharger := omega) only [go_sem, simprocAttr]; with_reducible rfl)))); done)))
            exact (by simp (discharger := omega) only [go_sem, tErr, simprocAttr])
set_option maxHeartbeats 4000000 in
theorem Check_snd (a : GAuto) : Snd Try.prog G 20 [tAuto a] (tErr (autoFault a)) := by
  have htb := Tab.cons (Many_snd hG a.base a.tracks) Tab.nil
  refine snd_of_body (n := 72) (tm := [(0, .t (tAuto a))]) (rs := [.tmp 2]) tt_ok Try.func20 rfl rfl rfl rfl rfl ?_
  unfold autoFault
  by_cases h0 : manyErr a.base a.tracks = 0
  · rw [if_neg (by omega)]
    rw [h0] at htb
    have h36 := (many_ok h0).2.2.2.1
    rw [← (many_ok h0).2.2.2.2] at h36
    generalize hmo : manyOf a.base a.tracks = mo at *
    by_cases h1 : a.next.length = 0
    · repeat' (first | (with_reducible first | apply w1 | apply w2 | apply w3 | apply w4 | apply w5 | apply w6 | apply w7 | apply w8 | apply w9 | apply wa | apply wb | apply wc) | ((with_reducible apply wd); focus decide) | ((with_reducible apply we); focus exact rfl) | ((with_reducible apply wf); focus exact rfl) | ((first | (with_reducible apply SW_run tt_ok hG htb) | ((with_reducible apply SW_draw rfl tt_ok hG htb); (focus kernel_rfl); focus simp only [List.range, List.range.loop, List.size_toArray, List.length_cons, List.length_nil, Nat.reduceAdd])); focus ((repeat' (first | (with_reducible first | exact wg | exact wh) | ((with_reducible first | apply wi | apply wj); focus (simp (discharger := omega) only [go_sem, tAuto, tErr, simprocAttr]; with_reducible rfl)))); done)))
      exact (by simp (discharger := omega) only [go_sem, tErr, simprocAttr])
    · by_cases h2 : 80 < a.next.length
      · repeat' (first | (with_reducible first | apply w1 | apply w2 | apply w3 | apply w4 | apply w5 | apply w6 | apply w7 | apply w8 | apply w9 | apply wa | apply wb | apply wc) | ((with_reducible apply wd); focus decide) | ((with_reducible apply we); focus exact rfl) | ((with_reducible apply wf); focus exact rfl) | ((first | (with_reducible apply SW_run tt_ok hG htb) | ((with_reducible apply SW_draw rfl tt_ok hG htb); (focus kernel_rfl); focus simp only [List.range, List.range.loop, List.size_toArray, List.length_cons, List.length_nil, Nat.reduceAdd])); focus ((repeat' (first | (with_reducible first | exact wg | exact wh) | ((with_reducible first | apply wi | apply wj); focus (simp (discharger := omega) only [go_sem, tAuto, tErr, simprocAttr]; with_reducible rfl)))); done)))
        exact (by simp (discharger := omega) only [go_sem, tErr, simprocAttr])
      · by_cases h3 : a.ends.length = a.next.length
        · rw [if_neg h1, if_neg h2, if_neg (by omega)]
          repeat' (first | (with_reducible first | apply w1 | apply w2 | apply w3 | apply w4 | apply w5 | apply w6 | apply w7 | apply w8 | apply w9 | apply wa | apply wb | apply wc) | ((with_reducible apply wd); focus decide) | ((with_reducible apply we); focus exact rfl) | ((with_reducible apply wf); focus exact rfl) | ((first | (with_reducible apply SW_run tt_ok hG htb) | ((with_reducible apply SW_draw rfl tt_ok hG htb); (focus kernel_rfl); focus simp only [List.range, List.range.loop, List.size_toArray, List.length_cons, List.length_nil, Nat.reduceAdd])); focus ((repeat' (first | (with_reducible first | exact wg | exact wh) | ((with_reducible first | apply wi | apply wj); focus (simp (discharger := omega) only [go_sem, tAuto, tErr, h3, simprocAttr]; with_reducible rfl)))); done)))
          refine SW_loop (fun m s => ∃ i : Nat, m = a.next.length - i ∧ s = ⟨72, [(1, .bptr 0 0), (3, .t (tInt mo)), (43, .t (tIntss a.next)), (44, .t (tInt a.next.length)), (45, .t (tInt i))], [.box [.t (tInt a.base), .t (tInt a.tracks), .t (tIntss a.next), .t (tBools a.ends)]]⟩ ∧ i ≤ a.next.length ∧ ∀ j (hj : j < a.next.length), j < i → (a.next[j].length : Int) = mo ∧ ∀ s ∈ a.next[j], 0 ≤ s ∧ s < (a.next.length : Int)) a.next.length
            ⟨_, Norm.headS (own := []) (keep := [1, 3, 43, 44, 45]) (by refine ⟨?_, ?_⟩; (simp (discharger := omega) only [go_sem, simprocAttr]; with_reducible rfl); refine ⟨?_, ?_, ?_, ?_⟩ <;> (simp only [go_sem, simprocAttr]; with_reducible rfl)), 0, rfl, rfl, Nat.zero_le _, fun j hj h => by omega⟩ ?_
          rintro m s ⟨i, rfl, rfl, hi, hA⟩
          by_cases hlt : i < a.next.length
          · obtain ⟨row, hrow⟩ : ∃ row, a.next[i]! = row := ⟨_, rfl⟩
            have hat := bang_at hrow hlt
            obtain ⟨f1, f2⟩ := rowsFault_at hlt hA
            rw [hat] at f1 f2
            by_cases hrl : (row.length : Int) = mo
            · repeat' (first | (with_reducible first | apply w1 | apply w2 | apply w3 | apply w4 | apply w5 | apply w6 | apply w7 | apply w8 | apply w9 | apply wa | apply wb | apply wc) | ((with_reducible apply wd); focus decide) | ((with_reducible apply we); focus exact rfl) | ((with_reducible apply wf); focus exact rfl) | ((first | (with_reducible apply SW_run tt_ok hG htb) | ((with_reducible apply SW_draw rfl tt_ok hG htb); (focus kernel_rfl); focus simp only [List.range, List.range.loop, List.size_toArray, List.length_cons, List.length_nil, Nat.reduceAdd])); focus ((repeat' (first | (with_reducible first | exact wg | exact wh) | ((with_reducible first | apply wi | apply wj); focus (simp (discharger := omega) only [go_sem, hrow, simprocAttr]; with_reducible rfl)))); done)))
              refine SW_loop (fun m s => ∃ l : Nat, m = row.length - l ∧ s = ⟨72, [(1, .bptr 0 0), (3, .t (tInt mo)), (43, .t (tIntss a.next)), (44, .t (tInt a.next.length)), (45, .t (tInt i)), (54, .t (tInts row)), (55, .t (tInt row.length)), (56, .t (tInt l))], [.box [.t (tInt a.base), .t (tInt a.tracks), .t (tIntss a.next), .t (tBools a.ends)]]⟩ ∧ l ≤ row.length ∧ ∀ x ∈ row.take l, 0 ≤ x ∧ x < (a.next.length : Int)) row.length
                ⟨_, Norm.headS (own := []) (keep := [1, 3, 43, 44, 45, 54, 55, 56]) (by refine ⟨?_, ?_⟩; (simp (discharger := omega) only [go_sem, simprocAttr]; with_reducible rfl); refine ⟨?_, ?_, ?_, ?_⟩ <;> (simp only [go_sem, simprocAttr]; with_reducible rfl)), 0, rfl, rfl, Nat.zero_le _, fun x hx => by simp at hx⟩ ?_
              rintro m s ⟨l, rfl, rfl, hl, hB⟩
              by_cases hlt2 : l < row.length
              · obtain ⟨x, hx⟩ : ∃ x, row[l]! = x := ⟨_, rfl⟩
                have htk := take_next hx hlt2
                have hxm := bang_mem hx hlt2
                by_cases hx0 : 0 ≤ x
                · by_cases hxm2 : x < (a.next.length : Int)
                  · repeat' (first | (with_reducible first | apply w1 | apply w2 | apply w3 | apply w4 | apply w5 | apply w6 | apply w7 | apply w8 | apply w9 | apply wa | apply wb | apply wc) | ((with_reducible apply wd); focus decide) | ((with_reducible apply we); focus exact rfl) | ((with_reducible apply wf); focus exact rfl) | ((first | (with_reducible apply SW_run tt_ok hG htb) | ((with_reducible apply SW_draw rfl tt_ok hG htb); (focus kernel_rfl); focus simp only [List.range, List.range.loop, List.size_toArray, List.length_cons, List.length_nil, Nat.reduceAdd])); focus ((repeat' (first | (with_reducible first | exact wg | exact wh) | ((with_reducible first | apply wi | apply wj); focus (simp (discharger := omega) only [go_sem, hx, simprocAttr]; with_reducible rfl)))); done)))
                    exact ⟨row.length - (l + 1), _, by omega, Norm.headS (own := []) (keep := [1, 3, 43, 44, 45, 54, 55, 56]) (by refine ⟨?_, ?_⟩; (simp (discharger := omega) only [go_sem, simprocAttr]; with_reducible rfl); refine ⟨?_, ?_, ?_, ?_⟩ <;> (simp only [go_sem, simprocAttr]; with_reducible rfl)), l + 1, rfl, rfl, by omega, fun y hy => by
                      rw [htk] at hy
                      rcases List.mem_append.1 hy with h | h
                      · exact hB y h
                      · simp at h; subst h; exact ⟨hx0, hxm2⟩⟩
                  · rw [f2 hrl ⟨x, hxm, by omega⟩]
                    repeat' (first | (with_reducible first | apply w1 | apply w2 | apply w3 | apply w4 | apply w5 | apply w6 | apply w7 | apply w8 | apply w9 | apply wa | apply wb | apply wc) | ((with_reducible apply wd); focus decide) | ((with_reducible apply we); focus exact rfl) | ((with_reducible apply wf); focus exact rfl) | ((first | (with_reducible apply SW_run tt_ok hG htb) | ((with_reducible apply SW_draw rfl tt_ok hG htb); (focus kernel_rfl); focus simp only [List.range, List.range.loop, List.size_toArray, List.length_cons, List.length_nil, Nat.reduceAdd])); focus ((repeat' (first | (with_reducible first | exact wg | exact wh) | ((with_reducible first | apply wi | apply wj); focus (simp (discharger := omega) only [go_sem, hx, simprocAttr]; with_reducible rfl)))); done)))
                    exact (by simp (discharger := omega) only [go_sem, tErr, simprocAttr])
                · rw [f2 hrl ⟨x, hxm, by omega⟩]
                  repeat' (first | (with_reducible first | apply w1 | apply w2 | apply w3 | apply w4 | apply w5 | apply w6 | apply w7 | apply w8 | apply w9 | apply wa | apply wb | apply wc) | ((with_reducible apply wd); focus decide) | ((with_reducible apply we); focus exact rfl) | ((with_reducible apply wf); focus exact rfl) | ((first | (with_reducible apply SW_run tt_ok hG htb) | ((with_reducible apply SW_draw rfl tt_ok hG htb); (focus kernel_rfl); focus simp only [List.range, List.range.loop, List.size_toArray, List.length_cons, List.length_nil, Nat.reduceAdd])); focus ((repeat' (first | (with_reducible first | exact wg | exact wh) | ((with_reducible first | apply wi | apply wj); focus (simp (discharger := omega) only [go_sem, hx, simprocAttr]; with_reducible rfl)))); done)))
                  exact (by simp (discharger := omega) only [go_sem, tErr, simprocAttr])
              · obtain rfl : l = row.length := by omega
                rw [List.take_length] at hB
                repeat' (first | (with_reducible first | apply w1 | apply w2 | apply w3 | apply w4 | apply w5 | apply w6 | apply w7 | apply w8 | apply w9 | apply wa | apply wb | apply wc) | ((with_reducible apply wd); focus decide) | ((with_reducible apply we); focus exact rfl) | ((with_reducible apply wf); focus exact rfl) | ((first | (with_reducible apply SW_run tt_ok hG htb) | ((with_reducible apply SW_draw rfl tt_ok hG htb); (focus kernel_rfl); focus simp only [List.range, List.range.loop, List.size_toArray, List.length_cons, List.length_nil, Nat.reduceAdd])); focus ((repeat' (first | (with_reducible first | exact wg | exact wh) | ((with_reducible first | apply wi | apply wj); focus (simp (discharger := omega) only [go_sem, simprocAttr]; with_reducible rfl)))); done)))
                exact ⟨a.next.length - (i + 1), _, by omega, Norm.headS (own := []) (keep := [1, 3, 43, 44, 45]) (by refine ⟨?_, ?_⟩; (simp (discharger := omega) only [go_sem, simprocAttr]; with_reducible rfl); refine ⟨?_, ?_, ?_, ?_⟩ <;> (simp only [go_sem, simprocAttr]; with_reducible rfl)), i + 1, rfl, rfl, by omega, fun j hj h => by
                  by_cases e : j = i
                  · subst e; rw [hat]; exact ⟨hrl, hB⟩
                  · exact hA j hj (by omega)⟩
            · rw [f1 hrl]
              repeat' (first | (with_reducible first | apply w1 | apply w2 | apply w3 | apply w4 | apply w5 | apply w6 | apply w7 | apply w8 | apply w9 | apply wa | apply wb | apply wc) | ((with_reducible apply wd); focus decide) | ((with_reducible apply we); focus exact rfl) | ((with_reducible apply wf); focus exact rfl) | ((first | (with_reducible apply SW_run tt_ok hG htb) | ((with_reducible apply SW_draw rfl tt_ok hG htb); (focus kernel_rfl); focus simp only [List.range, List.range.loop, List.size_toArray, List.length_cons, List.length_nil, Nat.reduceAdd])); focus ((repeat' (first | (with_reducible first | exact wg | exact wh) | ((with_reducible first | apply wi | apply wj); focus (simp (discharger := omega) only [go_sem, hrow, simprocAttr]; with_reducible rfl)))); done)))
              exact (by simp (discharger := omega) only [go_sem, tErr, simprocAttr])
          · obtain rfl : i = a.next.length := by omega
            rw [rowsFault_zero.2 fun r hr => by obtain ⟨j, hj, rfl⟩ := List.mem_iff_getElem.1 hr; exact hA j hj hj]
            repeat' (first | (with_reducible first | apply w1 | apply w2 | apply w3 | apply w4 | apply w5 | apply w6 | apply w7 | apply w8 | apply w9 | apply wa | apply wb | apply wc) | ((with_reducible apply wd); focus decide) | ((with_reducible apply we); focus exact rfl) | ((with_reducible apply wf); focus exact rfl) | ((first | (with_reducible apply SW_run tt_ok hG htb) | ((with_reducible apply SW_draw rfl tt_ok hG htb); (focus kernel_rfl); focus simp only [List.range, List.range.loop, List.size_toArray, List.length_cons, List.length_nil, Nat.reduceAdd])); focus ((repeat' (first | (with_reducible first | exact wg | exact wh) | ((with_reducible first | apply wi | apply wj); focus (simp (discharger := omega) only [go_sem, simprocAttr]; with_reducible rfl)))); done)))
            exact (by simp (discharger := omega) only [go_sem, tErr, simprocAttr])
        · repeat' (first | (with_reducible first | apply w1 | apply w2 | apply w3 | apply w4 | apply w5 | apply w6 | apply w7 | apply w8 | apply w9 | apply wa | apply wb | apply wc) | ((with_reducible apply wd); focus decide) | ((with_reducible apply we); focus exact rfl) | ((with_reducible apply wf); focus exact rfl) | ((first | (with_reducible apply SW_run tt_ok hG htb) | ((with_reducible apply SW_draw rfl tt_ok hG htb); (focus kernel_rfl); focus simp only [List.range, List.range.loop, List.size_toArray, List.length_cons, List.length_nil, Nat.reduceAdd])); focus ((repeat' (first | (with_reducible first | exact wg | exact wh) | ((with_reducible first | apply wi | apply wj); focus (simp (discharger := omega) only [go_sem, tAuto, tErr, h3, simprocAttr]; with_reducible rfl)))); done)))
          exact (by simp (discharger := omega) only [go_sem, tErr, h3, simprocAttr])
  · generalize manyErr a.base a.tracks = e at *
    repeat' (first | (with_reducible first | apply w1 | apply w2 | apply w3 | apply w4 | apply w5 | apply w6 | apply w7 | apply w8 | apply w9 | apply wa | apply wb | apply wc) | ((with_reducible apply wd); focus decide) | ((with_reducible apply we); focus exact rfl) | ((with_reducible apply wf); focus exact rfl) | ((first | (with_reducible apply SW_run tt_ok hG htb) | ((with_reducible apply SW_draw rfl tt_ok hG htb); (focus kernel_rfl); focus simp only [List.range, List.range.loop, List.size_toArray, List.length_cons, List.length_nil, Nat.reduceAdd])); focus ((repeat' (first | (with_reducible first | exact wg | exact wh) | ((with_reducible first | apply wi | apply wj); focus (simp (discharger := omega) only [go_sem, tAuto, tErr, h0, simprocAttr]; with_reducible rfl)))); done)))
    exact (by simp (discharger := omega) only [go_sem, tErr, h0, simprocAttr])
end
end Go.Proofs.Ytcaopcpofepniaa
namespace Go.Proofs.Ytcaopcpofepniaa
open Go.RowKit

def aqCap : List SV := [.bptr 0 0, .bptr 1 0, .bptr 2 0, .bptr 3 0, .bptr 4 0, .bptr 5 0]
def aqObs (a : GAuto) (most : Int) (L : Nat) (wr : Bool) (w : List Int) (out : List (List Int)) : List Ob := [.box [.sref 6], .box [.t (tInt most)], .box [.sref 7], .box [.sref 8], .box [.t (tInt a.base), .t (tInt a.tracks), .t (tIntss a.next), .t (tBools a.ends)], .box [.fn 29 aqCap], .row 26 1 true (out.map tInts), .row 23 1 wr ((List.range (L + 1)).map fun k => tBools (canL a k)), .row 3 1 true (w.map tInt)]
/-- What the closure does. -/
def AqC (G : World → Prop) (a : GAuto) (most : Int) (L : Nat) (wr : Bool) (k : Nat) (s : Int) (w : List Int) (out : List (List Int)) : Prop :=
  SndC Try.prog G 29 (.t (tInt s) :: .t (tNat k) :: aqCap) (aqObs a most L wr w out) (.tup []) (aqObs a most L wr w (walkL a most k s w out))
theorem aq_pins {a : GAuto} {most : Int} {L : Nat} {wr : Bool} {w w' : List Int} {out out' : List (List Int)} (i : Nat) (l : List SV) (h : (aqObs a most L wr w out)[i]? = some (.box l)) : i ∈ [0, 1, 2, 3, 4, 5] ∧ ∃ l', (aqObs a most L wr w' out')[i]? = some (.box l') := by
  have := (List.getElem?_eq_some_iff.1 h).1
  have hi : i < 9 := this
  have hc : i = 0 ∨ i = 1 ∨ i = 2 ∨ i = 3 ∨ i = 4 ∨ i = 5 ∨ i = 6 ∨ i = 7 ∨ i = 8 := by omega
  rcases hc with rfl | rfl | rfl | rfl | rfl | rfl | rfl | rfl | rfl
  · exact ⟨by simp, _, rfl⟩
  · exact ⟨by simp, _, rfl⟩
  · exact ⟨by simp, _, rfl⟩
  · exact ⟨by simp, _, rfl⟩
  · exact ⟨by simp, _, rfl⟩
  · exact ⟨by simp, _, rfl⟩
  · simp [aqObs] at h
  · simp [aqObs] at h
  · simp [aqObs] at h
theorem aq_pins2 {a : GAuto} {most : Int} {L : Nat} {wr : Bool} {w : List Int} {out : List (List Int)} : ∀ i ∈ [0, 1, 2, 3, 4, 5], ∃ l, (aqObs a most L wr w out)[i]? = some (.box l) := fun i hi => by
  simp only [List.mem_cons, List.not_mem_nil, or_false] at hi
  rcases hi with rfl | rfl | rfl | rfl | rfl | rfl <;> exact ⟨_, rfl⟩
theorem aq_xren (k k2 : T) : ((SV.t k) :: (SV.t k2) :: aqCap).map (SV.ren (upto 9)) = (SV.t k) :: (SV.t k2) :: aqCap := rfl
theorem aq_pins4 {s' : St} {bs : Nat → Nat} (h0 : look s'.tmps 66 = some (.pin 0 (bs 0))) (h1 : look s'.tmps 67 = some (.pin 1 (bs 1))) (h2 : look s'.tmps 68 = some (.pin 2 (bs 2))) (h3 : look s'.tmps 69 = some (.pin 3 (bs 3))) (h4 : look s'.tmps 70 = some (.pin 4 (bs 4))) (h5 : look s'.tmps 71 = some (.pin 5 (bs 5))) : ∀ i ∈ [0, 1, 2, 3, 4, 5], look s'.tmps (66 + i) = some (.pin i (bs i)) := fun i hi => by
  simp only [List.mem_cons, List.not_mem_nil, or_false] at hi
  rcases hi with rfl | rfl | rfl | rfl | rfl | rfl
  · exact h0
  · exact h1
  · exact h2
  · exact h3
  · exact h4
  · exact h5
section
variable {G : World → Prop} (hG : Lasting G)
include hG
set_option maxHeartbeats 16000000 in
set_option maxRecDepth 100000 in
theorem aq_zero {a : GAuto} {n m : Nat} (g : Good a n m) {most : Int} (h0 : 0 ≤ most) (h200 : most ≤ 200) {L : Nat} {wr : Bool} {s : Int} {w : List Int} {out : List (List Int)} (s0 : 0 ≤ s) (sm : s < (m : Int)) (hw : w.length ≤ 400) (ho : ((out.length : Nat) : Int) ≤ most) : AqC G a most L wr 0 s w out := by
  have hm80 := g.m80
  unfold AqC
  rw [walkL]
  refine sndC_of_body tt_ok Try.func29 rfl rfl (n := 66) rfl (tm := []) (rs := []) rfl rfl rfl [0, 1, 2, 3, 4, 5] aq_pins aq_pins2 fun bs => ?_
  obtain ⟨cans, hcans⟩ : ∃ cans, ((List.range (L + 1)).map fun k => tBools (canL a k)) = cans := ⟨_, rfl⟩
  have hcat : ∀ j, j ≤ L → cans[j]! = tBools (canL a j) := fun j hj => by
    rw [← hcans, getElem!_pos _ _ (by simp; omega)]; simp
  have hclen : cans.length = L + 1 := by rw [← hcans]; simp
  obtain ⟨outs, hout⟩ : ∃ outs, out.map tInts = outs := ⟨_, rfl⟩
  have houtl : outs.length = out.length := by rw [← hout]; simp
  unfold aqObs
  rw [hcans, hout]
  show SW Try.prog G _ _ ⟨66, [(0, .t (tInt s)), (1, .t (tNat 0)), (2, .bptr 0 0), (3, .bptr 1 0), (4, .bptr 2 0), (5, .bptr 3 0), (6, .bptr 4 0), (7, .bptr 5 0), (66, .pin 0 (bs 0)), (67, .pin 1 (bs 1)), (68, .pin 2 (bs 2)), (69, .pin 3 (bs 3)), (70, .pin 4 (bs 4)), (71, .pin 5 (bs 5))], [.box [.sref 6], .box [.t (tInt most)], .box [.sref 7], .box [.sref 8], .box [.t (tInt a.base), .t (tInt a.tracks), .t (tIntss a.next), .t (tBools a.ends)], .box [.fn 29 [.bptr 0 0, .bptr 1 0, .bptr 2 0, .bptr 3 0, .bptr 4 0, .bptr 5 0]], .row 26 1 true outs, .row 23 1 wr cans, .row 3 1 true (w.map tInt)]⟩
  have htb : Tab.ok Try.prog G [] := Tab.nil
  have hcl := canL_len g
  have hc0 := hcat 0 (Nat.zero_le _)
  have hcl0 := hcl 0
  obtain ⟨u, hu⟩ : ∃ u, (canL a 0)[s.toNat]! = u := ⟨_, rfl⟩
  have hat : canAt a 0 s = u := by unfold canAt; exact bang_D hu (by omega)
  rw [hat]
  by_cases hfull : ((out.length : Nat) : Int) = most
  · rw [if_pos hfull]
    have hfull2 : ((outs.length : Nat) : Int) = most := by omega
    have hs := eq_true hfull2
    repeat' (first | (with_reducible first | apply w1 | apply w2 | apply w3 | apply w4 | apply w5 | apply w6 | apply w7 | apply w8 | apply w9 | apply wa | apply wb | apply wc) | ((with_reducible apply wd); focus decide) | ((with_reducible apply we); focus exact rfl) | ((with_reducible apply wf); focus exact rfl) | ((first | (with_reducible apply SW_run tt_ok hG htb) | ((with_reducible apply SW_draw rfl tt_ok hG htb); (focus kernel_rfl); focus simp only [List.range, List.range.loop, List.size_toArray, List.length_cons, List.length_nil, Nat.reduceAdd])); focus ((repeat' (first | (with_reducible first | exact wg | exact wh) | ((with_reducible first | apply wi | apply wj); focus (simp (discharger := omega) only [go_sem, hs, simprocAttr]; with_reducible rfl)))); done)))
    refine SPostC_r ?_ (Norm.headS (own := []) (keep := [66, 67, 68, 69, 70, 71]) (by refine ⟨?_, ?_⟩; (simp (discharger := omega) only [go_sem, simprocAttr]; with_reducible rfl); refine ⟨?_, ?_, ?_, ?_⟩ <;> (simp only [go_sem, simprocAttr]; with_reducible rfl))) ?_ ?_
    · exact (by simp (discharger := omega) only [go_sem, simprocAttr])
    · rw [hout]; rfl
    · exact aq_pins4 rfl rfl rfl rfl rfl rfl
  rw [if_neg hfull]
  have hfull2 : ¬ ((outs.length : Nat) : Int) = most := by omega
  cases u with
  | false =>
    rw [if_neg (by decide)]
    repeat' (first | (with_reducible first | apply w1 | apply w2 | apply w3 | apply w4 | apply w5 | apply w6 | apply w7 | apply w8 | apply w9 | apply wa | apply wb | apply wc) | ((with_reducible apply wd); focus decide) | ((with_reducible apply we); focus exact rfl) | ((with_reducible apply wf); focus exact rfl) | ((first | (with_reducible apply SW_run tt_ok hG htb) | ((with_reducible apply SW_draw rfl tt_ok hG htb); (focus kernel_rfl); focus simp only [List.range, List.range.loop, List.size_toArray, List.length_cons, List.length_nil, Nat.reduceAdd])); focus ((repeat' (first | (with_reducible first | exact wg | exact wh) | ((with_reducible first | apply wi | apply wj); focus (simp (discharger := omega) only [go_sem, hfull2, hc0, hu, simprocAttr]; with_reducible rfl)))); done)))
    refine SPostC_r ?_ (Norm.headS (own := []) (keep := [66, 67, 68, 69, 70, 71]) (by refine ⟨?_, ?_⟩; (simp (discharger := omega) only [go_sem, simprocAttr]; with_reducible rfl); refine ⟨?_, ?_, ?_, ?_⟩ <;> (simp only [go_sem, simprocAttr]; with_reducible rfl))) ?_ ?_
    · exact (by simp (discharger := omega) only [go_sem, simprocAttr])
    · rw [hout]; rfl
    · exact aq_pins4 rfl rfl rfl rfl rfl rfl
  | true =>
    rw [if_pos rfl]
    have hall : ∀ l : List Int, (l.all fun _ => true) = true := fun l => by simp
    repeat' (first | (with_reducible first | refine SW_seq ?_ | refine SW_block ?_ | refine SThen_n ?_ | refine SThen_r ?_ | refine SThen_e ?_ | refine SIn_n ?_ | refine SIn_r ?_ | refine SIn_eq ?_ | refine SW_skip ?_ | refine SW_exit ?_ | refine SW_ret ?_ | refine SPost_r ?_) | ((with_reducible refine SIn_ne ?_ ?_); focus decide) | ((with_reducible refine SW_true ?_ ?_); focus exact rfl) | ((with_reducible refine SW_false ?_ ?_); focus exact rfl) | ((with_reducible apply SW_run tt_ok hG htb); focus ((repeat' (first | (with_reducible exact runX_nil) | ((with_reducible apply runX_cons); focus (simp (discharger := omega) only [go_sem, hfull2, hc0, hu, simprocAttr]; with_reducible rfl)))); done)))
    (with_reducible apply SW_drawC [2] rfl tt_ok hG htb)
    · kernel_rfl
    · simp only [List.range, List.range.loop, List.size_toArray, List.length_cons, List.length_nil, Nat.reduceAdd]
      repeat' (first | (with_reducible exact runG_nil) | ((with_reducible apply runG_cons); focus (simp (discharger := omega) only [go_sem, stepC, copyOf, nilApp, Function.comp_def, hall, simprocAttr]; with_reducible rfl)))
    repeat' (first | (with_reducible first | apply w1 | apply w2 | apply w3 | apply w4 | apply w5 | apply w6 | apply w7 | apply w8 | apply w9 | apply wa | apply wb | apply wc) | ((with_reducible apply wd); focus decide) | ((with_reducible apply we); focus exact rfl) | ((with_reducible apply wf); focus exact rfl) | ((first | (with_reducible apply SW_run tt_ok hG htb) | ((with_reducible apply SW_draw rfl tt_ok hG htb); (focus kernel_rfl); focus simp only [List.range, List.range.loop, List.size_toArray, List.length_cons, List.length_nil, Nat.reduceAdd])); focus ((repeat' (first | (with_reducible first | exact wg | exact wh) | ((with_reducible first | apply wi | apply wj); focus (simp (discharger := omega) only [go_sem, simprocAttr]; with_reducible rfl)))); done)))
    refine SPostC_r ?_ (Norm.headS (own := []) (keep := [66, 67, 68, 69, 70, 71]) (by refine ⟨?_, ?_⟩; (simp (discharger := omega) only [go_sem, simprocAttr]; with_reducible rfl); refine ⟨?_, ?_, ?_, ?_⟩ <;> (simp only [go_sem, simprocAttr]; with_reducible rfl))) ?_ ?_
    · exact (by simp (discharger := omega) only [go_sem, simprocAttr])
    · rw [List.map_append, hout]; rfl
    · exact aq_pins4 rfl rfl rfl rfl rfl rfl
set_option maxHeartbeats 16000000 in
set_option maxRecDepth 100000 in
theorem aq_step {a : GAuto} {n m : Nat} (g : Good a n m) {most : Int} (h0 : 0 ≤ most) (h200 : most ≤ 200) {L : Nat} {wr : Bool} {k : Nat} (ih : ∀ (s : Int) (w : List Int) (out : List (List Int)), 0 ≤ s → s < (m : Int) → w.length + k ≤ 400 → ((out.length : Nat) : Int) ≤ most → AqC G a most L wr k s w out) {s : Int} {w : List Int} {out : List (List Int)} (s0 : 0 ≤ s) (sm : s < (m : Int)) (hk : k + 1 ≤ L) (hw : w.length + (k + 1) ≤ 400) (ho : ((out.length : Nat) : Int) ≤ most) : AqC G a most L wr (k + 1) s w out := by
  have hlen := g.rows.len
  have hm80 := g.m80
  have hn36 := g.n36
  obtain ⟨row, hrow⟩ : ∃ row, a.next[s.toNat]! = row := ⟨_, rfl⟩
  have hrl := g.rows.row row (bang_mem hrow (by omega))
  have hrok := g.rows.ok row (bang_mem hrow (by omega))
  have hro : rowOf a.next s = row := by unfold rowOf; exact bang_D hrow (by omega)
  unfold AqC
  rw [walkL_succ, hro, hrl]
  refine sndC_of_body tt_ok Try.func29 rfl rfl (n := 66) rfl (tm := []) (rs := []) rfl rfl rfl [0, 1, 2, 3, 4, 5] aq_pins aq_pins2 fun bs => ?_
  obtain ⟨cans, hcans⟩ : ∃ cans, ((List.range (L + 1)).map fun k => tBools (canL a k)) = cans := ⟨_, rfl⟩
  have hcat : ∀ j, j ≤ L → cans[j]! = tBools (canL a j) := fun j hj => by
    rw [← hcans, getElem!_pos _ _ (by simp; omega)]; simp
  have hclen : cans.length = L + 1 := by rw [← hcans]; simp
  obtain ⟨outs, hout⟩ : ∃ outs, out.map tInts = outs := ⟨_, rfl⟩
  have houtl : outs.length = out.length := by rw [← hout]; simp
  unfold aqObs
  rw [hcans, hout]
  show SW Try.prog G _ _ ⟨66, [(0, .t (tInt s)), (1, .t (tNat (k + 1))), (2, .bptr 0 0), (3, .bptr 1 0), (4, .bptr 2 0), (5, .bptr 3 0), (6, .bptr 4 0), (7, .bptr 5 0), (66, .pin 0 (bs 0)), (67, .pin 1 (bs 1)), (68, .pin 2 (bs 2)), (69, .pin 3 (bs 3)), (70, .pin 4 (bs 4)), (71, .pin 5 (bs 5))], [.box [.sref 6], .box [.t (tInt most)], .box [.sref 7], .box [.sref 8], .box [.t (tInt a.base), .t (tInt a.tracks), .t (tIntss a.next), .t (tBools a.ends)], .box [.fn 29 [.bptr 0 0, .bptr 1 0, .bptr 2 0, .bptr 3 0, .bptr 4 0, .bptr 5 0]], .row 26 1 true outs, .row 23 1 wr cans, .row 3 1 true (w.map tInt)]⟩
  have htb : Tab.ok Try.prog G [] := Tab.nil
  have hcl := canL_len g
  have hc0 := hcat (k + 1) hk
  have hcl0 := hcl (k + 1)
  obtain ⟨u, hu⟩ : ∃ u, (canL a (k + 1))[s.toNat]! = u := ⟨_, rfl⟩
  have hat : canAt a (k + 1) s = u := by unfold canAt; exact bang_D hu (by omega)
  rw [hat]
  by_cases hfull : ((out.length : Nat) : Int) = most
  · rw [if_pos hfull]
    have hfull2 : ((outs.length : Nat) : Int) = most := by omega
    have hs := eq_true hfull2
    repeat' (first | (with_reducible first | apply w1 | apply w2 | apply w3 | apply w4 | apply w5 | apply w6 | apply w7 | apply w8 | apply w9 | apply wa | apply wb | apply wc) | ((with_reducible apply wd); focus decide) | ((with_reducible apply we); focus exact rfl) | ((with_reducible apply wf); focus exact rfl) | ((first | (with_reducible apply SW_run tt_ok hG htb) | ((with_reducible apply SW_draw rfl tt_ok hG htb); (focus kernel_rfl); focus simp only [List.range, List.range.loop, List.size_toArray, List.length_cons, List.length_nil, Nat.reduceAdd])); focus ((repeat' (first | (with_reducible first | exact wg | exact wh) | ((with_reducible first | apply wi | apply wj); focus (simp (discharger := omega) only [go_sem, hs, simprocAttr]; with_reducible rfl)))); done)))
    refine SPostC_r ?_ (Norm.headS (own := []) (keep := [66, 67, 68, 69, 70, 71]) (by refine ⟨?_, ?_⟩; (simp (discharger := omega) only [go_sem, simprocAttr]; with_reducible rfl); refine ⟨?_, ?_, ?_, ?_⟩ <;> (simp only [go_sem, simprocAttr]; with_reducible rfl))) ?_ ?_
    · exact (by simp (discharger := omega) only [go_sem, simprocAttr])
    · rw [hout]; rfl
    · exact aq_pins4 rfl rfl rfl rfl rfl rfl
  rw [if_neg hfull]
  have hfull2 : ¬ ((outs.length : Nat) : Int) = most := by omega
  cases u with
  | false =>
    rw [if_neg (by decide)]
    repeat' (first | (with_reducible first | apply w1 | apply w2 | apply w3 | apply w4 | apply w5 | apply w6 | apply w7 | apply w8 | apply w9 | apply wa | apply wb | apply wc) | ((with_reducible apply wd); focus decide) | ((with_reducible apply we); focus exact rfl) | ((with_reducible apply wf); focus exact rfl) | ((first | (with_reducible apply SW_run tt_ok hG htb) | ((with_reducible apply SW_draw rfl tt_ok hG htb); (focus kernel_rfl); focus simp only [List.range, List.range.loop, List.size_toArray, List.length_cons, List.length_nil, Nat.reduceAdd])); focus ((repeat' (first | (with_reducible first | exact wg | exact wh) | ((with_reducible first | apply wi | apply wj); focus (simp (discharger := omega) only [go_sem, hfull2, hc0, hu, simprocAttr]; with_reducible rfl)))); done)))
    refine SPostC_r ?_ (Norm.headS (own := []) (keep := [66, 67, 68, 69, 70, 71]) (by refine ⟨?_, ?_⟩; (simp (discharger := omega) only [go_sem, simprocAttr]; with_reducible rfl); refine ⟨?_, ?_, ?_, ?_⟩ <;> (simp only [go_sem, simprocAttr]; with_reducible rfl))) ?_ ?_
    · exact (by simp (discharger := omega) only [go_sem, simprocAttr])
    · rw [hout]; rfl
    · exact aq_pins4 rfl rfl rfl rfl rfl rfl
  | true =>
  rw [if_pos rfl]
  repeat' (first | (with_reducible first | apply w1 | apply w2 | apply w3 | apply w4 | apply w5 | apply w6 | apply w7 | apply w8 | apply w9 | apply wa | apply wb | apply wc) | ((with_reducible apply wd); focus decide) | ((with_reducible apply we); focus exact rfl) | ((with_reducible apply wf); focus exact rfl) | ((first | (with_reducible apply SW_run tt_ok hG htb) | ((with_reducible apply SW_draw rfl tt_ok hG htb); (focus kernel_rfl); focus simp only [List.range, List.range.loop, List.size_toArray, List.length_cons, List.length_nil, Nat.reduceAdd])); focus ((repeat' (first | (with_reducible first | exact wg | exact wh) | ((with_reducible first | apply wi | apply wj); focus (simp (discharger := omega) only [go_sem, hfull2, hc0, hu, hrow, hrl, simprocAttr]; with_reducible rfl)))); done)))
  refine SW_loop (fun mm st => ∃ (i : Nat) (outi : List (List Int)) (oi : List T), mm = n - i ∧ st = ⟨66, [(66, .pin 0 (bs 0)), (67, .pin 1 (bs 1)), (68, .pin 2 (bs 2)), (69, .pin 3 (bs 3)), (70, .pin 4 (bs 4)), (71, .pin 5 (bs 5)), (0, .t (tInt s)), (1, .t (tNat (k + 1))), (2, .bptr 0 0), (3, .bptr 1 0), (4, .bptr 2 0), (5, .bptr 3 0), (6, .bptr 4 0), (7, .bptr 5 0), (37, .t (tInts row)), (38, .t (tInt n)), (39, .t (tNat i))], [.box [.sref 6], .box [.t (tInt most)], .box [.sref 7], .box [.sref 8], .box [.t (tInt a.base), .t (tInt a.tracks), .t (tIntss a.next), .t (tBools a.ends)], .box [.fn 29 [.bptr 0 0, .bptr 1 0, .bptr 2 0, .bptr 3 0, .bptr 4 0, .bptr 5 0]], .row 26 1 true oi, .row 23 1 wr cans, .row 3 1 true (w.map tInt)]⟩ ∧ i ≤ n ∧ oi = outi.map tInts ∧ ((outi.length : Nat) : Int) ≤ most ∧ (List.range i).foldl (stepL a most k s w) out = outi) n
    ⟨_, Norm.headS (own := []) (keep := [66, 67, 68, 69, 70, 71, 0, 1, 2, 3, 4, 5, 6, 7, 37, 38, 39]) (by refine ⟨?_, ?_⟩; (simp (discharger := omega) only [go_sem, simprocAttr]; with_reducible rfl); refine ⟨?_, ?_, ?_, ?_⟩ <;> (simp only [go_sem, simprocAttr]; with_reducible rfl)), 0, out, _, rfl, rfl, Nat.zero_le _, hout.symm, ho, rfl⟩ ?_
  rintro mm st ⟨i, outi, oi, rfl, rfl, hi, hoi, hoil, hfo⟩
  by_cases hlt : i < n
  · obtain ⟨t, ht⟩ : ∃ t, row[i]! = t := ⟨_, rfl⟩
    have htb2 := hrok t (bang_mem ht (by omega))
    have htd : row.getD i 0 = t := bang_D ht (by omega)
    have hnext : ∀ q, stepL a most k s w outi i = q → (List.range (i + 1)).foldl (stepL a most k s w) out = q := fun q hq => by rw [List.range_succ, List.foldl_append, hfo]; exact hq
    have hst : stepL a most k s w outi i = if i = 0 ∧ w = [] then outi else walkL a most k t (w ++ [((i : Nat) : Int)]) outi := by unfold stepL; rw [hro, htd]
    by_cases hsk : i = 0 ∧ w = []
    · obtain ⟨rfl, rfl⟩ := hsk
      have hgo := hnext _ (hst.trans (if_pos ⟨rfl, rfl⟩))
      clear hnext hfo hst
      repeat' (first | (with_reducible first | apply w1 | apply w2 | apply w3 | apply w4 | apply w5 | apply w6 | apply w7 | apply w8 | apply w9 | apply wa | apply wb | apply wc) | ((with_reducible apply wd); focus decide) | ((with_reducible apply we); focus exact rfl) | ((with_reducible apply wf); focus exact rfl) | ((first | (with_reducible apply SW_run tt_ok hG htb) | ((with_reducible apply SW_draw rfl tt_ok hG htb); (focus kernel_rfl); focus simp only [List.range, List.range.loop, List.size_toArray, List.length_cons, List.length_nil, Nat.reduceAdd])); focus ((repeat' (first | (with_reducible first | exact wg | exact wh) | ((with_reducible first | apply wi | apply wj); focus (simp (discharger := omega) only [go_sem, ht, simprocAttr]; with_reducible rfl)))); done)))
      exact ⟨n - (0 + 1), _, by omega, Norm.headS (own := []) (keep := [66, 67, 68, 69, 70, 71, 0, 1, 2, 3, 4, 5, 6, 7, 37, 38, 39]) (by refine ⟨?_, ?_⟩; (simp (discharger := omega) only [go_sem, simprocAttr]; with_reducible rfl); refine ⟨?_, ?_, ?_, ?_⟩ <;> (simp only [go_sem, simprocAttr]; with_reducible rfl)), 0 + 1, outi, _, rfl, rfl, by omega, hoi, hoil, hgo⟩
    have hgo := hnext _ (hst.trans (if_neg hsk))
    have hr := ih t (w ++ [((i : Nat) : Int)]) outi htb2.1 htb2.2 (by rw [List.length_append, List.length_singleton]; omega) hoil
    have hle := walkL_le a most k t (w ++ [((i : Nat) : Int)]) outi hoil
    unfold AqC at hr
    generalize walkL a most k t (w ++ [((i : Nat) : Int)]) outi = outj at hr hle hgo
    clear hnext hfo hst
    have hskw : ¬ (((i : Nat) : Int) = 0 ∧ ((w.length : Nat) : Int) = 0) := fun q => hsk ⟨by omega, List.eq_nil_of_length_eq_zero (by omega)⟩
    have hle2 : (w ++ [((i : Nat) : Int)]).length ≤ 400 := by rw [List.length_append, List.length_singleton]; omega
    have hmap : (w ++ [((i : Nat) : Int)]).map tInt = w.map tInt ++ [T.int IntKind.i64 ((i : Nat) : Int)] := by rw [List.map_append]; rfl
    obtain ⟨oj, hoj⟩ : ∃ oj, outj.map tInts = oj := ⟨_, rfl⟩
    obtain ⟨wi, hwi⟩ : ∃ wi, w.map tInt ++ [T.int IntKind.i64 ((i : Nat) : Int)] = wi := ⟨_, rfl⟩
    have hwl : wi.length = w.length + 1 := by rw [← hwi]; simp
    have hwt : wi.take w.length = w.map tInt := by rw [← hwi]; exact List.take_left' (by simp)
    have hk1 : (((k + 1 : Nat)) : Int) - 1 = ((k : Nat) : Int) := by omega
    have hl1 : ((wi.length : Nat) : Int) - 1 = ((w.length : Nat) : Int) := by omega
    unfold aqObs at hr
    rw [hmap, hwi, hcans, hoj, ← hoi] at hr
    clear hmap
    have hi0 : ¬ ((i : Nat) : Int) = 0 ∨ ¬ ((w.length : Nat) : Int) = 0 := by omega
    rcases hi0 with hi0 | hi0
    · repeat' (first | (with_reducible first | refine SW_seq ?_ | refine SW_block ?_ | refine SThen_n ?_ | refine SThen_r ?_ | refine SThen_e ?_ | refine SIn_n ?_ | refine SIn_r ?_ | refine SIn_eq ?_ | refine SW_skip ?_ | refine SW_exit ?_ | refine SW_ret ?_ | refine SPost_r ?_) | ((with_reducible refine SIn_ne ?_ ?_); focus decide) | ((with_reducible refine SW_true ?_ ?_); focus exact rfl) | ((with_reducible refine SW_false ?_ ?_); focus exact rfl) | ((with_reducible apply SW_run tt_ok hG htb); focus ((repeat' (first | (with_reducible exact runX_nil) | ((with_reducible apply runX_cons); focus (simp (discharger := omega) only [go_sem, ht, hi0, simprocAttr]; with_reducible rfl)))); done)))
      refine SW_norm (Norm.headS (own := []) (keep := [66, 67, 68, 69, 70, 71, 0, 1, 2, 3, 4, 5, 6, 7, 11, 37, 38, 39]) (by refine ⟨?_, ?_⟩; (simp (discharger := omega) only [go_sem, simprocAttr]; with_reducible rfl); refine ⟨?_, ?_, ?_, ?_⟩ <;> (simp only [go_sem, simprocAttr]; with_reducible rfl))) ?_
      rw [hwi]
      refine SW_runCk tt_ok hG htb 4 rfl (by simp only [List.take_succ_cons, List.take_zero]; rfl) (by simp only [List.drop_succ_cons, List.drop_zero, Nat.reduceAdd]; rfl) (by (repeat' (first | (with_reducible exact runX_nil) | ((with_reducible apply runX_cons); focus (simp (discharger := omega) only [go_sem, hk1, simprocAttr]; with_reducible rfl))))) rfl rfl (g := 29) (cap := aqCap) (obs := [.box [.sref 6], .box [.t (tInt most)], .box [.sref 7], .box [.sref 8], .box [.t (tInt a.base), .t (tInt a.tracks), .t (tIntss a.next), .t (tBools a.ends)], .box [.fn 29 [.bptr 0 0, .bptr 1 0, .bptr 2 0, .bptr 3 0, .bptr 4 0, .bptr 5 0]], .row 26 1 true oi, .row 23 1 wr cans, .row 3 1 true wi]) (obs' := [.box [.sref 6], .box [.t (tInt most)], .box [.sref 7], .box [.sref 8], .box [.t (tInt a.base), .t (tInt a.tracks), .t (tIntss a.next), .t (tBools a.ends)], .box [.fn 29 [.bptr 0 0, .bptr 1 0, .bptr 2 0, .bptr 3 0, .bptr 4 0, .bptr 5 0]], .row 26 1 true oj, .row 23 1 wr cans, .row 3 1 true wi]) (rst := ?zra) (r := ?zta) (s2 := ?zsa) (s3 := ?zua) ?q1a ?q2a ?q3a ?q4a ?q5a ?q6a ?q7a ?q8a ?q9a ?q10a
      case q5a => exact hr
      case q1a => rfl
      case q2a => rfl
      case q3a => rfl
      case q4a => rfl
      case q6a => rfl
      case q7a => exact aq_xren _ _
      case q8a =>
        simp only [List.map_cons, List.map_nil, List.append_nil, SV.ren, renL, past, aqCap, List.getElem?_cons_zero, List.getElem?_cons_succ, List.getElem?_nil]
        rfl
      case q9a => (repeat' (first | (with_reducible exact runX_nil) | ((with_reducible apply runX_cons); focus (simp (discharger := omega) only [go_sem, simprocAttr]; with_reducible rfl))))
      repeat' (first | (with_reducible first | refine SW_seq ?_ | refine SW_block ?_ | refine SThen_n ?_ | refine SThen_r ?_ | refine SThen_e ?_ | refine SIn_n ?_ | refine SIn_r ?_ | refine SIn_eq ?_ | refine SW_skip ?_ | refine SW_exit ?_ | refine SW_ret ?_ | refine SPost_r ?_) | ((with_reducible refine SIn_ne ?_ ?_); focus decide) | ((with_reducible refine SW_true ?_ ?_); focus exact rfl) | ((with_reducible refine SW_false ?_ ?_); focus exact rfl) | ((with_reducible apply SW_run tt_ok hG htb); focus ((repeat' (first | (with_reducible exact runX_nil) | ((with_reducible apply runX_cons); focus (simp (discharger := omega) only [go_sem, hl1, simprocAttr]; with_reducible rfl)))); done)))
      exact ⟨n - (i + 1), _, by omega, (Norm.headS (own := []) (keep := [66, 67, 68, 69, 70, 71, 0, 1, 2, 3, 4, 5, 6, 7, 37, 38, 39]) (by refine ⟨?_, ?_⟩; (simp (discharger := omega) only [go_sem, simprocAttr]; with_reducible rfl); refine ⟨?_, ?_, ?_, ?_⟩ <;> (simp only [go_sem, simprocAttr]; with_reducible rfl))).trans (Norm.cutB 3 0 rfl rfl rfl), i + 1, outj, oj, rfl, by simp only [hwt]; rfl, by omega, hoj.symm, hle, hgo⟩
    by_cases hi1 : ((i : Nat) : Int) = 0
    · have hi2 := eq_true hi1
      repeat' (first | (with_reducible first | refine SW_seq ?_ | refine SW_block ?_ | refine SThen_n ?_ | refine SThen_r ?_ | refine SThen_e ?_ | refine SIn_n ?_ | refine SIn_r ?_ | refine SIn_eq ?_ | refine SW_skip ?_ | refine SW_exit ?_ | refine SW_ret ?_ | refine SPost_r ?_) | ((with_reducible refine SIn_ne ?_ ?_); focus decide) | ((with_reducible refine SW_true ?_ ?_); focus exact rfl) | ((with_reducible refine SW_false ?_ ?_); focus exact rfl) | ((with_reducible apply SW_run tt_ok hG htb); focus ((repeat' (first | (with_reducible exact runX_nil) | ((with_reducible apply runX_cons); focus (simp (discharger := omega) only [go_sem, ht, hi0, hi2, simprocAttr]; with_reducible rfl)))); done)))
      refine SW_norm (Norm.headS (own := []) (keep := [66, 67, 68, 69, 70, 71, 0, 1, 2, 3, 4, 5, 6, 7, 11, 37, 38, 39]) (by refine ⟨?_, ?_⟩; (simp (discharger := omega) only [go_sem, simprocAttr]; with_reducible rfl); refine ⟨?_, ?_, ?_, ?_⟩ <;> (simp only [go_sem, simprocAttr]; with_reducible rfl))) ?_
      rw [hwi]
      refine SW_runCk tt_ok hG htb 4 rfl (by simp only [List.take_succ_cons, List.take_zero]; rfl) (by simp only [List.drop_succ_cons, List.drop_zero, Nat.reduceAdd]; rfl) (by (repeat' (first | (with_reducible exact runX_nil) | ((with_reducible apply runX_cons); focus (simp (discharger := omega) only [go_sem, hk1, simprocAttr]; with_reducible rfl))))) rfl rfl (g := 29) (cap := aqCap) (obs := [.box [.sref 6], .box [.t (tInt most)], .box [.sref 7], .box [.sref 8], .box [.t (tInt a.base), .t (tInt a.tracks), .t (tIntss a.next), .t (tBools a.ends)], .box [.fn 29 [.bptr 0 0, .bptr 1 0, .bptr 2 0, .bptr 3 0, .bptr 4 0, .bptr 5 0]], .row 26 1 true oi, .row 23 1 wr cans, .row 3 1 true wi]) (obs' := [.box [.sref 6], .box [.t (tInt most)], .box [.sref 7], .box [.sref 8], .box [.t (tInt a.base), .t (tInt a.tracks), .t (tIntss a.next), .t (tBools a.ends)], .box [.fn 29 [.bptr 0 0, .bptr 1 0, .bptr 2 0, .bptr 3 0, .bptr 4 0, .bptr 5 0]], .row 26 1 true oj, .row 23 1 wr cans, .row 3 1 true wi]) (rst := ?zrb) (r := ?ztb) (s2 := ?zsb) (s3 := ?zub) ?q1b ?q2b ?q3b ?q4b ?q5b ?q6b ?q7b ?q8b ?q9b ?q10b
      case q5b => exact hr
      case q1b => rfl
      case q2b => rfl
      case q3b => rfl
      case q4b => rfl
      case q6b => rfl
      case q7b => exact aq_xren _ _
      case q8b =>
        simp only [List.map_cons, List.map_nil, List.append_nil, SV.ren, renL, past, aqCap, List.getElem?_cons_zero, List.getElem?_cons_succ, List.getElem?_nil]
        rfl
      case q9b => (repeat' (first | (with_reducible exact runX_nil) | ((with_reducible apply runX_cons); focus (simp (discharger := omega) only [go_sem, simprocAttr]; with_reducible rfl))))
      repeat' (first | (with_reducible first | refine SW_seq ?_ | refine SW_block ?_ | refine SThen_n ?_ | refine SThen_r ?_ | refine SThen_e ?_ | refine SIn_n ?_ | refine SIn_r ?_ | refine SIn_eq ?_ | refine SW_skip ?_ | refine SW_exit ?_ | refine SW_ret ?_ | refine SPost_r ?_) | ((with_reducible refine SIn_ne ?_ ?_); focus decide) | ((with_reducible refine SW_true ?_ ?_); focus exact rfl) | ((with_reducible refine SW_false ?_ ?_); focus exact rfl) | ((with_reducible apply SW_run tt_ok hG htb); focus ((repeat' (first | (with_reducible exact runX_nil) | ((with_reducible apply runX_cons); focus (simp (discharger := omega) only [go_sem, hl1, simprocAttr]; with_reducible rfl)))); done)))
      exact ⟨n - (i + 1), _, by omega, (Norm.headS (own := []) (keep := [66, 67, 68, 69, 70, 71, 0, 1, 2, 3, 4, 5, 6, 7, 37, 38, 39]) (by refine ⟨?_, ?_⟩; (simp (discharger := omega) only [go_sem, simprocAttr]; with_reducible rfl); refine ⟨?_, ?_, ?_, ?_⟩ <;> (simp only [go_sem, simprocAttr]; with_reducible rfl))).trans (Norm.cutB 3 0 rfl rfl rfl), i + 1, outj, oj, rfl, by simp only [hwt]; rfl, by omega, hoj.symm, hle, hgo⟩
    · repeat' (first | (with_reducible first | refine SW_seq ?_ | refine SW_block ?_ | refine SThen_n ?_ | refine SThen_r ?_ | refine SThen_e ?_ | refine SIn_n ?_ | refine SIn_r ?_ | refine SIn_eq ?_ | refine SW_skip ?_ | refine SW_exit ?_ | refine SW_ret ?_ | refine SPost_r ?_) | ((with_reducible refine SIn_ne ?_ ?_); focus decide) | ((with_reducible refine SW_true ?_ ?_); focus exact rfl) | ((with_reducible refine SW_false ?_ ?_); focus exact rfl) | ((with_reducible apply SW_run tt_ok hG htb); focus ((repeat' (first | (with_reducible exact runX_nil) | ((with_reducible apply runX_cons); focus (simp (discharger := omega) only [go_sem, ht, hi0, hi1, simprocAttr]; with_reducible rfl)))); done)))
      refine SW_norm (Norm.headS (own := []) (keep := [66, 67, 68, 69, 70, 71, 0, 1, 2, 3, 4, 5, 6, 7, 11, 37, 38, 39]) (by refine ⟨?_, ?_⟩; (simp (discharger := omega) only [go_sem, simprocAttr]; with_reducible rfl); refine ⟨?_, ?_, ?_, ?_⟩ <;> (simp only [go_sem, simprocAttr]; with_reducible rfl))) ?_
      rw [hwi]
      refine SW_runCk tt_ok hG htb 4 rfl (by simp only [List.take_succ_cons, List.take_zero]; rfl) (by simp only [List.drop_succ_cons, List.drop_zero, Nat.reduceAdd]; rfl) (by (repeat' (first | (with_reducible exact runX_nil) | ((with_reducible apply runX_cons); focus (simp (discharger := omega) only [go_sem, hk1, simprocAttr]; with_reducible rfl))))) rfl rfl (g := 29) (cap := aqCap) (obs := [.box [.sref 6], .box [.t (tInt most)], .box [.sref 7], .box [.sref 8], .box [.t (tInt a.base), .t (tInt a.tracks), .t (tIntss a.next), .t (tBools a.ends)], .box [.fn 29 [.bptr 0 0, .bptr 1 0, .bptr 2 0, .bptr 3 0, .bptr 4 0, .bptr 5 0]], .row 26 1 true oi, .row 23 1 wr cans, .row 3 1 true wi]) (obs' := [.box [.sref 6], .box [.t (tInt most)], .box [.sref 7], .box [.sref 8], .box [.t (tInt a.base), .t (tInt a.tracks), .t (tIntss a.next), .t (tBools a.ends)], .box [.fn 29 [.bptr 0 0, .bptr 1 0, .bptr 2 0, .bptr 3 0, .bptr 4 0, .bptr 5 0]], .row 26 1 true oj, .row 23 1 wr cans, .row 3 1 true wi]) (rst := ?zrc) (r := ?ztc) (s2 := ?zsc) (s3 := ?zuc) ?q1c ?q2c ?q3c ?q4c ?q5c ?q6c ?q7c ?q8c ?q9c ?q10c
      case q5c => exact hr
      case q1c => rfl
      case q2c => rfl
      case q3c => rfl
      case q4c => rfl
      case q6c => rfl
      case q7c => exact aq_xren _ _
      case q8c =>
        simp only [List.map_cons, List.map_nil, List.append_nil, SV.ren, renL, past, aqCap, List.getElem?_cons_zero, List.getElem?_cons_succ, List.getElem?_nil]
        rfl
      case q9c => (repeat' (first | (with_reducible exact runX_nil) | ((with_reducible apply runX_cons); focus (simp (discharger := omega) only [go_sem, simprocAttr]; with_reducible rfl))))
      repeat' (first | (with_reducible first | refine SW_seq ?_ | refine SW_block ?_ | refine SThen_n ?_ | refine SThen_r ?_ | refine SThen_e ?_ | refine SIn_n ?_ | refine SIn_r ?_ | refine SIn_eq ?_ | refine SW_skip ?_ | refine SW_exit ?_ | refine SW_ret ?_ | refine SPost_r ?_) | ((with_reducible refine SIn_ne ?_ ?_); focus decide) | ((with_reducible refine SW_true ?_ ?_); focus exact rfl) | ((with_reducible refine SW_false ?_ ?_); focus exact rfl) | ((with_reducible apply SW_run tt_ok hG htb); focus ((repeat' (first | (with_reducible exact runX_nil) | ((with_reducible apply runX_cons); focus (simp (discharger := omega) only [go_sem, hl1, simprocAttr]; with_reducible rfl)))); done)))
      exact ⟨n - (i + 1), _, by omega, (Norm.headS (own := []) (keep := [66, 67, 68, 69, 70, 71, 0, 1, 2, 3, 4, 5, 6, 7, 37, 38, 39]) (by refine ⟨?_, ?_⟩; (simp (discharger := omega) only [go_sem, simprocAttr]; with_reducible rfl); refine ⟨?_, ?_, ?_, ?_⟩ <;> (simp only [go_sem, simprocAttr]; with_reducible rfl))).trans (Norm.cutB 3 0 rfl rfl rfl), i + 1, outj, oj, rfl, by simp only [hwt]; rfl, by omega, hoj.symm, hle, hgo⟩
  · obtain rfl : i = n := by omega
    rw [hfo]
    repeat' (first | (with_reducible first | apply w1 | apply w2 | apply w3 | apply w4 | apply w5 | apply w6 | apply w7 | apply w8 | apply w9 | apply wa | apply wb | apply wc) | ((with_reducible apply wd); focus decide) | ((with_reducible apply we); focus exact rfl) | ((with_reducible apply wf); focus exact rfl) | ((first | (with_reducible apply SW_run tt_ok hG htb) | ((with_reducible apply SW_draw rfl tt_ok hG htb); (focus kernel_rfl); focus simp only [List.range, List.range.loop, List.size_toArray, List.length_cons, List.length_nil, Nat.reduceAdd])); focus ((repeat' (first | (with_reducible first | exact wg | exact wh) | ((with_reducible first | apply wi | apply wj); focus (simp (discharger := omega) only [go_sem, simprocAttr]; with_reducible rfl)))); done)))
    refine SPostC_r ?_ (Norm.headS (own := []) (keep := [66, 67, 68, 69, 70, 71]) (by refine ⟨?_, ?_⟩; (simp (discharger := omega) only [go_sem, simprocAttr]; with_reducible rfl); refine ⟨?_, ?_, ?_, ?_⟩ <;> (simp only [go_sem, simprocAttr]; with_reducible rfl))) ?_ ?_
    · exact (by simp (discharger := omega) only [go_sem, simprocAttr])
    · rw [hoi]; rfl
    · exact aq_pins4 rfl rfl rfl rfl rfl rfl
/-- At every length that is left. -/
theorem aq_all {a : GAuto} {n m : Nat} (g : Good a n m) {most : Int} (h0 : 0 ≤ most) (h200 : most ≤ 200) {L : Nat} {wr : Bool} : ∀ (k : Nat) (s : Int) (w : List Int) (out : List (List Int)), k ≤ L → 0 ≤ s → s < (m : Int) → w.length + k ≤ 400 → ((out.length : Nat) : Int) ≤ most → AqC G a most L wr k s w out
  | 0, s, w, out, _, s0, sm, hw, ho => aq_zero hG g h0 h200 s0 sm hw ho
  | k + 1, s, w, out, hk, s0, sm, hw, ho => aq_step hG g h0 h200 (fun s w out s0 sm hw ho => aq_all g h0 h200 k s w out (by omega) s0 sm hw ho) s0 sm hk hw ho
end
end Go.Proofs.Ytcaopcpofepniaa
namespace Go.Proofs.Ytcaopcpofepniaa
open Go.RowKit

section
variable {G : World → Prop} (hG : Lasting G)
include hG
set_option maxHeartbeats 4000000 in
theorem Run_snd (a : GAuto) (w : List Int) : Snd Try.prog G 9 [tAuto a, tInts w] (.tup [tInt (runOf a w), tErr (runErr a w)]) := by
  have htb := Tab.cons (Check_snd hG a) Tab.nil
  refine snd_of_body (n := 56) (tm := [(0, .t (tAuto a)), (1, .t (tInts w))]) (rs := [.tmp 4, .tmp 5]) tt_ok Try.func9 rfl rfl rfl rfl rfl ?_
  by_cases h0 : autoFault a = 0
  · have g := good_of h0
    have hlet : letters a = ((manyOf a.base a.tracks).toNat : Nat) := g.letters
    generalize (manyOf a.base a.tracks).toNat = n at g hlet
    generalize hm : a.next.length = m at g
    have hm0 := g.m0
    have hm80 := g.m80
    have hn36 := g.n36
    have e0 : runErr a w = longFault n w := by unfold runErr; rw [if_neg (by omega), hlet]
    have htb' := htb
    rw [h0] at htb
    clear htb'
    by_cases h4 : 400 < w.length
    · have e1 : runErr a w = 3 := by rw [e0]; unfold longFault; rw [if_pos h4]
      have e2 : runOf a w = 0 := by unfold runOf; rw [e1]; rfl
      rw [e1, e2]
      repeat' (first | (with_reducible first | apply w1 | apply w2 | apply w3 | apply w4 | apply w5 | apply w6 | apply w7 | apply w8 | apply w9 | apply wa | apply wb | apply wc) | ((with_reducible apply wd); focus decide) | ((with_reducible apply we); focus exact rfl) | ((with_reducible apply wf); focus exact rfl) | ((first | (with_reducible apply SW_run tt_ok hG htb) | ((with_reducible apply SW_draw rfl tt_ok hG htb); (focus kernel_rfl); focus simp only [List.range, List.range.loop, List.size_toArray, List.length_cons, List.length_nil, Nat.reduceAdd])); focus ((repeat' (first | (with_reducible first | exact wg | exact wh) | ((with_reducible first | apply wi | apply wj); focus (simp (discharger := omega) only [go_sem, tAuto, tErr, simprocAttr]; with_reducible rfl)))); done)))
      exact (by simp (discharger := omega) only [go_sem, tErr, simprocAttr])
    · obtain ⟨r0, hr0⟩ : ∃ r, a.next[0]! = r := ⟨_, rfl⟩
      have hr0l : r0.length = n := g.rows.row _ (bang_mem hr0 (by omega))
      repeat' (first | (with_reducible first | apply w1 | apply w2 | apply w3 | apply w4 | apply w5 | apply w6 | apply w7 | apply w8 | apply w9 | apply wa | apply wb | apply wc) | ((with_reducible apply wd); focus decide) | ((with_reducible apply we); focus exact rfl) | ((with_reducible apply wf); focus exact rfl) | ((first | (with_reducible apply SW_run tt_ok hG htb) | ((with_reducible apply SW_draw rfl tt_ok hG htb); (focus kernel_rfl); focus simp only [List.range, List.range.loop, List.size_toArray, List.length_cons, List.length_nil, Nat.reduceAdd])); focus ((repeat' (first | (with_reducible first | exact wg | exact wh) | ((with_reducible first | apply wi | apply wj); focus (simp (discharger := omega) only [go_sem, tAuto, tErr, simprocAttr]; with_reducible rfl)))); done)))
      refine SW_loop (fun k s => ∃ i : Nat, k = w.length - i ∧ s = ⟨56, [(1, .t (tInts w)), (2, .bptr 0 0), (21, .t (tInts w)), (22, .t (tInt w.length)), (23, .t (tInt i))], [.box [.t (tInt a.base), .t (tInt a.tracks), .t (tIntss a.next), .t (tBools a.ends)]]⟩ ∧ i ≤ w.length ∧ ∀ j (hj : j < w.length), j < i → 0 ≤ w[j] ∧ w[j] < (n : Int)) w.length
        ⟨_, Norm.headS (own := []) (keep := [1, 2, 21, 22, 23]) (by refine ⟨?_, ?_⟩; (simp (discharger := omega) only [go_sem, simprocAttr]; with_reducible rfl); refine ⟨?_, ?_, ?_, ?_⟩ <;> (simp only [go_sem, simprocAttr]; with_reducible rfl)), 0, rfl, rfl, Nat.zero_le _, fun j hj h => by omega⟩ ?_
      rintro k s ⟨i, rfl, rfl, hi, hA⟩
      by_cases hlt : i < w.length
      · obtain ⟨x, hx⟩ : ∃ x, w[i]! = x := ⟨_, rfl⟩
        have hat := bang_at hx hlt
        by_cases hx0 : 0 ≤ x
        · by_cases hxn : x < (n : Int)
          · repeat' (first | (with_reducible first | apply w1 | apply w2 | apply w3 | apply w4 | apply w5 | apply w6 | apply w7 | apply w8 | apply w9 | apply wa | apply wb | apply wc) | ((with_reducible apply wd); focus decide) | ((with_reducible apply we); focus exact rfl) | ((with_reducible apply wf); focus exact rfl) | ((first | (with_reducible apply SW_run tt_ok hG htb) | ((with_reducible apply SW_draw rfl tt_ok hG htb); (focus kernel_rfl); focus simp only [List.range, List.range.loop, List.size_toArray, List.length_cons, List.length_nil, Nat.reduceAdd])); focus ((repeat' (first | (with_reducible first | exact wg | exact wh) | ((with_reducible first | apply wi | apply wj); focus (simp (discharger := omega) only [go_sem, hx, hr0, simprocAttr]; with_reducible rfl)))); done)))
            exact ⟨w.length - (i + 1), _, by omega, Norm.headS (own := []) (keep := [1, 2, 21, 22, 23]) (by refine ⟨?_, ?_⟩; (simp (discharger := omega) only [go_sem, simprocAttr]; with_reducible rfl); refine ⟨?_, ?_, ?_, ?_⟩ <;> (simp only [go_sem, simprocAttr]; with_reducible rfl)), i + 1, rfl, rfl, by omega, fun j hj h => by
              by_cases e : j = i
              · subst e; rw [hat]; omega
              · exact hA j hj (by omega)⟩
          · have e1 : runErr a w = 1 := by rw [e0]; exact longFault_at h4 hlt (by rw [hat]; omega)
            have e2 : runOf a w = 0 := by unfold runOf; rw [e1]; rfl
            rw [e1, e2]
            repeat' (first | (with_reducible first | apply w1 | apply w2 | apply w3 | apply w4 | apply w5 | apply w6 | apply w7 | apply w8 | apply w9 | apply wa | apply wb | apply wc) | ((with_reducible apply wd); focus decide) | ((with_reducible apply we); focus exact rfl) | ((with_reducible apply wf); focus exact rfl) | ((first | (with_reducible apply SW_run tt_ok hG htb) | ((with_reducible apply SW_draw rfl tt_ok hG htb); (focus kernel_rfl); focus simp only [List.range, List.range.loop, List.size_toArray, List.length_cons, List.length_nil, Nat.reduceAdd])); focus ((repeat' (first | (with_reducible first | exact wg | exact wh) | ((with_reducible first | apply wi | apply wj); focus (simp (discharger := omega) only [go_sem, hx, hr0, simprocAttr]; with_reducible rfl)))); done)))
            exact (by simp (discharger := omega) only [go_sem, tErr, simprocAttr])
        · have e1 : runErr a w = 1 := by rw [e0]; exact longFault_at h4 hlt (by rw [hat]; omega)
          have e2 : runOf a w = 0 := by unfold runOf; rw [e1]; rfl
          rw [e1, e2]
          repeat' (first | (with_reducible first | apply w1 | apply w2 | apply w3 | apply w4 | apply w5 | apply w6 | apply w7 | apply w8 | apply w9 | apply wa | apply wb | apply wc) | ((with_reducible apply wd); focus decide) | ((with_reducible apply we); focus exact rfl) | ((with_reducible apply wf); focus exact rfl) | ((first | (with_reducible apply SW_run tt_ok hG htb) | ((with_reducible apply SW_draw rfl tt_ok hG htb); (focus kernel_rfl); focus simp only [List.range, List.range.loop, List.size_toArray, List.length_cons, List.length_nil, Nat.reduceAdd])); focus ((repeat' (first | (with_reducible first | exact wg | exact wh) | ((with_reducible first | apply wi | apply wj); focus (simp (discharger := omega) only [go_sem, hx, hr0, simprocAttr]; with_reducible rfl)))); done)))
          exact (by simp (discharger := omega) only [go_sem, tErr, simprocAttr])
      · obtain rfl : i = w.length := by omega
        have e1 : runErr a w = 0 := by rw [e0]; exact longFault_ok h4 fun j hj => hA j hj hj
        have e2 : runOf a w = runFrom a.next 0 w := by unfold runOf; rw [e1]; rfl
        rw [e1, e2]
        repeat' (first | (with_reducible first | apply w1 | apply w2 | apply w3 | apply w4 | apply w5 | apply w6 | apply w7 | apply w8 | apply w9 | apply wa | apply wb | apply wc) | ((with_reducible apply wd); focus decide) | ((with_reducible apply we); focus exact rfl) | ((with_reducible apply wf); focus exact rfl) | ((first | (with_reducible apply SW_run tt_ok hG htb) | ((with_reducible apply SW_draw rfl tt_ok hG htb); (focus kernel_rfl); focus simp only [List.range, List.range.loop, List.size_toArray, List.length_cons, List.length_nil, Nat.reduceAdd])); focus ((repeat' (first | (with_reducible first | exact wg | exact wh) | ((with_reducible first | apply wi | apply wj); focus (simp (discharger := omega) only [go_sem, simprocAttr]; with_reducible rfl)))); done)))
        refine SW_loop (fun k s => ∃ (i : Nat) (q : Int), k = w.length - i ∧ s = ⟨56, [(2, .bptr 0 0), (9, .t (tInt q)), (40, .t (tInts w)), (41, .t (tInt w.length)), (42, .t (tInt i))], [.box [.t (tInt a.base), .t (tInt a.tracks), .t (tIntss a.next), .t (tBools a.ends)]]⟩ ∧ i ≤ w.length ∧ q = runFrom a.next 0 (w.take i)) w.length
          ⟨_, Norm.headS (own := []) (keep := [2, 9, 40, 41, 42]) (by refine ⟨?_, ?_⟩; (simp (discharger := omega) only [go_sem, simprocAttr]; with_reducible rfl); refine ⟨?_, ?_, ?_, ?_⟩ <;> (simp only [go_sem, simprocAttr]; with_reducible rfl)), 0, 0, rfl, rfl, Nat.zero_le _, rfl⟩ ?_
        rintro k s ⟨i, q, rfl, rfl, hi, hq⟩
        have hAm : ∀ x ∈ w, 0 ≤ x ∧ x < (n : Int) := fun x hx => by obtain ⟨j, hj, rfl⟩ := List.mem_iff_getElem.1 hx; exact hA j hj hj
        have hqm : 0 ≤ q ∧ q < (m : Int) := by rw [hq]; exact runFrom_ok g.rows _ 0 (by omega) fun x hx => hAm x (List.mem_of_mem_take hx)
        by_cases hlt : i < w.length
        · obtain ⟨x, hx⟩ : ∃ x, w[i]! = x := ⟨_, rfl⟩
          have hxn := hAm x (bang_mem hx hlt)
          obtain ⟨row, hrow⟩ : ∃ row, a.next[q.toNat]! = row := ⟨_, rfl⟩
          have hrl : row.length = n := g.rows.row _ (bang_mem hrow (by omega))
          obtain ⟨u, hu⟩ : ∃ u, row[x.toNat]! = u := ⟨_, rfl⟩
          have hstep := runFrom_take a.next hx hlt 0
          rw [← hq, nextOf_bang hrow (by omega) hu (by omega)] at hstep
          repeat' (first | (with_reducible first | apply w1 | apply w2 | apply w3 | apply w4 | apply w5 | apply w6 | apply w7 | apply w8 | apply w9 | apply wa | apply wb | apply wc) | ((with_reducible apply wd); focus decide) | ((with_reducible apply we); focus exact rfl) | ((with_reducible apply wf); focus exact rfl) | ((first | (with_reducible apply SW_run tt_ok hG htb) | ((with_reducible apply SW_draw rfl tt_ok hG htb); (focus kernel_rfl); focus simp only [List.range, List.range.loop, List.size_toArray, List.length_cons, List.length_nil, Nat.reduceAdd])); focus ((repeat' (first | (with_reducible first | exact wg | exact wh) | ((with_reducible first | apply wi | apply wj); focus (simp (discharger := omega) only [go_sem, hx, hrow, hu, simprocAttr]; with_reducible rfl)))); done)))
          exact ⟨w.length - (i + 1), _, by omega, Norm.headS (own := []) (keep := [2, 9, 40, 41, 42]) (by refine ⟨?_, ?_⟩; (simp (discharger := omega) only [go_sem, simprocAttr]; with_reducible rfl); refine ⟨?_, ?_, ?_, ?_⟩ <;> (simp only [go_sem, simprocAttr]; with_reducible rfl)), i + 1, u, rfl, rfl, by omega, hstep.symm⟩
        · obtain rfl : i = w.length := by omega
          rw [List.take_length] at hq
          rw [← hq]
          repeat' (first | (with_reducible first | apply w1 | apply w2 | apply w3 | apply w4 | apply w5 | apply w6 | apply w7 | apply w8 | apply w9 | apply wa | apply wb | apply wc) | ((with_reducible apply wd); focus decide) | ((with_reducible apply we); focus exact rfl) | ((with_reducible apply wf); focus exact rfl) | ((first | (with_reducible apply SW_run tt_ok hG htb) | ((with_reducible apply SW_draw rfl tt_ok hG htb); (focus kernel_rfl); focus simp only [List.range, List.range.loop, List.size_toArray, List.length_cons, List.length_nil, Nat.reduceAdd])); focus ((repeat' (first | (with_reducible first | exact wg | exact wh) | ((with_reducible first | apply wi | apply wj); focus (simp (discharger := omega) only [go_sem, simprocAttr]; with_reducible rfl)))); done)))
          exact (by simp (discharger := omega) only [go_sem, tErr, simprocAttr])
  · have e1 : runErr a w = autoFault a := by unfold runErr; rw [if_pos h0]
    have e2 : runOf a w = 0 := by unfold runOf; rw [e1, if_neg h0]
    rw [e1, e2]
    generalize autoFault a = e at *
    repeat' (first | (with_reducible first | apply w1 | apply w2 | apply w3 | apply w4 | apply w5 | apply w6 | apply w7 | apply w8 | apply w9 | apply wa | apply wb | apply wc) | ((with_reducible apply wd); focus decide) | ((with_reducible apply we); focus exact rfl) | ((with_reducible apply wf); focus exact rfl) | ((first | (with_reducible apply SW_run tt_ok hG htb) | ((with_reducible apply SW_draw rfl tt_ok hG htb); (focus kernel_rfl); focus simp only [List.range, List.range.loop, List.size_toArray, List.length_cons, List.length_nil, Nat.reduceAdd])); focus ((repeat' (first | (with_reducible first | exact wg | exact wh) | ((with_reducible first | apply wi | apply wj); focus (simp (discharger := omega) only [go_sem, tAuto, tErr, h0, simprocAttr]; with_reducible rfl)))); done)))
    exact (by simp (discharger := omega) only [go_sem, tErr, h0, simprocAttr])
theorem Takes_snd (a : GAuto) (w : List Int) : Snd Try.prog G 7 [tAuto a, tInts w] (.tup [.bool (takesOf a w), tErr (runErr a w)]) := by
  have htb := Tab.cons (Run_snd hG a w) Tab.nil
  refine snd_of_body (n := 24) (tm := [(0, .t (tAuto a)), (1, .t (tInts w))]) (rs := [.tmp 4, .tmp 5]) tt_ok Try.func7 rfl rfl rfl rfl rfl ?_
  by_cases h0 : runErr a w = 0
  · obtain ⟨h1, h2, h3⟩ := runErr_zero h0
    have g := good_of h1
    have hq := runFrom_ok g.rows w 0 (by have := g.m0; omega) (by rw [← g.letters]; exact h3)
    have e2 : runOf a w = runFrom a.next 0 w := by unfold runOf; rw [h0]; rfl
    have he := g.ends
    have e3 : takesOf a w = a.ends[(runFrom a.next 0 w).toNat]! := by
      unfold takesOf endOf; rw [h0, getD_lt (by omega), getElem!_pos a.ends _ (by omega)]; rfl
    rw [e3, h0]
    rw [h0, e2] at htb
    generalize runFrom a.next 0 w = q at *
    repeat' (first | (with_reducible first | apply w1 | apply w2 | apply w3 | apply w4 | apply w5 | apply w6 | apply w7 | apply w8 | apply w9 | apply wa | apply wb | apply wc) | ((with_reducible apply wd); focus decide) | ((with_reducible apply we); focus exact rfl) | ((with_reducible apply wf); focus exact rfl) | ((first | (with_reducible apply SW_run tt_ok hG htb) | ((with_reducible apply SW_draw rfl tt_ok hG htb); (focus kernel_rfl); focus simp only [List.range, List.range.loop, List.size_toArray, List.length_cons, List.length_nil, Nat.reduceAdd])); focus ((repeat' (first | (with_reducible first | exact wg | exact wh) | ((with_reducible first | apply wi | apply wj); focus (simp (discharger := omega) only [go_sem, tAuto, tErr, simprocAttr]; with_reducible rfl)))); done)))
    exact (by simp (discharger := omega) only [go_sem, tErr, simprocAttr])
  · have e2 : takesOf a w = false := by unfold takesOf; simp [h0]
    rw [e2]
    generalize runErr a w = e at *
    repeat' (first | (with_reducible first | apply w1 | apply w2 | apply w3 | apply w4 | apply w5 | apply w6 | apply w7 | apply w8 | apply w9 | apply wa | apply wb | apply wc) | ((with_reducible apply wd); focus decide) | ((with_reducible apply we); focus exact rfl) | ((with_reducible apply wf); focus exact rfl) | ((first | (with_reducible apply SW_run tt_ok hG htb) | ((with_reducible apply SW_draw rfl tt_ok hG htb); (focus kernel_rfl); focus simp only [List.range, List.range.loop, List.size_toArray, List.length_cons, List.length_nil, Nat.reduceAdd])); focus ((repeat' (first | (with_reducible first | exact wg | exact wh) | ((with_reducible first | apply wi | apply wj); focus (simp (discharger := omega) only [go_sem, tAuto, tErr, h0, simprocAttr]; with_reducible rfl)))); done)))
    exact (by simp (discharger := omega) only [go_sem, tErr, h0, simprocAttr])
end
end Go.Proofs.Ytcaopcpofepniaa
namespace Go.Proofs.Ytcaopcpofepniaa
open Go.RowKit

def listErr (a : GAuto) (most : Int) : Int := if autoFault a ≠ 0 then autoFault a else if most < 0 ∨ 200 < most then 1 else 0
noncomputable def listR (a : GAuto) (most : Int) : List (List Int) := if listErr a most = 0 then listOf a most else []
/-- A row of the states from which there is a word one letter longer, up to a letter of a state. -/
def anyT (C : List Bool) (r : List Int) : Bool := r.any fun t => C.getD t.toNat false
def rowB (next : List (List Int)) (C : List Bool) (m s l : Nat) : List Bool := (List.range m).map fun x => if x < s then anyT C (rowOf next ((x : Nat) : Int)) else if x = s then anyT C ((rowOf next ((x : Nat) : Int)).take l) else false
theorem rowB_zero (next : List (List Int)) (C : List Bool) (m : Nat) : rowB next C m 0 0 = List.replicate m false := by
  unfold rowB
  rw [List.eq_replicate_iff]
  refine ⟨by simp, fun b hb => ?_⟩
  obtain ⟨x, _, rfl⟩ := List.mem_map.1 hb
  rw [if_neg (by omega)]
  split
  · simp [anyT]
  · rfl
theorem rowB_len {next : List (List Int)} {C : List Bool} {m s l : Nat} : (rowB next C m s l).length = m := by simp [rowB]
theorem rowB_at {next : List (List Int)} {C : List Bool} {m s l : Nat} (hs : s < m) : (rowB next C m s l)[s]! = anyT C ((rowOf next ((s : Nat) : Int)).take l) := by
  rw [getElem!_pos _ _ (by rw [rowB_len]; exact hs)]
  simp [rowB]
theorem rowB_set {next : List (List Int)} {C : List Bool} {m s l : Nat} {t : Int} (hs : s < m) (ht : (rowOf next ((s : Nat) : Int))[l]? = some t) {v : Bool} (hv : v = ((rowB next C m s l)[s]! || C.getD t.toNat false)) : (rowB next C m s l).set s v = rowB next C m s (l + 1) := by
  rw [rowB_at hs] at hv
  apply List.ext_getElem?
  intro i
  rw [List.getElem?_set]
  by_cases hi : s = i
  · subst hi
    rw [if_pos rfl, if_pos (by rw [rowB_len]; exact hs)]
    simp only [rowB, List.getElem?_map, List.getElem?_range hs, Option.map_some]
    rw [if_neg (by omega), hv, List.take_add_one, ht]
    simp [anyT, List.any_append]
  · rw [if_neg hi]
    simp only [rowB, List.getElem?_map]
    by_cases hm : i < m
    · simp only [List.getElem?_range hm, Option.map_some]
      by_cases h2 : i < s
      · rw [if_pos h2, if_pos h2]
      · rw [if_neg h2, if_neg h2, if_neg (by omega), if_neg (by omega)]
    · rw [List.getElem?_eq_none (by simpa using hm)]; rfl
theorem rowB_next {next : List (List Int)} {C : List Bool} {m s n : Nat} (h : (rowOf next ((s : Nat) : Int)).length = n) : rowB next C m s n = rowB next C m (s + 1) 0 := by
  unfold rowB
  refine List.map_congr_left fun x hx => ?_
  by_cases h1 : x < s
  · rw [if_pos h1, if_pos (by omega)]
  · rw [if_neg h1]
    by_cases h2 : x = s
    · subst h2
      rw [if_pos rfl, if_pos (by omega), List.take_of_length_le (by omega)]
    · rw [if_neg h2, if_neg (by omega)]
      split
      · simp [anyT]
      · rfl
theorem rowB_all (a : GAuto) (k : Nat) : rowB a.next (canL a k) a.next.length a.next.length 0 = canL a (k + 1) := by
  unfold rowB
  show _ = (List.range a.next.length).map _
  refine List.map_congr_left fun x hx => ?_
  rw [if_pos (List.mem_range.1 hx)]; rfl
section
variable {G : World → Prop} (hG : Lasting G)
include hG
set_option maxHeartbeats 16000000 in
set_option maxRecDepth 100000 in
theorem List_snd (a : GAuto) (most : Int) : Snd Try.prog G 17 [tAuto a, tInt most] (.tup [tIntss (listR a most), tErr (listErr a most)]) := by
  have c1 := Check_snd hG a
  refine snd_of_body (n := 91) (tm := [(0, .t (tAuto a)), (1, .t (tInt most))]) (rs := [.tmp 4, .tmp 5]) tt_ok Try.func17 rfl rfl rfl rfl rfl ?_
  by_cases h : autoFault a = 0
  rotate_left
  · have he : listErr a most = autoFault a := if_pos h
    have hr0 : listR a most = [] := by unfold listR; rw [he, if_neg h]
    rw [hr0, he]
    generalize autoFault a = e at *
    have htb := Tab.cons c1 Tab.nil
    repeat' (first | (with_reducible first | apply w1 | apply w2 | apply w3 | apply w4 | apply w5 | apply w6 | apply w7 | apply w8 | apply w9 | apply wa | apply wb | apply wc) | ((with_reducible apply wd); focus decide) | ((with_reducible apply we); focus exact rfl) | ((with_reducible apply wf); focus exact rfl) | ((first | (with_reducible apply SW_run tt_ok hG htb) | ((with_reducible apply SW_draw rfl tt_ok hG htb); (focus kernel_rfl); focus simp only [List.range, List.range.loop, List.size_toArray, List.length_cons, List.length_nil, Nat.reduceAdd])); focus ((repeat' (first | (with_reducible first | exact wg | exact wh) | ((with_reducible first | apply wi | apply wj); focus (simp (discharger := omega) only [go_sem, tAuto, tErr, h, simprocAttr]; with_reducible rfl)))); done)))
    exact (by simp (discharger := omega) only [go_sem, tErr, h, tIntss, simprocAttr])
  rw [h] at c1
  by_cases hmost : most < 0 ∨ 200 < most
  · have he : listErr a most = 1 := by unfold listErr; rw [if_neg (fun q => q h), if_pos hmost]
    have hr0 : listR a most = [] := by unfold listR; rw [he, if_neg (by decide)]
    rw [hr0, he]
    have htb := Tab.cons c1 Tab.nil
    by_cases hneg : most < 0
    · repeat' (first | (with_reducible first | apply w1 | apply w2 | apply w3 | apply w4 | apply w5 | apply w6 | apply w7 | apply w8 | apply w9 | apply wa | apply wb | apply wc) | ((with_reducible apply wd); focus decide) | ((with_reducible apply we); focus exact rfl) | ((with_reducible apply wf); focus exact rfl) | ((first | (with_reducible apply SW_run tt_ok hG htb) | ((with_reducible apply SW_draw rfl tt_ok hG htb); (focus kernel_rfl); focus simp only [List.range, List.range.loop, List.size_toArray, List.length_cons, List.length_nil, Nat.reduceAdd])); focus ((repeat' (first | (with_reducible first | exact wg | exact wh) | ((with_reducible first | apply wi | apply wj); focus (simp (discharger := omega) only [go_sem, tAuto, tErr0, hneg, simprocAttr]; with_reducible rfl)))); done)))
      exact (by simp (discharger := omega) only [go_sem, tErr, tIntss, simprocAttr])
    · have hgt : most > 200 := by omega
      repeat' (first | (with_reducible first | apply w1 | apply w2 | apply w3 | apply w4 | apply w5 | apply w6 | apply w7 | apply w8 | apply w9 | apply wa | apply wb | apply wc) | ((with_reducible apply wd); focus decide) | ((with_reducible apply we); focus exact rfl) | ((with_reducible apply wf); focus exact rfl) | ((first | (with_reducible apply SW_run tt_ok hG htb) | ((with_reducible apply SW_draw rfl tt_ok hG htb); (focus kernel_rfl); focus simp only [List.range, List.range.loop, List.size_toArray, List.length_cons, List.length_nil, Nat.reduceAdd])); focus ((repeat' (first | (with_reducible first | exact wg | exact wh) | ((with_reducible first | apply wi | apply wj); focus (simp (discharger := omega) only [go_sem, tAuto, tErr0, hneg, hgt, simprocAttr]; with_reducible rfl)))); done)))
      exact (by simp (discharger := omega) only [go_sem, tErr, tIntss, simprocAttr])
  have he : listErr a most = 0 := by unfold listErr; rw [if_neg (fun q => q h), if_neg hmost]
  have hr0 : listR a most = listOf a most := by unfold listR; rw [he, if_pos rfl]
  rw [hr0, he]
  have h0 : 0 ≤ most := by omega
  have h200 : most ≤ 200 := by omega
  have g := good_of h
  generalize (manyOf a.base a.tracks).toNat = n at *
  obtain ⟨m, hm⟩ : ∃ m, a.next.length = m := ⟨_, rfl⟩
  rw [hm] at g
  have hm80 := g.m80
  have hm0 := g.m0
  have hn36 := g.n36
  have hcl := canL_len g
  have htb := Tab.cons c1 Tab.nil
  have h01 : ¬ most < 0 := by omega
  have h201 : ¬ most > 200 := by omega
  repeat' (first | (with_reducible first | apply w1 | apply w2 | apply w3 | apply w4 | apply w5 | apply w6 | apply w7 | apply w8 | apply w9 | apply wa | apply wb | apply wc) | ((with_reducible apply wd); focus decide) | ((with_reducible apply we); focus exact rfl) | ((with_reducible apply wf); focus exact rfl) | ((first | (with_reducible apply SW_run tt_ok hG htb) | ((with_reducible apply SW_draw rfl tt_ok hG htb); (focus kernel_rfl); focus simp only [List.range, List.range.loop, List.size_toArray, List.length_cons, List.length_nil, Nat.reduceAdd])); focus ((repeat' (first | (with_reducible first | exact wg | exact wh) | ((with_reducible first | apply wi | apply wj); focus (simp (discharger := omega) only [go_sem, tAuto, tErr0, h01, h201, simprocAttr]; with_reducible rfl)))); done)))
  clear htb
  have htb : Tab.ok Try.prog G [] := Tab.nil
  refine SW_loop (fun mm st => ∃ (L : Nat) (outs cans : List T) (wr : Bool), mm = 401 - L ∧ st = ⟨91, [(8, .bptr 0 0), (3, .bptr 1 0), (7, .bptr 2 0), (9, .bptr 3 0), (2, .bptr 4 0), (10, .bptr 5 0), (11, .t (tNat L))], [.box [.sref 6], .box [.t (tInt most)], .box [.sref 7], .box [.sref 8], .box [.t (tInt a.base), .t (tInt a.tracks), .t (tIntss a.next), .t (tBools a.ends)], .box [.fn 29 [.bptr 0 0, .bptr 1 0, .bptr 2 0, .bptr 3 0, .bptr 4 0, .bptr 5 0]], .row 26 1 true outs, .row 23 1 wr cans, .row 3 1 true []]⟩ ∧ L ≤ 401 ∧ outs = (outL a most L).map tInts ∧ cans = (List.range (L - 1 + 1)).map fun k => tBools (canL a k)) 401
    ⟨_, (Norm.headS (own := []) (keep := [8, 3, 7, 9, 2, 10, 11]) (by refine ⟨?_, ?_⟩; (simp (discharger := omega) only [go_sem, simprocAttr]; with_reducible rfl); refine ⟨?_, ?_, ?_, ?_⟩ <;> (simp only [go_sem, simprocAttr]; with_reducible rfl))).trans ((Norm.ownB (j := 0) (off := 0) (e := 26) (sz := 1) rfl rfl (by decide)).trans ((Norm.litB (e := 23) (sz := 1) 2 0 rfl rfl (by decide) (by simp [tBools, T.cells])).trans (Norm.ownB (j := 3) (off := 0) (e := 3) (sz := 1) rfl rfl (by decide)))), 0, [], [tBools a.ends], false, rfl, rfl, by omega, rfl, rfl⟩ ?_
  rintro mm st ⟨L, outs, cans, wr, rfl, rfl, hL, hout, hcans⟩
  have hle := outL_le a h0 L
  have houtl : outs.length = (outL a most L).length := by rw [hout]; simp
  have hcl2 : cans.length = L - 1 + 1 := by rw [hcans]; simp
  have hcat : ∀ j, j ≤ L - 1 → cans[j]! = tBools (canL a j) := fun j hj => by
    rw [hcans, getElem!_pos _ _ (by simp; omega)]; simp
  by_cases hlt : L < 401 ∧ ((outs.length : Nat) : Int) < most
  rotate_left
  · have hres : listOf a most = outL a most L := by
      unfold listOf
      by_cases h401 : L = 401
      · rw [h401]
      · have := outL_full (a := a) (most := most) (k := L) (by omega) (401 - L)
        rw [← this, show L + (401 - L) = 401 by omega]
    rw [hres]
    by_cases h401 : L = 401
    · subst h401
      repeat' (first | (with_reducible first | apply w1 | apply w2 | apply w3 | apply w4 | apply w5 | apply w6 | apply w7 | apply w8 | apply w9 | apply wa | apply wb | apply wc) | ((with_reducible apply wd); focus decide) | ((with_reducible apply we); focus exact rfl) | ((with_reducible apply wf); focus exact rfl) | ((first | (with_reducible apply SW_run tt_ok hG htb) | ((with_reducible apply SW_draw rfl tt_ok hG htb); (focus kernel_rfl); focus simp only [List.range, List.range.loop, List.size_toArray, List.length_cons, List.length_nil, Nat.reduceAdd])); focus ((repeat' (first | (with_reducible first | exact wg | exact wh) | ((with_reducible first | apply wi | apply wj); focus (simp (discharger := omega) only [go_sem, simprocAttr]; with_reducible rfl)))); done)))
      exact (by simp (discharger := omega) only [go_sem, tErr0, hout, simprocAttr])
    · have hf2 : ¬ ((outs.length : Nat) : Int) < most := by omega
      repeat' (first | (with_reducible first | apply w1 | apply w2 | apply w3 | apply w4 | apply w5 | apply w6 | apply w7 | apply w8 | apply w9 | apply wa | apply wb | apply wc) | ((with_reducible apply wd); focus decide) | ((with_reducible apply we); focus exact rfl) | ((with_reducible apply wf); focus exact rfl) | ((first | (with_reducible apply SW_run tt_ok hG htb) | ((with_reducible apply SW_draw rfl tt_ok hG htb); (focus kernel_rfl); focus simp only [List.range, List.range.loop, List.size_toArray, List.length_cons, List.length_nil, Nat.reduceAdd])); focus ((repeat' (first | (with_reducible first | exact wg | exact wh) | ((with_reducible first | apply wi | apply wj); focus (simp (discharger := omega) only [go_sem, hf2, simprocAttr]; with_reducible rfl)))); done)))
      exact (by simp (discharger := omega) only [go_sem, tErr0, hout, simprocAttr])
  obtain ⟨hlt1, hlt2⟩ := hlt
  by_cases hL0 : L = 0
  · subst hL0
    obtain ⟨wr2, rfl⟩ : ∃ wr2, wr2 = wr := ⟨_, rfl⟩
    have hr := aq_all hG g h0 h200 (L := 0) (wr := wr2) 0 0 [] (outL a most 0) (Nat.le_refl _) (by omega) (by omega) (by simp only [List.length_nil]; omega) hle
    unfold AqC aqObs at hr
    obtain ⟨outj, hoj⟩ : ∃ outj, (outL a most (0 + 1)).map tInts = outj := ⟨_, rfl⟩
    rw [show walkL a most 0 0 [] (outL a most 0) = outL a most (0 + 1) from rfl, hoj, ← hout, ← show cans = _ from hcans] at hr
    have hz : ¬ ((0 : Nat) : Int) > 0 := by decide
    repeat' (first | (with_reducible first | refine SW_seq ?_ | refine SW_block ?_ | refine SThen_n ?_ | refine SThen_r ?_ | refine SThen_e ?_ | refine SIn_n ?_ | refine SIn_r ?_ | refine SIn_eq ?_ | refine SW_skip ?_ | refine SW_exit ?_ | refine SW_ret ?_ | refine SPost_r ?_) | ((with_reducible refine SIn_ne ?_ ?_); focus decide) | ((with_reducible refine SW_true ?_ ?_); focus exact rfl) | ((with_reducible refine SW_false ?_ ?_); focus exact rfl) | ((with_reducible apply SW_run tt_ok hG htb); focus ((repeat' (first | (with_reducible exact runX_nil) | ((with_reducible apply runX_cons); focus (simp (discharger := omega) only [go_sem, hlt2, simprocAttr]; with_reducible rfl)))); done)))
    refine SW_norm (Norm.headS (own := []) (keep := [8, 3, 7, 9, 2, 10, 11]) (by refine ⟨?_, ?_⟩; (simp (discharger := omega) only [go_sem, simprocAttr]; with_reducible rfl); refine ⟨?_, ?_, ?_, ?_⟩ <;> (simp only [go_sem, simprocAttr]; with_reducible rfl))) ?_
    refine SW_runCk tt_ok hG htb 2 rfl (by simp only [List.take_succ_cons, List.take_zero]; rfl) (by simp only [List.drop_succ_cons, List.drop_zero, Nat.reduceAdd]; rfl) (by (repeat' (first | (with_reducible exact runX_nil) | ((with_reducible apply runX_cons); focus (simp (discharger := omega) only [go_sem, simprocAttr]; with_reducible rfl))))) rfl rfl (g := 29) (cap := aqCap) (obs := [.box [.sref 6], .box [.t (tInt most)], .box [.sref 7], .box [.sref 8], .box [.t (tInt a.base), .t (tInt a.tracks), .t (tIntss a.next), .t (tBools a.ends)], .box [.fn 29 [.bptr 0 0, .bptr 1 0, .bptr 2 0, .bptr 3 0, .bptr 4 0, .bptr 5 0]], .row 26 1 true outs, .row 23 1 wr2 cans, .row 3 1 true []]) (obs' := [.box [.sref 6], .box [.t (tInt most)], .box [.sref 7], .box [.sref 8], .box [.t (tInt a.base), .t (tInt a.tracks), .t (tIntss a.next), .t (tBools a.ends)], .box [.fn 29 [.bptr 0 0, .bptr 1 0, .bptr 2 0, .bptr 3 0, .bptr 4 0, .bptr 5 0]], .row 26 1 true outj, .row 23 1 wr2 cans, .row 3 1 true []]) (rst := ?zra) (r := ?zta) (s2 := ?zsa) (s3 := ?zua) ?q1a ?q2a ?q3a ?q4a ?q5a ?q6a ?q7a ?q8a ?q9a ?q10a
    case q5a => exact hr
    case q1a => rfl
    case q2a => rfl
    case q3a => rfl
    case q4a => rfl
    case q6a => rfl
    case q7a => exact aq_xren _ _
    case q8a =>
      simp only [List.map_cons, List.map_nil, List.append_nil, SV.ren, renL, past, aqCap, List.getElem?_cons_zero, List.getElem?_cons_succ, List.getElem?_nil]
      rfl
    case q9a => (repeat' (first | (with_reducible exact runX_nil) | ((with_reducible apply runX_cons); focus (simp (discharger := omega) only [go_sem, simprocAttr]; with_reducible rfl))))
    repeat' (first | (with_reducible first | refine SW_seq ?_ | refine SW_block ?_ | refine SThen_n ?_ | refine SThen_r ?_ | refine SThen_e ?_ | refine SIn_n ?_ | refine SIn_r ?_ | refine SIn_eq ?_ | refine SW_skip ?_ | refine SW_exit ?_ | refine SW_ret ?_ | refine SPost_r ?_) | ((with_reducible refine SIn_ne ?_ ?_); focus decide) | ((with_reducible refine SW_true ?_ ?_); focus exact rfl) | ((with_reducible refine SW_false ?_ ?_); focus exact rfl) | ((with_reducible apply SW_run tt_ok hG htb); focus ((repeat' (first | (with_reducible exact runX_nil) | ((with_reducible apply runX_cons); focus (simp (discharger := omega) only [go_sem, simprocAttr]; with_reducible rfl)))); done)))
    exact ⟨401 - (0 + 1), _, by omega, Norm.headS (own := []) (keep := [8, 3, 7, 9, 2, 10, 11]) (by refine ⟨?_, ?_⟩; (simp (discharger := omega) only [go_sem, simprocAttr]; with_reducible rfl); refine ⟨?_, ?_, ?_, ?_⟩ <;> (simp only [go_sem, simprocAttr]; with_reducible rfl)), 0 + 1, _, _, _, rfl, rfl, by omega, hoj.symm, hcans⟩
  obtain ⟨K, rfl⟩ : ∃ K, L = K + 1 := ⟨L - 1, by omega⟩
  have hk1 : (((K + 1 : Nat)) : Int) - 1 = ((K : Nat) : Int) := by omega
  have hcK := hcat K (by omega)
  have hclK := hcl K
  have hkp : ((K + 1 : Nat) : Int) > 0 := by omega
  repeat' (first | (with_reducible first | apply w1 | apply w2 | apply w3 | apply w4 | apply w5 | apply w6 | apply w7 | apply w8 | apply w9 | apply wa | apply wb | apply wc) | ((with_reducible apply wd); focus decide) | ((with_reducible apply we); focus exact rfl) | ((with_reducible apply wf); focus exact rfl) | ((first | (with_reducible apply SW_run tt_ok hG htb) | ((with_reducible apply SW_draw rfl tt_ok hG htb); (focus kernel_rfl); focus simp only [List.range, List.range.loop, List.size_toArray, List.length_cons, List.length_nil, Nat.reduceAdd])); focus ((repeat' (first | (with_reducible first | exact wg | exact wh) | ((with_reducible first | apply wi | apply wj); focus (simp (discharger := omega) only [go_sem, hlt2, hm, simprocAttr]; with_reducible rfl)))); done)))
  refine SW_loop (fun mm st => ∃ (s : Nat) (bt : List T), mm = m - s ∧ st = ⟨91, [(8, .bptr 0 0), (3, .bptr 1 0), (7, .bptr 2 0), (9, .bptr 3 0), (2, .bptr 4 0), (10, .bptr 5 0), (11, .t (tNat (K + 1))), (12, .sref 6), (50, .t (tNat m)), (51, .t (tNat s))], [.box [.sref 7], .box [.t (tInt most)], .box [.sref 8], .box [.sref 9], .box [.t (tInt a.base), .t (tInt a.tracks), .t (tIntss a.next), .t (tBools a.ends)], .box [.fn 29 [.bptr 0 0, .bptr 1 0, .bptr 2 0, .bptr 3 0, .bptr 4 0, .bptr 5 0]], .row 4 1 true bt, .row 26 1 true outs, .row 23 1 wr cans, .row 3 1 true []]⟩ ∧ s ≤ m ∧ bt = (rowB a.next (canL a K) m s 0).map T.bool) m
    ⟨_, Norm.headS (own := []) (keep := [8, 3, 7, 9, 2, 10, 11, 12, 50, 51]) (by refine ⟨?_, ?_⟩; (simp (discharger := omega) only [go_sem, simprocAttr]; with_reducible rfl); refine ⟨?_, ?_, ?_, ?_⟩ <;> (simp only [go_sem, simprocAttr]; with_reducible rfl)), 0, _, rfl, rfl, Nat.zero_le _, by rw [rowB_zero, List.map_replicate]; try rfl⟩ ?_
  rintro mm st ⟨s, bt, rfl, rfl, hs, hbt⟩
  by_cases hslt : s < m
  · obtain ⟨row, hrow⟩ : ∃ row, a.next[s]! = row := ⟨_, rfl⟩
    have hrl := g.rows.row row (bang_mem hrow (by omega))
    have hrok := g.rows.ok row (bang_mem hrow (by omega))
    have hro : rowOf a.next ((s : Nat) : Int) = row := by unfold rowOf; exact bang_D hrow (by simpa [hm] using hslt)
    repeat' (first | (with_reducible first | apply w1 | apply w2 | apply w3 | apply w4 | apply w5 | apply w6 | apply w7 | apply w8 | apply w9 | apply wa | apply wb | apply wc) | ((with_reducible apply wd); focus decide) | ((with_reducible apply we); focus exact rfl) | ((with_reducible apply wf); focus exact rfl) | ((first | (with_reducible apply SW_run tt_ok hG htb) | ((with_reducible apply SW_draw rfl tt_ok hG htb); (focus kernel_rfl); focus simp only [List.range, List.range.loop, List.size_toArray, List.length_cons, List.length_nil, Nat.reduceAdd])); focus ((repeat' (first | (with_reducible first | exact wg | exact wh) | ((with_reducible first | apply wi | apply wj); focus (simp (discharger := omega) only [go_sem, hm, hrow, hrl, simprocAttr]; with_reducible rfl)))); done)))
    refine SW_loop (fun mm st => ∃ (l : Nat) (bt : List T), mm = n - l ∧ st = ⟨91, [(8, .bptr 0 0), (3, .bptr 1 0), (7, .bptr 2 0), (9, .bptr 3 0), (2, .bptr 4 0), (10, .bptr 5 0), (11, .t (tNat (K + 1))), (12, .sref 6), (50, .t (tNat m)), (51, .t (tNat s)), (13, .t (tNat s)), (58, .t (tInts row)), (59, .t (tNat n)), (60, .t (tNat l))], [.box [.sref 7], .box [.t (tInt most)], .box [.sref 8], .box [.sref 9], .box [.t (tInt a.base), .t (tInt a.tracks), .t (tIntss a.next), .t (tBools a.ends)], .box [.fn 29 [.bptr 0 0, .bptr 1 0, .bptr 2 0, .bptr 3 0, .bptr 4 0, .bptr 5 0]], .row 4 1 true bt, .row 26 1 true outs, .row 23 1 wr cans, .row 3 1 true []]⟩ ∧ l ≤ n ∧ bt = (rowB a.next (canL a K) m s l).map T.bool) n
      ⟨_, Norm.headS (own := []) (keep := [8, 3, 7, 9, 2, 10, 11, 12, 50, 51, 13, 58, 59, 60]) (by refine ⟨?_, ?_⟩; (simp (discharger := omega) only [go_sem, simprocAttr]; with_reducible rfl); refine ⟨?_, ?_, ?_, ?_⟩ <;> (simp only [go_sem, simprocAttr]; with_reducible rfl)), 0, _, rfl, rfl, Nat.zero_le _, hbt⟩ ?_
    clear hbt bt
    rintro mm st ⟨l, bt, rfl, rfl, hl, hbt⟩
    have hR := rowB_at (next := a.next) (C := canL a K) (l := l) hslt
    have hRl := rowB_len (next := a.next) (C := canL a K) (m := m) (s := s) (l := l)
    by_cases hllt : l < n
    · obtain ⟨t, ht⟩ : ∃ t, row[l]! = t := ⟨_, rfl⟩
      have htb2 := hrok t (bang_mem ht (by omega))
      have hset : ∀ v, v = ((rowB a.next (canL a K) m s l)[s]! || (canL a K).getD t.toNat false) → (rowB a.next (canL a K) m s l).set s v = rowB a.next (canL a K) m s (l + 1) := fun v hv => rowB_set hslt (by rw [hro]; exact bang_get ht (by omega)) hv
      obtain ⟨u, hu⟩ : ∃ u, (canL a K)[t.toNat]! = u := ⟨_, rfl⟩
      have hud : (canL a K).getD t.toNat false = u := bang_D hu (by omega)
      rw [hud] at hset
      generalize rowB a.next (canL a K) m s l = R at *
      obtain ⟨v, hv⟩ : ∃ v, R[s]! = v := ⟨_, rfl⟩
      rw [hv] at hset
      clear hR
      subst hbt
      cases v with
      | true =>
        have h2 := hset _ rfl
        clear hset
        repeat' (first | (with_reducible first | apply w1 | apply w2 | apply w3 | apply w4 | apply w5 | apply w6 | apply w7 | apply w8 | apply w9 | apply wa | apply wb | apply wc) | ((with_reducible apply wd); focus decide) | ((with_reducible apply we); focus exact rfl) | ((with_reducible apply wf); focus exact rfl) | ((first | (with_reducible apply SW_run tt_ok hG htb) | ((with_reducible apply SW_draw rfl tt_ok hG htb); (focus kernel_rfl); focus simp only [List.range, List.range.loop, List.size_toArray, List.length_cons, List.length_nil, Nat.reduceAdd])); focus ((repeat' (first | (with_reducible first | exact wg | exact wh) | ((with_reducible first | apply wi | apply wj); focus (simp (discharger := omega) only [go_sem, ht, hv, simprocAttr]; with_reducible rfl)))); done)))
        exact ⟨n - (l + 1), _, by omega, Norm.headS (own := []) (keep := [8, 3, 7, 9, 2, 10, 11, 12, 50, 51, 13, 58, 59, 60]) (by refine ⟨?_, ?_⟩; (simp (discharger := omega) only [go_sem, simprocAttr]; with_reducible rfl); refine ⟨?_, ?_, ?_, ?_⟩ <;> (simp only [go_sem, simprocAttr]; with_reducible rfl)), l + 1, _, rfl, rfl, by omega, by rw [← h2, List.map_set]; rfl⟩
      | false =>
        have h2 := hset _ rfl
        clear hset
        repeat' (first | (with_reducible first | apply w1 | apply w2 | apply w3 | apply w4 | apply w5 | apply w6 | apply w7 | apply w8 | apply w9 | apply wa | apply wb | apply wc) | ((with_reducible apply wd); focus decide) | ((with_reducible apply we); focus exact rfl) | ((with_reducible apply wf); focus exact rfl) | ((first | (with_reducible apply SW_run tt_ok hG htb) | ((with_reducible apply SW_draw rfl tt_ok hG htb); (focus kernel_rfl); focus simp only [List.range, List.range.loop, List.size_toArray, List.length_cons, List.length_nil, Nat.reduceAdd])); focus ((repeat' (first | (with_reducible first | exact wg | exact wh) | ((with_reducible first | apply wi | apply wj); focus (simp (discharger := omega) only [go_sem, ht, hv, hk1, hcK, hu, simprocAttr]; with_reducible rfl)))); done)))
        exact ⟨n - (l + 1), _, by omega, Norm.headS (own := []) (keep := [8, 3, 7, 9, 2, 10, 11, 12, 50, 51, 13, 58, 59, 60]) (by refine ⟨?_, ?_⟩; (simp (discharger := omega) only [go_sem, simprocAttr]; with_reducible rfl); refine ⟨?_, ?_, ?_, ?_⟩ <;> (simp only [go_sem, simprocAttr]; with_reducible rfl)), l + 1, _, rfl, rfl, by omega, by rw [← h2, List.map_set]; rfl⟩
    · obtain rfl : l = n := by omega
      rw [rowB_next (by rw [hro]; exact hrl)] at hbt
      clear hR hRl
      repeat' (first | (with_reducible first | apply w1 | apply w2 | apply w3 | apply w4 | apply w5 | apply w6 | apply w7 | apply w8 | apply w9 | apply wa | apply wb | apply wc) | ((with_reducible apply wd); focus decide) | ((with_reducible apply we); focus exact rfl) | ((with_reducible apply wf); focus exact rfl) | ((first | (with_reducible apply SW_run tt_ok hG htb) | ((with_reducible apply SW_draw rfl tt_ok hG htb); (focus kernel_rfl); focus simp only [List.range, List.range.loop, List.size_toArray, List.length_cons, List.length_nil, Nat.reduceAdd])); focus ((repeat' (first | (with_reducible first | exact wg | exact wh) | ((with_reducible first | apply wi | apply wj); focus (simp (discharger := omega) only [go_sem, simprocAttr]; with_reducible rfl)))); done)))
      exact ⟨m - (s + 1), _, by omega, Norm.headS (own := []) (keep := [8, 3, 7, 9, 2, 10, 11, 12, 50, 51]) (by refine ⟨?_, ?_⟩; (simp (discharger := omega) only [go_sem, simprocAttr]; with_reducible rfl); refine ⟨?_, ?_, ?_, ?_⟩ <;> (simp only [go_sem, simprocAttr]; with_reducible rfl)), s + 1, bt, rfl, rfl, by omega, hbt⟩
  · obtain rfl : s = m := by omega
    have hbt2 : bt = (canL a (K + 1)).map T.bool := by rw [hbt, ← hm, rowB_all]
    clear hbt
    have hbl : T.list bt = tBools (canL a (K + 1)) := by rw [hbt2]; rfl
    obtain ⟨cans2, hc2⟩ : ∃ cans2, cans ++ [T.list bt] = cans2 := ⟨_, rfl⟩
    have hcans2 : cans2 = (List.range (K + 1 + 1)).map fun k => tBools (canL a k) := by
      rw [← hc2, hcans, hbl, List.range_succ (n := K + 1), List.map_append]; rfl
    have hr := aq_all hG g h0 h200 (L := (K + 1)) (wr := true) (K + 1) 0 [] (outL a most (K + 1)) (Nat.le_refl _) (by omega) (by omega) (by simp only [List.length_nil]; omega) hle
    unfold AqC aqObs at hr
    obtain ⟨outj, hoj⟩ : ∃ outj, (outL a most ((K + 1) + 1)).map tInts = outj := ⟨_, rfl⟩
    rw [show walkL a most (K + 1) 0 [] (outL a most (K + 1)) = outL a most ((K + 1) + 1) from rfl, hoj, ← hout, ← show cans2 = _ from hcans2] at hr
    repeat' (first | (with_reducible first | refine SW_seq ?_ | refine SW_block ?_ | refine SThen_n ?_ | refine SThen_r ?_ | refine SThen_e ?_ | refine SIn_n ?_ | refine SIn_r ?_ | refine SIn_eq ?_ | refine SW_skip ?_ | refine SW_exit ?_ | refine SW_ret ?_ | refine SPost_r ?_) | ((with_reducible refine SIn_ne ?_ ?_); focus decide) | ((with_reducible refine SW_true ?_ ?_); focus exact rfl) | ((with_reducible refine SW_false ?_ ?_); focus exact rfl) | ((with_reducible apply SW_run tt_ok hG htb); focus ((repeat' (first | (with_reducible exact runX_nil) | ((with_reducible apply runX_cons); focus (simp (discharger := omega) only [go_sem, simprocAttr]; with_reducible rfl)))); done)))
    refine SW_norm (Norm.headS (own := []) (keep := [8, 3, 7, 9, 2, 10, 11]) (by refine ⟨?_, ?_⟩; (simp (discharger := omega) only [go_sem, simprocAttr]; with_reducible rfl); refine ⟨?_, ?_, ?_, ?_⟩ <;> (simp only [go_sem, simprocAttr]; with_reducible rfl))) ?_
    rw [hc2]
    refine SW_runCk tt_ok hG htb 2 rfl (by simp only [List.take_succ_cons, List.take_zero]; rfl) (by simp only [List.drop_succ_cons, List.drop_zero, Nat.reduceAdd]; rfl) (by (repeat' (first | (with_reducible exact runX_nil) | ((with_reducible apply runX_cons); focus (simp (discharger := omega) only [go_sem, simprocAttr]; with_reducible rfl))))) rfl rfl (g := 29) (cap := aqCap) (obs := [.box [.sref 6], .box [.t (tInt most)], .box [.sref 7], .box [.sref 8], .box [.t (tInt a.base), .t (tInt a.tracks), .t (tIntss a.next), .t (tBools a.ends)], .box [.fn 29 [.bptr 0 0, .bptr 1 0, .bptr 2 0, .bptr 3 0, .bptr 4 0, .bptr 5 0]], .row 26 1 true outs, .row 23 1 true cans2, .row 3 1 true []]) (obs' := [.box [.sref 6], .box [.t (tInt most)], .box [.sref 7], .box [.sref 8], .box [.t (tInt a.base), .t (tInt a.tracks), .t (tIntss a.next), .t (tBools a.ends)], .box [.fn 29 [.bptr 0 0, .bptr 1 0, .bptr 2 0, .bptr 3 0, .bptr 4 0, .bptr 5 0]], .row 26 1 true outj, .row 23 1 true cans2, .row 3 1 true []]) (rst := ?zrb) (r := ?ztb) (s2 := ?zsb) (s3 := ?zub) ?q1b ?q2b ?q3b ?q4b ?q5b ?q6b ?q7b ?q8b ?q9b ?q10b
    case q5b => exact hr
    case q1b => rfl
    case q2b => rfl
    case q3b => rfl
    case q4b => rfl
    case q6b => rfl
    case q7b => exact aq_xren _ _
    case q8b =>
      simp only [List.map_cons, List.map_nil, List.append_nil, SV.ren, renL, past, aqCap, List.getElem?_cons_zero, List.getElem?_cons_succ, List.getElem?_nil]
      rfl
    case q9b => (repeat' (first | (with_reducible exact runX_nil) | ((with_reducible apply runX_cons); focus (simp (discharger := omega) only [go_sem, simprocAttr]; with_reducible rfl))))
    repeat' (first | (with_reducible first | refine SW_seq ?_ | refine SW_block ?_ | refine SThen_n ?_ | refine SThen_r ?_ | refine SThen_e ?_ | refine SIn_n ?_ | refine SIn_r ?_ | refine SIn_eq ?_ | refine SW_skip ?_ | refine SW_exit ?_ | refine SW_ret ?_ | refine SPost_r ?_) | ((with_reducible refine SIn_ne ?_ ?_); focus decide) | ((with_reducible refine SW_true ?_ ?_); focus exact rfl) | ((with_reducible refine SW_false ?_ ?_); focus exact rfl) | ((with_reducible apply SW_run tt_ok hG htb); focus ((repeat' (first | (with_reducible exact runX_nil) | ((with_reducible apply runX_cons); focus (simp (discharger := omega) only [go_sem, simprocAttr]; with_reducible rfl)))); done)))
    exact ⟨401 - ((K + 1) + 1), _, by omega, Norm.headS (own := []) (keep := [8, 3, 7, 9, 2, 10, 11]) (by refine ⟨?_, ?_⟩; (simp (discharger := omega) only [go_sem, simprocAttr]; with_reducible rfl); refine ⟨?_, ?_, ?_, ?_⟩ <;> (simp only [go_sem, simprocAttr]; with_reducible rfl)), (K + 1) + 1, _, _, _, rfl, rfl, by omega, hoj.symm, hcans2⟩
end
end Go.Proofs.Ytcaopcpofepniaa
namespace Go.Proofs.Ytcaopcpofepniaa

/-- All words of so many letters that lead from a state to an end, in order. -/
def wds (a : GAuto) : Nat → Int → List (List Int)
  | 0, s => if endOf a.ends s = true then [[]] else []
  | k + 1, s => (List.range (rowOf a.next s).length).flatMap fun l => (wds a k ((rowOf a.next s).getD l 0)).map (((l : Nat) : Int) :: ·)
/-- The same, at a word's begin without a 0. -/
def cwd (a : GAuto) : Nat → Int → List (List Int)
  | 0, s => wds a 0 s
  | k + 1, s => (List.range (rowOf a.next s).length).flatMap fun l => if l = 0 then [] else (wds a k ((rowOf a.next s).getD l 0)).map (((l : Nat) : Int) :: ·)
def wdC (a : GAuto) (b : Bool) (k : Nat) (s : Int) : List (List Int) := if b = true then cwd a k s else wds a k s
theorem take_take_app {α : Type} (A B : List α) (n : Nat) : ((A.take n) ++ B).take n = (A ++ B).take n := by
  rcases Nat.le_total n A.length with h | h
  · rw [List.take_append_of_le_length (by rw [List.length_take]; omega), List.take_take, Nat.min_self, List.take_append_of_le_length h]
  · rw [List.take_of_length_le h]
theorem fold_take {f : List (List Int) → Nat → List (List Int)} {X : Nat → List (List Int)} {most : Int} (h0 : 0 ≤ most) : ∀ (r : List Nat) (o : List (List Int)), (∀ l ∈ r, ∀ o, ((o.length : Nat) : Int) ≤ most → f o l = (o ++ X l).take most.toNat) → ((o.length : Nat) : Int) ≤ most → r.foldl f o = (o ++ r.flatMap X).take most.toNat
  | [], o, _, h => by rw [List.flatMap_nil, List.append_nil, List.take_of_length_le (by omega)]; rfl
  | l :: r, o, hf, h => by
    have h1 := hf l List.mem_cons_self o h
    rw [List.foldl_cons, h1, fold_take h0 r _ (fun l hl => hf l (List.mem_cons_of_mem _ hl)) (by rw [List.length_take]; omega), take_take_app, List.flatMap_cons, List.append_assoc]
theorem cwd_sub {a : GAuto} : ∀ (k : Nat) (s : Int) (w : List Int), w ∈ cwd a k s → w ∈ wds a k s
  | 0, s, w, h => h
  | k + 1, s, w, h => by
    unfold cwd at h
    obtain ⟨l, hl, h2⟩ := List.mem_flatMap.1 h
    split at h2
    · simp at h2
    · exact List.mem_flatMap.2 ⟨l, hl, h2⟩
theorem flatMap_cong {α β : Type} {l : List α} {f g : α → List β} (h : ∀ x ∈ l, f x = g x) : l.flatMap f = l.flatMap g := by
  induction l with
  | nil => rfl
  | cons x l ih => rw [List.flatMap_cons, List.flatMap_cons, h x List.mem_cons_self, ih fun y hy => h y (List.mem_cons_of_mem _ hy)]
theorem row_at {a : GAuto} {n m : Nat} (g : Good a n m) {s : Int} (s0 : 0 ≤ s) (sm : s < (m : Int)) : (rowOf a.next s).length = n ∧ ∀ t ∈ rowOf a.next s, 0 ≤ t ∧ t < (m : Int) := by
  have hm := g.rows.len
  have : rowOf a.next s ∈ a.next := by
    unfold rowOf
    rw [getD_lt (by omega)]
    exact List.getElem_mem _
  exact ⟨g.rows.row _ this, g.rows.ok _ this⟩
theorem row_get {a : GAuto} {n m : Nat} (g : Good a n m) {s : Int} (s0 : 0 ≤ s) (sm : s < (m : Int)) {l : Nat} (hl : l < n) : 0 ≤ (rowOf a.next s).getD l 0 ∧ (rowOf a.next s).getD l 0 < (m : Int) := by
  obtain ⟨h1, h2⟩ := row_at g s0 sm
  rw [getD_lt (by omega)]
  exact h2 _ (List.getElem_mem _)
theorem canAt_iff {a : GAuto} {n m : Nat} (g : Good a n m) : ∀ (k : Nat) (s : Int), 0 ≤ s → s < (m : Int) → (canAt a k s = true ↔ wds a k s ≠ [])
  | 0, s, s0, sm => by
    have e : canAt a 0 s = endOf a.ends s := rfl
    rw [e]
    unfold wds
    split <;> simp_all
  | k + 1, s, s0, sm => by
    have hm := g.rows.len
    have e : canAt a (k + 1) s = (rowOf a.next s).any fun t => canAt a k t := by
      unfold canAt
      show ((List.range a.next.length).map fun s => (rowOf a.next ((s : Nat) : Int)).any fun t => (canL a k).getD t.toNat false).getD s.toNat false = _
      rw [getD_lt (by rw [List.length_map, List.length_range]; omega), List.getElem_map, List.getElem_range, show ((s.toNat : Nat) : Int) = s by omega]
    obtain ⟨h1, h2⟩ := row_at g s0 sm
    rw [e, List.any_eq_true]
    constructor
    · rintro ⟨t, ht, hc⟩ hn
      obtain ⟨l, hl, rfl⟩ := List.mem_iff_getElem.1 ht
      have h3 := (canAt_iff g k _ (h2 _ ht).1 (h2 _ ht).2).1 hc
      unfold wds at hn
      have h4 := List.flatMap_eq_nil_iff.1 hn l (List.mem_range.2 hl)
      rw [getD_lt hl] at h4
      exact h3 (List.map_eq_nil_iff.1 h4)
    · intro hn
      obtain ⟨w, hw⟩ := List.exists_mem_of_ne_nil _ hn
      unfold wds at hw
      obtain ⟨l, hl, hw⟩ := List.mem_flatMap.1 hw
      have hl := List.mem_range.1 hl
      obtain ⟨u, hu, _⟩ := List.mem_map.1 hw
      have ht : (rowOf a.next s).getD l 0 ∈ rowOf a.next s := by rw [getD_lt hl]; exact List.getElem_mem _
      exact ⟨_, ht, (canAt_iff g k _ (h2 _ ht).1 (h2 _ ht).2).2 (List.ne_nil_of_mem hu)⟩
theorem walkL_spec {a : GAuto} {n m : Nat} (g : Good a n m) {most : Int} (h0 : 0 ≤ most) : ∀ (k : Nat) (s : Int) (w : List Int) (out : List (List Int)), 0 ≤ s → s < (m : Int) → ((out.length : Nat) : Int) ≤ most →
    walkL a most k s w out = (out ++ (wdC a (decide (w = [])) k s).map (w ++ ·)).take most.toNat
  | k, s, w, out, s0, sm, ho => by
    by_cases hf : ((out.length : Nat) : Int) = most
    · rw [walkL_full hf, List.take_append_of_le_length (by omega), List.take_of_length_le (by omega)]
    by_cases hc : canAt a k s = true
    rotate_left
    · have hn : wds a k s = [] := Decidable.by_contra fun q => hc ((canAt_iff g k s s0 sm).2 q)
      have hn2 : wdC a (decide (w = [])) k s = [] := by
        unfold wdC
        split
        · exact List.eq_nil_iff_forall_not_mem.2 fun x hx => by
            have := cwd_sub k s x hx
            rw [hn] at this; simp at this
        · exact hn
      have hw : walkL a most k s w out = out := by
        cases k with
        | zero => unfold walkL; rw [if_neg hf, if_neg hc]
        | succ k => rw [walkL_succ, if_neg hf, if_neg hc]
      rw [hw, hn2, List.map_nil, List.append_nil, List.take_of_length_le (by omega)]
    cases k with
    | zero =>
      have he : wdC a (decide (w = [])) 0 s = [[]] := by
        have h1 : wds a 0 s = [[]] := if_pos hc
        unfold wdC
        split
        · exact h1
        · exact h1
      unfold walkL
      rw [if_neg hf, if_pos hc, he, List.map_singleton, List.append_nil, List.take_of_length_le (by rw [List.length_append, List.length_singleton]; omega)]
    | succ k =>
      obtain ⟨h1, h2⟩ := row_at g s0 sm
      rw [walkL_succ, if_neg hf, if_pos hc]
      rw [fold_take (X := fun l => if l = 0 ∧ w = [] then [] else (wds a k ((rowOf a.next s).getD l 0)).map fun u => w ++ (((l : Nat) : Int) :: u)) h0 _ _ (fun l hl o ho => ?_) ho]
      · congr 2
        unfold wdC
        by_cases hw : w = []
        · rw [if_pos (by simpa using hw)]
          unfold cwd
          rw [List.map_flatMap]
          refine flatMap_cong fun l hl => ?_
          by_cases hl0 : l = 0
          · rw [if_pos ⟨hl0, hw⟩, if_pos hl0]; rfl
          · rw [if_neg (fun q => hl0 q.1), if_neg hl0, List.map_map]; rfl
        · have hwd : wds a (k + 1) s = (List.range (rowOf a.next s).length).flatMap fun l => (wds a k ((rowOf a.next s).getD l 0)).map (((l : Nat) : Int) :: ·) := rfl
          rw [if_neg (by simpa using hw), hwd]
          rw [List.map_flatMap]
          refine flatMap_cong fun l hl => ?_
          rw [if_neg (fun q => hw q.2), List.map_map]; rfl
      · have hl := List.mem_range.1 hl
        have ht := row_get g s0 sm (l := l) (by omega)
        unfold stepL
        split
        · rw [List.append_nil, List.take_of_length_le (by omega)]
        · rw [walkL_spec g h0 k _ _ o ht.1 ht.2 ho]
          congr 2
          unfold wdC
          rw [if_neg (by simp)]
          refine List.map_congr_left fun u _ => ?_
          simp
  termination_by k => k
def allW (a : GAuto) (L : Nat) : List (List Int) := (List.range L).flatMap fun k => cwd a k 0
theorem outL_spec {a : GAuto} {n m : Nat} (g : Good a n m) {most : Int} (h0 : 0 ≤ most) : ∀ L, outL a most L = (allW a L).take most.toNat
  | 0 => by simp [outL, allW]
  | L + 1 => by
    have hm0 := g.m0
    show walkL a most L 0 [] (outL a most L) = _
    rw [walkL_spec g h0 L 0 [] _ (by omega) (by omega) (outL_le a h0 L), outL_spec g h0 L, take_take_app]
    unfold allW
    rw [List.range_succ, List.flatMap_append]
    congr 2
    simp [wdC]
/-- The words that are found are those that are taken. -/
theorem wds_iff {a : GAuto} {n m : Nat} (g : Good a n m) : ∀ (k : Nat) (s : Int) (w : List Int), 0 ≤ s → s < (m : Int) → (w ∈ wds a k s ↔ w.length = k ∧ (∀ l ∈ w, 0 ≤ l ∧ l < (n : Int)) ∧ endOf a.ends (runFrom a.next s w) = true)
  | 0, s, w, s0, sm => by
    unfold wds
    constructor
    · intro h
      split at h
      · simp at h
        subst h
        exact ⟨rfl, fun l hl => by simp at hl, ‹_›⟩
      · simp at h
    · rintro ⟨h1, _, h3⟩
      obtain rfl := List.eq_nil_of_length_eq_zero h1
      have h3 : endOf a.ends s = true := h3
      rw [if_pos h3]; simp
  | k + 1, s, w, s0, sm => by
    obtain ⟨h1, h2⟩ := row_at g s0 sm
    unfold wds
    rw [List.mem_flatMap]
    have hnx : ∀ l : Nat, nextOf a.next s ((l : Nat) : Int) = (rowOf a.next s).getD l 0 := fun l => rfl
    constructor
    · rintro ⟨l, hl, h⟩
      have hl := List.mem_range.1 hl
      obtain ⟨u, hu, rfl⟩ := List.mem_map.1 h
      have ht := row_get g s0 sm (l := l) (by omega)
      obtain ⟨e1, e2, e3⟩ := (wds_iff g k _ u ht.1 ht.2).1 hu
      refine ⟨by rw [List.length_cons, e1], fun x hx => ?_, ?_⟩
      · rcases List.mem_cons.1 hx with rfl | hx
        · omega
        · exact e2 x hx
      · unfold runFrom
        rw [List.foldl_cons, hnx]
        exact e3
    · rintro ⟨e1, e2, e3⟩
      cases w with
      | nil => simp at e1
      | cons x u =>
        have hx := e2 x List.mem_cons_self
        have ht := row_get g s0 sm (l := x.toNat) (by omega)
        have hxx : ((x.toNat : Nat) : Int) = x := by omega
        refine ⟨x.toNat, List.mem_range.2 (by omega), List.mem_map.2 ⟨u, (wds_iff g k _ u ht.1 ht.2).2 ⟨by simpa using e1, fun y hy => e2 y (List.mem_cons_of_mem _ hy), ?_⟩, by rw [hxx]⟩⟩
        unfold runFrom at e3 ⊢
        rw [List.foldl_cons, ← hxx, hnx] at e3
        exact e3
def cleanW : List Int → Bool
  | [] => true
  | x :: _ => decide (x ≠ 0)
theorem cwd_iff {a : GAuto} (k : Nat) (s : Int) (w : List Int) : w ∈ cwd a k s ↔ w ∈ wds a k s ∧ cleanW w = true := by
  cases k with
  | zero =>
    show w ∈ wds a 0 s ↔ _
    refine ⟨fun h => ⟨h, ?_⟩, fun h => h.1⟩
    unfold wds at h
    split at h
    · simp at h; subst h; rfl
    · simp at h
  | succ k =>
    constructor
    · intro h
      refine ⟨cwd_sub _ _ _ h, ?_⟩
      unfold cwd at h
      obtain ⟨l, hl, h2⟩ := List.mem_flatMap.1 h
      split at h2
      · simp at h2
      · obtain ⟨u, _, rfl⟩ := List.mem_map.1 h2
        simp [cleanW]; omega
    · rintro ⟨h, hc⟩
      unfold wds at h
      obtain ⟨l, hl, h2⟩ := List.mem_flatMap.1 h
      obtain ⟨u, hu, rfl⟩ := List.mem_map.1 h2
      unfold cwd
      refine List.mem_flatMap.2 ⟨l, hl, ?_⟩
      simp [cleanW] at hc
      rw [if_neg (by omega)]
      exact List.mem_map.2 ⟨u, hu, rfl⟩
theorem allW_iff {a : GAuto} {n m : Nat} (g : Good a n m) (L : Nat) (w : List Int) : w ∈ allW a L ↔ w.length < L ∧ (∀ l ∈ w, 0 ≤ l ∧ l < (n : Int)) ∧ endOf a.ends (runFrom a.next 0 w) = true ∧ cleanW w = true := by
  have hm0 := g.m0
  unfold allW
  rw [List.mem_flatMap]
  constructor
  · rintro ⟨k, hk, h⟩
    have hk := List.mem_range.1 hk
    obtain ⟨h1, h2⟩ := (cwd_iff k 0 w).1 h
    obtain ⟨e1, e2, e3⟩ := (wds_iff g k 0 w (by omega) (by omega)).1 h1
    exact ⟨by omega, e2, e3, h2⟩
  · rintro ⟨h1, h2, h3, h4⟩
    exact ⟨w.length, List.mem_range.2 h1, (cwd_iff _ _ _).2 ⟨(wds_iff g _ 0 w (by omega) (by omega)).2 ⟨rfl, h2, h3⟩, h4⟩⟩
/-- Their order. -/
def lexB : List Int → List Int → Bool
  | x :: a, y :: b => if x ≠ y then decide (x < y) else lexB a b
  | _, _ => false
def aheadB (a b : List Int) : Bool := if a.length ≠ b.length then decide (a.length < b.length) else lexB a b
theorem wds_sorted (a : GAuto) : ∀ (k : Nat) (s : Int), (wds a k s).Pairwise fun x y => lexB x y = true
  | 0, s => by
    unfold wds
    split <;> simp
  | k + 1, s => by
    unfold wds
    rw [List.pairwise_flatMap]
    refine ⟨fun l _ => ?_, ?_⟩
    · rw [List.pairwise_map]
      exact (wds_sorted a k _).imp fun h => by simp [lexB, h]
    · refine (List.pairwise_lt_range (n := (rowOf a.next s).length)).imp fun {i j} hij x hx y hy => ?_
      obtain ⟨u, _, rfl⟩ := List.mem_map.1 hx
      obtain ⟨v, _, rfl⟩ := List.mem_map.1 hy
      simp only [lexB]
      rw [if_pos (by omega)]
      simpa using hij
theorem cwd_sorted (a : GAuto) (k : Nat) (s : Int) : (cwd a k s).Pairwise fun x y => lexB x y = true := by
  cases k with
  | zero => exact wds_sorted a 0 s
  | succ k =>
    unfold cwd
    rw [List.pairwise_flatMap]
    refine ⟨fun l _ => ?_, ?_⟩
    · split
      · exact List.Pairwise.nil
      · rw [List.pairwise_map]
        exact (wds_sorted a k _).imp fun h => by simp [lexB, h]
    · refine (List.pairwise_lt_range (n := (rowOf a.next s).length)).imp fun {i j} hij x hx y hy => ?_
      split at hx
      · simp at hx
      split at hy
      · simp at hy
      obtain ⟨u, _, rfl⟩ := List.mem_map.1 hx
      obtain ⟨v, _, rfl⟩ := List.mem_map.1 hy
      simp only [lexB]
      rw [if_pos (by omega)]
      simpa using hij
theorem allW_sorted {a : GAuto} {n m : Nat} (g : Good a n m) (L : Nat) : (allW a L).Pairwise fun x y => aheadB x y = true := by
  have hm0 := g.m0
  have hlen : ∀ k (w : List Int), w ∈ cwd a k 0 → w.length = k := fun k w h => ((wds_iff g k 0 w (by omega) (by omega)).1 (cwd_sub k 0 w h)).1
  unfold allW
  rw [List.pairwise_flatMap]
  refine ⟨fun k _ => ?_, ?_⟩
  · refine (cwd_sorted a k 0).imp_of_mem fun {x y} hx hy h => ?_
    unfold aheadB
    rw [if_neg (by rw [hlen k x hx, hlen k y hy]; simp)]; exact h
  · refine (List.pairwise_lt_range (n := L)).imp fun {i j} hij x hx y hy => ?_
    have h1 := hlen i x hx
    have h2 := hlen j y hy
    unfold aheadB
    rw [if_pos (by omega)]
    simp; omega
/-- Parts of AskFinds. -/
theorem finds_mem {a : GAuto} {n m : Nat} (g : Good a n m) {most : Int} (h0 : 0 ≤ most) {u : List Int} (h : u ∈ listOf a most) : u.length ≤ 400 ∧ (∀ l ∈ u, 0 ≤ l ∧ l < (n : Int)) ∧ endOf a.ends (runFrom a.next 0 u) = true ∧ cleanW u = true := by
  unfold listOf at h
  rw [outL_spec g h0] at h
  have := (allW_iff g 401 u).1 (List.mem_of_mem_take h)
  exact ⟨by omega, this.2⟩
theorem finds_ahead {a : GAuto} {n m : Nat} (g : Good a n m) {most : Int} (h0 : 0 ≤ most) {i : Nat} {u v : List Int} (h1 : (listOf a most)[i]? = some u) (h2 : (listOf a most)[i + 1]? = some v) : aheadB u v = true := by
  unfold listOf at h1 h2
  rw [outL_spec g h0] at h1 h2
  have hp := (allW_sorted g 401).sublist (List.take_sublist most.toNat (allW a 401))
  obtain ⟨k1, e1⟩ := List.getElem?_eq_some_iff.1 h1
  obtain ⟨k2, e2⟩ := List.getElem?_eq_some_iff.1 h2
  rw [← e1, ← e2]
  exact List.pairwise_iff_getElem.1 hp i (i + 1) k1 k2 (by omega)
theorem finds_all {a : GAuto} {n m : Nat} (g : Good a n m) {most : Int} (h0 : 0 ≤ most) {w : List Int} (h1 : w.length ≤ 400) (h2 : ∀ l ∈ w, 0 ≤ l ∧ l < (n : Int)) (h3 : endOf a.ends (runFrom a.next 0 w) = true) (h4 : cleanW w = true)
    (h5 : (((listOf a most).length : Nat) : Int) = most → most ≠ 0 ∧ aheadB ((listOf a most)[(most - 1).toNat]!) w = false) : w ∈ listOf a most := by
  have hw := (allW_iff g 401 w).2 ⟨by omega, h2, h3, h4⟩
  have hsp : listOf a most = (allW a 401).take most.toNat := outL_spec g h0 401
  rw [hsp] at h5 ⊢
  by_cases hl : (allW a 401).length ≤ most.toNat
  · rw [List.take_of_length_le hl]; exact hw
  · rw [List.length_take, Nat.min_eq_left (by omega)] at h5
    obtain ⟨h6, h7⟩ := h5 (by omega)
    obtain ⟨j, hj, rfl⟩ := List.mem_iff_getElem.1 hw
    by_cases hjm : j < most.toNat
    · exact List.mem_iff_getElem.2 ⟨j, by rw [List.length_take]; omega, by rw [List.getElem_take]⟩
    · exfalso
      have hp := List.pairwise_iff_getElem.1 (allW_sorted g 401) (most - 1).toNat j (by omega) hj (by omega)
      rw [getElem!_pos _ _ (by rw [List.length_take]; omega), List.getElem_take, hp] at h7
      cases h7
end Go.Proofs.Ytcaopcpofepniaa
namespace Go.Proofs.Ytcaopcpofepniaa
open Go.RowKit

theorem list_same {α : Type} [Inhabited α] {l l' : List α} (hl : l.length = l'.length) (h : ∀ j, j < l.length → l[j]! = l'[j]!) : l = l' := by
  refine List.ext_getElem hl fun i h1 h2 => ?_
  have := h i h1
  rwa [getElem!_pos l i h1, getElem!_pos l' i h2] at this
section
variable {G : World → Prop} (hG : Lasting G)
include hG
set_option maxHeartbeats 4000000 in
theorem SInts_snd (d d' : List Int) : Snd Try.prog G 19 [tInts d, tInts d'] (.bool (decide (d = d'))) := by
  have htb : Tab.ok Try.prog G [] := Tab.nil
  refine snd_of_body (n := 26) (tm := [(0, .t (tInts d)), (1, .t (tInts d'))]) (rs := [.tmp 4]) tt_ok Try.func19 rfl rfl rfl rfl rfl ?_
  refine SW_len (t := 0) (l := _) rfl fun hlen => ?_
  simp only [List.length_map] at hlen
  by_cases hl : d.length = d'.length
  · repeat' (first | (with_reducible first | apply w1 | apply w2 | apply w3 | apply w4 | apply w5 | apply w6 | apply w7 | apply w8 | apply w9 | apply wa | apply wb | apply wc) | ((with_reducible apply wd); focus decide) | ((with_reducible apply we); focus exact rfl) | ((with_reducible apply wf); focus exact rfl) | ((first | (with_reducible apply SW_run tt_ok hG htb) | ((with_reducible apply SW_draw rfl tt_ok hG htb); (focus kernel_rfl); focus simp only [List.range, List.range.loop, List.size_toArray, List.length_cons, List.length_nil, Nat.reduceAdd])); focus ((repeat' (first | (with_reducible first | exact wg | exact wh) | ((with_reducible first | apply wi | apply wj); focus (simp (discharger := omega) only [go_sem, hl, simprocAttr]; with_reducible rfl)))); done)))
    refine SW_loop (fun n s => ∃ k : Nat, n = d.length - k ∧ s = ⟨26, [(0, .t (tInts d)), (1, .t (tInts d')), (5, .t (tInt k))], []⟩ ∧ k ≤ d.length ∧ ∀ j, j < k → d[j]! = d'[j]!) d.length ⟨_, Norm.headS (own := []) (keep := [0, 1, 5]) (by refine ⟨?_, ?_⟩; (simp (discharger := omega) only [go_sem, simprocAttr]; with_reducible rfl); refine ⟨?_, ?_, ?_, ?_⟩ <;> (simp only [go_sem, simprocAttr]; with_reducible rfl)), 0, rfl, rfl, Nat.zero_le _, fun j hj => by omega⟩ ?_
    rintro n s ⟨k, rfl, rfl, hk, hA⟩
    by_cases hlt : k < d.length
    · by_cases h : d[k]! = d'[k]!
      · repeat' (first | (with_reducible first | apply w1 | apply w2 | apply w3 | apply w4 | apply w5 | apply w6 | apply w7 | apply w8 | apply w9 | apply wa | apply wb | apply wc) | ((with_reducible apply wd); focus decide) | ((with_reducible apply we); focus exact rfl) | ((with_reducible apply wf); focus exact rfl) | ((first | (with_reducible apply SW_run tt_ok hG htb) | ((with_reducible apply SW_draw rfl tt_ok hG htb); (focus kernel_rfl); focus simp only [List.range, List.range.loop, List.size_toArray, List.length_cons, List.length_nil, Nat.reduceAdd])); focus ((repeat' (first | (with_reducible first | exact wg | exact wh) | ((with_reducible first | apply wi | apply wj); focus (simp (discharger := omega) only [go_sem, h, simprocAttr]; with_reducible rfl)))); done)))
        exact ⟨d.length - (k + 1), _, by omega, Norm.headS (own := []) (keep := [0, 1, 5]) (by refine ⟨?_, ?_⟩; (simp (discharger := omega) only [go_sem, simprocAttr]; with_reducible rfl); refine ⟨?_, ?_, ?_, ?_⟩ <;> (simp only [go_sem, simprocAttr]; with_reducible rfl)), k + 1, rfl, rfl, by omega, fun j hj => by
          by_cases e : j = k
          · subst e; exact h
          · exact hA j (by omega)⟩
      · rw [decide_eq_false (fun e => h (by rw [e]))]
        repeat' (first | (with_reducible first | apply w1 | apply w2 | apply w3 | apply w4 | apply w5 | apply w6 | apply w7 | apply w8 | apply w9 | apply wa | apply wb | apply wc) | ((with_reducible apply wd); focus decide) | ((with_reducible apply we); focus exact rfl) | ((with_reducible apply wf); focus exact rfl) | ((first | (with_reducible apply SW_run tt_ok hG htb) | ((with_reducible apply SW_draw rfl tt_ok hG htb); (focus kernel_rfl); focus simp only [List.range, List.range.loop, List.size_toArray, List.length_cons, List.length_nil, Nat.reduceAdd])); focus ((repeat' (first | (with_reducible first | exact wg | exact wh) | ((with_reducible first | apply wi | apply wj); focus (simp (discharger := omega) only [go_sem, h, simprocAttr]; with_reducible rfl)))); done)))
        exact (by simp (discharger := omega) only [go_sem, simprocAttr])
    · rw [decide_eq_true (list_same hl fun j hj => hA j (by omega))]
      repeat' (first | (with_reducible first | apply w1 | apply w2 | apply w3 | apply w4 | apply w5 | apply w6 | apply w7 | apply w8 | apply w9 | apply wa | apply wb | apply wc) | ((with_reducible apply wd); focus decide) | ((with_reducible apply we); focus exact rfl) | ((with_reducible apply wf); focus exact rfl) | ((first | (with_reducible apply SW_run tt_ok hG htb) | ((with_reducible apply SW_draw rfl tt_ok hG htb); (focus kernel_rfl); focus simp only [List.range, List.range.loop, List.size_toArray, List.length_cons, List.length_nil, Nat.reduceAdd])); focus ((repeat' (first | (with_reducible first | exact wg | exact wh) | ((with_reducible first | apply wi | apply wj); focus (simp (discharger := omega) only [go_sem, simprocAttr]; with_reducible rfl)))); done)))
      exact (by simp (discharger := omega) only [go_sem, simprocAttr])
  · rw [decide_eq_false (fun e => hl (by rw [e]))]
    repeat' (first | (with_reducible first | apply w1 | apply w2 | apply w3 | apply w4 | apply w5 | apply w6 | apply w7 | apply w8 | apply w9 | apply wa | apply wb | apply wc) | ((with_reducible apply wd); focus decide) | ((with_reducible apply we); focus exact rfl) | ((with_reducible apply wf); focus exact rfl) | ((first | (with_reducible apply SW_run tt_ok hG htb) | ((with_reducible apply SW_draw rfl tt_ok hG htb); (focus kernel_rfl); focus simp only [List.range, List.range.loop, List.size_toArray, List.length_cons, List.length_nil, Nat.reduceAdd])); focus ((repeat' (first | (with_reducible first | exact wg | exact wh) | ((with_reducible first | apply wi | apply wj); focus (simp (discharger := omega) only [go_sem, hl, simprocAttr]; with_reducible rfl)))); done)))
    exact (by simp (discharger := omega) only [go_sem, simprocAttr])
end
end Go.Proofs.Ytcaopcpofepniaa
namespace Go.Proofs.Ytcaopcpofepniaa
open Go.RowKit

section
variable {G : World → Prop} (hG : Lasting G)
include hG
end
end Go.Proofs.Ytcaopcpofepniaa
namespace Go.Proofs.Ytcaopcpofepniaa
open Go.RowKit

section
variable {G : World → Prop} (hG : Lasting G)
include hG
end
end Go.Proofs.Ytcaopcpofepniaa
namespace Go.Proofs.Ytcaopcpofepniaa
open Go.RowKit

theorem drop_cons' {l : List Int} {i : Nat} {x : Int} (hi : i < l.length) (h : l[i]! = x) : l.drop i = x :: l.drop (i + 1) := by
  rw [List.drop_eq_getElem_cons hi, ← h, getElem!_pos l i hi]
section
variable {G : World → Prop} (hG : Lasting G)
include hG
end
end Go.Proofs.Ytcaopcpofepniaa
namespace Go.Proofs.Ytcaopcpofepniaa

def threesA : GAuto := ⟨2, 1, [[0, 1], [2, 0], [1, 2]], [true, false, false]⟩
end Go.Proofs.Ytcaopcpofepniaa
namespace Go.Proofs.Ytcaopcpofepniaa
open Go.RowKit

section
variable {G : World → Prop} (hG : Lasting G)
include hG
end
end Go.Proofs.Ytcaopcpofepniaa
namespace Go.Proofs.Ytcaopcpofepniaa
open Go.RowKit

/-- What a map from looks to classes holds. -/
def entries (κ : Int → ByteArray) (R : List Int) : List (T × T) := R.zipIdx.map fun p => (.str (κ p.1), tNat p.2)
section
variable {G : World → Prop} (hG : Lasting G)
include hG
end
end Go.Proofs.Ytcaopcpofepniaa
namespace Go.Proofs.Ytcaopcpofepniaa
open Go.RowKit

section
variable {G : World → Prop} (hG : Lasting G)
include hG
end
end Go.Proofs.Ytcaopcpofepniaa
namespace Go.Proofs.Ytcaopcpofepniaa
open Go.RowKit

section
variable {G : World → Prop} (hG : Lasting G)
include hG
end
end Go.Proofs.Ytcaopcpofepniaa
namespace Go.Proofs.Ytcaopcpofepniaa
open Go.RowKit

section
variable {G : World → Prop} (hG : Lasting G)
include hG
end
end Go.Proofs.Ytcaopcpofepniaa
namespace Go.Proofs.Ytcaopcpofepniaa

/-- It is the least automaton of a language. -/
structure IsLeast (a : GAuto) (n : Nat) (base tracks : Int) (L : List Nat → Bool) : Prop where
  base : a.base = base
  tracks : a.tracks = tracks
  least : Least n a.next a.ends L
theorem Least.not {n : Nat} {N : List (List Int)} {E : List Bool} {L : List Nat → Bool} (h : Least n N E L) : Least n N (E.map (!·)) fun w => !L w := by
  have key : ∀ k, k < N.length → (E.map (!·)).getD k false = !E.getD k false := fun k hk => by
    have := h.len
    rw [getD_lt (by simp; omega), getD_lt (by omega)]; simp
  have hrun : ∀ (w : List Nat) (s : Nat), s < N.length → Ltr n w → runN (fun k l => ((N.getD k []).getD l 0).toNat) s w < N.length := by
    intro w
    induction w with
    | nil => intro s hs _; exact hs
    | cons l w ih => intro s hs hw; exact ih _ (h.canon.lt s l hs (hw l List.mem_cons_self)) fun x hx => hw x (List.mem_cons_of_mem _ hx)
  refine ⟨by simp [h.len], h.row, h.pos, h.canon.m0, h.canon.lt, fun w hw => ?_, h.canon.rg, h.canon.reach, fun s t hs ht hh => h.canon.red s t hs ht fun w hw => ?_⟩
  · rw [key _ (hrun w 0 h.canon.m0 hw)]; exact congrArg _ (h.canon.lang w hw)
  · have := hh w hw
    rw [key _ (hrun w s hs hw), key _ (hrun w t ht hw)] at this
    simpa using this
end Go.Proofs.Ytcaopcpofepniaa
namespace Go.Proofs.Ytcaopcpofepniaa

section
variable {n n' m : Nat} {next : List (List Int)} {to : List Int}
end
end Go.Proofs.Ytcaopcpofepniaa
namespace Go.Proofs.Ytcaopcpofepniaa

end Go.Proofs.Ytcaopcpofepniaa
namespace Go.Proofs.Ytcaopcpofepniaa
open Go.ChangeShapes Go.WideShapes Go.ChangeAt Go.RowKit Go.Joins Go.Deep

section
variable {H : Type} {enc : TypeId × Value → H} {w : World} {sp : Nat → Bool} {held : Bool}
/-- One cell that reads as a datum. -/
def OpensT (enc : TypeId × Value → H) (w : World) (sp : Nat → Bool) (held : Bool) (T : TypeId) (Q : Go.Proofs.Ytcaopcpofepniaa.T → Prop) : Prop :=
  ∀ n v y, DataW.trod enc Try.prog w 0 sp held n T [v] = some y → v.oneCell' = true ∧ ∃ x, Q x ∧ x.cells = [x] ∧ RepT (· < w.heap.size) w x v
theorem flat_cells : ∀ {l : List Go.Proofs.Ytcaopcpofepniaa.T}, (∀ x ∈ l, x.cells = [x]) → Go.Proofs.Ytcaopcpofepniaa.flat l = l
  | [], _ => rfl
  | a :: t, h => by
    have := flat_cells fun x hx => h x (List.mem_cons_of_mem a hx)
    simp only [Go.Proofs.Ytcaopcpofepniaa.flat, List.flatMap_cons] at this ⊢
    rw [this, h a List.mem_cons_self]; rfl
theorem opensT_int {T : TypeId} (ht : Try.prog.underlying T = some (.int .i64)) : OpensT enc w sp held T fun x => ∃ n, x = tInt n ∧ I64 n := by
  intro n v y h
  obtain ⟨a, rfl, h2⟩ := opens_int ht n v y h
  exact ⟨rfl, _, ⟨a, rfl, h2⟩, rfl, .int _ _⟩
theorem opensT_bool {T : TypeId} (ht : Try.prog.underlying T = some .bool) : OpensT enc w sp held T fun x => ∃ b, x = .bool b := by
  intro n v y h
  obtain ⟨a, rfl⟩ := opens_bool ht n v y h
  exact ⟨rfl, _, ⟨a, rfl⟩, rfl, .bool _⟩
theorem opensT_slice {T e : TypeId} {Q : Go.Proofs.Ytcaopcpofepniaa.T → Prop} (ht : Try.prog.underlying T = some (.slice e)) (hc : Try.prog.cellsOf e = 1) (hE : OpensT enc w sp held e Q) :
    OpensT enc w sp held T fun x => ∃ l, x = .list l ∧ ∀ y ∈ l, Q y := by
  intro n v y h
  rcases open_slice1 ht hc h with ⟨hcs, _⟩ | ⟨a, len, cap, m, n', V, D, Pl, hcs, _, hl, hcap, hm, _, hx⟩
  · obtain rfl : v = .slice none 0 0 := by simpa using hcs
    exact ⟨rfl, _, ⟨[], rfl, fun y hy => by simp at hy⟩, rfl, .list [] none 0 1 (fun _ => undef) (Nat.zero_le _) Nat.one_pos (fun x hx => by simp at hx) (fun h => (h rfl).elim) (fun k hk => by simp at hk) (fun k y hy => by simp [Go.Proofs.Ytcaopcpofepniaa.flat] at hy) (Nat.le_refl _)⟩
  · obtain rfl : v = .slice (some a) len cap := by simpa using hcs
    have hlm : len ≤ m := by rw [hm]; split <;> omega
    have hall : ∀ i, i < len → (V i).oneCell' = true ∧ ∃ b, Q b ∧ b.cells = [b] ∧ RepT (· < w.heap.size) w b (V i) := fun i hi => hE _ _ _ (hx i (by omega)).2
    have key : ∀ k, k ≤ len → ∃ l : List Go.Proofs.Ytcaopcpofepniaa.T, l.length = k ∧ ∀ i (hi : i < l.length), Q l[i] ∧ l[i].cells = [l[i]] ∧ RepT (· < w.heap.size) w l[i] (V i) := by
      intro k
      induction k with
      | zero => intro _; exact ⟨[], rfl, fun i hi => absurd hi (by simp)⟩
      | succ k ih =>
        intro hk
        obtain ⟨l, hl1, hl2⟩ := ih (by omega)
        obtain ⟨_, b, hb⟩ := hall k (by omega)
        refine ⟨l ++ [b], by simp [hl1], fun i hi => ?_⟩
        rw [List.getElem_append]
        split
        · exact hl2 i ‹_›
        · obtain rfl : i = k := by simp at hi; omega
          simpa using hb
    obtain ⟨l, hl1, hl2⟩ := key len (Nat.le_refl _)
    subst hl1
    have hcells : ∀ x ∈ l, x.cells = [x] := fun x hx => by obtain ⟨i, hi, rfl⟩ := List.mem_iff_getElem.1 hx; exact (hl2 i hi).2.1
    have hfl := flat_cells hcells
    refine ⟨rfl, _, ⟨l, rfl, fun y hy => by obtain ⟨i, hi, rfl⟩ := List.mem_iff_getElem.1 hy; exact (hl2 i hi).1⟩, rfl, ?_⟩
    refine .list l (some a) cap 1 V (by simp only [maxLen] at hcap ⊢; omega) Nat.one_pos (fun x hx => by rw [hcells x hx]; rfl) (fun hne => ?_) (fun k hk => (hall k (by omega)).1) (fun k y hy => ?_) (by omega)
    · obtain ⟨b, off, spot⟩ := a
      have hpos : 0 < l.length := List.length_pos_iff.2 hne
      have hc1 := (hx 0 (by omega)).1
      have hspot : spot = none := by simpa [Addr.add] using World.cell?_spot hc1
      subst hspot
      have hadd : ∀ i, (⟨b, off, none⟩ : Addr).add i = ⟨b, off + i, none⟩ := fun i => by unfold Addr.add; split <;> simp_all
      refine ⟨b, off, rfl, ?_, fun k hk => ?_⟩
      · rw [hadd] at hc1; exact cell_lt hc1
      · have := (hx k (by omega)).1
        rw [hadd] at this; exact this
    · rw [hfl] at hy
      obtain ⟨hk, rfl⟩ := List.getElem?_eq_some_iff.1 hy
      exact (hl2 k hk).2.2
theorem allMap {α : Type} {f : α → Go.Proofs.Ytcaopcpofepniaa.T} {Q : α → Prop} : ∀ {l : List Go.Proofs.Ytcaopcpofepniaa.T}, (∀ y ∈ l, ∃ a, y = f a ∧ Q a) → ∃ q : List α, l = q.map f ∧ ∀ a ∈ q, Q a
  | [], _ => ⟨[], rfl, fun a ha => by simp at ha⟩
  | x :: t, h => by
    obtain ⟨a, rfl, ha⟩ := h x List.mem_cons_self
    obtain ⟨q, rfl, hq⟩ := allMap fun y hy => h y (List.mem_cons_of_mem _ hy)
    exact ⟨a :: q, rfl, fun b hb => by
      rcases List.mem_cons.1 hb with rfl | hb
      · exact ha
      · exact hq b hb⟩
theorem opensT_ints {T : TypeId} (h : OpensT enc w sp held T fun x => ∃ l, x = .list l ∧ ∀ y ∈ l, ∃ n, y = tInt n ∧ I64 n) : OpensT enc w sp held T fun x => ∃ l, x = tInts l ∧ I64s l := fun n v y hy => by
  obtain ⟨h1, x, ⟨l, rfl, hl⟩, h2, h3⟩ := h n v y hy
  obtain ⟨q, rfl, hq⟩ := allMap hl
  exact ⟨h1, _, ⟨q, rfl, hq⟩, rfl, h3⟩
theorem opensIntsT : OpensT enc w sp held 26 fun x => ∃ l, x = tInts l ∧ I64s l := opensT_ints (opensT_slice Try.underlying26 (by kernel_rfl) (opensT_int Try.underlying3))
theorem opensIntssT : OpensT enc w sp held 22 fun x => ∃ l, x = tIntss l ∧ ∀ r ∈ l, I64s r := fun n v y hy => by
  obtain ⟨h1, x, ⟨l, rfl, hl⟩, h2, h3⟩ := opensT_slice Try.underlying22 (by kernel_rfl) opensIntsT n v y hy
  obtain ⟨q, rfl, hq⟩ := allMap hl
  exact ⟨h1, _, ⟨q, rfl, hq⟩, rfl, h3⟩
theorem opensBoolsT : OpensT enc w sp held 23 fun x => ∃ l, x = tBools l := fun n v y hy => by
  obtain ⟨h1, x, ⟨l, rfl, hl⟩, h2, h3⟩ := opensT_slice Try.underlying23 (by kernel_rfl) (opensT_bool Try.underlying4) n v y hy
  obtain ⟨q, rfl, hq⟩ := allMap (Q := fun _ => True) fun y hy => by obtain ⟨b, hb⟩ := hl y hy; exact ⟨b, hb, trivial⟩
  exact ⟨h1, _, ⟨q, rfl⟩, rfl, h3⟩
/-- An argument that reads as a list of numbers. -/
def ReadsInts (w : World) (v : Value) (l : List Int) : Prop := I64s l ∧ RepT (· < w.heap.size) w (tInts l) v
def ReadsAuto (w : World) (v : Value) (a : GAuto) : Prop := I64A a ∧ RepT (· < w.heap.size) w (tAuto a) v
theorem openIntsT {v : Value} (hv : v.cells = #[v]) {d : DataW H} {p : List MemPlace} (hd : DataW.Trod enc Try.prog w 0 sp held 26 v d p) : ∃ l, ReadsInts w v l := by
  obtain ⟨n, hn⟩ := hd
  rw [hv] at hn
  obtain ⟨_, x, ⟨l, rfl, hl⟩, _, h3⟩ := opensIntsT n v _ hn
  exact ⟨l, hl, h3⟩
set_option maxRecDepth 100000 in
theorem openAutoT {base : Nat} {v : Value} {d : DataW H} {p : List MemPlace} (hv : Value.okWide Try.prog w .any base 25 v) (h : DataW.Trod enc Try.prog w 0 sp held 25 v d p) :
    ∃ a : GAuto, ReadsAuto w v a := by
  obtain ⟨v0, v1, v2, v3, y0, y1, y2, y3, n, rfl, _, _, h0, h1, h2, h3⟩ := open_agg4 Try.underlying25 (by kernel_rfl) (by kernel_rfl) hv h
  obtain ⟨a0, rfl, i0⟩ := opens_int Try.underlying3 _ _ _ h0
  obtain ⟨a1, rfl, i1⟩ := opens_int Try.underlying3 _ _ _ h1
  obtain ⟨o2, x2, ⟨a2, rfl, i2⟩, _, hn⟩ := opensIntssT _ _ _ h2
  obtain ⟨o3, x3, ⟨a3, rfl⟩, _, he⟩ := opensBoolsT _ _ _ h3
  refine ⟨⟨a0, a1, a2, a3⟩, ⟨i0, i1, i2⟩, .agg _ _ rfl (fun k v hk => ?_) fun k y v hy hk => ?_⟩
  · match k, hk with
    | 0, hk => cases hk; rfl
    | 1, hk => cases hk; rfl
    | 2, hk => cases hk; exact o2
    | 3, hk => cases hk; exact o3
  · match k, hy, hk with
    | 0, hy, hk => cases hy; cases hk; exact .int _ _
    | 1, hy, hk => cases hy; cases hk; exact .int _ _
    | 2, hy, hk => cases hy; cases hk; exact hn
    | 3, hy, hk => cases hy; cases hk; exact he
end
theorem walkN {P : Program} {G : World → Prop} {f : Nat} {xs : List T} {w : World} {vs : Array Value} (h : Snd P G f xs (.bool true)) (hG : G w) (hl : vs.size = xs.length) (hx : ∀ (k : Nat) (y : T) (v : Value), xs[k]? = some y → vs[k]? = some v → RepT (· < w.heap.size) w y v) : Calls P f vs w (Ret (.bool true) w) :=
  (h.calls (· < w.heap.size) w vs hG hl hx).mono fun e w' hq => by obtain ⟨u, h1, h2, h3⟩ := hq; cases h2; exact ⟨h1, h3⟩
end Go.Proofs.Ytcaopcpofepniaa
namespace Go.Proofs.Ytcaopcpofepniaa
open Go.RowKit

section
variable {G : World → Prop} (hG : Lasting G)
include hG
theorem threes_snd : Snd Try.prog G 16 [] (tAuto threesA) := by
  refine snd_of_body (n := 7) (tm := []) (rs := [.cell 0 25]) tt_ok Try.func16 rfl rfl rfl rfl rfl ?_
  have htb : Tab.ok Try.prog G [] := Tab.nil
  repeat' (first | (with_reducible first | apply w1 | apply w2 | apply w3 | apply w4 | apply w5 | apply w6 | apply w7 | apply w8 | apply w9 | apply wa | apply wb | apply wc) | ((with_reducible apply wd); focus decide) | ((with_reducible apply we); focus exact rfl) | ((with_reducible apply wf); focus exact rfl) | ((first | (with_reducible apply SW_run tt_ok hG htb) | ((with_reducible apply SW_draw rfl tt_ok hG htb); (focus kernel_rfl); focus simp only [List.range, List.range.loop, List.size_toArray, List.length_cons, List.length_nil, Nat.reduceAdd])); focus ((repeat' (first | (with_reducible first | exact wg | exact wh) | ((with_reducible first | apply wi | apply wj); focus (simp (discharger := omega) only [go_sem, simprocAttr]; with_reducible rfl)))); done)))
  exact (by simp (discharger := omega) only [go_sem, tAuto, threesA, simprocAttr])
end
end Go.Proofs.Ytcaopcpofepniaa
namespace Go.Proofs.Ytcaopcpofepniaa
open Go.RowKit

theorem threes_err4 : listErr threesA 4 = 0 := by decide
theorem threes_list : listR threesA 4 = [[], [1, 1], [1, 1, 0], [1, 0, 0, 1]] := by
  have h5 : outL threesA 4 5 = [[], [1, 1], [1, 1, 0], [1, 0, 0, 1]] := by decide
  unfold listR
  rw [if_pos threes_err4]
  unfold listOf
  have := outL_full (a := threesA) (most := 4) (k := 5) (by rw [h5]; rfl) 396
  rw [show (401 : Nat) = 5 + 396 from rfl, this, h5]
theorem aheadB_step {a b : List Int} (h : a.length = b.length) {i : Nat} (hi : i < a.length) {x y : Int} (hx : a[i]! = x) (hy : b[i]! = y) : lexB (a.drop i) (b.drop i) = if x ≠ y then decide (x < y) else lexB (a.drop (i + 1)) (b.drop (i + 1)) := by
  rw [drop_cons' hi hx, drop_cons' (by omega) hy]; rfl
section
variable {G : World → Prop} (hG : Lasting G)
include hG
set_option maxHeartbeats 4000000 in
set_option maxRecDepth 100000 in
theorem ahead_snd (a b : List Int) : Snd Try.prog G 18 [tInts a, tInts b] (.bool (aheadB a b)) := by
  have htb : Tab.ok Try.prog G [] := Tab.nil
  refine snd_of_body (n := 40) (tm := [(0, .t (tInts a)), (1, .t (tInts b))]) (rs := [.tmp 4]) tt_ok Try.func18 rfl rfl rfl rfl rfl ?_
  refine SW_len (t := 0) (l := _) rfl fun hlen => ?_
  rw [List.length_map] at hlen
  by_cases hl : a.length = b.length
  rotate_left
  · have he : aheadB a b = decide (a.length < b.length) := if_pos hl
    rw [he]
    have hl2 : ¬ ((a.length : Nat) : Int) = ((b.length : Nat) : Int) := by omega
    by_cases h2 : a.length < b.length
    · have h3 : ((a.length : Nat) : Int) < ((b.length : Nat) : Int) := by omega
      repeat' (first | (with_reducible first | apply w1 | apply w2 | apply w3 | apply w4 | apply w5 | apply w6 | apply w7 | apply w8 | apply w9 | apply wa | apply wb | apply wc) | ((with_reducible apply wd); focus decide) | ((with_reducible apply we); focus exact rfl) | ((with_reducible apply wf); focus exact rfl) | ((first | (with_reducible apply SW_run tt_ok hG htb) | ((with_reducible apply SW_draw rfl tt_ok hG htb); (focus kernel_rfl); focus simp only [List.range, List.range.loop, List.size_toArray, List.length_cons, List.length_nil, Nat.reduceAdd])); focus ((repeat' (first | (with_reducible first | exact wg | exact wh) | ((with_reducible first | apply wi | apply wj); focus (simp (discharger := omega) only [go_sem, hl2, h3, simprocAttr]; with_reducible rfl)))); done)))
      exact (by simp (discharger := omega) only [go_sem, h2, simprocAttr])
    · have h3 : ¬ ((a.length : Nat) : Int) < ((b.length : Nat) : Int) := by omega
      repeat' (first | (with_reducible first | apply w1 | apply w2 | apply w3 | apply w4 | apply w5 | apply w6 | apply w7 | apply w8 | apply w9 | apply wa | apply wb | apply wc) | ((with_reducible apply wd); focus decide) | ((with_reducible apply we); focus exact rfl) | ((with_reducible apply wf); focus exact rfl) | ((first | (with_reducible apply SW_run tt_ok hG htb) | ((with_reducible apply SW_draw rfl tt_ok hG htb); (focus kernel_rfl); focus simp only [List.range, List.range.loop, List.size_toArray, List.length_cons, List.length_nil, Nat.reduceAdd])); focus ((repeat' (first | (with_reducible first | exact wg | exact wh) | ((with_reducible first | apply wi | apply wj); focus (simp (discharger := omega) only [go_sem, hl2, h3, simprocAttr]; with_reducible rfl)))); done)))
      exact (by simp (discharger := omega) only [go_sem, h2, simprocAttr])
  have he : aheadB a b = lexB a b := if_neg (fun q => q hl)
  rw [he]
  have hl2 : ((a.length : Nat) : Int) = ((b.length : Nat) : Int) := by omega
  have hl3 := eq_true hl2
  repeat' (first | (with_reducible first | apply w1 | apply w2 | apply w3 | apply w4 | apply w5 | apply w6 | apply w7 | apply w8 | apply w9 | apply wa | apply wb | apply wc) | ((with_reducible apply wd); focus decide) | ((with_reducible apply we); focus exact rfl) | ((with_reducible apply wf); focus exact rfl) | ((first | (with_reducible apply SW_run tt_ok hG htb) | ((with_reducible apply SW_draw rfl tt_ok hG htb); (focus kernel_rfl); focus simp only [List.range, List.range.loop, List.size_toArray, List.length_cons, List.length_nil, Nat.reduceAdd])); focus ((repeat' (first | (with_reducible first | exact wg | exact wh) | ((with_reducible first | apply wi | apply wj); focus (simp (discharger := omega) only [go_sem, hl3, simprocAttr]; with_reducible rfl)))); done)))
  refine SW_loop (fun mm st => ∃ i : Nat, mm = a.length - i ∧ st = ⟨40, [(0, .t (tInts a)), (1, .t (tInts b)), (5, .t (tNat i))], []⟩ ∧ i ≤ a.length ∧ lexB a b = lexB (a.drop i) (b.drop i)) a.length
    ⟨_, Norm.headS (own := []) (keep := [0, 1, 5]) (by refine ⟨?_, ?_⟩; (simp (discharger := omega) only [go_sem, simprocAttr]; with_reducible rfl); refine ⟨?_, ?_, ?_, ?_⟩ <;> (simp only [go_sem, simprocAttr]; with_reducible rfl)), 0, rfl, rfl, Nat.zero_le _, rfl⟩ ?_
  rintro mm st ⟨i, rfl, rfl, hi, hli⟩
  by_cases hlt : i < a.length
  · obtain ⟨x, hx⟩ : ∃ x, a[i]! = x := ⟨_, rfl⟩
    obtain ⟨y, hy⟩ : ∃ y, b[i]! = y := ⟨_, rfl⟩
    rw [aheadB_step hl hlt hx hy] at hli
    by_cases hxy : x = y
    · rw [if_neg (fun q => q hxy)] at hli
      have hxy2 := eq_true hxy
      repeat' (first | (with_reducible first | apply w1 | apply w2 | apply w3 | apply w4 | apply w5 | apply w6 | apply w7 | apply w8 | apply w9 | apply wa | apply wb | apply wc) | ((with_reducible apply wd); focus decide) | ((with_reducible apply we); focus exact rfl) | ((with_reducible apply wf); focus exact rfl) | ((first | (with_reducible apply SW_run tt_ok hG htb) | ((with_reducible apply SW_draw rfl tt_ok hG htb); (focus kernel_rfl); focus simp only [List.range, List.range.loop, List.size_toArray, List.length_cons, List.length_nil, Nat.reduceAdd])); focus ((repeat' (first | (with_reducible first | exact wg | exact wh) | ((with_reducible first | apply wi | apply wj); focus (simp (discharger := omega) only [go_sem, hx, hy, hxy2, simprocAttr]; with_reducible rfl)))); done)))
      exact ⟨a.length - (i + 1), _, by omega, Norm.headS (own := []) (keep := [0, 1, 5]) (by refine ⟨?_, ?_⟩; (simp (discharger := omega) only [go_sem, simprocAttr]; with_reducible rfl); refine ⟨?_, ?_, ?_, ?_⟩ <;> (simp only [go_sem, simprocAttr]; with_reducible rfl)), i + 1, rfl, rfl, by omega, hli⟩
    · rw [if_pos hxy] at hli
      rw [hli]
      by_cases hlt2 : x < y
      · repeat' (first | (with_reducible first | apply w1 | apply w2 | apply w3 | apply w4 | apply w5 | apply w6 | apply w7 | apply w8 | apply w9 | apply wa | apply wb | apply wc) | ((with_reducible apply wd); focus decide) | ((with_reducible apply we); focus exact rfl) | ((with_reducible apply wf); focus exact rfl) | ((first | (with_reducible apply SW_run tt_ok hG htb) | ((with_reducible apply SW_draw rfl tt_ok hG htb); (focus kernel_rfl); focus simp only [List.range, List.range.loop, List.size_toArray, List.length_cons, List.length_nil, Nat.reduceAdd])); focus ((repeat' (first | (with_reducible first | exact wg | exact wh) | ((with_reducible first | apply wi | apply wj); focus (simp (discharger := omega) only [go_sem, hx, hy, hxy, hlt2, simprocAttr]; with_reducible rfl)))); done)))
        exact (by simp (discharger := omega) only [go_sem, hlt2, simprocAttr])
      · repeat' (first | (with_reducible first | apply w1 | apply w2 | apply w3 | apply w4 | apply w5 | apply w6 | apply w7 | apply w8 | apply w9 | apply wa | apply wb | apply wc) | ((with_reducible apply wd); focus decide) | ((with_reducible apply we); focus exact rfl) | ((with_reducible apply wf); focus exact rfl) | ((first | (with_reducible apply SW_run tt_ok hG htb) | ((with_reducible apply SW_draw rfl tt_ok hG htb); (focus kernel_rfl); focus simp only [List.range, List.range.loop, List.size_toArray, List.length_cons, List.length_nil, Nat.reduceAdd])); focus ((repeat' (first | (with_reducible first | exact wg | exact wh) | ((with_reducible first | apply wi | apply wj); focus (simp (discharger := omega) only [go_sem, hx, hy, hxy, hlt2, simprocAttr]; with_reducible rfl)))); done)))
        exact (by simp (discharger := omega) only [go_sem, hlt2, simprocAttr])
  · obtain rfl : i = a.length := by omega
    rw [List.drop_of_length_le (Nat.le_refl _), List.drop_of_length_le (by omega)] at hli
    rw [hli]
    repeat' (first | (with_reducible first | apply w1 | apply w2 | apply w3 | apply w4 | apply w5 | apply w6 | apply w7 | apply w8 | apply w9 | apply wa | apply wb | apply wc) | ((with_reducible apply wd); focus decide) | ((with_reducible apply we); focus exact rfl) | ((with_reducible apply wf); focus exact rfl) | ((first | (with_reducible apply SW_run tt_ok hG htb) | ((with_reducible apply SW_draw rfl tt_ok hG htb); (focus kernel_rfl); focus simp only [List.range, List.range.loop, List.size_toArray, List.length_cons, List.length_nil, Nat.reduceAdd])); focus ((repeat' (first | (with_reducible first | exact wg | exact wh) | ((with_reducible first | apply wi | apply wj); focus (simp (discharger := omega) only [go_sem, simprocAttr]; with_reducible rfl)))); done)))
    exact (by simp (discharger := omega) only [go_sem, lexB, simprocAttr])
set_option maxHeartbeats 16000000 in
set_option maxRecDepth 100000 in
theorem AskFinds_snd (a : GAuto) (most : Int) (w : List Int) : Snd Try.prog G 6 [tAuto a, tInt most, tInts w] (.bool true) := by
  have c1 := threes_snd hG
  have c2 : Snd Try.prog G 17 [tAuto threesA, tInt 4] (.tup [tIntss [[], [1, 1], [1, 1, 0], [1, 0, 0, 1]], tErr 0]) := by
    have := List_snd hG threesA 4
    rw [threes_list, threes_err4] at this
    exact this
  have c4 := List_snd hG a most
  have c5 := Takes_snd hG a w
  refine snd_of_body (n := 169) (tm := [(0, .t (tAuto a)), (1, .t (tInt most)), (2, .t (tInts w))]) (rs := [.tmp 6]) tt_ok Try.func6 rfl rfl rfl rfl rfl ?_
  generalize threesA = th at *
  have htb := Tab.cons c1 (Tab.cons c2 Tab.nil)
  repeat' (first | (with_reducible first | apply w1 | apply w2 | apply w3 | apply w4 | apply w5 | apply w6 | apply w7 | apply w8 | apply w9 | apply wa | apply wb | apply wc) | ((with_reducible apply wd); focus decide) | ((with_reducible apply we); focus exact rfl) | ((with_reducible apply wf); focus exact rfl) | ((first | (with_reducible apply SW_run tt_ok hG htb) | ((with_reducible apply SW_draw rfl tt_ok hG htb); (focus kernel_rfl); focus simp only [List.range, List.range.loop, List.size_toArray, List.length_cons, List.length_nil, Nat.reduceAdd])); focus ((repeat' (first | (with_reducible first | exact wg | exact wh) | ((with_reducible first | apply wi | apply wj); focus (simp (discharger := omega) only [go_sem, tErr0, tAuto, simprocAttr]; with_reducible rfl)))); done)))
  clear htb c1 c2
  have htb := Tab.cons c4 Tab.nil
  by_cases hf : listErr a most = 0
  rotate_left
  · generalize listErr a most = e at *
    generalize listR a most = b at *
    repeat' (first | (with_reducible first | apply w1 | apply w2 | apply w3 | apply w4 | apply w5 | apply w6 | apply w7 | apply w8 | apply w9 | apply wa | apply wb | apply wc) | ((with_reducible apply wd); focus decide) | ((with_reducible apply we); focus exact rfl) | ((with_reducible apply wf); focus exact rfl) | ((first | (with_reducible apply SW_run tt_ok hG htb) | ((with_reducible apply SW_draw rfl tt_ok hG htb); (focus kernel_rfl); focus simp only [List.range, List.range.loop, List.size_toArray, List.length_cons, List.length_nil, Nat.reduceAdd])); focus ((repeat' (first | (with_reducible first | exact wg | exact wh) | ((with_reducible first | apply wi | apply wj); focus (simp (discharger := omega) only [go_sem, tErr, tAuto, hf, simprocAttr]; with_reducible rfl)))); done)))
    exact (by simp (discharger := omega) only [go_sem, simprocAttr])
  obtain ⟨hfa, h0, h200⟩ : autoFault a = 0 ∧ 0 ≤ most ∧ most ≤ 200 := by
    unfold listErr at hf
    by_cases h : autoFault a = 0
    · rw [if_neg (fun q => q h)] at hf
      by_cases h2 : most < 0 ∨ 200 < most
      · rw [if_pos h2] at hf; cases hf
      · exact ⟨h, by omega, by omega⟩
    · rw [if_pos h] at hf; exact (h hf).elim
  have hL : listR a most = listOf a most := if_pos hf
  rw [hL, hf] at htb
  have g := good_of hfa
  have hmem : ∀ u ∈ listOf a most, runErr a u = 0 ∧ takesOf a u = true ∧ cleanW u = true := fun u hu => by
    obtain ⟨q1, q2, q3, q4⟩ := finds_mem g h0 hu
    have hr := (runErr_good g u).2 ⟨q1, q2⟩
    refine ⟨hr, ?_, q4⟩
    unfold takesOf
    rw [hr, q3]; rfl
  have hah : ∀ (i : Nat) (u v : List Int), (listOf a most)[i]? = some u → (listOf a most)[i + 1]? = some v → aheadB u v = true := fun i u v => finds_ahead g h0
  have hall : runErr a w = 0 → takesOf a w = true → cleanW w = true → ((((listOf a most).length : Nat) : Int) = most → most ≠ 0 ∧ aheadB ((listOf a most)[(most - 1).toNat]!) w = false) → w ∈ listOf a most := fun e1 e2 e3 e4 => by
    obtain ⟨q1, q2⟩ := (runErr_good g w).1 e1
    unfold takesOf at e2
    rw [e1] at e2
    exact finds_all g h0 q1 q2 (by simpa using e2) e3 e4
  have hle : (((listOf a most).length : Nat) : Int) ≤ most := outL_le a h0 401
  clear c4 hL hf
  generalize listOf a most = L at *
  repeat' (first | (with_reducible first | apply w1 | apply w2 | apply w3 | apply w4 | apply w5 | apply w6 | apply w7 | apply w8 | apply w9 | apply wa | apply wb | apply wc) | ((with_reducible apply wd); focus decide) | ((with_reducible apply we); focus exact rfl) | ((with_reducible apply wf); focus exact rfl) | ((first | (with_reducible apply SW_run tt_ok hG htb) | ((with_reducible apply SW_draw rfl tt_ok hG htb); (focus kernel_rfl); focus simp only [List.range, List.range.loop, List.size_toArray, List.length_cons, List.length_nil, Nat.reduceAdd])); focus ((repeat' (first | (with_reducible first | exact wg | exact wh) | ((with_reducible first | apply wi | apply wj); focus (simp (discharger := omega) only [go_sem, tErr0, tAuto, simprocAttr]; with_reducible rfl)))); done)))
  clear htb
  have htb0 : Tab.ok Try.prog G [] := Tab.nil
  refine SW_loop (fun mm st => ∃ i : Nat, mm = L.length - i ∧ st = ⟨169, [(3, .bptr 0 0), (1, .t (tInt most)), (2, .t (tInts w)), (9, .t (tIntss L)), (11, .t (tNat i))], [.box [.t (tInt a.base), .t (tInt a.tracks), .t (tIntss a.next), .t (tBools a.ends)]]⟩ ∧ i ≤ L.length) L.length
    ⟨_, Norm.headS (own := []) (keep := [3, 1, 2, 9, 11]) (by refine ⟨?_, ?_⟩; (simp (discharger := omega) only [go_sem, simprocAttr]; with_reducible rfl); refine ⟨?_, ?_, ?_, ?_⟩ <;> (simp only [go_sem, simprocAttr]; with_reducible rfl)), 0, rfl, rfl, Nat.zero_le _⟩ ?_
  rintro mm st ⟨i, rfl, rfl, hi⟩
  by_cases hlt : i < L.length
  · obtain ⟨u, hu⟩ : ∃ u, L[i]! = u := ⟨_, rfl⟩
    obtain ⟨e1, e2, e3⟩ := hmem u (bang_mem hu hlt)
    have c6 := Takes_snd hG a u
    rw [e1, e2] at c6
    have htb := Tab.cons c6 Tab.nil
    have hstep : ∀ s, s = (⟨169, [(3, .bptr 0 0), (1, .t (tInt most)), (2, .t (tInts w)), (9, .t (tIntss L)), (11, .t (tNat (i + 1)))], [.box [.t (tInt a.base), .t (tInt a.tracks), .t (tIntss a.next), .t (tBools a.ends)]]⟩ : St) → ∃ n' , n' < L.length - i ∧ ∃ i' : Nat, n' = L.length - i' ∧ s = ⟨169, [(3, .bptr 0 0), (1, .t (tInt most)), (2, .t (tInts w)), (9, .t (tIntss L)), (11, .t (tNat i'))], [.box [.t (tInt a.base), .t (tInt a.tracks), .t (tIntss a.next), .t (tBools a.ends)]]⟩ ∧ i' ≤ L.length := fun s hs => ⟨L.length - (i + 1), by omega, i + 1, rfl, hs, by omega⟩
    by_cases hul : u.length = 0
    · repeat' (first | (with_reducible first | apply w1 | apply w2 | apply w3 | apply w4 | apply w5 | apply w6 | apply w7 | apply w8 | apply w9 | apply wa | apply wb | apply wc) | ((with_reducible apply wd); focus decide) | ((with_reducible apply we); focus exact rfl) | ((with_reducible apply wf); focus exact rfl) | ((first | (with_reducible apply SW_run tt_ok hG htb) | ((with_reducible apply SW_draw rfl tt_ok hG htb); (focus kernel_rfl); focus simp only [List.range, List.range.loop, List.size_toArray, List.length_cons, List.length_nil, Nat.reduceAdd])); focus ((repeat' (first | (with_reducible first | exact wg | exact wh) | ((with_reducible first | apply wi | apply wj); focus (simp (discharger := omega) only [go_sem, tErr0, tAuto, hu, simprocAttr]; with_reducible rfl)))); done)))
      clear htb
      cases i with
      | zero =>
        have htb := htb0
        repeat' (first | (with_reducible first | apply w1 | apply w2 | apply w3 | apply w4 | apply w5 | apply w6 | apply w7 | apply w8 | apply w9 | apply wa | apply wb | apply wc) | ((with_reducible apply wd); focus decide) | ((with_reducible apply we); focus exact rfl) | ((with_reducible apply wf); focus exact rfl) | ((first | (with_reducible apply SW_run tt_ok hG htb) | ((with_reducible apply SW_draw rfl tt_ok hG htb); (focus kernel_rfl); focus simp only [List.range, List.range.loop, List.size_toArray, List.length_cons, List.length_nil, Nat.reduceAdd])); focus ((repeat' (first | (with_reducible first | exact wg | exact wh) | ((with_reducible first | apply wi | apply wj); focus (simp (discharger := omega) only [go_sem, tErr0, simprocAttr]; with_reducible rfl)))); done)))
        obtain ⟨n', h1, h2⟩ := hstep _ rfl
        exact ⟨n', _, h1, Norm.headS (own := []) (keep := [3, 1, 2, 9, 11]) (by refine ⟨?_, ?_⟩; (simp (discharger := omega) only [go_sem, simprocAttr]; with_reducible rfl); refine ⟨?_, ?_, ?_, ?_⟩ <;> (simp only [go_sem, simprocAttr]; with_reducible rfl)), h2⟩
      | succ k =>
        obtain ⟨v, hv⟩ : ∃ v, L[k]! = v := ⟨_, rfl⟩
        have c7 := ahead_snd hG v u
        rw [hah k v u (bang_get hv (by omega)) (bang_get hu hlt)] at c7
        have hk1 : (((k + 1 : Nat)) : Int) - 1 = ((k : Nat) : Int) := by omega
        have htb := Tab.cons c7 Tab.nil
        repeat' (first | (with_reducible first | apply w1 | apply w2 | apply w3 | apply w4 | apply w5 | apply w6 | apply w7 | apply w8 | apply w9 | apply wa | apply wb | apply wc) | ((with_reducible apply wd); focus decide) | ((with_reducible apply we); focus exact rfl) | ((with_reducible apply wf); focus exact rfl) | ((first | (with_reducible apply SW_run tt_ok hG htb) | ((with_reducible apply SW_draw rfl tt_ok hG htb); (focus kernel_rfl); focus simp only [List.range, List.range.loop, List.size_toArray, List.length_cons, List.length_nil, Nat.reduceAdd])); focus ((repeat' (first | (with_reducible first | exact wg | exact wh) | ((with_reducible first | apply wi | apply wj); focus (simp (discharger := omega) only [go_sem, tErr0, hu, hv, hk1, simprocAttr]; with_reducible rfl)))); done)))
        obtain ⟨n', h1, h2⟩ := hstep _ rfl
        exact ⟨n', _, h1, Norm.headS (own := []) (keep := [3, 1, 2, 9, 11]) (by refine ⟨?_, ?_⟩; (simp (discharger := omega) only [go_sem, simprocAttr]; with_reducible rfl); refine ⟨?_, ?_, ?_, ?_⟩ <;> (simp only [go_sem, simprocAttr]; with_reducible rfl)), h2⟩
    · obtain ⟨x, hx⟩ : ∃ x, u[0]! = x := ⟨_, rfl⟩
      have hx0 : ¬ x = 0 := by
        cases u with
        | nil => simp at hul
        | cons y t =>
          obtain rfl : y = x := hx
          simpa [cleanW] using e3
      repeat' (first | (with_reducible first | apply w1 | apply w2 | apply w3 | apply w4 | apply w5 | apply w6 | apply w7 | apply w8 | apply w9 | apply wa | apply wb | apply wc) | ((with_reducible apply wd); focus decide) | ((with_reducible apply we); focus exact rfl) | ((with_reducible apply wf); focus exact rfl) | ((first | (with_reducible apply SW_run tt_ok hG htb) | ((with_reducible apply SW_draw rfl tt_ok hG htb); (focus kernel_rfl); focus simp only [List.range, List.range.loop, List.size_toArray, List.length_cons, List.length_nil, Nat.reduceAdd])); focus ((repeat' (first | (with_reducible first | exact wg | exact wh) | ((with_reducible first | apply wi | apply wj); focus (simp (discharger := omega) only [go_sem, tErr0, tAuto, hu, hx, hx0, simprocAttr]; with_reducible rfl)))); done)))
      clear htb
      cases i with
      | zero =>
        have htb := htb0
        repeat' (first | (with_reducible first | apply w1 | apply w2 | apply w3 | apply w4 | apply w5 | apply w6 | apply w7 | apply w8 | apply w9 | apply wa | apply wb | apply wc) | ((with_reducible apply wd); focus decide) | ((with_reducible apply we); focus exact rfl) | ((with_reducible apply wf); focus exact rfl) | ((first | (with_reducible apply SW_run tt_ok hG htb) | ((with_reducible apply SW_draw rfl tt_ok hG htb); (focus kernel_rfl); focus simp only [List.range, List.range.loop, List.size_toArray, List.length_cons, List.length_nil, Nat.reduceAdd])); focus ((repeat' (first | (with_reducible first | exact wg | exact wh) | ((with_reducible first | apply wi | apply wj); focus (simp (discharger := omega) only [go_sem, tErr0, simprocAttr]; with_reducible rfl)))); done)))
        obtain ⟨n', h1, h2⟩ := hstep _ rfl
        exact ⟨n', _, h1, Norm.headS (own := []) (keep := [3, 1, 2, 9, 11]) (by refine ⟨?_, ?_⟩; (simp (discharger := omega) only [go_sem, simprocAttr]; with_reducible rfl); refine ⟨?_, ?_, ?_, ?_⟩ <;> (simp only [go_sem, simprocAttr]; with_reducible rfl)), h2⟩
      | succ k =>
        obtain ⟨v, hv⟩ : ∃ v, L[k]! = v := ⟨_, rfl⟩
        have c7 := ahead_snd hG v u
        rw [hah k v u (bang_get hv (by omega)) (bang_get hu hlt)] at c7
        have hk1 : (((k + 1 : Nat)) : Int) - 1 = ((k : Nat) : Int) := by omega
        have htb := Tab.cons c7 Tab.nil
        repeat' (first | (with_reducible first | apply w1 | apply w2 | apply w3 | apply w4 | apply w5 | apply w6 | apply w7 | apply w8 | apply w9 | apply wa | apply wb | apply wc) | ((with_reducible apply wd); focus decide) | ((with_reducible apply we); focus exact rfl) | ((with_reducible apply wf); focus exact rfl) | ((first | (with_reducible apply SW_run tt_ok hG htb) | ((with_reducible apply SW_draw rfl tt_ok hG htb); (focus kernel_rfl); focus simp only [List.range, List.range.loop, List.size_toArray, List.length_cons, List.length_nil, Nat.reduceAdd])); focus ((repeat' (first | (with_reducible first | exact wg | exact wh) | ((with_reducible first | apply wi | apply wj); focus (simp (discharger := omega) only [go_sem, tErr0, hu, hv, hk1, simprocAttr]; with_reducible rfl)))); done)))
        obtain ⟨n', h1, h2⟩ := hstep _ rfl
        exact ⟨n', _, h1, Norm.headS (own := []) (keep := [3, 1, 2, 9, 11]) (by refine ⟨?_, ?_⟩; (simp (discharger := omega) only [go_sem, simprocAttr]; with_reducible rfl); refine ⟨?_, ?_, ?_, ?_⟩ <;> (simp only [go_sem, simprocAttr]; with_reducible rfl)), h2⟩
  obtain rfl : i = L.length := by omega
  have htb := Tab.cons c5 Tab.nil
  by_cases hr : runErr a w = 0
  rotate_left
  · generalize runErr a w = e at *
    generalize takesOf a w = b at *
    repeat' (first | (with_reducible first | apply w1 | apply w2 | apply w3 | apply w4 | apply w5 | apply w6 | apply w7 | apply w8 | apply w9 | apply wa | apply wb | apply wc) | ((with_reducible apply wd); focus decide) | ((with_reducible apply we); focus exact rfl) | ((with_reducible apply wf); focus exact rfl) | ((first | (with_reducible apply SW_run tt_ok hG htb) | ((with_reducible apply SW_draw rfl tt_ok hG htb); (focus kernel_rfl); focus simp only [List.range, List.range.loop, List.size_toArray, List.length_cons, List.length_nil, Nat.reduceAdd])); focus ((repeat' (first | (with_reducible first | exact wg | exact wh) | ((with_reducible first | apply wi | apply wj); focus (simp (discharger := omega) only [go_sem, tErr, tAuto, hr, simprocAttr]; with_reducible rfl)))); done)))
    exact (by simp (discharger := omega) only [go_sem, hle, simprocAttr])
  rw [hr] at htb
  cases htk : takesOf a w with
  | false =>
    rw [htk] at htb
    repeat' (first | (with_reducible first | apply w1 | apply w2 | apply w3 | apply w4 | apply w5 | apply w6 | apply w7 | apply w8 | apply w9 | apply wa | apply wb | apply wc) | ((with_reducible apply wd); focus decide) | ((with_reducible apply we); focus exact rfl) | ((with_reducible apply wf); focus exact rfl) | ((first | (with_reducible apply SW_run tt_ok hG htb) | ((with_reducible apply SW_draw rfl tt_ok hG htb); (focus kernel_rfl); focus simp only [List.range, List.range.loop, List.size_toArray, List.length_cons, List.length_nil, Nat.reduceAdd])); focus ((repeat' (first | (with_reducible first | exact wg | exact wh) | ((with_reducible first | apply wi | apply wj); focus (simp (discharger := omega) only [go_sem, tErr0, tAuto, simprocAttr]; with_reducible rfl)))); done)))
    exact (by simp (discharger := omega) only [go_sem, hle, simprocAttr])
  | true =>
    rw [htk] at htb
    have hall2 := hall hr htk
    clear hall hmem hah c5
    by_cases hwl : w.length = 0
    · have hcl : cleanW w = true := by
        cases w with
        | nil => rfl
        | cons y t => simp at hwl
      by_cases hlm : ((L.length : Nat) : Int) = most
      · have hlm2 := eq_true hlm
        by_cases hm0 : most = 0
        · repeat' (first | (with_reducible first | apply w1 | apply w2 | apply w3 | apply w4 | apply w5 | apply w6 | apply w7 | apply w8 | apply w9 | apply wa | apply wb | apply wc) | ((with_reducible apply wd); focus decide) | ((with_reducible apply we); focus exact rfl) | ((with_reducible apply wf); focus exact rfl) | ((first | (with_reducible apply SW_run tt_ok hG htb) | ((with_reducible apply SW_draw rfl tt_ok hG htb); (focus kernel_rfl); focus simp only [List.range, List.range.loop, List.size_toArray, List.length_cons, List.length_nil, Nat.reduceAdd])); focus ((repeat' (first | (with_reducible first | exact wg | exact wh) | ((with_reducible first | apply wi | apply wj); focus (simp (discharger := omega) only [go_sem, tErr0, tAuto, hlm2, hm0, simprocAttr]; with_reducible rfl)))); done)))
          exact (by simp (discharger := omega) only [go_sem, simprocAttr])
        · obtain ⟨v, hv⟩ : ∃ v, L[(most - 1).toNat]! = v := ⟨_, rfl⟩
          have c9 := ahead_snd hG v w
          cases hvw : aheadB v w with
          | true =>
            rw [hvw] at c9
            repeat' (first | (with_reducible first | apply w1 | apply w2 | apply w3 | apply w4 | apply w5 | apply w6 | apply w7 | apply w8 | apply w9 | apply wa | apply wb | apply wc) | ((with_reducible apply wd); focus decide) | ((with_reducible apply we); focus exact rfl) | ((with_reducible apply wf); focus exact rfl) | ((first | (with_reducible apply SW_run tt_ok hG htb) | ((with_reducible apply SW_draw rfl tt_ok hG htb); (focus kernel_rfl); focus simp only [List.range, List.range.loop, List.size_toArray, List.length_cons, List.length_nil, Nat.reduceAdd])); focus ((repeat' (first | (with_reducible first | exact wg | exact wh) | ((with_reducible first | apply wi | apply wj); focus (simp (discharger := omega) only [go_sem, tErr0, tAuto, hlm2, hm0, simprocAttr]; with_reducible rfl)))); done)))
            clear htb
            have htb := Tab.cons c9 Tab.nil
            repeat' (first | (with_reducible first | apply w1 | apply w2 | apply w3 | apply w4 | apply w5 | apply w6 | apply w7 | apply w8 | apply w9 | apply wa | apply wb | apply wc) | ((with_reducible apply wd); focus decide) | ((with_reducible apply we); focus exact rfl) | ((with_reducible apply wf); focus exact rfl) | ((first | (with_reducible apply SW_run tt_ok hG htb) | ((with_reducible apply SW_draw rfl tt_ok hG htb); (focus kernel_rfl); focus simp only [List.range, List.range.loop, List.size_toArray, List.length_cons, List.length_nil, Nat.reduceAdd])); focus ((repeat' (first | (with_reducible first | exact wg | exact wh) | ((with_reducible first | apply wi | apply wj); focus (simp (discharger := omega) only [go_sem, tErr0, tAuto, hlm2, hm0, hv, simprocAttr]; with_reducible rfl)))); done)))
            exact (by simp (discharger := omega) only [go_sem, simprocAttr])
          | false =>
            rw [hvw] at c9
            repeat' (first | (with_reducible first | apply w1 | apply w2 | apply w3 | apply w4 | apply w5 | apply w6 | apply w7 | apply w8 | apply w9 | apply wa | apply wb | apply wc) | ((with_reducible apply wd); focus decide) | ((with_reducible apply we); focus exact rfl) | ((with_reducible apply wf); focus exact rfl) | ((first | (with_reducible apply SW_run tt_ok hG htb) | ((with_reducible apply SW_draw rfl tt_ok hG htb); (focus kernel_rfl); focus simp only [List.range, List.range.loop, List.size_toArray, List.length_cons, List.length_nil, Nat.reduceAdd])); focus ((repeat' (first | (with_reducible first | exact wg | exact wh) | ((with_reducible first | apply wi | apply wj); focus (simp (discharger := omega) only [go_sem, tErr0, tAuto, hlm2, hm0, simprocAttr]; with_reducible rfl)))); done)))
            clear htb
            have htb := Tab.cons c9 Tab.nil
            repeat' (first | (with_reducible first | apply w1 | apply w2 | apply w3 | apply w4 | apply w5 | apply w6 | apply w7 | apply w8 | apply w9 | apply wa | apply wb | apply wc) | ((with_reducible apply wd); focus decide) | ((with_reducible apply we); focus exact rfl) | ((with_reducible apply wf); focus exact rfl) | ((first | (with_reducible apply SW_run tt_ok hG htb) | ((with_reducible apply SW_draw rfl tt_ok hG htb); (focus kernel_rfl); focus simp only [List.range, List.range.loop, List.size_toArray, List.length_cons, List.length_nil, Nat.reduceAdd])); focus ((repeat' (first | (with_reducible first | exact wg | exact wh) | ((with_reducible first | apply wi | apply wj); focus (simp (discharger := omega) only [go_sem, tErr0, tAuto, hlm2, hm0, hv, simprocAttr]; with_reducible rfl)))); done)))
            clear htb
            have htb := htb0
            repeat' (first | (with_reducible first | apply w1 | apply w2 | apply w3 | apply w4 | apply w5 | apply w6 | apply w7 | apply w8 | apply w9 | apply wa | apply wb | apply wc) | ((with_reducible apply wd); focus decide) | ((with_reducible apply we); focus exact rfl) | ((with_reducible apply wf); focus exact rfl) | ((first | (with_reducible apply SW_run tt_ok hG htb) | ((with_reducible apply SW_draw rfl tt_ok hG htb); (focus kernel_rfl); focus simp only [List.range, List.range.loop, List.size_toArray, List.length_cons, List.length_nil, Nat.reduceAdd])); focus ((repeat' (first | (with_reducible first | exact wg | exact wh) | ((with_reducible first | apply wi | apply wj); focus (simp (discharger := omega) only [go_sem, tErr0, simprocAttr]; with_reducible rfl)))); done)))
            have hw := hall2 hcl fun _ => ⟨hm0, by rw [hv]; exact hvw⟩
            refine SW_loop (fun mm st => ∃ i : Nat, mm = L.length - i ∧ st = ⟨169, [(2, .t (tInts w)), (9, .t (tIntss L)), (16, .t (tNat i))], []⟩ ∧ i ≤ L.length ∧ ∀ j : Nat, j < i → L[j]? ≠ some w) L.length
              ⟨_, Norm.headS (own := []) (keep := [2, 9, 16]) (by refine ⟨?_, ?_⟩; (simp (discharger := omega) only [go_sem, simprocAttr]; with_reducible rfl); refine ⟨?_, ?_, ?_, ?_⟩ <;> (simp only [go_sem, simprocAttr]; with_reducible rfl)), 0, rfl, rfl, Nat.zero_le _, fun j hj => by omega⟩ ?_
            rintro mm st ⟨i, rfl, rfl, hi, hno⟩
            by_cases hlt : i < L.length
            · obtain ⟨u, hu⟩ : ∃ u, L[i]! = u := ⟨_, rfl⟩
              have hug := bang_get hu hlt
              have c8 := SInts_snd hG u w
              by_cases huw : u = w
              · rw [show decide (u = w) = true from decide_eq_true huw] at c8
                have htb := Tab.cons c8 Tab.nil
                repeat' (first | (with_reducible first | apply w1 | apply w2 | apply w3 | apply w4 | apply w5 | apply w6 | apply w7 | apply w8 | apply w9 | apply wa | apply wb | apply wc) | ((with_reducible apply wd); focus decide) | ((with_reducible apply we); focus exact rfl) | ((with_reducible apply wf); focus exact rfl) | ((first | (with_reducible apply SW_run tt_ok hG htb) | ((with_reducible apply SW_draw rfl tt_ok hG htb); (focus kernel_rfl); focus simp only [List.range, List.range.loop, List.size_toArray, List.length_cons, List.length_nil, Nat.reduceAdd])); focus ((repeat' (first | (with_reducible first | exact wg | exact wh) | ((with_reducible first | apply wi | apply wj); focus (simp (discharger := omega) only [go_sem, hu, simprocAttr]; with_reducible rfl)))); done)))
                exact (by simp (discharger := omega) only [go_sem, simprocAttr])
              · rw [show decide (u = w) = false from decide_eq_false huw] at c8
                have htb := Tab.cons c8 Tab.nil
                repeat' (first | (with_reducible first | apply w1 | apply w2 | apply w3 | apply w4 | apply w5 | apply w6 | apply w7 | apply w8 | apply w9 | apply wa | apply wb | apply wc) | ((with_reducible apply wd); focus decide) | ((with_reducible apply we); focus exact rfl) | ((with_reducible apply wf); focus exact rfl) | ((first | (with_reducible apply SW_run tt_ok hG htb) | ((with_reducible apply SW_draw rfl tt_ok hG htb); (focus kernel_rfl); focus simp only [List.range, List.range.loop, List.size_toArray, List.length_cons, List.length_nil, Nat.reduceAdd])); focus ((repeat' (first | (with_reducible first | exact wg | exact wh) | ((with_reducible first | apply wi | apply wj); focus (simp (discharger := omega) only [go_sem, hu, simprocAttr]; with_reducible rfl)))); done)))
                exact ⟨L.length - (i + 1), _, by omega, Norm.headS (own := []) (keep := [2, 9, 16]) (by refine ⟨?_, ?_⟩; (simp (discharger := omega) only [go_sem, simprocAttr]; with_reducible rfl); refine ⟨?_, ?_, ?_, ?_⟩ <;> (simp only [go_sem, simprocAttr]; with_reducible rfl)), i + 1, rfl, rfl, by omega, fun j hj => by
                  by_cases hji : j = i
                  · subst hji
                    rw [hug]
                    exact fun q => huw (by simpa using q)
                  · exact hno j (by omega)⟩
            · exfalso
              obtain ⟨j, hj⟩ := List.mem_iff_getElem?.1 hw
              exact hno j (by have := (List.getElem?_eq_some_iff.1 hj).1; omega) hj
      · repeat' (first | (with_reducible first | apply w1 | apply w2 | apply w3 | apply w4 | apply w5 | apply w6 | apply w7 | apply w8 | apply w9 | apply wa | apply wb | apply wc) | ((with_reducible apply wd); focus decide) | ((with_reducible apply we); focus exact rfl) | ((with_reducible apply wf); focus exact rfl) | ((first | (with_reducible apply SW_run tt_ok hG htb) | ((with_reducible apply SW_draw rfl tt_ok hG htb); (focus kernel_rfl); focus simp only [List.range, List.range.loop, List.size_toArray, List.length_cons, List.length_nil, Nat.reduceAdd])); focus ((repeat' (first | (with_reducible first | exact wg | exact wh) | ((with_reducible first | apply wi | apply wj); focus (simp (discharger := omega) only [go_sem, tErr0, tAuto, hlm, simprocAttr]; with_reducible rfl)))); done)))
        clear htb
        have htb := htb0
        repeat' (first | (with_reducible first | apply w1 | apply w2 | apply w3 | apply w4 | apply w5 | apply w6 | apply w7 | apply w8 | apply w9 | apply wa | apply wb | apply wc) | ((with_reducible apply wd); focus decide) | ((with_reducible apply we); focus exact rfl) | ((with_reducible apply wf); focus exact rfl) | ((first | (with_reducible apply SW_run tt_ok hG htb) | ((with_reducible apply SW_draw rfl tt_ok hG htb); (focus kernel_rfl); focus simp only [List.range, List.range.loop, List.size_toArray, List.length_cons, List.length_nil, Nat.reduceAdd])); focus ((repeat' (first | (with_reducible first | exact wg | exact wh) | ((with_reducible first | apply wi | apply wj); focus (simp (discharger := omega) only [go_sem, tErr0, simprocAttr]; with_reducible rfl)))); done)))
        have hw := hall2 hcl fun q => (hlm q).elim
        refine SW_loop (fun mm st => ∃ i : Nat, mm = L.length - i ∧ st = ⟨169, [(2, .t (tInts w)), (9, .t (tIntss L)), (16, .t (tNat i))], []⟩ ∧ i ≤ L.length ∧ ∀ j : Nat, j < i → L[j]? ≠ some w) L.length
          ⟨_, Norm.headS (own := []) (keep := [2, 9, 16]) (by refine ⟨?_, ?_⟩; (simp (discharger := omega) only [go_sem, simprocAttr]; with_reducible rfl); refine ⟨?_, ?_, ?_, ?_⟩ <;> (simp only [go_sem, simprocAttr]; with_reducible rfl)), 0, rfl, rfl, Nat.zero_le _, fun j hj => by omega⟩ ?_
        rintro mm st ⟨i, rfl, rfl, hi, hno⟩
        by_cases hlt : i < L.length
        · obtain ⟨u, hu⟩ : ∃ u, L[i]! = u := ⟨_, rfl⟩
          have hug := bang_get hu hlt
          have c8 := SInts_snd hG u w
          by_cases huw : u = w
          · rw [show decide (u = w) = true from decide_eq_true huw] at c8
            have htb := Tab.cons c8 Tab.nil
            repeat' (first | (with_reducible first | apply w1 | apply w2 | apply w3 | apply w4 | apply w5 | apply w6 | apply w7 | apply w8 | apply w9 | apply wa | apply wb | apply wc) | ((with_reducible apply wd); focus decide) | ((with_reducible apply we); focus exact rfl) | ((with_reducible apply wf); focus exact rfl) | ((first | (with_reducible apply SW_run tt_ok hG htb) | ((with_reducible apply SW_draw rfl tt_ok hG htb); (focus kernel_rfl); focus simp only [List.range, List.range.loop, List.size_toArray, List.length_cons, List.length_nil, Nat.reduceAdd])); focus ((repeat' (first | (with_reducible first | exact wg | exact wh) | ((with_reducible first | apply wi | apply wj); focus (simp (discharger := omega) only [go_sem, hu, simprocAttr]; with_reducible rfl)))); done)))
            exact (by simp (discharger := omega) only [go_sem, simprocAttr])
          · rw [show decide (u = w) = false from decide_eq_false huw] at c8
            have htb := Tab.cons c8 Tab.nil
            repeat' (first | (with_reducible first | apply w1 | apply w2 | apply w3 | apply w4 | apply w5 | apply w6 | apply w7 | apply w8 | apply w9 | apply wa | apply wb | apply wc) | ((with_reducible apply wd); focus decide) | ((with_reducible apply we); focus exact rfl) | ((with_reducible apply wf); focus exact rfl) | ((first | (with_reducible apply SW_run tt_ok hG htb) | ((with_reducible apply SW_draw rfl tt_ok hG htb); (focus kernel_rfl); focus simp only [List.range, List.range.loop, List.size_toArray, List.length_cons, List.length_nil, Nat.reduceAdd])); focus ((repeat' (first | (with_reducible first | exact wg | exact wh) | ((with_reducible first | apply wi | apply wj); focus (simp (discharger := omega) only [go_sem, hu, simprocAttr]; with_reducible rfl)))); done)))
            exact ⟨L.length - (i + 1), _, by omega, Norm.headS (own := []) (keep := [2, 9, 16]) (by refine ⟨?_, ?_⟩; (simp (discharger := omega) only [go_sem, simprocAttr]; with_reducible rfl); refine ⟨?_, ?_, ?_, ?_⟩ <;> (simp only [go_sem, simprocAttr]; with_reducible rfl)), i + 1, rfl, rfl, by omega, fun j hj => by
              by_cases hji : j = i
              · subst hji
                rw [hug]
                exact fun q => huw (by simpa using q)
              · exact hno j (by omega)⟩
        · exfalso
          obtain ⟨j, hj⟩ := List.mem_iff_getElem?.1 hw
          exact hno j (by have := (List.getElem?_eq_some_iff.1 hj).1; omega) hj
    obtain ⟨x, hx⟩ : ∃ x, w[0]! = x := ⟨_, rfl⟩
    by_cases hx0 : x = 0
    · repeat' (first | (with_reducible first | apply w1 | apply w2 | apply w3 | apply w4 | apply w5 | apply w6 | apply w7 | apply w8 | apply w9 | apply wa | apply wb | apply wc) | ((with_reducible apply wd); focus decide) | ((with_reducible apply we); focus exact rfl) | ((with_reducible apply wf); focus exact rfl) | ((first | (with_reducible apply SW_run tt_ok hG htb) | ((with_reducible apply SW_draw rfl tt_ok hG htb); (focus kernel_rfl); focus simp only [List.range, List.range.loop, List.size_toArray, List.length_cons, List.length_nil, Nat.reduceAdd])); focus ((repeat' (first | (with_reducible first | exact wg | exact wh) | ((with_reducible first | apply wi | apply wj); focus (simp (discharger := omega) only [go_sem, tErr0, tAuto, hx, hx0, simprocAttr]; with_reducible rfl)))); done)))
      exact (by simp (discharger := omega) only [go_sem, hle, simprocAttr])
    have hcl : cleanW w = true := by
      cases w with
      | nil => rfl
      | cons y t =>
        obtain rfl : y = x := hx
        simpa [cleanW] using hx0
    by_cases hlm : ((L.length : Nat) : Int) = most
    · have hlm2 := eq_true hlm
      by_cases hm0 : most = 0
      · repeat' (first | (with_reducible first | apply w1 | apply w2 | apply w3 | apply w4 | apply w5 | apply w6 | apply w7 | apply w8 | apply w9 | apply wa | apply wb | apply wc) | ((with_reducible apply wd); focus decide) | ((with_reducible apply we); focus exact rfl) | ((with_reducible apply wf); focus exact rfl) | ((first | (with_reducible apply SW_run tt_ok hG htb) | ((with_reducible apply SW_draw rfl tt_ok hG htb); (focus kernel_rfl); focus simp only [List.range, List.range.loop, List.size_toArray, List.length_cons, List.length_nil, Nat.reduceAdd])); focus ((repeat' (first | (with_reducible first | exact wg | exact wh) | ((with_reducible first | apply wi | apply wj); focus (simp (discharger := omega) only [go_sem, tErr0, tAuto, hx, hx0, hlm2, hm0, simprocAttr]; with_reducible rfl)))); done)))
        exact (by simp (discharger := omega) only [go_sem, simprocAttr])
      · obtain ⟨v, hv⟩ : ∃ v, L[(most - 1).toNat]! = v := ⟨_, rfl⟩
        have c9 := ahead_snd hG v w
        cases hvw : aheadB v w with
        | true =>
          rw [hvw] at c9
          repeat' (first | (with_reducible first | apply w1 | apply w2 | apply w3 | apply w4 | apply w5 | apply w6 | apply w7 | apply w8 | apply w9 | apply wa | apply wb | apply wc) | ((with_reducible apply wd); focus decide) | ((with_reducible apply we); focus exact rfl) | ((with_reducible apply wf); focus exact rfl) | ((first | (with_reducible apply SW_run tt_ok hG htb) | ((with_reducible apply SW_draw rfl tt_ok hG htb); (focus kernel_rfl); focus simp only [List.range, List.range.loop, List.size_toArray, List.length_cons, List.length_nil, Nat.reduceAdd])); focus ((repeat' (first | (with_reducible first | exact wg | exact wh) | ((with_reducible first | apply wi | apply wj); focus (simp (discharger := omega) only [go_sem, tErr0, tAuto, hx, hx0, hlm2, hm0, simprocAttr]; with_reducible rfl)))); done)))
          clear htb
          have htb := Tab.cons c9 Tab.nil
          repeat' (first | (with_reducible first | apply w1 | apply w2 | apply w3 | apply w4 | apply w5 | apply w6 | apply w7 | apply w8 | apply w9 | apply wa | apply wb | apply wc) | ((with_reducible apply wd); focus decide) | ((with_reducible apply we); focus exact rfl) | ((with_reducible apply wf); focus exact rfl) | ((first | (with_reducible apply SW_run tt_ok hG htb) | ((with_reducible apply SW_draw rfl tt_ok hG htb); (focus kernel_rfl); focus simp only [List.range, List.range.loop, List.size_toArray, List.length_cons, List.length_nil, Nat.reduceAdd])); focus ((repeat' (first | (with_reducible first | exact wg | exact wh) | ((with_reducible first | apply wi | apply wj); focus (simp (discharger := omega) only [go_sem, tErr0, tAuto, hx, hx0, hlm2, hm0, hv, simprocAttr]; with_reducible rfl)))); done)))
          exact (by simp (discharger := omega) only [go_sem, simprocAttr])
        | false =>
          rw [hvw] at c9
          repeat' (first | (with_reducible first | apply w1 | apply w2 | apply w3 | apply w4 | apply w5 | apply w6 | apply w7 | apply w8 | apply w9 | apply wa | apply wb | apply wc) | ((with_reducible apply wd); focus decide) | ((with_reducible apply we); focus exact rfl) | ((with_reducible apply wf); focus exact rfl) | ((first | (with_reducible apply SW_run tt_ok hG htb) | ((with_reducible apply SW_draw rfl tt_ok hG htb); (focus kernel_rfl); focus simp only [List.range, List.range.loop, List.size_toArray, List.length_cons, List.length_nil, Nat.reduceAdd])); focus ((repeat' (first | (with_reducible first | exact wg | exact wh) | ((with_reducible first | apply wi | apply wj); focus (simp (discharger := omega) only [go_sem, tErr0, tAuto, hx, hx0, hlm2, hm0, simprocAttr]; with_reducible rfl)))); done)))
          clear htb
          have htb := Tab.cons c9 Tab.nil
          repeat' (first | (with_reducible first | apply w1 | apply w2 | apply w3 | apply w4 | apply w5 | apply w6 | apply w7 | apply w8 | apply w9 | apply wa | apply wb | apply wc) | ((with_reducible apply wd); focus decide) | ((with_reducible apply we); focus exact rfl) | ((with_reducible apply wf); focus exact rfl) | ((first | (with_reducible apply SW_run tt_ok hG htb) | ((with_reducible apply SW_draw rfl tt_ok hG htb); (focus kernel_rfl); focus simp only [List.range, List.range.loop, List.size_toArray, List.length_cons, List.length_nil, Nat.reduceAdd])); focus ((repeat' (first | (with_reducible first | exact wg | exact wh) | ((with_reducible first | apply wi | apply wj); focus (simp (discharger := omega) only [go_sem, tErr0, tAuto, hx, hx0, hlm2, hm0, hv, simprocAttr]; with_reducible rfl)))); done)))
          clear htb
          have htb := htb0
          repeat' (first | (with_reducible first | apply w1 | apply w2 | apply w3 | apply w4 | apply w5 | apply w6 | apply w7 | apply w8 | apply w9 | apply wa | apply wb | apply wc) | ((with_reducible apply wd); focus decide) | ((with_reducible apply we); focus exact rfl) | ((with_reducible apply wf); focus exact rfl) | ((first | (with_reducible apply SW_run tt_ok hG htb) | ((with_reducible apply SW_draw rfl tt_ok hG htb); (focus kernel_rfl); focus simp only [List.range, List.range.loop, List.size_toArray, List.length_cons, List.length_nil, Nat.reduceAdd])); focus ((repeat' (first | (with_reducible first | exact wg | exact wh) | ((with_reducible first | apply wi | apply wj); focus (simp (discharger := omega) only [go_sem, tErr0, simprocAttr]; with_reducible rfl)))); done)))
          have hw := hall2 hcl fun _ => ⟨hm0, by rw [hv]; exact hvw⟩
          refine SW_loop (fun mm st => ∃ i : Nat, mm = L.length - i ∧ st = ⟨169, [(2, .t (tInts w)), (9, .t (tIntss L)), (16, .t (tNat i))], []⟩ ∧ i ≤ L.length ∧ ∀ j : Nat, j < i → L[j]? ≠ some w) L.length
            ⟨_, Norm.headS (own := []) (keep := [2, 9, 16]) (by refine ⟨?_, ?_⟩; (simp (discharger := omega) only [go_sem, simprocAttr]; with_reducible rfl); refine ⟨?_, ?_, ?_, ?_⟩ <;> (simp only [go_sem, simprocAttr]; with_reducible rfl)), 0, rfl, rfl, Nat.zero_le _, fun j hj => by omega⟩ ?_
          rintro mm st ⟨i, rfl, rfl, hi, hno⟩
          by_cases hlt : i < L.length
          · obtain ⟨u, hu⟩ : ∃ u, L[i]! = u := ⟨_, rfl⟩
            have hug := bang_get hu hlt
            have c8 := SInts_snd hG u w
            by_cases huw : u = w
            · rw [show decide (u = w) = true from decide_eq_true huw] at c8
              have htb := Tab.cons c8 Tab.nil
              repeat' (first | (with_reducible first | apply w1 | apply w2 | apply w3 | apply w4 | apply w5 | apply w6 | apply w7 | apply w8 | apply w9 | apply wa | apply wb | apply wc) | ((with_reducible apply wd); focus decide) | ((with_reducible apply we); focus exact rfl) | ((with_reducible apply wf); focus exact rfl) | ((first | (with_reducible apply SW_run tt_ok hG htb) | ((with_reducible apply SW_draw rfl tt_ok hG htb); (focus kernel_rfl); focus simp only [List.range, List.range.loop, List.size_toArray, List.length_cons, List.length_nil, Nat.reduceAdd])); focus ((repeat' (first | (with_reducible first | exact wg | exact wh) | ((with_reducible first | apply wi | apply wj); focus (simp (discharger := omega) only [go_sem, hu, simprocAttr]; with_reducible rfl)))); done)))
              exact (by simp (discharger := omega) only [go_sem, simprocAttr])
            · rw [show decide (u = w) = false from decide_eq_false huw] at c8
              have htb := Tab.cons c8 Tab.nil
              repeat' (first | (with_reducible first | apply w1 | apply w2 | apply w3 | apply w4 | apply w5 | apply w6 | apply w7 | apply w8 | apply w9 | apply wa | apply wb | apply wc) | ((with_reducible apply wd); focus decide) | ((with_reducible apply we); focus exact rfl) | ((with_reducible apply wf); focus exact rfl) | ((first | (with_reducible apply SW_run tt_ok hG htb) | ((with_reducible apply SW_draw rfl tt_ok hG htb); (focus kernel_rfl); focus simp only [List.range, List.range.loop, List.size_toArray, List.length_cons, List.length_nil, Nat.reduceAdd])); focus ((repeat' (first | (with_reducible first | exact wg | exact wh) | ((with_reducible first | apply wi | apply wj); focus (simp (discharger := omega) only [go_sem, hu, simprocAttr]; with_reducible rfl)))); done)))
              exact ⟨L.length - (i + 1), _, by omega, Norm.headS (own := []) (keep := [2, 9, 16]) (by refine ⟨?_, ?_⟩; (simp (discharger := omega) only [go_sem, simprocAttr]; with_reducible rfl); refine ⟨?_, ?_, ?_, ?_⟩ <;> (simp only [go_sem, simprocAttr]; with_reducible rfl)), i + 1, rfl, rfl, by omega, fun j hj => by
                by_cases hji : j = i
                · subst hji
                  rw [hug]
                  exact fun q => huw (by simpa using q)
                · exact hno j (by omega)⟩
          · exfalso
            obtain ⟨j, hj⟩ := List.mem_iff_getElem?.1 hw
            exact hno j (by have := (List.getElem?_eq_some_iff.1 hj).1; omega) hj
    · repeat' (first | (with_reducible first | apply w1 | apply w2 | apply w3 | apply w4 | apply w5 | apply w6 | apply w7 | apply w8 | apply w9 | apply wa | apply wb | apply wc) | ((with_reducible apply wd); focus decide) | ((with_reducible apply we); focus exact rfl) | ((with_reducible apply wf); focus exact rfl) | ((first | (with_reducible apply SW_run tt_ok hG htb) | ((with_reducible apply SW_draw rfl tt_ok hG htb); (focus kernel_rfl); focus simp only [List.range, List.range.loop, List.size_toArray, List.length_cons, List.length_nil, Nat.reduceAdd])); focus ((repeat' (first | (with_reducible first | exact wg | exact wh) | ((with_reducible first | apply wi | apply wj); focus (simp (discharger := omega) only [go_sem, tErr0, tAuto, hx, hx0, hlm, simprocAttr]; with_reducible rfl)))); done)))
      clear htb
      have htb := htb0
      repeat' (first | (with_reducible first | apply w1 | apply w2 | apply w3 | apply w4 | apply w5 | apply w6 | apply w7 | apply w8 | apply w9 | apply wa | apply wb | apply wc) | ((with_reducible apply wd); focus decide) | ((with_reducible apply we); focus exact rfl) | ((with_reducible apply wf); focus exact rfl) | ((first | (with_reducible apply SW_run tt_ok hG htb) | ((with_reducible apply SW_draw rfl tt_ok hG htb); (focus kernel_rfl); focus simp only [List.range, List.range.loop, List.size_toArray, List.length_cons, List.length_nil, Nat.reduceAdd])); focus ((repeat' (first | (with_reducible first | exact wg | exact wh) | ((with_reducible first | apply wi | apply wj); focus (simp (discharger := omega) only [go_sem, tErr0, simprocAttr]; with_reducible rfl)))); done)))
      have hw := hall2 hcl fun q => (hlm q).elim
      refine SW_loop (fun mm st => ∃ i : Nat, mm = L.length - i ∧ st = ⟨169, [(2, .t (tInts w)), (9, .t (tIntss L)), (16, .t (tNat i))], []⟩ ∧ i ≤ L.length ∧ ∀ j : Nat, j < i → L[j]? ≠ some w) L.length
        ⟨_, Norm.headS (own := []) (keep := [2, 9, 16]) (by refine ⟨?_, ?_⟩; (simp (discharger := omega) only [go_sem, simprocAttr]; with_reducible rfl); refine ⟨?_, ?_, ?_, ?_⟩ <;> (simp only [go_sem, simprocAttr]; with_reducible rfl)), 0, rfl, rfl, Nat.zero_le _, fun j hj => by omega⟩ ?_
      rintro mm st ⟨i, rfl, rfl, hi, hno⟩
      by_cases hlt : i < L.length
      · obtain ⟨u, hu⟩ : ∃ u, L[i]! = u := ⟨_, rfl⟩
        have hug := bang_get hu hlt
        have c8 := SInts_snd hG u w
        by_cases huw : u = w
        · rw [show decide (u = w) = true from decide_eq_true huw] at c8
          have htb := Tab.cons c8 Tab.nil
          repeat' (first | (with_reducible first | apply w1 | apply w2 | apply w3 | apply w4 | apply w5 | apply w6 | apply w7 | apply w8 | apply w9 | apply wa | apply wb | apply wc) | ((with_reducible apply wd); focus decide) | ((with_reducible apply we); focus exact rfl) | ((with_reducible apply wf); focus exact rfl) | ((first | (with_reducible apply SW_run tt_ok hG htb) | ((with_reducible apply SW_draw rfl tt_ok hG htb); (focus kernel_rfl); focus simp only [List.range, List.range.loop, List.size_toArray, List.length_cons, List.length_nil, Nat.reduceAdd])); focus ((repeat' (first | (with_reducible first | exact wg | exact wh) | ((with_reducible first | apply wi | apply wj); focus (simp (discharger := omega) only [go_sem, hu, simprocAttr]; with_reducible rfl)))); done)))
          exact (by simp (discharger := omega) only [go_sem, simprocAttr])
        · rw [show decide (u = w) = false from decide_eq_false huw] at c8
          have htb := Tab.cons c8 Tab.nil
          repeat' (first | (with_reducible first | apply w1 | apply w2 | apply w3 | apply w4 | apply w5 | apply w6 | apply w7 | apply w8 | apply w9 | apply wa | apply wb | apply wc) | ((with_reducible apply wd); focus decide) | ((with_reducible apply we); focus exact rfl) | ((with_reducible apply wf); focus exact rfl) | ((first | (with_reducible apply SW_run tt_ok hG htb) | ((with_reducible apply SW_draw rfl tt_ok hG htb); (focus kernel_rfl); focus simp only [List.range, List.range.loop, List.size_toArray, List.length_cons, List.length_nil, Nat.reduceAdd])); focus ((repeat' (first | (with_reducible first | exact wg | exact wh) | ((with_reducible first | apply wi | apply wj); focus (simp (discharger := omega) only [go_sem, hu, simprocAttr]; with_reducible rfl)))); done)))
          exact ⟨L.length - (i + 1), _, by omega, Norm.headS (own := []) (keep := [2, 9, 16]) (by refine ⟨?_, ?_⟩; (simp (discharger := omega) only [go_sem, simprocAttr]; with_reducible rfl); refine ⟨?_, ?_, ?_, ?_⟩ <;> (simp only [go_sem, simprocAttr]; with_reducible rfl)), i + 1, rfl, rfl, by omega, fun j hj => by
            by_cases hji : j = i
            · subst hji
              rw [hug]
              exact fun q => huw (by simpa using q)
            · exact hno j (by omega)⟩
      · exfalso
        obtain ⟨j, hj⟩ := List.mem_iff_getElem?.1 hw
        exact hno j (by have := (List.getElem?_eq_some_iff.1 hj).1; omega) hj
end
theorem AskFinds_walk (t : Value) (a : GAuto) (most : Int) (u : Value) (l : List Int) (w : World) (h : ReadsAuto w t a) (_ : I64 most) (h' : ReadsInts w u l) : Calls Try.prog 6 #[t, .int .i64 most, u] w (Ret (.bool true) w) :=
  walkN (AskFinds_snd (G := fun _ => True) (fun _ _ _ _ => trivial) a most l) trivial rfl fun k y z p q => by
    match k, p, q with
    | 0, p, q => cases p; cases q; exact h.2
    | 1, p, q => cases p; cases q; exact .int _ _
    | 2, p, q => cases p; cases q; exact h'.2
end Go.Proofs.Ytcaopcpofepniaa
namespace Go.Proofs.Ytcaopcpofepniaa.askFinds
open Go.ChangeShapes Go.WideShapes Go.ChangeAt Go.RowKit

set_option maxRecDepth 100000 in
theorem lifted (os : Os) (started : os.Started) (H : Type) (enc : TypeId × Value → H) :
    ReturnsInHanded {} Try.checked os 6 .any (Rows.askFindsSpec.pre6 enc Try.prog Try.f6 Rows.askFindsRow.domain false) (Rows.askFindsSpec.post enc Try.prog Try.f6 false true false false) := by
  refine returnsInHanded_of_change (C := Try.checked) own started (by kernel_rfl) Try.func6
    (ChangeSpec.witness6 (enc := enc) (C := Try.checked) false ⟨#[], #[.agg #[.int .i64 0, .int .i64 0, .slice none 0 0, .slice none 0 0], .int .i64 0, .slice none 0 0], []⟩ 8 (by kernel_rfl) (by kernel_rfl) (by kernel_rfl) (by kernel_rfl)) ?_
  intro W base args ds gs before hval0 hW hcnd _
  have hval : ∀ (j : Nat) t v, Try.f6.params[j]? = some t → args[j]? = some v → Value.okWide Try.prog W .any base t v := hval0
  have hW' := hW
  obtain ⟨p, q, hA0, hV, rfl, hfz, hnd⟩ := hW
  have hA : DataW.TrodAll enc Try.prog W 0 (fun _ => true) true Try.f6.params.toList args.toList ds p := hA0
  rw [Try.params6] at hA hval
  obtain ⟨v0, vs0, d0, ds0, p0, q0, hargs, rfl, rfl, h0, r0⟩ := trodAll_cons hA
  obtain ⟨v1, vs1, d1, ds1, p1, q1, rfl, rfl, rfl, h1, r1⟩ := trodAll_cons r0
  obtain ⟨v2, vs2, d2, ds2, p2, q2, rfl, rfl, rfl, h2, r2⟩ := trodAll_cons r1
  obtain ⟨rfl, rfl, rfl⟩ := trodAll_nil r2
  obtain rfl : args = #[v0, v1, v2] := by cases args; simp_all
  obtain ⟨rfl, rfl⟩ := trodVars_none hV
  have k0 := h0
  have lt0 : ∀ x ∈ p0, x.block < W.heap.size := by obtain ⟨m, hm⟩ := k0; exact DataW.trod_lt m _ _ _ hm
  obtain ⟨a0, w0⟩ := openAutoT (hval 0 25 v0 rfl rfl) h0
  obtain ⟨a1, rfl, rfl, rfl, w1⟩ := open_int Try.underlying3 (hval 1 3 v1 rfl rfl) h1
  obtain ⟨b2, len2, cap2, rfl⟩ := okWide_slice Try.underlying26 (hval 2 26 v2 rfl rfl)
  have k2 := h2
  have lt2 : ∀ x ∈ p2, x.block < W.heap.size := by obtain ⟨m, hm⟩ := k2; exact DataW.trod_lt m _ _ _ hm
  obtain ⟨a2, w2⟩ := openIntsT rfl h2
  clear hA0 hval0
  refine (AskFinds_walk _ a0 a1 _ a2 W w0 (i64_of_wf w1) w2).mono fun e W' ⟨he, bel⟩ => ?_
  subst he
  exact ⟨_, rfl, _, _, _, [], _, [], hW', trodAll_mk1 (shut_bool Try.underlying4 _), (trodAll_cons_mk (Below.trod laidOut (by kernel_rfl) (of_decide_eq_true (by kernel_rfl)) k0 bel lt0) (trodAll_cons_mk (shut_int Try.underlying3 w1) (trodAll_cons_mk (Below.trod laidOut (by kernel_rfl) (of_decide_eq_true (by kernel_rfl)) k2 bel lt2) trodAll_mk0))), rfl, bel.frame _, fun h => by cases h⟩

theorem over : Rows.askFindsRow.holds Try.pinned (OpenSpec.ofChange Rows.askFindsSpec) :=
  OpenClaim.holds_of_wide 6 Try.f6 rfl rfl rfl rfl rfl rfl rfl ⟨rfl, rfl, rfl, rfl, rfl⟩ rfl rfl rfl rfl rfl (by kernel_rfl) Try.func6 (by kernel_rfl)
    (of_decide_eq_true (by kernel_rfl)) (by unfold Func.isWrapper; first | (rw [if_pos (by decide +kernel)]; kernel_rfl) | (rw [if_neg (by decide +kernel)]; exact ⟨rfl, rfl⟩))
    (fun os started H enc _ => lifted os started H enc)

/-- THE STATEMENT. -/
theorem proved : Rows.AskFindsSaid := over
#print axioms proved
end Go.Proofs.Ytcaopcpofepniaa.askFinds
