/- Plain laws, data behind worlds, and contracts of functions, for the last text. No conditions. -/
import Derived.Test.YtgggnglkocmbgaaM3
import Derived.Test.YtgggnglkocmbgaaChecked
set_option linter.unusedSimpArgs false
set_option linter.unusedVariables false
set_option linter.unnecessarySimpa false
namespace Go.Proofs.Ytgggnglkocmbgaa
open Go.RowKit

def tt0 : Nat → Option TI
  | 1 => some ⟨.plain, 1, 8, [.t .undef]⟩
  | 2 => some ⟨.int .i64, 1, 8, [.t (.int .i64 0)]⟩
  | 3 => some ⟨.int .i64, 1, 8, [.t (.int .i64 0)]⟩
  | 4 => some ⟨.bool, 1, 1, [.t (.bool false)]⟩
  | 5 => some ⟨.int .u8, 1, 1, [.t (.int .u8 0)]⟩
  | 6 => some ⟨.int .u8, 1, 1, [.t (.int .u8 0)]⟩
  | 7 => some ⟨.struct [(0, 1), (1, 1), (2, 1), (3, 1)], 4, 24, [.t (.int .i64 0), .t (.int .i64 0), .t (.bool false), .t (.int .u8 0)]⟩
  | _ => none
def tt1 : Nat → Option TI
  | 8 => some ⟨.struct [(0, 1), (1, 1), (2, 1), (3, 1)], 4, 24, [.t (.int .i64 0), .t (.int .i64 0), .t (.bool false), .t (.int .u8 0)]⟩
  | 9 => some ⟨.str, 1, 16, [.t (.str ByteArray.empty)]⟩
  | 10 => some ⟨.str, 1, 16, [.t (.str ByteArray.empty)]⟩
  | 11 => some ⟨.str, 1, 16, [.t (.str ByteArray.empty)]⟩
  | 12 => some ⟨.int .u64, 1, 8, [.t (.int .u64 0)]⟩
  | 13 => some ⟨.struct [(0, 1), (1, 1)], 2, 24, [.t (.str ByteArray.empty), .t (.int .u64 0)]⟩
  | 14 => some ⟨.struct [(0, 1), (1, 1)], 2, 24, [.t (.str ByteArray.empty), .t (.int .u64 0)]⟩
  | 15 => some ⟨.plain, 1, 8, [.t .undef]⟩
  | _ => none
def tt2 : Nat → Option TI
  | 16 => some ⟨.plain, 1, 8, [.t .undef]⟩
  | 17 => some ⟨.plain, 1, 8, [.t .undef]⟩
  | 18 => some ⟨.struct [(0, 1)], 1, 8, [.t .undef]⟩
  | 19 => some ⟨.struct [(0, 1)], 1, 8, [.t .undef]⟩
  | 20 => some ⟨.iface, 1, 16, [.t .nilI]⟩
  | 21 => some ⟨.int .i32, 1, 4, [.t (.int .i32 0)]⟩
  | 22 => some ⟨.int .i64, 1, 8, [.t (.int .i64 0)]⟩
  | 23 => some ⟨.plain, 1, 8, [.t .undef]⟩
  | _ => none
def tt3 : Nat → Option TI
  | 24 => some ⟨.plain, 1, 8, [.t .undef]⟩
  | 25 => some ⟨.slice 3, 1, 24, [.nil]⟩
  | 26 => some ⟨.iface, 1, 16, [.t .nilI]⟩
  | 27 => some ⟨.iface, 1, 16, [.t .nilI]⟩
  | 29 => some ⟨.plain, 1, 8, [.t .undef]⟩
  | 31 => some ⟨.plain, 1, 8, [.t .undef]⟩
  | _ => none
def tt4 : Nat → Option TI
  | 33 => some ⟨.plain, 1, 8, [.t .undef]⟩
  | 34 => some ⟨.plain, 1, 8, [.t .undef]⟩
  | 35 => some ⟨.plain, 1, 8, [.t .undef]⟩
  | 36 => some ⟨.plain, 1, 8, [.t .undef]⟩
  | 37 => some ⟨.plain, 1, 8, [.t .undef]⟩
  | 38 => some ⟨.slice 25, 1, 24, [.nil]⟩
  | 39 => some ⟨.slice 4, 1, 24, [.nil]⟩
  | _ => none
def tt5 : Nat → Option TI
  | 40 => some ⟨.struct [(0, 1), (1, 1), (2, 1), (3, 1)], 4, 64, [.t (.int .i64 0), .t (.int .i64 0), .nil, .nil]⟩
  | 41 => some ⟨.struct [(0, 1), (1, 1), (2, 1), (3, 1)], 4, 64, [.t (.int .i64 0), .t (.int .i64 0), .nil, .nil]⟩
  | 42 => some ⟨.plain, 1, 8, [.t .undef]⟩
  | 43 => some ⟨.plain, 1, 8, [.t .undef]⟩
  | 44 => some ⟨.plain, 1, 8, [.t .undef]⟩
  | 45 => some ⟨.plain, 1, 8, [.t .undef]⟩
  | 46 => some ⟨.plain, 1, 8, [.t .undef]⟩
  | 47 => some ⟨.plain, 1, 8, [.t .undef]⟩
  | _ => none
def tt6 : Nat → Option TI
  | 48 => some ⟨.plain, 1, 8, [.t .undef]⟩
  | 50 => some ⟨.plain, 1, 8, [.t .undef]⟩
  | 51 => some ⟨.plain, 1, 8, [.t .undef]⟩
  | 53 => some ⟨.plain, 1, 8, [.t .undef]⟩
  | 54 => some ⟨.plain, 1, 8, [.t .undef]⟩
  | 55 => some ⟨.plain, 1, 8, [.t .undef]⟩
  | _ => none
def tt7 : Nat → Option TI
  | 56 => some ⟨.plain, 1, 8, [.t .undef]⟩
  | 57 => some ⟨.plain, 1, 8, [.t .undef]⟩
  | 58 => some ⟨.plain, 1, 8, [.t .undef]⟩
  | 59 => some ⟨.plain, 1, 8, [.t .undef]⟩
  | 60 => some ⟨.plain, 1, 8, [.t .undef]⟩
  | 61 => some ⟨.plain, 1, 8, [.t .undef]⟩
  | 62 => some ⟨.plain, 1, 8, [.t .undef]⟩
  | _ => none
def tt8 : Nat → Option TI
  | 64 => some ⟨.plain, 1, 8, [.t .undef]⟩
  | 65 => some ⟨.plain, 1, 8, [.t .undef]⟩
  | 66 => some ⟨.plain, 1, 8, [.t .undef]⟩
  | 67 => some ⟨.plain, 1, 8, [.t .undef]⟩
  | 68 => some ⟨.plain, 1, 8, [.t .undef]⟩
  | 69 => some ⟨.plain, 1, 8, [.t .undef]⟩
  | 70 => some ⟨.plain, 1, 8, [.t .undef]⟩
  | 71 => some ⟨.plain, 1, 8, [.t .undef]⟩
  | _ => none
def tt9 : Nat → Option TI
  | 72 => some ⟨.array 64 3, 64, 512, [.t (.int .i64 0), .t (.int .i64 0), .t (.int .i64 0), .t (.int .i64 0), .t (.int .i64 0), .t (.int .i64 0), .t (.int .i64 0), .t (.int .i64 0), .t (.int .i64 0), .t (.int .i64 0), .t (.int .i64 0), .t (.int .i64 0), .t (.int .i64 0), .t (.int .i64 0), .t (.int .i64 0), .t (.int .i64 0), .t (.int .i64 0), .t (.int .i64 0), .t (.int .i64 0), .t (.int .i64 0), .t (.int .i64 0), .t (.int .i64 0), .t (.int .i64 0), .t (.int .i64 0), .t (.int .i64 0), .t (.int .i64 0), .t (.int .i64 0), .t (.int .i64 0), .t (.int .i64 0), .t (.int .i64 0), .t (.int .i64 0), .t (.int .i64 0), .t (.int .i64 0), .t (.int .i64 0), .t (.int .i64 0), .t (.int .i64 0), .t (.int .i64 0), .t (.int .i64 0), .t (.int .i64 0), .t (.int .i64 0), .t (.int .i64 0), .t (.int .i64 0), .t (.int .i64 0), .t (.int .i64 0), .t (.int .i64 0), .t (.int .i64 0), .t (.int .i64 0), .t (.int .i64 0), .t (.int .i64 0), .t (.int .i64 0), .t (.int .i64 0), .t (.int .i64 0), .t (.int .i64 0), .t (.int .i64 0), .t (.int .i64 0), .t (.int .i64 0), .t (.int .i64 0), .t (.int .i64 0), .t (.int .i64 0), .t (.int .i64 0), .t (.int .i64 0), .t (.int .i64 0), .t (.int .i64 0), .t (.int .i64 0)]⟩
  | 73 => some ⟨.plain, 1, 8, [.t .undef]⟩
  | 74 => some ⟨.plain, 1, 8, [.t .undef]⟩
  | 75 => some ⟨.plain, 1, 8, [.t .undef]⟩
  | 76 => some ⟨.plain, 1, 8, [.t .undef]⟩
  | 77 => some ⟨.plain, 1, 8, [.t .undef]⟩
  | 78 => some ⟨.plain, 1, 8, [.t .undef]⟩
  | 79 => some ⟨.slice 39, 1, 24, [.nil]⟩
  | _ => none
def tt10 : Nat → Option TI
  | 80 => some ⟨.plain, 1, 8, [.t .undef]⟩
  | 81 => some ⟨.plain, 1, 8, [.t .undef]⟩
  | 82 => some ⟨.array 2 3, 2, 16, [.t (.int .i64 0), .t (.int .i64 0)]⟩
  | 83 => some ⟨.map (.ints 2) 82 3, 1, 8, [.t .undef]⟩
  | 84 => some ⟨.slice 82, 1, 24, [.nil]⟩
  | 87 => some ⟨.plain, 1, 8, [.t .undef]⟩
  | _ => none
def tt11 : Nat → Option TI
  | 88 => some ⟨.plain, 1, 8, [.t .undef]⟩
  | 89 => some ⟨.plain, 1, 8, [.t .undef]⟩
  | 90 => some ⟨.plain, 1, 8, [.t .undef]⟩
  | 91 => some ⟨.plain, 1, 8, [.t .undef]⟩
  | 92 => some ⟨.plain, 1, 8, [.t .undef]⟩
  | 93 => some ⟨.map (.str) 9 3, 1, 8, [.t .undef]⟩
  | 94 => some ⟨.slice 5, 1, 24, [.nil]⟩
  | 95 => some ⟨.int .u64, 1, 8, [.t (.int .u64 0)]⟩
  | _ => none
def tt12 : Nat → Option TI
  | 96 => some ⟨.plain, 1, 8, [.t .undef]⟩
  | 97 => some ⟨.struct [(0, 1), (1, 1), (2, 1), (3, 1)], 4, 40, [.t .undef, .t .undef, .t .undef, .t (.str ByteArray.empty)]⟩
  | 98 => some ⟨.struct [(0, 1), (1, 1), (2, 1), (3, 1)], 4, 40, [.t .undef, .t .undef, .t .undef, .t (.str ByteArray.empty)]⟩
  | 102 => some ⟨.plain, 1, 8, [.t .undef]⟩
  | 103 => some ⟨.int .u32, 1, 4, [.t (.int .u32 0)]⟩
  | _ => none
def tt13 : Nat → Option TI
  | 104 => some ⟨.int .u8, 1, 1, [.t (.int .u8 0)]⟩
  | 105 => some ⟨.int .u8, 1, 1, [.t (.int .u8 0)]⟩
  | 106 => some ⟨.plain, 1, 8, [.t .undef]⟩
  | 107 => some ⟨.plain, 1, 8, [.t .undef]⟩
  | 108 => some ⟨.int .i32, 1, 4, [.t (.int .i32 0)]⟩
  | 109 => some ⟨.int .i32, 1, 4, [.t (.int .i32 0)]⟩
  | 110 => some ⟨.struct [(0, 1), (1, 1), (2, 1), (3, 1), (4, 1), (5, 1), (6, 1), (7, 1), (8, 1), (9, 1), (10, 1)], 11, 48, [.t (.int .u64 0), .t (.int .u64 0), .t (.int .u32 0), .t (.int .u8 0), .t (.int .u8 0), .t (.int .u8 0), .t (.int .u8 0), .t .undef, .t .undef, .t (.int .i32 0), .t (.int .i32 0)]⟩
  | 111 => some ⟨.struct [(0, 1), (1, 1), (2, 1), (3, 1), (4, 1), (5, 1), (6, 1), (7, 1), (8, 1), (9, 1), (10, 1)], 11, 48, [.t (.int .u64 0), .t (.int .u64 0), .t (.int .u32 0), .t (.int .u8 0), .t (.int .u8 0), .t (.int .u8 0), .t (.int .u8 0), .t .undef, .t .undef, .t (.int .i32 0), .t (.int .i32 0)]⟩
  | _ => none
def tts0 (n : Nat) : Nat → Option TI
  | 0 => tt0 n
  | 1 => tt1 n
  | 2 => tt2 n
  | 3 => tt3 n
  | 4 => tt4 n
  | 5 => tt5 n
  | 6 => tt6 n
  | 7 => tt7 n
  | _ => none
def tts1 (n : Nat) : Nat → Option TI
  | 8 => tt8 n
  | 9 => tt9 n
  | 10 => tt10 n
  | 11 => tt11 n
  | 12 => tt12 n
  | 13 => tt13 n
  | _ => none
def tt (n : Nat) : Option TI := match n / 64 with
  | 0 => tts0 n (n / 8)
  | 1 => tts1 n (n / 8)
  | _ => none
set_option maxRecDepth 100000
theorem laid : laidOutB Try.prog = true := by kernel_rfl
theorem small : Try.prog.types.size + 2 ≤ 10000 := of_decide_eq_true (by kernel_rfl)
theorem tt0_ok : TTok Try.prog tt0 := by
  intro t i h
  unfold tt0 at h
  split at h <;> first
    | (cases h; exact chkTI_ok laid small (by kernel_rfl))
    | cases h
theorem tt1_ok : TTok Try.prog tt1 := by
  intro t i h
  unfold tt1 at h
  split at h <;> first
    | (cases h; exact chkTI_ok laid small (by kernel_rfl))
    | cases h
theorem tt2_ok : TTok Try.prog tt2 := by
  intro t i h
  unfold tt2 at h
  split at h <;> first
    | (cases h; exact chkTI_ok laid small (by kernel_rfl))
    | cases h
theorem tt3_ok : TTok Try.prog tt3 := by
  intro t i h
  unfold tt3 at h
  split at h <;> first
    | (cases h; exact chkTI_ok laid small (by kernel_rfl))
    | cases h
theorem tt4_ok : TTok Try.prog tt4 := by
  intro t i h
  unfold tt4 at h
  split at h <;> first
    | (cases h; exact chkTI_ok laid small (by kernel_rfl))
    | cases h
theorem tt5_ok : TTok Try.prog tt5 := by
  intro t i h
  unfold tt5 at h
  split at h <;> first
    | (cases h; exact chkTI_ok laid small (by kernel_rfl))
    | cases h
theorem tt6_ok : TTok Try.prog tt6 := by
  intro t i h
  unfold tt6 at h
  split at h <;> first
    | (cases h; exact chkTI_ok laid small (by kernel_rfl))
    | cases h
theorem tt7_ok : TTok Try.prog tt7 := by
  intro t i h
  unfold tt7 at h
  split at h <;> first
    | (cases h; exact chkTI_ok laid small (by kernel_rfl))
    | cases h
theorem tt8_ok : TTok Try.prog tt8 := by
  intro t i h
  unfold tt8 at h
  split at h <;> first
    | (cases h; exact chkTI_ok laid small (by kernel_rfl))
    | cases h
theorem tt9_ok : TTok Try.prog tt9 := by
  intro t i h
  unfold tt9 at h
  split at h <;> first
    | (cases h; exact chkTI_ok laid small (by kernel_rfl))
    | cases h
theorem tt10_ok : TTok Try.prog tt10 := by
  intro t i h
  unfold tt10 at h
  split at h <;> first
    | (cases h; exact chkTI_ok laid small (by kernel_rfl))
    | cases h
theorem tt11_ok : TTok Try.prog tt11 := by
  intro t i h
  unfold tt11 at h
  split at h <;> first
    | (cases h; exact chkTI_ok laid small (by kernel_rfl))
    | cases h
theorem tt12_ok : TTok Try.prog tt12 := by
  intro t i h
  unfold tt12 at h
  split at h <;> first
    | (cases h; exact chkTI_ok laid small (by kernel_rfl))
    | cases h
theorem tt13_ok : TTok Try.prog tt13 := by
  intro t i h
  unfold tt13 at h
  split at h <;> first
    | (cases h; exact chkTI_ok laid small (by kernel_rfl))
    | cases h
theorem tts0_ok (k : Nat) : TTok Try.prog (fun n => tts0 n k) := by
  intro t i h
  unfold tts0 at h
  split at h <;> first
    | exact tt0_ok _ _ h
    | exact tt1_ok _ _ h
    | exact tt2_ok _ _ h
    | exact tt3_ok _ _ h
    | exact tt4_ok _ _ h
    | exact tt5_ok _ _ h
    | exact tt6_ok _ _ h
    | exact tt7_ok _ _ h
    | cases h
theorem tts1_ok (k : Nat) : TTok Try.prog (fun n => tts1 n k) := by
  intro t i h
  unfold tts1 at h
  split at h <;> first
    | exact tt8_ok _ _ h
    | exact tt9_ok _ _ h
    | exact tt10_ok _ _ h
    | exact tt11_ok _ _ h
    | exact tt12_ok _ _ h
    | exact tt13_ok _ _ h
    | cases h
theorem tt_ok : TTok Try.prog tt := by
  intro t i h
  unfold tt at h
  split at h <;> first
    | exact tts0_ok _ _ _ h
    | exact tts1_ok _ _ _ h
    | cases h
end Go.Proofs.Ytgggnglkocmbgaa
namespace Go.Proofs.Ytgggnglkocmbgaa
open Go.RowKit

def tErr (e : Int) : T := if e = 0 then .nilI else .iface 22 (.int .i64 e)
theorem tErr0 : tErr 0 = .nilI := rfl
theorem tErr_ne {e : Int} (h : e ≠ 0) : tErr e = .iface 22 (.int .i64 e) := if_neg h
theorem tErr_flat (e : Int) : (tErr e).flatData = true := by unfold tErr; split <;> rfl
def tAuto (a : GAuto) : T := .agg [tInt a.base, tInt a.tracks, tIntss a.next, tBools a.ends]
def I64s (l : List Int) : Prop := ∀ x ∈ l, I64 x
structure I64A (a : GAuto) : Prop where
  base : I64 a.base
  tracks : I64 a.tracks
  next : ∀ r ∈ a.next, I64s r

section
variable {S : Nat → Prop} {w : World} {v : Value}
theorem RepT.toSl {α : Type} {E : World → Value → α → Prop} {f : α → T} {l : List α} (h : RepT S w (.list (l.map f)) v) (hf : ∀ a, (f a).cells.length = 1) (hc : ∀ a, (f a).cells = [f a]) (hE : ∀ a ∈ l, ∀ v, RepT S w (f a) v → E w v a) : Sl E S w v l := by
  obtain ⟨a, cap, sz, xs, rfl, hm, h0, hsz, ha, h1, hx⟩ := h.listInv
  have hfl : Go.Proofs.Ytgggnglkocmbgaa.flat (l.map f) = l.map f := by
    clear h hm ha h1 hx hE hsz
    induction l with
    | nil => rfl
    | cons a t ih => simp only [List.map_cons, Go.Proofs.Ytgggnglkocmbgaa.flat, List.flatMap_cons, hc] at ih ⊢; simp [ih]
  refine ⟨a, cap, by simp, by simpa [maxLen] using hm, fun i hi => ?_⟩
  have hs : sz = 1 := by rw [← hsz _ (List.mem_map.2 ⟨l[i], List.getElem_mem hi, rfl⟩)]; exact hf _
  subst hs
  obtain ⟨b, off, e, hS, hcell⟩ := ha (by intro e; have := congrArg List.length e; simp at this; subst this; simp at hi)
  refine ⟨b, off, xs i, e, hS, hcell i (by simpa using hi), hE _ (List.getElem_mem hi) _ (hx i _ ?_)⟩
  rw [hfl]; simp [hi]
theorem RepT.toInts {l : List Int} (h : RepT S w (tInts l) v) (hI : I64s l) : Ints S w v l :=
  h.toSl (fun _ => rfl) (fun _ => rfl) fun a ha u hu => by cases hu; exact ⟨rfl, hI a ha⟩
theorem RepT.toBools {l : List Bool} (h : RepT S w (tBools l) v) : Bools S w v l :=
  h.toSl (fun _ => rfl) (fun _ => rfl) fun a ha u hu => by cases hu; exact rfl
theorem RepT.toIntss {l : List (List Int)} (h : RepT S w (tIntss l) v) (hI : ∀ r ∈ l, I64s r) : Intss S w v l :=
  h.toSl (fun _ => rfl) (fun _ => rfl) fun a ha u hu => hu.toInts (hI a ha)
theorem RepT.toAuto {a : GAuto} (h : RepT S w (tAuto a) v) (hI : I64A a) : IsAuto S w v a := by
  cases h with
  | agg l vs hl h1 hx =>
    obtain ⟨l⟩ := vs
    match l, hl with
    | [v0, v1, v2, v3], _ =>
      have a0 := hx 0 _ v0 rfl rfl
      have a1 := hx 1 _ v1 rfl rfl
      have a2 := hx 2 _ v2 rfl rfl
      have a3 := hx 3 _ v3 rfl rfl
      cases a0; cases a1
      exact ⟨v2, v3, rfl, a2.toIntss hI.next, a3.toBools⟩
theorem repErr (S : Nat → Prop) (w : World) (e : Int) : RepT S w (tErr e) (errV 22 e) := by
  unfold tErr errV
  split
  · exact .nilI
  · exact .iface _ _ _ (.int _ _)
theorem repErr_inv {e : Int} (h : RepT S w (tErr e) v) : v = errV 22 e := by
  unfold tErr at h; unfold errV
  split at h
  · rename_i h0
    rw [if_pos h0]; cases h; rfl
  · rename_i h0
    rw [if_neg h0]
    cases h with
    | iface t x v h => cases h; rfl
end
section
variable {P : Program} {G : World → Prop}
theorem enter_of {f : Nat} {fn : Func} {c : Code} (hf : P.funcs[f]? = some fn) (hb : fn.body = some c) (hn : (fn.name == "runtime.NumGoroutine") = false) (vs : Array Value) (w : World) : (callFunc f vs).run P w = .ok (.enter f vs) w := by
  unfold callFunc
  rw [Sem.run_bind, run_program, Result.andThen_ok]
  simp only [hf, hn, hb, Option.isNone_some, Bool.false_eq_true, if_false]
  rfl
theorem snd1 {f : Nat} {fn : Func} {c : Code} {x r : T} (hf : P.funcs[f]? = some fn) (hb : fn.body = some c) (hn : (fn.name == "runtime.NumGoroutine") = false)
    (h : ∀ (S : Nat → Prop) (w : World) (v : Value), G w → (∀ b, S b → b < w.heap.size) → RepT S w x v → ∃ V, Calls P f #[v] w (Ret V w) ∧ ∀ S w, RepT S w r V) : Snd P G f [x] r := by
  refine ⟨enter_of hf hb hn, fun S w vs hG hs hr => ?_⟩
  obtain ⟨l⟩ := vs
  match l, hs with
  | [v0], _ =>
    obtain ⟨V, h1, h2⟩ := h (fun b => S b ∧ b < w.heap.size) w v0 hG (fun b hb => hb.2) ((hr 0 _ v0 rfl rfl).keep ⟨Nat.le_refl _, fun b hb hlt => ⟨rfl, hb, hlt⟩⟩)
    exact h1.mono fun e w' hq => ⟨V, hq.1, h2 _ _, hq.2⟩
theorem snd2 {f : Nat} {fn : Func} {c : Code} {x y r : T} (hf : P.funcs[f]? = some fn) (hb : fn.body = some c) (hn : (fn.name == "runtime.NumGoroutine") = false)
    (h : ∀ (S : Nat → Prop) (w : World) (v u : Value), G w → (∀ b, S b → b < w.heap.size) → RepT S w x v → RepT S w y u → ∃ V, Calls P f #[v, u] w (Ret V w) ∧ ∀ S w, RepT S w r V) : Snd P G f [x, y] r := by
  refine ⟨enter_of hf hb hn, fun S w vs hG hs hr => ?_⟩
  obtain ⟨l⟩ := vs
  match l, hs with
  | [v0, v1], _ =>
    obtain ⟨V, h1, h2⟩ := h (fun b => S b ∧ b < w.heap.size) w v0 v1 hG (fun b hb => hb.2) ((hr 0 _ v0 rfl rfl).keep ⟨Nat.le_refl _, fun b hb hlt => ⟨rfl, hb, hlt⟩⟩) ((hr 1 _ v1 rfl rfl).keep ⟨Nat.le_refl _, fun b hb hlt => ⟨rfl, hb, hlt⟩⟩)
    exact h1.mono fun e w' hq => ⟨V, hq.1, h2 _ _, hq.2⟩
end
theorem repTup2 {S : Nat → Prop} {w : World} {x y : T} {u v : Value} (h : RepT S w x u) (h' : RepT S w y v) : RepT S w (.tup [x, y]) (.tuple #[u, v]) := by
  refine .tup _ _ rfl fun k z q a b => ?_
  match k, a, b with
  | 0, a, b => cases a; cases b; exact h
  | 1, a, b => cases a; cases b; exact h'
  | k + 2, a, b => cases a
theorem calls_ret {V : Value} {w : World} {P : Program} {f : FuncId} {args : Array Value} (h : Calls P f args w (RetS V w)) : Calls P f args w (Ret V w) :=
  h.mono fun e w' hq => ⟨hq.1, by rw [← hq.2]; exact Below.refl _ _⟩
theorem intInv {S : Nat → Prop} {w : World} {n : Int} {v : Value} (h : RepT S w (tInt n) v) : v = .int .i64 n := by cases h; rfl
theorem boolInv {S : Nat → Prop} {w : World} {b : Bool} {v : Value} (h : RepT S w (.bool b) v) : v = .bool b := by cases h; rfl
section
variable {G : World → Prop}
/-- The contracts that are at hand. -/
theorem Radix_snd (base : Int) : Snd Try.prog G 44 [tInt base] (tInt (radix base)) :=
  snd1 Try.func44 rfl rfl fun S w v _ _ h => by
    obtain rfl := intInv h
    exact ⟨_, (calls_ret (Radix_calls base w)), fun S w => .int _ _⟩
theorem Many_snd (base t : Int) : Snd Try.prog G 53 [tInt base, tInt t] (.tup [tInt (manyOf base t), tErr (manyErr base t)]) :=
  snd2 Try.func53 rfl rfl fun S w v u _ _ h h' => by
    obtain rfl := intInv h; obtain rfl := intInv h'
    exact ⟨_, (calls_ret (Many_calls base t w)), fun S w => repTup2 (.int _ _) (repErr S w _)⟩
theorem Pack_snd (base : Int) (d : List Int) (hI : I64s d) : Snd Try.prog G 60 [tInt base, tInts d] (.tup [tInt (packOf base d), tErr (packErr base d)]) :=
  snd2 Try.func60 rfl rfl fun S w v u _ _ h h' => by
    obtain rfl := intInv h
    exact ⟨_, (calls_ret (Pack_calls S base u d w (h'.toInts hI))), fun S w => repTup2 (.int _ _) (repErr S w _)⟩
theorem Check_snd (a : GAuto) (hI : I64A a) : Snd Try.prog G 45 [tAuto a] (tErr (autoFault a)) :=
  snd1 Try.func45 rfl rfl fun S w v _ _ h => ⟨_, Check_calls S v a w (h.toAuto hI), fun S w => repErr S w _⟩
theorem Run_snd (a : GAuto) (l : List Int) (hI : I64A a) (hl : I64s l) : Snd Try.prog G 22 [tAuto a, tInts l] (.tup [tInt (runOf a l), tErr (runErr a l)]) :=
  snd2 Try.func22 rfl rfl fun S w v u _ hS h h' => ⟨_, Run_calls S S v a u l w hS hS (h.toAuto hI) (h'.toInts hl), fun S w => repTup2 (.int _ _) (repErr S w _)⟩
theorem Takes_snd (a : GAuto) (l : List Int) (hI : I64A a) (hl : I64s l) : Snd Try.prog G 20 [tAuto a, tInts l] (.tup [.bool (takesOf a l), tErr (runErr a l)]) :=
  snd2 Try.func20 rfl rfl fun S w v u _ hS h h' => ⟨_, Takes_calls S S v a u l w hS hS (h.toAuto hI) (h'.toInts hl), fun S w => repTup2 (.bool _) (repErr S w _)⟩
end
end Go.Proofs.Ytgggnglkocmbgaa
namespace Go.Proofs.Ytgggnglkocmbgaa
open Go.RowKit

def alikeErr (a b : GAuto) : Int := if autoFault a ≠ 0 then autoFault a else if autoFault b ≠ 0 then autoFault b else if a.base ≠ b.base ∨ a.tracks ≠ b.tracks then 2 else 0
section
variable {G : World → Prop} (hG : Lasting G)
include hG
theorem Alike_snd (a b : GAuto) (ha : I64A a) (hb : I64A b) : Snd Try.prog G 50 [tAuto a, tAuto b] (tErr (alikeErr a b)) := by
  have htb := Tab.cons (Check_snd (G := G) a ha) Tab.nil
  have htc := Tab.cons (Check_snd (G := G) b hb) Tab.nil
  refine snd_of_body (n := 30) (tm := [(0, .t (tAuto a)), (1, .t (tAuto b))]) (rs := [.tmp 4]) tt_ok Try.func50 rfl rfl rfl rfl rfl ?_
  unfold alikeErr
  generalize autoFault a = f at htb htc ⊢
  generalize autoFault b = g at htb htc ⊢
  by_cases h0 : f = 0
  · by_cases h1 : g = 0
    · by_cases h2 : a.base = b.base
      · by_cases h3 : a.tracks = b.tracks
        · repeat' (first | (with_reducible refine SW_seq ?_) | (with_reducible refine SW_block ?_) | (with_reducible refine SThen_n ?_) | (with_reducible refine SThen_r ?_) | (with_reducible refine SThen_e ?_) | (with_reducible refine SIn_n ?_) | (with_reducible refine SIn_r ?_) | (with_reducible refine SIn_eq ?_) | (with_reducible refine SW_skip ?_) | (with_reducible refine SW_exit ?_) | (with_reducible refine SW_ret ?_) | (with_reducible refine SPost_r ?_) | ((with_reducible refine SIn_ne ?_ ?_); focus decide) | ((with_reducible refine SW_true ?_ ?_); focus exact rfl) | ((with_reducible refine SW_false ?_ ?_); focus exact rfl) | ((with_reducible apply SW_run tt_ok hG htb); focus ((repeat' (first | (with_reducible exact runX_nil) | ((with_reducible apply runX_cons); focus (simp (discharger := omega) only [tAuto, tErr, h0, h1, h2, h3, stepX, stepX0, evalX, St.callR, findCo, St.litQ, St.sliceQ, St.rdL, St.rd, St.trL, St.tr, T.flatData, flatAll, lookR, St.mapUp, St.slice, St.bd, strSlice, T.okKey, T.inR, bytesOf, and_self, eq_self, Option.bind_some, Option.bind_none, runOps, stepOp, stepOp0, stepOp1, evalOp, dstOk, St.ev.eq_1, St.ev.eq_2, St.ev.eq_3, St.ev.eq_4, ofConst, St.get, St.put, look, T.bin, isConst, mkFn, allT, St.len, St.lst, St.obj, St.load, loadT, loadS, mkAgg, TK.isAgg, St.index, treeIndex, SV.plus, T.cells, T.max2, T.min2, fillS, SV.storable, T.storable, SV.cells, St.litS, idxOk, zipFrz, frz, frzC, frzL, St.append, St.appLen, scrub, St.bd, SV.ren, renL, Ob.ren, St.store, T.put, TI.zT, SV.toT0, nLe, nNle, nLt, nNlt, nEq, nNe, iLe, iNle, iLt, iNlt, iEq, iNe, List.length_replicate, List.getElem?_replicate, Nat.one_mul, Nat.mul_one, List.isEmpty_cons, List.isEmpty_nil, or_self, true_or, or_true, false_or, or_false, and_self, ↓reduceIte, reduceIte, Nat.reduceEqDiff, Nat.reduceLT, Nat.reduceLeDiff, Nat.reduceAdd, Nat.reduceSub, Nat.reduceMul, Nat.reduceDiv, Nat.reduceMod, Nat.reduceBEq, decide_eq_true_eq, Int.reduceEq, Int.reduceLT, Int.reduceLE, Int.reduceNeg, Int.reduceToNat, if_true, if_false, ite_true, ite_false, reduceCtorEq, Option.getD_some, Option.getD_none, Option.map_some, Option.map_none, Option.bind_some, Option.bind_none, decide_true, decide_false, Bool.true_and, Bool.and_true, Bool.false_and, Bool.and_false, Bool.not_true, Bool.not_false, beq_self_eq_true, List.getElem?_cons_zero, List.getElem?_cons_succ, List.map_cons, List.map_nil, List.cons_append, List.nil_append, List.length_cons, List.length_nil, List.toList_toArray, true_and, and_true, false_and, and_false, List.all_cons, List.all_nil, List.drop_zero, List.drop_succ_cons, List.take_succ_cons, List.take_zero, List.head?_cons, List.set_cons_zero, List.set_cons_succ, Bool.or_true, Bool.true_or, Bool.or_false, Bool.false_or, ne_eq, not_true_eq_false, not_false_eq_true, Nat.zero_add, List.getElem?_toArray, tInt, tNat, tInts, tBools, tIntss, wrap_i64, get_bang, List.getElem?_map, List.length_map, Int.toNat_natCast, List.all_map, tt, tts0, tts1, tt0, tt1, tt2, tt3, tt4, tt5, tt6, tt7, tt8, tt9, tt10, tt11, tt12, tt13]; with_reducible rfl)))); done)) | ((with_reducible apply SW_run tt_ok hG htc); focus ((repeat' (first | (with_reducible exact runX_nil) | ((with_reducible apply runX_cons); focus (simp (discharger := omega) only [tAuto, tErr, h0, h1, h2, h3, stepX, stepX0, evalX, St.callR, findCo, St.litQ, St.sliceQ, St.rdL, St.rd, St.trL, St.tr, T.flatData, flatAll, lookR, St.mapUp, St.slice, St.bd, strSlice, T.okKey, T.inR, bytesOf, and_self, eq_self, Option.bind_some, Option.bind_none, runOps, stepOp, stepOp0, stepOp1, evalOp, dstOk, St.ev.eq_1, St.ev.eq_2, St.ev.eq_3, St.ev.eq_4, ofConst, St.get, St.put, look, T.bin, isConst, mkFn, allT, St.len, St.lst, St.obj, St.load, loadT, loadS, mkAgg, TK.isAgg, St.index, treeIndex, SV.plus, T.cells, T.max2, T.min2, fillS, SV.storable, T.storable, SV.cells, St.litS, idxOk, zipFrz, frz, frzC, frzL, St.append, St.appLen, scrub, St.bd, SV.ren, renL, Ob.ren, St.store, T.put, TI.zT, SV.toT0, nLe, nNle, nLt, nNlt, nEq, nNe, iLe, iNle, iLt, iNlt, iEq, iNe, List.length_replicate, List.getElem?_replicate, Nat.one_mul, Nat.mul_one, List.isEmpty_cons, List.isEmpty_nil, or_self, true_or, or_true, false_or, or_false, and_self, ↓reduceIte, reduceIte, Nat.reduceEqDiff, Nat.reduceLT, Nat.reduceLeDiff, Nat.reduceAdd, Nat.reduceSub, Nat.reduceMul, Nat.reduceDiv, Nat.reduceMod, Nat.reduceBEq, decide_eq_true_eq, Int.reduceEq, Int.reduceLT, Int.reduceLE, Int.reduceNeg, Int.reduceToNat, if_true, if_false, ite_true, ite_false, reduceCtorEq, Option.getD_some, Option.getD_none, Option.map_some, Option.map_none, Option.bind_some, Option.bind_none, decide_true, decide_false, Bool.true_and, Bool.and_true, Bool.false_and, Bool.and_false, Bool.not_true, Bool.not_false, beq_self_eq_true, List.getElem?_cons_zero, List.getElem?_cons_succ, List.map_cons, List.map_nil, List.cons_append, List.nil_append, List.length_cons, List.length_nil, List.toList_toArray, true_and, and_true, false_and, and_false, List.all_cons, List.all_nil, List.drop_zero, List.drop_succ_cons, List.take_succ_cons, List.take_zero, List.head?_cons, List.set_cons_zero, List.set_cons_succ, Bool.or_true, Bool.true_or, Bool.or_false, Bool.false_or, ne_eq, not_true_eq_false, not_false_eq_true, Nat.zero_add, List.getElem?_toArray, tInt, tNat, tInts, tBools, tIntss, wrap_i64, get_bang, List.getElem?_map, List.length_map, Int.toNat_natCast, List.all_map, tt, tts0, tts1, tt0, tt1, tt2, tt3, tt4, tt5, tt6, tt7, tt8, tt9, tt10, tt11, tt12, tt13]; with_reducible rfl)))); done)) | ((with_reducible apply SW_draw rfl tt_ok hG htb); (focus kernel_rfl); focus ((simp only [List.range, List.range.loop, List.size_toArray, List.length_cons, List.length_nil, Nat.reduceAdd]; repeat' (first | (with_reducible exact runI_nil) | ((with_reducible apply runI_cons); focus (simp (discharger := omega) only [tAuto, tErr, h0, h1, h2, h3, stepI, quietOp, stepX, stepX0, evalX, St.callR, findCo, St.litQ, St.sliceQ, St.rdL, St.rd, St.trL, St.tr, T.flatData, flatAll, lookR, St.mapUp, St.slice, St.bd, strSlice, T.okKey, T.inR, bytesOf, and_self, eq_self, Option.bind_some, Option.bind_none, runOps, stepOp, stepOp0, stepOp1, evalOp, dstOk, St.ev.eq_1, St.ev.eq_2, St.ev.eq_3, St.ev.eq_4, ofConst, St.get, St.put, look, T.bin, isConst, mkFn, allT, St.len, St.lst, St.obj, St.load, loadT, loadS, mkAgg, TK.isAgg, St.index, treeIndex, SV.plus, T.cells, T.max2, T.min2, fillS, SV.storable, T.storable, SV.cells, St.litS, idxOk, zipFrz, frz, frzC, frzL, St.append, St.appLen, scrub, St.bd, SV.ren, renL, Ob.ren, St.store, T.put, TI.zT, SV.toT0, nLe, nNle, nLt, nNlt, nEq, nNe, iLe, iNle, iLt, iNlt, iEq, iNe, List.length_replicate, List.getElem?_replicate, Nat.one_mul, Nat.mul_one, List.isEmpty_cons, List.isEmpty_nil, or_self, true_or, or_true, false_or, or_false, and_self, ↓reduceIte, reduceIte, Nat.reduceEqDiff, Nat.reduceLT, Nat.reduceLeDiff, Nat.reduceAdd, Nat.reduceSub, Nat.reduceMul, Nat.reduceDiv, Nat.reduceMod, Nat.reduceBEq, decide_eq_true_eq, Int.reduceEq, Int.reduceLT, Int.reduceLE, Int.reduceNeg, Int.reduceToNat, if_true, if_false, ite_true, ite_false, reduceCtorEq, Option.getD_some, Option.getD_none, Option.map_some, Option.map_none, Option.bind_some, Option.bind_none, decide_true, decide_false, Bool.true_and, Bool.and_true, Bool.false_and, Bool.and_false, Bool.not_true, Bool.not_false, beq_self_eq_true, List.getElem?_cons_zero, List.getElem?_cons_succ, List.map_cons, List.map_nil, List.cons_append, List.nil_append, List.length_cons, List.length_nil, List.toList_toArray, true_and, and_true, false_and, and_false, List.all_cons, List.all_nil, List.drop_zero, List.drop_succ_cons, List.take_succ_cons, List.take_zero, List.head?_cons, List.set_cons_zero, List.set_cons_succ, Bool.or_true, Bool.true_or, Bool.or_false, Bool.false_or, ne_eq, not_true_eq_false, not_false_eq_true, Nat.zero_add, List.getElem?_toArray, tInt, tNat, tInts, tBools, tIntss, wrap_i64, get_bang, List.getElem?_map, List.length_map, Int.toNat_natCast, List.all_map, tt, tts0, tts1, tt0, tt1, tt2, tt3, tt4, tt5, tt6, tt7, tt8, tt9, tt10, tt11, tt12, tt13]; with_reducible rfl)))); done)))
          exact (by simp (discharger := omega) only [tErr, h0, h1, h2, h3, St.res, St.resL, St.res1, St.rd, St.rdL, St.get, look, St.obj, St.load, loadT, loadS, mkAgg, allT, TK.isAgg, nLe, nNle, nLt, nNlt, nEq, nNe, iLe, iNle, iLt, iNlt, iEq, iNe, List.length_replicate, List.getElem?_replicate, Nat.one_mul, Nat.mul_one, List.isEmpty_cons, List.isEmpty_nil, or_self, true_or, or_true, false_or, or_false, and_self, ↓reduceIte, reduceIte, Nat.reduceEqDiff, Nat.reduceLT, Nat.reduceLeDiff, Nat.reduceAdd, Nat.reduceSub, Nat.reduceMul, Nat.reduceDiv, Nat.reduceMod, Nat.reduceBEq, decide_eq_true_eq, Int.reduceEq, Int.reduceLT, Int.reduceLE, Int.reduceNeg, Int.reduceToNat, if_true, if_false, ite_true, ite_false, reduceCtorEq, Option.getD_some, Option.getD_none, Option.map_some, Option.map_none, Option.bind_some, Option.bind_none, decide_true, decide_false, Bool.true_and, Bool.and_true, Bool.false_and, Bool.and_false, Bool.not_true, Bool.not_false, beq_self_eq_true, List.getElem?_cons_zero, List.getElem?_cons_succ, List.map_cons, List.map_nil, List.cons_append, List.nil_append, List.length_cons, List.length_nil, List.toList_toArray, true_and, and_true, false_and, and_false, List.all_cons, List.all_nil, List.drop_zero, List.drop_succ_cons, List.take_succ_cons, List.take_zero, List.head?_cons, List.set_cons_zero, List.set_cons_succ, Bool.or_true, Bool.true_or, Bool.or_false, Bool.false_or, ne_eq, not_true_eq_false, not_false_eq_true, Nat.zero_add, List.getElem?_toArray, tInt, tNat, tInts, tBools, tIntss, List.map_nil, tt, tts0, tts1, tt0, tt1, tt2, tt3, tt4, tt5, tt6, tt7, tt8, tt9, tt10, tt11, tt12, tt13])
        · repeat' (first | (with_reducible refine SW_seq ?_) | (with_reducible refine SW_block ?_) | (with_reducible refine SThen_n ?_) | (with_reducible refine SThen_r ?_) | (with_reducible refine SThen_e ?_) | (with_reducible refine SIn_n ?_) | (with_reducible refine SIn_r ?_) | (with_reducible refine SIn_eq ?_) | (with_reducible refine SW_skip ?_) | (with_reducible refine SW_exit ?_) | (with_reducible refine SW_ret ?_) | (with_reducible refine SPost_r ?_) | ((with_reducible refine SIn_ne ?_ ?_); focus decide) | ((with_reducible refine SW_true ?_ ?_); focus exact rfl) | ((with_reducible refine SW_false ?_ ?_); focus exact rfl) | ((with_reducible apply SW_run tt_ok hG htb); focus ((repeat' (first | (with_reducible exact runX_nil) | ((with_reducible apply runX_cons); focus (simp (discharger := omega) only [tAuto, tErr, h0, h1, h2, h3, stepX, stepX0, evalX, St.callR, findCo, St.litQ, St.sliceQ, St.rdL, St.rd, St.trL, St.tr, T.flatData, flatAll, lookR, St.mapUp, St.slice, St.bd, strSlice, T.okKey, T.inR, bytesOf, and_self, eq_self, Option.bind_some, Option.bind_none, runOps, stepOp, stepOp0, stepOp1, evalOp, dstOk, St.ev.eq_1, St.ev.eq_2, St.ev.eq_3, St.ev.eq_4, ofConst, St.get, St.put, look, T.bin, isConst, mkFn, allT, St.len, St.lst, St.obj, St.load, loadT, loadS, mkAgg, TK.isAgg, St.index, treeIndex, SV.plus, T.cells, T.max2, T.min2, fillS, SV.storable, T.storable, SV.cells, St.litS, idxOk, zipFrz, frz, frzC, frzL, St.append, St.appLen, scrub, St.bd, SV.ren, renL, Ob.ren, St.store, T.put, TI.zT, SV.toT0, nLe, nNle, nLt, nNlt, nEq, nNe, iLe, iNle, iLt, iNlt, iEq, iNe, List.length_replicate, List.getElem?_replicate, Nat.one_mul, Nat.mul_one, List.isEmpty_cons, List.isEmpty_nil, or_self, true_or, or_true, false_or, or_false, and_self, ↓reduceIte, reduceIte, Nat.reduceEqDiff, Nat.reduceLT, Nat.reduceLeDiff, Nat.reduceAdd, Nat.reduceSub, Nat.reduceMul, Nat.reduceDiv, Nat.reduceMod, Nat.reduceBEq, decide_eq_true_eq, Int.reduceEq, Int.reduceLT, Int.reduceLE, Int.reduceNeg, Int.reduceToNat, if_true, if_false, ite_true, ite_false, reduceCtorEq, Option.getD_some, Option.getD_none, Option.map_some, Option.map_none, Option.bind_some, Option.bind_none, decide_true, decide_false, Bool.true_and, Bool.and_true, Bool.false_and, Bool.and_false, Bool.not_true, Bool.not_false, beq_self_eq_true, List.getElem?_cons_zero, List.getElem?_cons_succ, List.map_cons, List.map_nil, List.cons_append, List.nil_append, List.length_cons, List.length_nil, List.toList_toArray, true_and, and_true, false_and, and_false, List.all_cons, List.all_nil, List.drop_zero, List.drop_succ_cons, List.take_succ_cons, List.take_zero, List.head?_cons, List.set_cons_zero, List.set_cons_succ, Bool.or_true, Bool.true_or, Bool.or_false, Bool.false_or, ne_eq, not_true_eq_false, not_false_eq_true, Nat.zero_add, List.getElem?_toArray, tInt, tNat, tInts, tBools, tIntss, wrap_i64, get_bang, List.getElem?_map, List.length_map, Int.toNat_natCast, List.all_map, tt, tts0, tts1, tt0, tt1, tt2, tt3, tt4, tt5, tt6, tt7, tt8, tt9, tt10, tt11, tt12, tt13]; with_reducible rfl)))); done)) | ((with_reducible apply SW_run tt_ok hG htc); focus ((repeat' (first | (with_reducible exact runX_nil) | ((with_reducible apply runX_cons); focus (simp (discharger := omega) only [tAuto, tErr, h0, h1, h2, h3, stepX, stepX0, evalX, St.callR, findCo, St.litQ, St.sliceQ, St.rdL, St.rd, St.trL, St.tr, T.flatData, flatAll, lookR, St.mapUp, St.slice, St.bd, strSlice, T.okKey, T.inR, bytesOf, and_self, eq_self, Option.bind_some, Option.bind_none, runOps, stepOp, stepOp0, stepOp1, evalOp, dstOk, St.ev.eq_1, St.ev.eq_2, St.ev.eq_3, St.ev.eq_4, ofConst, St.get, St.put, look, T.bin, isConst, mkFn, allT, St.len, St.lst, St.obj, St.load, loadT, loadS, mkAgg, TK.isAgg, St.index, treeIndex, SV.plus, T.cells, T.max2, T.min2, fillS, SV.storable, T.storable, SV.cells, St.litS, idxOk, zipFrz, frz, frzC, frzL, St.append, St.appLen, scrub, St.bd, SV.ren, renL, Ob.ren, St.store, T.put, TI.zT, SV.toT0, nLe, nNle, nLt, nNlt, nEq, nNe, iLe, iNle, iLt, iNlt, iEq, iNe, List.length_replicate, List.getElem?_replicate, Nat.one_mul, Nat.mul_one, List.isEmpty_cons, List.isEmpty_nil, or_self, true_or, or_true, false_or, or_false, and_self, ↓reduceIte, reduceIte, Nat.reduceEqDiff, Nat.reduceLT, Nat.reduceLeDiff, Nat.reduceAdd, Nat.reduceSub, Nat.reduceMul, Nat.reduceDiv, Nat.reduceMod, Nat.reduceBEq, decide_eq_true_eq, Int.reduceEq, Int.reduceLT, Int.reduceLE, Int.reduceNeg, Int.reduceToNat, if_true, if_false, ite_true, ite_false, reduceCtorEq, Option.getD_some, Option.getD_none, Option.map_some, Option.map_none, Option.bind_some, Option.bind_none, decide_true, decide_false, Bool.true_and, Bool.and_true, Bool.false_and, Bool.and_false, Bool.not_true, Bool.not_false, beq_self_eq_true, List.getElem?_cons_zero, List.getElem?_cons_succ, List.map_cons, List.map_nil, List.cons_append, List.nil_append, List.length_cons, List.length_nil, List.toList_toArray, true_and, and_true, false_and, and_false, List.all_cons, List.all_nil, List.drop_zero, List.drop_succ_cons, List.take_succ_cons, List.take_zero, List.head?_cons, List.set_cons_zero, List.set_cons_succ, Bool.or_true, Bool.true_or, Bool.or_false, Bool.false_or, ne_eq, not_true_eq_false, not_false_eq_true, Nat.zero_add, List.getElem?_toArray, tInt, tNat, tInts, tBools, tIntss, wrap_i64, get_bang, List.getElem?_map, List.length_map, Int.toNat_natCast, List.all_map, tt, tts0, tts1, tt0, tt1, tt2, tt3, tt4, tt5, tt6, tt7, tt8, tt9, tt10, tt11, tt12, tt13]; with_reducible rfl)))); done)) | ((with_reducible apply SW_draw rfl tt_ok hG htb); (focus kernel_rfl); focus ((simp only [List.range, List.range.loop, List.size_toArray, List.length_cons, List.length_nil, Nat.reduceAdd]; repeat' (first | (with_reducible exact runI_nil) | ((with_reducible apply runI_cons); focus (simp (discharger := omega) only [tAuto, tErr, h0, h1, h2, h3, stepI, quietOp, stepX, stepX0, evalX, St.callR, findCo, St.litQ, St.sliceQ, St.rdL, St.rd, St.trL, St.tr, T.flatData, flatAll, lookR, St.mapUp, St.slice, St.bd, strSlice, T.okKey, T.inR, bytesOf, and_self, eq_self, Option.bind_some, Option.bind_none, runOps, stepOp, stepOp0, stepOp1, evalOp, dstOk, St.ev.eq_1, St.ev.eq_2, St.ev.eq_3, St.ev.eq_4, ofConst, St.get, St.put, look, T.bin, isConst, mkFn, allT, St.len, St.lst, St.obj, St.load, loadT, loadS, mkAgg, TK.isAgg, St.index, treeIndex, SV.plus, T.cells, T.max2, T.min2, fillS, SV.storable, T.storable, SV.cells, St.litS, idxOk, zipFrz, frz, frzC, frzL, St.append, St.appLen, scrub, St.bd, SV.ren, renL, Ob.ren, St.store, T.put, TI.zT, SV.toT0, nLe, nNle, nLt, nNlt, nEq, nNe, iLe, iNle, iLt, iNlt, iEq, iNe, List.length_replicate, List.getElem?_replicate, Nat.one_mul, Nat.mul_one, List.isEmpty_cons, List.isEmpty_nil, or_self, true_or, or_true, false_or, or_false, and_self, ↓reduceIte, reduceIte, Nat.reduceEqDiff, Nat.reduceLT, Nat.reduceLeDiff, Nat.reduceAdd, Nat.reduceSub, Nat.reduceMul, Nat.reduceDiv, Nat.reduceMod, Nat.reduceBEq, decide_eq_true_eq, Int.reduceEq, Int.reduceLT, Int.reduceLE, Int.reduceNeg, Int.reduceToNat, if_true, if_false, ite_true, ite_false, reduceCtorEq, Option.getD_some, Option.getD_none, Option.map_some, Option.map_none, Option.bind_some, Option.bind_none, decide_true, decide_false, Bool.true_and, Bool.and_true, Bool.false_and, Bool.and_false, Bool.not_true, Bool.not_false, beq_self_eq_true, List.getElem?_cons_zero, List.getElem?_cons_succ, List.map_cons, List.map_nil, List.cons_append, List.nil_append, List.length_cons, List.length_nil, List.toList_toArray, true_and, and_true, false_and, and_false, List.all_cons, List.all_nil, List.drop_zero, List.drop_succ_cons, List.take_succ_cons, List.take_zero, List.head?_cons, List.set_cons_zero, List.set_cons_succ, Bool.or_true, Bool.true_or, Bool.or_false, Bool.false_or, ne_eq, not_true_eq_false, not_false_eq_true, Nat.zero_add, List.getElem?_toArray, tInt, tNat, tInts, tBools, tIntss, wrap_i64, get_bang, List.getElem?_map, List.length_map, Int.toNat_natCast, List.all_map, tt, tts0, tts1, tt0, tt1, tt2, tt3, tt4, tt5, tt6, tt7, tt8, tt9, tt10, tt11, tt12, tt13]; with_reducible rfl)))); done)))
          exact (by simp (discharger := omega) only [tErr, h0, h1, h2, h3, St.res, St.resL, St.res1, St.rd, St.rdL, St.get, look, St.obj, St.load, loadT, loadS, mkAgg, allT, TK.isAgg, nLe, nNle, nLt, nNlt, nEq, nNe, iLe, iNle, iLt, iNlt, iEq, iNe, List.length_replicate, List.getElem?_replicate, Nat.one_mul, Nat.mul_one, List.isEmpty_cons, List.isEmpty_nil, or_self, true_or, or_true, false_or, or_false, and_self, ↓reduceIte, reduceIte, Nat.reduceEqDiff, Nat.reduceLT, Nat.reduceLeDiff, Nat.reduceAdd, Nat.reduceSub, Nat.reduceMul, Nat.reduceDiv, Nat.reduceMod, Nat.reduceBEq, decide_eq_true_eq, Int.reduceEq, Int.reduceLT, Int.reduceLE, Int.reduceNeg, Int.reduceToNat, if_true, if_false, ite_true, ite_false, reduceCtorEq, Option.getD_some, Option.getD_none, Option.map_some, Option.map_none, Option.bind_some, Option.bind_none, decide_true, decide_false, Bool.true_and, Bool.and_true, Bool.false_and, Bool.and_false, Bool.not_true, Bool.not_false, beq_self_eq_true, List.getElem?_cons_zero, List.getElem?_cons_succ, List.map_cons, List.map_nil, List.cons_append, List.nil_append, List.length_cons, List.length_nil, List.toList_toArray, true_and, and_true, false_and, and_false, List.all_cons, List.all_nil, List.drop_zero, List.drop_succ_cons, List.take_succ_cons, List.take_zero, List.head?_cons, List.set_cons_zero, List.set_cons_succ, Bool.or_true, Bool.true_or, Bool.or_false, Bool.false_or, ne_eq, not_true_eq_false, not_false_eq_true, Nat.zero_add, List.getElem?_toArray, tInt, tNat, tInts, tBools, tIntss, List.map_nil, tt, tts0, tts1, tt0, tt1, tt2, tt3, tt4, tt5, tt6, tt7, tt8, tt9, tt10, tt11, tt12, tt13])
      · repeat' (first | (with_reducible refine SW_seq ?_) | (with_reducible refine SW_block ?_) | (with_reducible refine SThen_n ?_) | (with_reducible refine SThen_r ?_) | (with_reducible refine SThen_e ?_) | (with_reducible refine SIn_n ?_) | (with_reducible refine SIn_r ?_) | (with_reducible refine SIn_eq ?_) | (with_reducible refine SW_skip ?_) | (with_reducible refine SW_exit ?_) | (with_reducible refine SW_ret ?_) | (with_reducible refine SPost_r ?_) | ((with_reducible refine SIn_ne ?_ ?_); focus decide) | ((with_reducible refine SW_true ?_ ?_); focus exact rfl) | ((with_reducible refine SW_false ?_ ?_); focus exact rfl) | ((with_reducible apply SW_run tt_ok hG htb); focus ((repeat' (first | (with_reducible exact runX_nil) | ((with_reducible apply runX_cons); focus (simp (discharger := omega) only [tAuto, tErr, h0, h1, h2, stepX, stepX0, evalX, St.callR, findCo, St.litQ, St.sliceQ, St.rdL, St.rd, St.trL, St.tr, T.flatData, flatAll, lookR, St.mapUp, St.slice, St.bd, strSlice, T.okKey, T.inR, bytesOf, and_self, eq_self, Option.bind_some, Option.bind_none, runOps, stepOp, stepOp0, stepOp1, evalOp, dstOk, St.ev.eq_1, St.ev.eq_2, St.ev.eq_3, St.ev.eq_4, ofConst, St.get, St.put, look, T.bin, isConst, mkFn, allT, St.len, St.lst, St.obj, St.load, loadT, loadS, mkAgg, TK.isAgg, St.index, treeIndex, SV.plus, T.cells, T.max2, T.min2, fillS, SV.storable, T.storable, SV.cells, St.litS, idxOk, zipFrz, frz, frzC, frzL, St.append, St.appLen, scrub, St.bd, SV.ren, renL, Ob.ren, St.store, T.put, TI.zT, SV.toT0, nLe, nNle, nLt, nNlt, nEq, nNe, iLe, iNle, iLt, iNlt, iEq, iNe, List.length_replicate, List.getElem?_replicate, Nat.one_mul, Nat.mul_one, List.isEmpty_cons, List.isEmpty_nil, or_self, true_or, or_true, false_or, or_false, and_self, ↓reduceIte, reduceIte, Nat.reduceEqDiff, Nat.reduceLT, Nat.reduceLeDiff, Nat.reduceAdd, Nat.reduceSub, Nat.reduceMul, Nat.reduceDiv, Nat.reduceMod, Nat.reduceBEq, decide_eq_true_eq, Int.reduceEq, Int.reduceLT, Int.reduceLE, Int.reduceNeg, Int.reduceToNat, if_true, if_false, ite_true, ite_false, reduceCtorEq, Option.getD_some, Option.getD_none, Option.map_some, Option.map_none, Option.bind_some, Option.bind_none, decide_true, decide_false, Bool.true_and, Bool.and_true, Bool.false_and, Bool.and_false, Bool.not_true, Bool.not_false, beq_self_eq_true, List.getElem?_cons_zero, List.getElem?_cons_succ, List.map_cons, List.map_nil, List.cons_append, List.nil_append, List.length_cons, List.length_nil, List.toList_toArray, true_and, and_true, false_and, and_false, List.all_cons, List.all_nil, List.drop_zero, List.drop_succ_cons, List.take_succ_cons, List.take_zero, List.head?_cons, List.set_cons_zero, List.set_cons_succ, Bool.or_true, Bool.true_or, Bool.or_false, Bool.false_or, ne_eq, not_true_eq_false, not_false_eq_true, Nat.zero_add, List.getElem?_toArray, tInt, tNat, tInts, tBools, tIntss, wrap_i64, get_bang, List.getElem?_map, List.length_map, Int.toNat_natCast, List.all_map, tt, tts0, tts1, tt0, tt1, tt2, tt3, tt4, tt5, tt6, tt7, tt8, tt9, tt10, tt11, tt12, tt13]; with_reducible rfl)))); done)) | ((with_reducible apply SW_run tt_ok hG htc); focus ((repeat' (first | (with_reducible exact runX_nil) | ((with_reducible apply runX_cons); focus (simp (discharger := omega) only [tAuto, tErr, h0, h1, h2, stepX, stepX0, evalX, St.callR, findCo, St.litQ, St.sliceQ, St.rdL, St.rd, St.trL, St.tr, T.flatData, flatAll, lookR, St.mapUp, St.slice, St.bd, strSlice, T.okKey, T.inR, bytesOf, and_self, eq_self, Option.bind_some, Option.bind_none, runOps, stepOp, stepOp0, stepOp1, evalOp, dstOk, St.ev.eq_1, St.ev.eq_2, St.ev.eq_3, St.ev.eq_4, ofConst, St.get, St.put, look, T.bin, isConst, mkFn, allT, St.len, St.lst, St.obj, St.load, loadT, loadS, mkAgg, TK.isAgg, St.index, treeIndex, SV.plus, T.cells, T.max2, T.min2, fillS, SV.storable, T.storable, SV.cells, St.litS, idxOk, zipFrz, frz, frzC, frzL, St.append, St.appLen, scrub, St.bd, SV.ren, renL, Ob.ren, St.store, T.put, TI.zT, SV.toT0, nLe, nNle, nLt, nNlt, nEq, nNe, iLe, iNle, iLt, iNlt, iEq, iNe, List.length_replicate, List.getElem?_replicate, Nat.one_mul, Nat.mul_one, List.isEmpty_cons, List.isEmpty_nil, or_self, true_or, or_true, false_or, or_false, and_self, ↓reduceIte, reduceIte, Nat.reduceEqDiff, Nat.reduceLT, Nat.reduceLeDiff, Nat.reduceAdd, Nat.reduceSub, Nat.reduceMul, Nat.reduceDiv, Nat.reduceMod, Nat.reduceBEq, decide_eq_true_eq, Int.reduceEq, Int.reduceLT, Int.reduceLE, Int.reduceNeg, Int.reduceToNat, if_true, if_false, ite_true, ite_false, reduceCtorEq, Option.getD_some, Option.getD_none, Option.map_some, Option.map_none, Option.bind_some, Option.bind_none, decide_true, decide_false, Bool.true_and, Bool.and_true, Bool.false_and, Bool.and_false, Bool.not_true, Bool.not_false, beq_self_eq_true, List.getElem?_cons_zero, List.getElem?_cons_succ, List.map_cons, List.map_nil, List.cons_append, List.nil_append, List.length_cons, List.length_nil, List.toList_toArray, true_and, and_true, false_and, and_false, List.all_cons, List.all_nil, List.drop_zero, List.drop_succ_cons, List.take_succ_cons, List.take_zero, List.head?_cons, List.set_cons_zero, List.set_cons_succ, Bool.or_true, Bool.true_or, Bool.or_false, Bool.false_or, ne_eq, not_true_eq_false, not_false_eq_true, Nat.zero_add, List.getElem?_toArray, tInt, tNat, tInts, tBools, tIntss, wrap_i64, get_bang, List.getElem?_map, List.length_map, Int.toNat_natCast, List.all_map, tt, tts0, tts1, tt0, tt1, tt2, tt3, tt4, tt5, tt6, tt7, tt8, tt9, tt10, tt11, tt12, tt13]; with_reducible rfl)))); done)) | ((with_reducible apply SW_draw rfl tt_ok hG htb); (focus kernel_rfl); focus ((simp only [List.range, List.range.loop, List.size_toArray, List.length_cons, List.length_nil, Nat.reduceAdd]; repeat' (first | (with_reducible exact runI_nil) | ((with_reducible apply runI_cons); focus (simp (discharger := omega) only [tAuto, tErr, h0, h1, h2, stepI, quietOp, stepX, stepX0, evalX, St.callR, findCo, St.litQ, St.sliceQ, St.rdL, St.rd, St.trL, St.tr, T.flatData, flatAll, lookR, St.mapUp, St.slice, St.bd, strSlice, T.okKey, T.inR, bytesOf, and_self, eq_self, Option.bind_some, Option.bind_none, runOps, stepOp, stepOp0, stepOp1, evalOp, dstOk, St.ev.eq_1, St.ev.eq_2, St.ev.eq_3, St.ev.eq_4, ofConst, St.get, St.put, look, T.bin, isConst, mkFn, allT, St.len, St.lst, St.obj, St.load, loadT, loadS, mkAgg, TK.isAgg, St.index, treeIndex, SV.plus, T.cells, T.max2, T.min2, fillS, SV.storable, T.storable, SV.cells, St.litS, idxOk, zipFrz, frz, frzC, frzL, St.append, St.appLen, scrub, St.bd, SV.ren, renL, Ob.ren, St.store, T.put, TI.zT, SV.toT0, nLe, nNle, nLt, nNlt, nEq, nNe, iLe, iNle, iLt, iNlt, iEq, iNe, List.length_replicate, List.getElem?_replicate, Nat.one_mul, Nat.mul_one, List.isEmpty_cons, List.isEmpty_nil, or_self, true_or, or_true, false_or, or_false, and_self, ↓reduceIte, reduceIte, Nat.reduceEqDiff, Nat.reduceLT, Nat.reduceLeDiff, Nat.reduceAdd, Nat.reduceSub, Nat.reduceMul, Nat.reduceDiv, Nat.reduceMod, Nat.reduceBEq, decide_eq_true_eq, Int.reduceEq, Int.reduceLT, Int.reduceLE, Int.reduceNeg, Int.reduceToNat, if_true, if_false, ite_true, ite_false, reduceCtorEq, Option.getD_some, Option.getD_none, Option.map_some, Option.map_none, Option.bind_some, Option.bind_none, decide_true, decide_false, Bool.true_and, Bool.and_true, Bool.false_and, Bool.and_false, Bool.not_true, Bool.not_false, beq_self_eq_true, List.getElem?_cons_zero, List.getElem?_cons_succ, List.map_cons, List.map_nil, List.cons_append, List.nil_append, List.length_cons, List.length_nil, List.toList_toArray, true_and, and_true, false_and, and_false, List.all_cons, List.all_nil, List.drop_zero, List.drop_succ_cons, List.take_succ_cons, List.take_zero, List.head?_cons, List.set_cons_zero, List.set_cons_succ, Bool.or_true, Bool.true_or, Bool.or_false, Bool.false_or, ne_eq, not_true_eq_false, not_false_eq_true, Nat.zero_add, List.getElem?_toArray, tInt, tNat, tInts, tBools, tIntss, wrap_i64, get_bang, List.getElem?_map, List.length_map, Int.toNat_natCast, List.all_map, tt, tts0, tts1, tt0, tt1, tt2, tt3, tt4, tt5, tt6, tt7, tt8, tt9, tt10, tt11, tt12, tt13]; with_reducible rfl)))); done)))
        exact (by simp (discharger := omega) only [tErr, h0, h1, h2, St.res, St.resL, St.res1, St.rd, St.rdL, St.get, look, St.obj, St.load, loadT, loadS, mkAgg, allT, TK.isAgg, nLe, nNle, nLt, nNlt, nEq, nNe, iLe, iNle, iLt, iNlt, iEq, iNe, List.length_replicate, List.getElem?_replicate, Nat.one_mul, Nat.mul_one, List.isEmpty_cons, List.isEmpty_nil, or_self, true_or, or_true, false_or, or_false, and_self, ↓reduceIte, reduceIte, Nat.reduceEqDiff, Nat.reduceLT, Nat.reduceLeDiff, Nat.reduceAdd, Nat.reduceSub, Nat.reduceMul, Nat.reduceDiv, Nat.reduceMod, Nat.reduceBEq, decide_eq_true_eq, Int.reduceEq, Int.reduceLT, Int.reduceLE, Int.reduceNeg, Int.reduceToNat, if_true, if_false, ite_true, ite_false, reduceCtorEq, Option.getD_some, Option.getD_none, Option.map_some, Option.map_none, Option.bind_some, Option.bind_none, decide_true, decide_false, Bool.true_and, Bool.and_true, Bool.false_and, Bool.and_false, Bool.not_true, Bool.not_false, beq_self_eq_true, List.getElem?_cons_zero, List.getElem?_cons_succ, List.map_cons, List.map_nil, List.cons_append, List.nil_append, List.length_cons, List.length_nil, List.toList_toArray, true_and, and_true, false_and, and_false, List.all_cons, List.all_nil, List.drop_zero, List.drop_succ_cons, List.take_succ_cons, List.take_zero, List.head?_cons, List.set_cons_zero, List.set_cons_succ, Bool.or_true, Bool.true_or, Bool.or_false, Bool.false_or, ne_eq, not_true_eq_false, not_false_eq_true, Nat.zero_add, List.getElem?_toArray, tInt, tNat, tInts, tBools, tIntss, List.map_nil, tt, tts0, tts1, tt0, tt1, tt2, tt3, tt4, tt5, tt6, tt7, tt8, tt9, tt10, tt11, tt12, tt13])
    · repeat' (first | (with_reducible refine SW_seq ?_) | (with_reducible refine SW_block ?_) | (with_reducible refine SThen_n ?_) | (with_reducible refine SThen_r ?_) | (with_reducible refine SThen_e ?_) | (with_reducible refine SIn_n ?_) | (with_reducible refine SIn_r ?_) | (with_reducible refine SIn_eq ?_) | (with_reducible refine SW_skip ?_) | (with_reducible refine SW_exit ?_) | (with_reducible refine SW_ret ?_) | (with_reducible refine SPost_r ?_) | ((with_reducible refine SIn_ne ?_ ?_); focus decide) | ((with_reducible refine SW_true ?_ ?_); focus exact rfl) | ((with_reducible refine SW_false ?_ ?_); focus exact rfl) | ((with_reducible apply SW_run tt_ok hG htb); focus ((repeat' (first | (with_reducible exact runX_nil) | ((with_reducible apply runX_cons); focus (simp (discharger := omega) only [tAuto, tErr, h0, h1, stepX, stepX0, evalX, St.callR, findCo, St.litQ, St.sliceQ, St.rdL, St.rd, St.trL, St.tr, T.flatData, flatAll, lookR, St.mapUp, St.slice, St.bd, strSlice, T.okKey, T.inR, bytesOf, and_self, eq_self, Option.bind_some, Option.bind_none, runOps, stepOp, stepOp0, stepOp1, evalOp, dstOk, St.ev.eq_1, St.ev.eq_2, St.ev.eq_3, St.ev.eq_4, ofConst, St.get, St.put, look, T.bin, isConst, mkFn, allT, St.len, St.lst, St.obj, St.load, loadT, loadS, mkAgg, TK.isAgg, St.index, treeIndex, SV.plus, T.cells, T.max2, T.min2, fillS, SV.storable, T.storable, SV.cells, St.litS, idxOk, zipFrz, frz, frzC, frzL, St.append, St.appLen, scrub, St.bd, SV.ren, renL, Ob.ren, St.store, T.put, TI.zT, SV.toT0, nLe, nNle, nLt, nNlt, nEq, nNe, iLe, iNle, iLt, iNlt, iEq, iNe, List.length_replicate, List.getElem?_replicate, Nat.one_mul, Nat.mul_one, List.isEmpty_cons, List.isEmpty_nil, or_self, true_or, or_true, false_or, or_false, and_self, ↓reduceIte, reduceIte, Nat.reduceEqDiff, Nat.reduceLT, Nat.reduceLeDiff, Nat.reduceAdd, Nat.reduceSub, Nat.reduceMul, Nat.reduceDiv, Nat.reduceMod, Nat.reduceBEq, decide_eq_true_eq, Int.reduceEq, Int.reduceLT, Int.reduceLE, Int.reduceNeg, Int.reduceToNat, if_true, if_false, ite_true, ite_false, reduceCtorEq, Option.getD_some, Option.getD_none, Option.map_some, Option.map_none, Option.bind_some, Option.bind_none, decide_true, decide_false, Bool.true_and, Bool.and_true, Bool.false_and, Bool.and_false, Bool.not_true, Bool.not_false, beq_self_eq_true, List.getElem?_cons_zero, List.getElem?_cons_succ, List.map_cons, List.map_nil, List.cons_append, List.nil_append, List.length_cons, List.length_nil, List.toList_toArray, true_and, and_true, false_and, and_false, List.all_cons, List.all_nil, List.drop_zero, List.drop_succ_cons, List.take_succ_cons, List.take_zero, List.head?_cons, List.set_cons_zero, List.set_cons_succ, Bool.or_true, Bool.true_or, Bool.or_false, Bool.false_or, ne_eq, not_true_eq_false, not_false_eq_true, Nat.zero_add, List.getElem?_toArray, tInt, tNat, tInts, tBools, tIntss, wrap_i64, get_bang, List.getElem?_map, List.length_map, Int.toNat_natCast, List.all_map, tt, tts0, tts1, tt0, tt1, tt2, tt3, tt4, tt5, tt6, tt7, tt8, tt9, tt10, tt11, tt12, tt13]; with_reducible rfl)))); done)) | ((with_reducible apply SW_run tt_ok hG htc); focus ((repeat' (first | (with_reducible exact runX_nil) | ((with_reducible apply runX_cons); focus (simp (discharger := omega) only [tAuto, tErr, h0, h1, stepX, stepX0, evalX, St.callR, findCo, St.litQ, St.sliceQ, St.rdL, St.rd, St.trL, St.tr, T.flatData, flatAll, lookR, St.mapUp, St.slice, St.bd, strSlice, T.okKey, T.inR, bytesOf, and_self, eq_self, Option.bind_some, Option.bind_none, runOps, stepOp, stepOp0, stepOp1, evalOp, dstOk, St.ev.eq_1, St.ev.eq_2, St.ev.eq_3, St.ev.eq_4, ofConst, St.get, St.put, look, T.bin, isConst, mkFn, allT, St.len, St.lst, St.obj, St.load, loadT, loadS, mkAgg, TK.isAgg, St.index, treeIndex, SV.plus, T.cells, T.max2, T.min2, fillS, SV.storable, T.storable, SV.cells, St.litS, idxOk, zipFrz, frz, frzC, frzL, St.append, St.appLen, scrub, St.bd, SV.ren, renL, Ob.ren, St.store, T.put, TI.zT, SV.toT0, nLe, nNle, nLt, nNlt, nEq, nNe, iLe, iNle, iLt, iNlt, iEq, iNe, List.length_replicate, List.getElem?_replicate, Nat.one_mul, Nat.mul_one, List.isEmpty_cons, List.isEmpty_nil, or_self, true_or, or_true, false_or, or_false, and_self, ↓reduceIte, reduceIte, Nat.reduceEqDiff, Nat.reduceLT, Nat.reduceLeDiff, Nat.reduceAdd, Nat.reduceSub, Nat.reduceMul, Nat.reduceDiv, Nat.reduceMod, Nat.reduceBEq, decide_eq_true_eq, Int.reduceEq, Int.reduceLT, Int.reduceLE, Int.reduceNeg, Int.reduceToNat, if_true, if_false, ite_true, ite_false, reduceCtorEq, Option.getD_some, Option.getD_none, Option.map_some, Option.map_none, Option.bind_some, Option.bind_none, decide_true, decide_false, Bool.true_and, Bool.and_true, Bool.false_and, Bool.and_false, Bool.not_true, Bool.not_false, beq_self_eq_true, List.getElem?_cons_zero, List.getElem?_cons_succ, List.map_cons, List.map_nil, List.cons_append, List.nil_append, List.length_cons, List.length_nil, List.toList_toArray, true_and, and_true, false_and, and_false, List.all_cons, List.all_nil, List.drop_zero, List.drop_succ_cons, List.take_succ_cons, List.take_zero, List.head?_cons, List.set_cons_zero, List.set_cons_succ, Bool.or_true, Bool.true_or, Bool.or_false, Bool.false_or, ne_eq, not_true_eq_false, not_false_eq_true, Nat.zero_add, List.getElem?_toArray, tInt, tNat, tInts, tBools, tIntss, wrap_i64, get_bang, List.getElem?_map, List.length_map, Int.toNat_natCast, List.all_map, tt, tts0, tts1, tt0, tt1, tt2, tt3, tt4, tt5, tt6, tt7, tt8, tt9, tt10, tt11, tt12, tt13]; with_reducible rfl)))); done)) | ((with_reducible apply SW_draw rfl tt_ok hG htb); (focus kernel_rfl); focus ((simp only [List.range, List.range.loop, List.size_toArray, List.length_cons, List.length_nil, Nat.reduceAdd]; repeat' (first | (with_reducible exact runI_nil) | ((with_reducible apply runI_cons); focus (simp (discharger := omega) only [tAuto, tErr, h0, h1, stepI, quietOp, stepX, stepX0, evalX, St.callR, findCo, St.litQ, St.sliceQ, St.rdL, St.rd, St.trL, St.tr, T.flatData, flatAll, lookR, St.mapUp, St.slice, St.bd, strSlice, T.okKey, T.inR, bytesOf, and_self, eq_self, Option.bind_some, Option.bind_none, runOps, stepOp, stepOp0, stepOp1, evalOp, dstOk, St.ev.eq_1, St.ev.eq_2, St.ev.eq_3, St.ev.eq_4, ofConst, St.get, St.put, look, T.bin, isConst, mkFn, allT, St.len, St.lst, St.obj, St.load, loadT, loadS, mkAgg, TK.isAgg, St.index, treeIndex, SV.plus, T.cells, T.max2, T.min2, fillS, SV.storable, T.storable, SV.cells, St.litS, idxOk, zipFrz, frz, frzC, frzL, St.append, St.appLen, scrub, St.bd, SV.ren, renL, Ob.ren, St.store, T.put, TI.zT, SV.toT0, nLe, nNle, nLt, nNlt, nEq, nNe, iLe, iNle, iLt, iNlt, iEq, iNe, List.length_replicate, List.getElem?_replicate, Nat.one_mul, Nat.mul_one, List.isEmpty_cons, List.isEmpty_nil, or_self, true_or, or_true, false_or, or_false, and_self, ↓reduceIte, reduceIte, Nat.reduceEqDiff, Nat.reduceLT, Nat.reduceLeDiff, Nat.reduceAdd, Nat.reduceSub, Nat.reduceMul, Nat.reduceDiv, Nat.reduceMod, Nat.reduceBEq, decide_eq_true_eq, Int.reduceEq, Int.reduceLT, Int.reduceLE, Int.reduceNeg, Int.reduceToNat, if_true, if_false, ite_true, ite_false, reduceCtorEq, Option.getD_some, Option.getD_none, Option.map_some, Option.map_none, Option.bind_some, Option.bind_none, decide_true, decide_false, Bool.true_and, Bool.and_true, Bool.false_and, Bool.and_false, Bool.not_true, Bool.not_false, beq_self_eq_true, List.getElem?_cons_zero, List.getElem?_cons_succ, List.map_cons, List.map_nil, List.cons_append, List.nil_append, List.length_cons, List.length_nil, List.toList_toArray, true_and, and_true, false_and, and_false, List.all_cons, List.all_nil, List.drop_zero, List.drop_succ_cons, List.take_succ_cons, List.take_zero, List.head?_cons, List.set_cons_zero, List.set_cons_succ, Bool.or_true, Bool.true_or, Bool.or_false, Bool.false_or, ne_eq, not_true_eq_false, not_false_eq_true, Nat.zero_add, List.getElem?_toArray, tInt, tNat, tInts, tBools, tIntss, wrap_i64, get_bang, List.getElem?_map, List.length_map, Int.toNat_natCast, List.all_map, tt, tts0, tts1, tt0, tt1, tt2, tt3, tt4, tt5, tt6, tt7, tt8, tt9, tt10, tt11, tt12, tt13]; with_reducible rfl)))); done)))
      exact (by simp (discharger := omega) only [tErr, h0, h1, St.res, St.resL, St.res1, St.rd, St.rdL, St.get, look, St.obj, St.load, loadT, loadS, mkAgg, allT, TK.isAgg, nLe, nNle, nLt, nNlt, nEq, nNe, iLe, iNle, iLt, iNlt, iEq, iNe, List.length_replicate, List.getElem?_replicate, Nat.one_mul, Nat.mul_one, List.isEmpty_cons, List.isEmpty_nil, or_self, true_or, or_true, false_or, or_false, and_self, ↓reduceIte, reduceIte, Nat.reduceEqDiff, Nat.reduceLT, Nat.reduceLeDiff, Nat.reduceAdd, Nat.reduceSub, Nat.reduceMul, Nat.reduceDiv, Nat.reduceMod, Nat.reduceBEq, decide_eq_true_eq, Int.reduceEq, Int.reduceLT, Int.reduceLE, Int.reduceNeg, Int.reduceToNat, if_true, if_false, ite_true, ite_false, reduceCtorEq, Option.getD_some, Option.getD_none, Option.map_some, Option.map_none, Option.bind_some, Option.bind_none, decide_true, decide_false, Bool.true_and, Bool.and_true, Bool.false_and, Bool.and_false, Bool.not_true, Bool.not_false, beq_self_eq_true, List.getElem?_cons_zero, List.getElem?_cons_succ, List.map_cons, List.map_nil, List.cons_append, List.nil_append, List.length_cons, List.length_nil, List.toList_toArray, true_and, and_true, false_and, and_false, List.all_cons, List.all_nil, List.drop_zero, List.drop_succ_cons, List.take_succ_cons, List.take_zero, List.head?_cons, List.set_cons_zero, List.set_cons_succ, Bool.or_true, Bool.true_or, Bool.or_false, Bool.false_or, ne_eq, not_true_eq_false, not_false_eq_true, Nat.zero_add, List.getElem?_toArray, tInt, tNat, tInts, tBools, tIntss, List.map_nil, tt, tts0, tts1, tt0, tt1, tt2, tt3, tt4, tt5, tt6, tt7, tt8, tt9, tt10, tt11, tt12, tt13])
  · repeat' (first | (with_reducible refine SW_seq ?_) | (with_reducible refine SW_block ?_) | (with_reducible refine SThen_n ?_) | (with_reducible refine SThen_r ?_) | (with_reducible refine SThen_e ?_) | (with_reducible refine SIn_n ?_) | (with_reducible refine SIn_r ?_) | (with_reducible refine SIn_eq ?_) | (with_reducible refine SW_skip ?_) | (with_reducible refine SW_exit ?_) | (with_reducible refine SW_ret ?_) | (with_reducible refine SPost_r ?_) | ((with_reducible refine SIn_ne ?_ ?_); focus decide) | ((with_reducible refine SW_true ?_ ?_); focus exact rfl) | ((with_reducible refine SW_false ?_ ?_); focus exact rfl) | ((with_reducible apply SW_run tt_ok hG htb); focus ((repeat' (first | (with_reducible exact runX_nil) | ((with_reducible apply runX_cons); focus (simp (discharger := omega) only [tAuto, tErr, h0, stepX, stepX0, evalX, St.callR, findCo, St.litQ, St.sliceQ, St.rdL, St.rd, St.trL, St.tr, T.flatData, flatAll, lookR, St.mapUp, St.slice, St.bd, strSlice, T.okKey, T.inR, bytesOf, and_self, eq_self, Option.bind_some, Option.bind_none, runOps, stepOp, stepOp0, stepOp1, evalOp, dstOk, St.ev.eq_1, St.ev.eq_2, St.ev.eq_3, St.ev.eq_4, ofConst, St.get, St.put, look, T.bin, isConst, mkFn, allT, St.len, St.lst, St.obj, St.load, loadT, loadS, mkAgg, TK.isAgg, St.index, treeIndex, SV.plus, T.cells, T.max2, T.min2, fillS, SV.storable, T.storable, SV.cells, St.litS, idxOk, zipFrz, frz, frzC, frzL, St.append, St.appLen, scrub, St.bd, SV.ren, renL, Ob.ren, St.store, T.put, TI.zT, SV.toT0, nLe, nNle, nLt, nNlt, nEq, nNe, iLe, iNle, iLt, iNlt, iEq, iNe, List.length_replicate, List.getElem?_replicate, Nat.one_mul, Nat.mul_one, List.isEmpty_cons, List.isEmpty_nil, or_self, true_or, or_true, false_or, or_false, and_self, ↓reduceIte, reduceIte, Nat.reduceEqDiff, Nat.reduceLT, Nat.reduceLeDiff, Nat.reduceAdd, Nat.reduceSub, Nat.reduceMul, Nat.reduceDiv, Nat.reduceMod, Nat.reduceBEq, decide_eq_true_eq, Int.reduceEq, Int.reduceLT, Int.reduceLE, Int.reduceNeg, Int.reduceToNat, if_true, if_false, ite_true, ite_false, reduceCtorEq, Option.getD_some, Option.getD_none, Option.map_some, Option.map_none, Option.bind_some, Option.bind_none, decide_true, decide_false, Bool.true_and, Bool.and_true, Bool.false_and, Bool.and_false, Bool.not_true, Bool.not_false, beq_self_eq_true, List.getElem?_cons_zero, List.getElem?_cons_succ, List.map_cons, List.map_nil, List.cons_append, List.nil_append, List.length_cons, List.length_nil, List.toList_toArray, true_and, and_true, false_and, and_false, List.all_cons, List.all_nil, List.drop_zero, List.drop_succ_cons, List.take_succ_cons, List.take_zero, List.head?_cons, List.set_cons_zero, List.set_cons_succ, Bool.or_true, Bool.true_or, Bool.or_false, Bool.false_or, ne_eq, not_true_eq_false, not_false_eq_true, Nat.zero_add, List.getElem?_toArray, tInt, tNat, tInts, tBools, tIntss, wrap_i64, get_bang, List.getElem?_map, List.length_map, Int.toNat_natCast, List.all_map, tt, tts0, tts1, tt0, tt1, tt2, tt3, tt4, tt5, tt6, tt7, tt8, tt9, tt10, tt11, tt12, tt13]; with_reducible rfl)))); done)) | ((with_reducible apply SW_run tt_ok hG htc); focus ((repeat' (first | (with_reducible exact runX_nil) | ((with_reducible apply runX_cons); focus (simp (discharger := omega) only [tAuto, tErr, h0, stepX, stepX0, evalX, St.callR, findCo, St.litQ, St.sliceQ, St.rdL, St.rd, St.trL, St.tr, T.flatData, flatAll, lookR, St.mapUp, St.slice, St.bd, strSlice, T.okKey, T.inR, bytesOf, and_self, eq_self, Option.bind_some, Option.bind_none, runOps, stepOp, stepOp0, stepOp1, evalOp, dstOk, St.ev.eq_1, St.ev.eq_2, St.ev.eq_3, St.ev.eq_4, ofConst, St.get, St.put, look, T.bin, isConst, mkFn, allT, St.len, St.lst, St.obj, St.load, loadT, loadS, mkAgg, TK.isAgg, St.index, treeIndex, SV.plus, T.cells, T.max2, T.min2, fillS, SV.storable, T.storable, SV.cells, St.litS, idxOk, zipFrz, frz, frzC, frzL, St.append, St.appLen, scrub, St.bd, SV.ren, renL, Ob.ren, St.store, T.put, TI.zT, SV.toT0, nLe, nNle, nLt, nNlt, nEq, nNe, iLe, iNle, iLt, iNlt, iEq, iNe, List.length_replicate, List.getElem?_replicate, Nat.one_mul, Nat.mul_one, List.isEmpty_cons, List.isEmpty_nil, or_self, true_or, or_true, false_or, or_false, and_self, ↓reduceIte, reduceIte, Nat.reduceEqDiff, Nat.reduceLT, Nat.reduceLeDiff, Nat.reduceAdd, Nat.reduceSub, Nat.reduceMul, Nat.reduceDiv, Nat.reduceMod, Nat.reduceBEq, decide_eq_true_eq, Int.reduceEq, Int.reduceLT, Int.reduceLE, Int.reduceNeg, Int.reduceToNat, if_true, if_false, ite_true, ite_false, reduceCtorEq, Option.getD_some, Option.getD_none, Option.map_some, Option.map_none, Option.bind_some, Option.bind_none, decide_true, decide_false, Bool.true_and, Bool.and_true, Bool.false_and, Bool.and_false, Bool.not_true, Bool.not_false, beq_self_eq_true, List.getElem?_cons_zero, List.getElem?_cons_succ, List.map_cons, List.map_nil, List.cons_append, List.nil_append, List.length_cons, List.length_nil, List.toList_toArray, true_and, and_true, false_and, and_false, List.all_cons, List.all_nil, List.drop_zero, List.drop_succ_cons, List.take_succ_cons, List.take_zero, List.head?_cons, List.set_cons_zero, List.set_cons_succ, Bool.or_true, Bool.true_or, Bool.or_false, Bool.false_or, ne_eq, not_true_eq_false, not_false_eq_true, Nat.zero_add, List.getElem?_toArray, tInt, tNat, tInts, tBools, tIntss, wrap_i64, get_bang, List.getElem?_map, List.length_map, Int.toNat_natCast, List.all_map, tt, tts0, tts1, tt0, tt1, tt2, tt3, tt4, tt5, tt6, tt7, tt8, tt9, tt10, tt11, tt12, tt13]; with_reducible rfl)))); done)) | ((with_reducible apply SW_draw rfl tt_ok hG htb); (focus kernel_rfl); focus ((simp only [List.range, List.range.loop, List.size_toArray, List.length_cons, List.length_nil, Nat.reduceAdd]; repeat' (first | (with_reducible exact runI_nil) | ((with_reducible apply runI_cons); focus (simp (discharger := omega) only [tAuto, tErr, h0, stepI, quietOp, stepX, stepX0, evalX, St.callR, findCo, St.litQ, St.sliceQ, St.rdL, St.rd, St.trL, St.tr, T.flatData, flatAll, lookR, St.mapUp, St.slice, St.bd, strSlice, T.okKey, T.inR, bytesOf, and_self, eq_self, Option.bind_some, Option.bind_none, runOps, stepOp, stepOp0, stepOp1, evalOp, dstOk, St.ev.eq_1, St.ev.eq_2, St.ev.eq_3, St.ev.eq_4, ofConst, St.get, St.put, look, T.bin, isConst, mkFn, allT, St.len, St.lst, St.obj, St.load, loadT, loadS, mkAgg, TK.isAgg, St.index, treeIndex, SV.plus, T.cells, T.max2, T.min2, fillS, SV.storable, T.storable, SV.cells, St.litS, idxOk, zipFrz, frz, frzC, frzL, St.append, St.appLen, scrub, St.bd, SV.ren, renL, Ob.ren, St.store, T.put, TI.zT, SV.toT0, nLe, nNle, nLt, nNlt, nEq, nNe, iLe, iNle, iLt, iNlt, iEq, iNe, List.length_replicate, List.getElem?_replicate, Nat.one_mul, Nat.mul_one, List.isEmpty_cons, List.isEmpty_nil, or_self, true_or, or_true, false_or, or_false, and_self, ↓reduceIte, reduceIte, Nat.reduceEqDiff, Nat.reduceLT, Nat.reduceLeDiff, Nat.reduceAdd, Nat.reduceSub, Nat.reduceMul, Nat.reduceDiv, Nat.reduceMod, Nat.reduceBEq, decide_eq_true_eq, Int.reduceEq, Int.reduceLT, Int.reduceLE, Int.reduceNeg, Int.reduceToNat, if_true, if_false, ite_true, ite_false, reduceCtorEq, Option.getD_some, Option.getD_none, Option.map_some, Option.map_none, Option.bind_some, Option.bind_none, decide_true, decide_false, Bool.true_and, Bool.and_true, Bool.false_and, Bool.and_false, Bool.not_true, Bool.not_false, beq_self_eq_true, List.getElem?_cons_zero, List.getElem?_cons_succ, List.map_cons, List.map_nil, List.cons_append, List.nil_append, List.length_cons, List.length_nil, List.toList_toArray, true_and, and_true, false_and, and_false, List.all_cons, List.all_nil, List.drop_zero, List.drop_succ_cons, List.take_succ_cons, List.take_zero, List.head?_cons, List.set_cons_zero, List.set_cons_succ, Bool.or_true, Bool.true_or, Bool.or_false, Bool.false_or, ne_eq, not_true_eq_false, not_false_eq_true, Nat.zero_add, List.getElem?_toArray, tInt, tNat, tInts, tBools, tIntss, wrap_i64, get_bang, List.getElem?_map, List.length_map, Int.toNat_natCast, List.all_map, tt, tts0, tts1, tt0, tt1, tt2, tt3, tt4, tt5, tt6, tt7, tt8, tt9, tt10, tt11, tt12, tt13]; with_reducible rfl)))); done)))
    exact (by simp (discharger := omega) only [tErr, h0, St.res, St.resL, St.res1, St.rd, St.rdL, St.get, look, St.obj, St.load, loadT, loadS, mkAgg, allT, TK.isAgg, nLe, nNle, nLt, nNlt, nEq, nNe, iLe, iNle, iLt, iNlt, iEq, iNe, List.length_replicate, List.getElem?_replicate, Nat.one_mul, Nat.mul_one, List.isEmpty_cons, List.isEmpty_nil, or_self, true_or, or_true, false_or, or_false, and_self, ↓reduceIte, reduceIte, Nat.reduceEqDiff, Nat.reduceLT, Nat.reduceLeDiff, Nat.reduceAdd, Nat.reduceSub, Nat.reduceMul, Nat.reduceDiv, Nat.reduceMod, Nat.reduceBEq, decide_eq_true_eq, Int.reduceEq, Int.reduceLT, Int.reduceLE, Int.reduceNeg, Int.reduceToNat, if_true, if_false, ite_true, ite_false, reduceCtorEq, Option.getD_some, Option.getD_none, Option.map_some, Option.map_none, Option.bind_some, Option.bind_none, decide_true, decide_false, Bool.true_and, Bool.and_true, Bool.false_and, Bool.and_false, Bool.not_true, Bool.not_false, beq_self_eq_true, List.getElem?_cons_zero, List.getElem?_cons_succ, List.map_cons, List.map_nil, List.cons_append, List.nil_append, List.length_cons, List.length_nil, List.toList_toArray, true_and, and_true, false_and, and_false, List.all_cons, List.all_nil, List.drop_zero, List.drop_succ_cons, List.take_succ_cons, List.take_zero, List.head?_cons, List.set_cons_zero, List.set_cons_succ, Bool.or_true, Bool.true_or, Bool.or_false, Bool.false_or, ne_eq, not_true_eq_false, not_false_eq_true, Nat.zero_add, List.getElem?_toArray, tInt, tNat, tInts, tBools, tIntss, List.map_nil, tt, tts0, tts1, tt0, tt1, tt2, tt3, tt4, tt5, tt6, tt7, tt8, tt9, tt10, tt11, tt12, tt13])
end
end Go.Proofs.Ytgggnglkocmbgaa
