/- Plain laws, data behind worlds, and contracts of functions, for the last text. No conditions. -/
import Derived.Test.YtfhncnhkeodngaaDoorM2
import Derived.WalkKit
import Derived.WalkSpells
import Derived.WalkLawsBesides
import Derived.Lib.Hide
import Derived.BigQuiet
import Derived.Deep.QuietTactic
import Derived.Test.YtfhncnhkeodngaaDoorRows
import Derived.ProofKit
import Derived.OpenShut
import Derived.ShutString
import Derived.ChangeOld
import Derived.Deep.Slices
import Derived.Lib.SmallJoins
import Derived.Test.YtfhncnhkeodngaaDoorChecked
import Derived.LaidEql
import Derived.Stop.Asserts
import Derived.RowKitTokens
import Derived.Test.YtfhncnhkeodngaaDoorCards
import Derived.Test.YtfhncnhkeodngaaDoorTie
import Derived.ChangeSame
import Derived.ChangeVars
import Derived.JoinedOf
import Derived.RowKit
import Derived.LaidLaws
import Derived.LaidHandle
import Derived.Stop.Joined
import Derived.SevenTiedAt
set_option linter.unusedSimpArgs false
set_option linter.unusedVariables false
set_option linter.unnecessarySimpa false
set_option linter.unusedSectionVars false
namespace Go.Proofs.YtfhncnhkeodngaaDoor
open Go.RowKit

/-- A value reads as a list whose elements are read by E; its cells lie in blocks that S lets. -/
def Sl {α : Type} (E : World → Value → α → Prop) (S : Nat → Prop) (w : World) (v : Value) (l : List α) : Prop :=
  ∃ a cap, v = .slice a l.length cap ∧ l.length ≤ 9223372036854775807 ∧ ∀ i (h : i < l.length), ∃ b off x, a = some ⟨b, off, none⟩ ∧ S b ∧ w.cell? ⟨b, off + i, none⟩ = some x ∧ E w x l[i]

def isInt (_ : World) (v : Value) (n : Int) : Prop := v = .int .i64 n ∧ I64 n
def isBool (_ : World) (v : Value) (b : Bool) : Prop := v = .bool b
abbrev Ints := Sl isInt
abbrev Bools := Sl isBool

def errV (T : Nat) (e : Int) : Value := if e = 0 then .nilIface else .iface T (.int .i64 e)

theorem cell_lt {w : World} {b o : Nat} {v : Value} (h : w.cell? ⟨b, o, none⟩ = some v) : b < w.heap.size := World.block_lt_of_cell? w ⟨b, o, none⟩ h

theorem errV_zero (T : Nat) : errV T 0 = .nilIface := rfl
theorem errV_ne (T : Nat) {e : Int} (h : e ≠ 0) : errV T e = .iface T (.int .i64 e) := by simp [errV, h]

/-- What is read stays as it is where its blocks stay. -/
theorem Sl.keep {α : Type} {E : World → Value → α → Prop} {S S' : Nat → Prop} {w w' : World} {v : Value} {l : List α} (h : Sl E S w v l)
    (hE : ∀ x a, E w x a → E w' x a) (hb : ∀ b, S b → b < w.heap.size → w'.heap[b]? = w.heap[b]? ∧ S' b) : Sl E S' w' v l := by
  obtain ⟨a, cap, hv, hl, hc⟩ := h
  refine ⟨a, cap, hv, hl, fun i hi => ?_⟩
  obtain ⟨b, off, x, ha, hS, hcell, hx⟩ := hc i hi
  have := hb b hS (cell_lt hcell)
  exact ⟨b, off, x, ha, this.2, (World.cell?_of_block (w := w) this.1).trans hcell, hE _ _ hx⟩
theorem Ints.keep {S S' : Nat → Prop} {w w' : World} {v : Value} {l : List Int} (h : Ints S w v l)
    (hb : ∀ b, S b → b < w.heap.size → w'.heap[b]? = w.heap[b]? ∧ S' b) : Ints S' w' v l := Sl.keep h (fun _ _ h => h) hb
theorem Bools.keep {S S' : Nat → Prop} {w w' : World} {v : Value} {l : List Bool} (h : Bools S w v l)
    (hb : ∀ b, S b → b < w.heap.size → w'.heap[b]? = w.heap[b]? ∧ S' b) : Bools S' w' v l := Sl.keep h (fun _ _ h => h) hb
/-- Behind a call that writes nothing that was there. -/
theorem Ints.below {S S' : Nat → Prop} {w w' : World} {v : Value} {l : List Int} (h : Ints S w v l) (hb : Below w.heap.size w w') (hS : ∀ b, S b → b < w.heap.size → S' b) : Ints S' w' v l :=
  h.keep fun b hb' hlt => ⟨hb.block b hlt, hS b hb' hlt⟩
theorem Bools.below {S S' : Nat → Prop} {w w' : World} {v : Value} {l : List Bool} (h : Bools S w v l) (hb : Below w.heap.size w w') (hS : ∀ b, S b → b < w.heap.size → S' b) : Bools S' w' v l :=
  h.keep fun b hb' hlt => ⟨hb.block b hlt, hS b hb' hlt⟩
/-- Below a given block. -/
theorem Ints.under {B : Nat} {w w' : World} {v : Value} {l : List Int} (h : Ints (· < B) w v l) (hb : Below B w w') : Ints (· < B) w' v l :=
  h.keep fun b hb' _ => ⟨hb.block b hb', hb'⟩
theorem Sl.nil {α : Type} (E : World → Value → α → Prop) (S : Nat → Prop) (w : World) : Sl E S w (.slice none 0 0) [] := ⟨none, 0, rfl, by simp, fun i h => absurd h (by simp)⟩

/-- What the call made and owns reads as a list. -/
theorem Sl.of_own {α : Type} {E : World → Value → α → Prop} {w : World} {B e n : Nat} {v : Value} {xs : List Value} (h : w.ownsRow B e 1 v n xs) (l : List α) (hl : l.length = n)
    (hE : ∀ i (h1 : i < xs.length) (h2 : i < l.length), E w xs[i] l[i]) : Sl E (B ≤ ·) w v l := by
  obtain ⟨hx, hc⟩ := h
  subst hl
  rcases hc with ⟨rfl, hn⟩ | ⟨g, cap, cur, rfl, hB, hg, hcap, hm, hcs, ht⟩
  · obtain rfl : l = [] := List.eq_nil_of_length_eq_zero hn
    exact Sl.nil _ _ _
  · refine ⟨_, cap, rfl, by simp only [maxLen] at hm ⊢; omega, fun i hi => ?_⟩
    have hi' : i < xs.length := by omega
    refine ⟨g, 0, xs[i], rfl, hB, ?_, hE i hi' hi⟩
    rw [cell_of_row w g (0 + i) cur e (0, 0) hg, Nat.zero_add]
    have hk : xs[i]? = (cur.toList.take (l.length * 1))[i]? := by rw [ht]
    rw [List.getElem?_take, if_pos (by omega)] at hk
    rw [← List.getElem?_eq_getElem hi', hk]
    simp
theorem Ints.of_own {w : World} {B e n : Nat} {v : Value} {l : List Int} (h : w.ownsRow B e 1 v n (l.map (Value.int .i64))) (hl : l.length = n) (hr : ∀ x ∈ l, I64 x) : Ints (B ≤ ·) w v l :=
  Sl.of_own h l hl fun i h1 h2 => ⟨by simp, hr _ (List.getElem_mem _)⟩
theorem Sl.at {α : Type} {E : World → Value → α → Prop} {S : Nat → Prop} {w : World} {a : Option Addr} {n cap : Nat} {l : List α} (h : Sl E S w (.slice a n cap) l) (i : Nat) (hi : i < l.length) :
    ∃ b off x, a = some ⟨b, off, none⟩ ∧ S b ∧ w.cell? ⟨b, off + i, none⟩ = some x ∧ E w x l[i] := by
  obtain ⟨a', cap', hv, _, hc⟩ := h
  obtain ⟨rfl, _, _⟩ : a = a' ∧ n = l.length ∧ cap = cap' := by simpa using hv
  exact hc i hi
/-- A slice written out. -/
theorem Ints.lit {w : World} {T : Nat} (l : List Int) (hl : l.length ≤ 1000) (hr : ∀ x ∈ l, I64 x) : Ints (w.heap.size ≤ ·) (w.alloc (.cells (l.map (Value.int .i64)).toArray T)) (.slice (some ⟨w.heap.size, 0, none⟩) l.length l.length) l := by
  refine ⟨_, _, rfl, by omega, fun i hi => ⟨w.heap.size, 0, _, rfl, Nat.le_refl _, ?_, ⟨rfl, hr _ (List.getElem_mem hi)⟩⟩⟩
  rw [World.cell?_alloc_at _ _ _ _ rfl]
  simp [List.getElem?_eq_getElem hi]

theorem own_form {w : World} {B e n s : Nat} {v : Value} {xs : List Value} (h : w.ownsRow B e s v n xs) : ∃ a cap, v = .slice a n cap := by
  rcases h.2 with ⟨rfl, rfl⟩ | ⟨g, cap, cur, rfl, _⟩
  · exact ⟨_, _, rfl⟩
  · exact ⟨_, _, rfl⟩

/-- A reading that stays where its blocks stay. -/
def Mov {α : Type} (E : (Nat → Prop) → World → Value → α → Prop) : Prop :=
  ∀ (S S' : Nat → Prop) (w w' : World) (v : Value) (a : α), E S w v a → (∀ b, S b → b < w.heap.size → w'.heap[b]? = w.heap[b]? ∧ S' b) → E S' w' v a
/-- A slice that the call owns; its elements are read apart from its own row. -/
def Acc {α : Type} (E : (Nat → Prop) → World → Value → α → Prop) (B e : Nat) (w : World) (v : Value) (L : List α) : Prop :=
  ∃ xs, w.ownsRow B e 1 v L.length xs ∧ ∀ i (h1 : i < xs.length) (h2 : i < L.length), E (fun b => B ≤ b ∧ some b ≠ v.ownBlock) w xs[i] L[i]
theorem Acc.nil {α : Type} (E : (Nat → Prop) → World → Value → α → Prop) (B e : Nat) (w : World) : Acc E B e w (.slice none 0 0) [] :=
  ⟨[], World.ownsRow_nil _ _ _ _, fun i h1 => absurd h1 (by simp)⟩
theorem Acc.len {α : Type} {E : (Nat → Prop) → World → Value → α → Prop} {B e : Nat} {w : World} {v : Value} {L : List α} (h : Acc E B e w v L) : ∃ a cap, v = .slice a L.length cap := by
  obtain ⟨xs, ho, _⟩ := h; exact own_form ho
theorem Acc.lt {α : Type} {E : (Nat → Prop) → World → Value → α → Prop} {B e : Nat} {w : World} {v : Value} {L : List α} (h : Acc E B e w v L) : ∀ k, v.ownBlock = some k → B ≤ k ∧ k < w.heap.size := by
  obtain ⟨xs, ho, _⟩ := h; exact ho.lt
/-- Behind a call that writes nothing that was there. -/
theorem Acc.below {α : Type} {E : (Nat → Prop) → World → Value → α → Prop} (hE : Mov E) {B e : Nat} {w w' : World} {v : Value} {L : List α} (h : Acc E B e w v L) (hb : Below w.heap.size w w') : Acc E B e w' v L := by
  obtain ⟨xs, ho, hx⟩ := h
  refine ⟨xs, ho.kept (row := none) ⟨hb.os, hb.tape, hb.output, hb.size, fun k hk _ => hb.block k hk⟩ ?_, fun i h1 h2 => hE _ _ _ _ _ _ (hx i h1 h2) fun b hS hlt => ⟨hb.block b hlt, hS⟩⟩
  cases v.ownBlock <;> simp
/-- At the end it is a list like any other. -/
theorem Acc.done {α : Type} {E : (Nat → Prop) → World → Value → α → Prop} (hE : Mov E) {B e : Nat} {w : World} {v : Value} {L : List α} (h : Acc E B e w v L) : Sl (E (B ≤ ·)) (B ≤ ·) w v L := by
  obtain ⟨xs, ho, hx⟩ := h
  exact Sl.of_own ho L rfl fun i h1 h2 => hE _ _ _ _ _ _ (hx i h1 h2) fun b hb _ => ⟨rfl, hb.1⟩

/-- The call returns V and writes nothing that was there. -/
def Ret (V : Value) (w : World) : Ending → World → Prop := fun e w' => e = .returned V ∧ Below w.heap.size w w'
theorem Ret.mk {V v : Value} {w w' : World} (h : v = V) (hb : Below w.heap.size w w') : Ret V w (.returned v) w' := ⟨by rw [h], hb⟩
/-- The call returns V and leaves the world alone. -/
def RetS (V : Value) (w : World) : Ending → World → Prop := fun e w' => e = .returned V ∧ w = w'
theorem RetS.mk {V v : Value} {w : World} (h : v = V) : RetS V w (.returned v) w := ⟨by rw [h], rfl⟩
/-- The call returns what Q says, and writes nothing that was there. -/
def RetQ (Q : Value → World → Prop) (w : World) : Ending → World → Prop := fun e w' => ∃ v, e = .returned v ∧ Q v w' ∧ Below w.heap.size w w'
theorem RetQ.mk {Q : Value → World → Prop} {v : Value} {w w' : World} (h : Q v w') (hb : Below w.heap.size w w') : RetQ Q w (.returned v) w' := ⟨v, rfl, h, hb⟩
abbrev Intss (S : Nat → Prop) := Sl (Ints S) S
theorem Intss.keep {S S' : Nat → Prop} {w w' : World} {v : Value} {l : List (List Int)} (h : Intss S w v l)
    (hb : ∀ b, S b → b < w.heap.size → w'.heap[b]? = w.heap[b]? ∧ S' b) : Intss S' w' v l := by
  obtain ⟨a, cap, hv, hl, hc⟩ := h
  refine ⟨a, cap, hv, hl, fun i hi => ?_⟩
  obtain ⟨b, off, x, ha, hS, hcell, hx⟩ := hc i hi
  have := hb b hS (cell_lt hcell)
  exact ⟨b, off, x, ha, this.2, (World.cell?_of_block (w := w) this.1).trans hcell, hx.keep hb⟩
theorem Intss.below {S S' : Nat → Prop} {w w' : World} {v : Value} {l : List (List Int)} (h : Intss S w v l) (hb : Below w.heap.size w w') (hS : ∀ b, S b → b < w.heap.size → S' b) : Intss S' w' v l :=
  h.keep fun b hb' hlt => ⟨hb.block b hlt, hS b hb' hlt⟩
theorem Intss.under {B : Nat} {w w' : World} {v : Value} {l : List (List Int)} (h : Intss (· < B) w v l) (hb : Below B w w') : Intss (· < B) w' v l :=
  h.keep fun b hb' _ => ⟨hb.block b hb', hb'⟩
theorem heap_setCell_at {w : World} {b o : Nat} {C : Array Value} {e : TypeId} {f : Nat × Nat} (h : w.heap[b]? = some (.cells C e f)) (v : Value) :
    (w.setCell ⟨b, o, none⟩ v).heap[b]? = some (.cells (C.setIfInBounds o v) e f) := by
  simp only [World.setCell, Array.getElem?_modify, h]; simp
end Go.Proofs.YtfhncnhkeodngaaDoor
namespace Go.Proofs.YtfhncnhkeodngaaDoor
open Go.ChangeShapes Go.WideShapes Go.ChangeAt Go.RowKit Go.Joins Go.Deep

theorem own : ownKnob Tryd.prog.godebug = none := by kernel_rfl
theorem laidOut : laidOutB Tryd.prog = true := by kernel_rfl

section
variable {H : Type} {enc : TypeId × Value → H} {w : World} {sp : Nat → Bool} {held : Bool}

/-- One cell that reads as an element. -/
def Opens {α : Type} (enc : TypeId × Value → H) (w : World) (sp : Nat → Bool) (held : Bool) (T : TypeId) (E : World → Value → α → Prop) : Prop :=
  ∀ n v y, DataW.trod enc Tryd.prog w 0 sp held n T [v] = some y → ∃ a, E w v a

theorem i64_of_wf {n : Int} (h : (Lit.int .i64 n).wf = true) : I64 n := bounds_i64 h

theorem opens_int {T : TypeId} (ht : Tryd.prog.underlying T = some (.int .i64)) : Opens enc w sp held T isInt := by
  intro n v y h
  obtain ⟨z, hc, _, hw⟩ := DataW.trod_int ht h
  obtain rfl : v = .int .i64 z := by simpa using hc
  exact ⟨z, rfl, i64_of_wf hw⟩
theorem Opens.trod {α : Type} {T : TypeId} {E : World → Value → α → Prop} (h : Opens enc w sp held T E) {v : Value} (hv : v.cells = #[v]) {d : DataW H} {p : List MemPlace} (hd : DataW.Trod enc Tryd.prog w 0 sp held T v d p) : ∃ a, E w v a := by
  obtain ⟨n, hn⟩ := hd
  rw [hv] at hn
  exact h n v _ hn
end
end Go.Proofs.YtfhncnhkeodngaaDoor
namespace Go.Proofs.YtfhncnhkeodngaaDoor
open Go.RowKit Go.Extern.Stop Go.Stop Go.Extern

/-! ### CLOSED FACTS ON THE MODEL's ENTRIES FOR internal/reflectlite, at this program's types: 25: *p.E · 27: **p.E · 23: error · 45: reflectlite's rtype · 1: how many package-level variables the dump has -/
theorem Ea.valueOf27 (t : Addr) (w : World) : (ReflectliteValue.unpack (.iface 138 (.pointer (some t)))).run Tryd.prog w
    = .ok (.agg #[.pointer (some ⟨1, 138, none⟩), .pointer (some ⟨w.heap.size, 0, none⟩), .int .u64 150]) (w.alloc (.cells #[.pointer (some t)] 138)) := by kernel_rfl
theorem Ea.type27 (a : Addr) (w : World) : (ReflectliteValue.methodAny (ReflectliteValue.valueError "reflectlite.Value.Type" 0) (fun t _ _ _ => ReflectliteType.toType t) #[.agg #[.pointer (some ⟨1, 138, none⟩), .pointer (some a), .int .u64 150]]).run Tryd.prog w
    = .ok (.iface 176 (.agg #[.pointer (some ⟨1, 138, none⟩)])) w := by kernel_rfl
theorem Ea.methodKind (h : Value) (w : World) : (Go.method 319 176 (.agg #[h]) "Kind").run Tryd.prog w = .ok (120, h) w := by kernel_rfl
theorem Ea.kind27 (w : World) : ((ReflectliteType.abiMethod fun t => Functor.map (fun a : Nat => Value.int IntKind.u8 (a : Int)) (Rtype.kind t)) #[.pointer (some ⟨1, 138, none⟩)]).run Tryd.prog w = .ok (.int .u8 22) w := by kernel_rfl
theorem Ea.kind25 (w : World) : ((ReflectliteType.abiMethod fun t => Functor.map (fun a : Nat => Value.int IntKind.u8 (a : Int)) (Rtype.kind t)) #[.pointer (some ⟨1, 26, none⟩)]).run Tryd.prog w = .ok (.int .u8 2) w := by kernel_rfl

/-! ### THE ENTRIES THAT READ OR WRITE MEMORY: laws with a premise on the cell (after Derived/Lib/ReflectliteSlice.lean's manner: each unfolding a lemma of its own, by rfl) -/
theorem rlm (z : Sem Value) (f : TypeId → Addr → Nat → Nat → Sem Value) (v : Value) :
    ReflectliteValue.method z f #[v] = (do match ← ReflectliteValue.parts v with | none => z | some (t, a, fl) => f t a fl (fl % 32)) := rfl
theorem Ea.parts27 (a : Addr) (w : World) : (ReflectliteValue.parts (.agg #[.pointer (some ⟨1, 138, none⟩), .pointer (some a), .int .u64 150])).run Tryd.prog w = .ok (some (138, a, 150)) w := by kernel_rfl
/-- (Value).IsNil at the Value of a **p.E that is not nil. -/
theorem Ea.isNil27 (a p : Addr) (W : World) (ha : W.cell? a = some (.pointer (some p))) :
    (ReflectliteValue.method (ReflectliteValue.valueError "reflectlite.Value.IsNil" 0) ReflectliteValue.isNil #[.agg #[.pointer (some ⟨1, 138, none⟩), .pointer (some a), .int .u64 150]]).run Tryd.prog W = .ok (.bool false) W := by
  rw [rlm]
  simp only [Sem.run_bind, Ea.parts27, Result.andThen]
  simp [ReflectliteValue.isNil, loadVar, isAgg, underlying, Tryd.underlying138, ha, Result.andThen]

theorem Ea.methodElem (h : Value) (w : World) : (Go.method 319 176 (.agg #[h]) "Elem").run Tryd.prog w = .ok (130, .agg #[h]) w := by kernel_rfl
theorem Ea.methodImplements (h : Value) (w : World) : (Go.method 319 176 (.agg #[h]) "Implements").run Tryd.prog w = .ok (131, .agg #[h]) w := by kernel_rfl
theorem Ea.methodAssignableTo (h : Value) (w : World) : (Go.method 319 176 (.agg #[h]) "AssignableTo").run Tryd.prog w = .ok (128, .agg #[h]) w := by kernel_rfl
theorem Ea.elem27 (w : World) : (ReflectliteType.method ReflectliteType.elem #[.agg #[.pointer (some ⟨1, 138, none⟩)]]).run Tryd.prog w = .ok (.iface 176 (.agg #[.pointer (some ⟨1, 26, none⟩)])) w := by kernel_rfl
theorem Ea.implements25 (w : World) : (ReflectliteType.relation "Implements" ReflectliteType.implements_ #[.agg #[.pointer (some ⟨1, 26, none⟩)], .iface 176 (.agg #[.pointer (some ⟨1, 30, none⟩)])]).run Tryd.prog w = .ok (.bool true) w := by kernel_rfl
theorem Ea.typeOf25 (v : Value) (w : World) : (ReflectliteType.typeOf #[.iface 26 v]).run Tryd.prog w = .ok (.iface 176 (.agg #[.pointer (some ⟨1, 26, none⟩)])) w := by kernel_rfl
theorem Ea.assignable25 (w : World) : (ReflectliteType.relation "AssignableTo" ReflectliteType.assignableTo #[.agg #[.pointer (some ⟨1, 26, none⟩)], .iface 176 (.agg #[.pointer (some ⟨1, 26, none⟩)])]).run Tryd.prog w = .ok (.bool true) w := by kernel_rfl
theorem Ea.valueOf25 (n : Int) (w : World) : (ReflectliteValue.unpack (.iface 26 (.int .i64 n))).run Tryd.prog w
    = .ok (.agg #[.pointer (some ⟨1, 26, none⟩), .pointer (some ⟨w.heap.size, 0, none⟩), .int .u64 130]) (w.alloc (.cells #[.int .i64 n] 26)) := by kernel_rfl

theorem Ea.elemOf27 (w : World) : (Rtype.elem? 138).run Tryd.prog w = .ok (some 26) w := by kernel_rfl
theorem Ea.mk25 (p : Addr) (w : World) : (ReflectliteValue.mk 26 p ReflectliteValue.flagAddr).run Tryd.prog w = .ok (.agg #[.pointer (some ⟨1, 26, none⟩), .pointer (some p), .int .u64 386]) w := by kernel_rfl
/-- (Value).Elem at the Value of a **p.E that is not nil: the Value of the *p.E variable that it points to, addressable. -/
theorem Ea.elemV27 (a p : Addr) (W : World) (ha : W.cell? a = some (.pointer (some p))) :
    (ReflectliteValue.method (ReflectliteValue.valueError "reflectlite.Value.Elem" 0) ReflectliteValue.elem #[.agg #[.pointer (some ⟨1, 138, none⟩), .pointer (some a), .int .u64 150]]).run Tryd.prog W
      = .ok (.agg #[.pointer (some ⟨1, 26, none⟩), .pointer (some p), .int .u64 386]) W := by
  rw [rlm]
  simp only [Sem.run_bind, Ea.parts27, Result.andThen]
  simp [ReflectliteValue.elem, loadVar, isAgg, underlying, Tryd.underlying138, ha, Result.andThen, Ea.elemOf27, Ea.mk25]
theorem rls (v x : Value) : ReflectliteValue.set #[v, x] = (do
    let (some (dst, a, fl), some (src, b, _)) := (← ReflectliteValue.parts v, ← ReflectliteValue.parts x)
      | unsupported (.noEntry "extern/(internal/reflectlite.Value).Set.zeroValue")
    if fl / ReflectliteValue.flagAddr % 2 == 0 then unsupported (.noEntry "extern/(internal/reflectlite.Value).Set.unaddressable")
    let val ← loadVar src b
    if ← Rtype.directlyAssignable dst src then storeVar dst a val
    else if ← Rtype.implements dst src then
      if (← Rtype.kind src) == 20 then
        match val with
        | .nilIface => unsupported (.noEntry "extern/reflectlite: a nil value of one interface type handed on as a value of another")
        | _ => storeVar dst a val
      else storeVar dst a (.iface src val)
    else panicString ("reflectlite.Set: value of type " ++ (← Rtype.spelt src) ++ " is not assignable to type " ++ (← Rtype.spelt dst))
    pure (.tuple #[])) := rfl
theorem Ea.parts25a (a : Addr) (w : World) : (ReflectliteValue.parts (.agg #[.pointer (some ⟨1, 26, none⟩), .pointer (some a), .int .u64 386])).run Tryd.prog w = .ok (some (26, a, 386)) w := by kernel_rfl
theorem Ea.parts25 (a : Addr) (w : World) : (ReflectliteValue.parts (.agg #[.pointer (some ⟨1, 26, none⟩), .pointer (some a), .int .u64 130])).run Tryd.prog w = .ok (some (26, a, 130)) w := by kernel_rfl
theorem Ea.direct25 (w : World) : (Rtype.directlyAssignable 26 26).run Tryd.prog w = .ok true w := by kernel_rfl
/-- (Value).Set: the *p.E variable at 'ta' gets what the Value's own variable 'b' holds. -/
theorem Ea.set25 (ta b : Addr) (n : Int) (old : Value) (W : World) (hb : W.cell? b = some (.int .i64 n)) (ht : W.cell? ta = some old) (hf : W.frozen? ta = false) :
    (ReflectliteValue.set #[.agg #[.pointer (some ⟨1, 26, none⟩), .pointer (some ta), .int .u64 386], .agg #[.pointer (some ⟨1, 26, none⟩), .pointer (some b), .int .u64 130]]).run Tryd.prog W
      = .ok (.tuple #[]) (W.setCell ta (.int .i64 n)) := by
  rw [rls]
  simp only [Sem.run_bind, Ea.parts25a, Ea.parts25, Result.andThen]
  simp [ReflectliteValue.flagAddr, loadVar, isAgg, underlying, Tryd.underlying26, hb, Result.andThen, Ea.direct25, storeVar, Value.cells, storeCells, Addr.add]
  rw [run_store Tryd.prog W ta _ _ (by rfl)]
  simp [ht, hf]

set_option maxHeartbeats 4000000 in
theorem as_hit (n : Int) (t : Addr) (old : Value) (w : World) (hg : w.cell? ⟨0, 0, none⟩ = some (.iface 176 (.agg #[.pointer (some ⟨1, 30, none⟩)]))) (ht0 : w.cell? t = some old) (hf0 : w.frozen? t = false) :
    Calls Tryd.prog 87 #[.iface 26 (.int .i64 n), .iface 138 (.pointer (some t))] w fun ev w' => ev = .returned (.bool true) ∧ w' = ((((w.alloc (.cells #[.pointer (some t)] 138)).alloc (.cells #[.pointer (some ⟨1, 138, none⟩), .pointer (some ⟨w.heap.size, 0, none⟩), .int .u64 150] 159)).alloc (.cells #[.pointer (some ⟨1, 138, none⟩), .pointer (some ⟨w.heap.size, 0, none⟩), .int .u64 150] 159)).alloc (.cells #[.int .i64 n] 26)).setCell t (.int .i64 n) := by
  have h6 := @run_callFunc_extern Tryd.prog 97 _ (fun args => ReflectliteValue.unpack (args.getD 0 (.tuple #[]))) Tryd.func97 (by kernel_rfl) (by kernel_rfl) (by kernel_rfl) (by kernel_rfl)
  have h7 := @run_callFunc_extern Tryd.prog 98 _ (ReflectliteValue.methodAny (ReflectliteValue.valueError "reflectlite.Value.Type" 0) (fun t _ _ _ => ReflectliteType.toType t)) Tryd.func98 (by kernel_rfl) (by kernel_rfl) (by kernel_rfl) (by kernel_rfl)
  have h8 := @run_callFunc_extern Tryd.prog 99 _ (ReflectliteValue.method (ReflectliteValue.valueError "reflectlite.Value.IsNil" 0) ReflectliteValue.isNil) Tryd.func99 (by kernel_rfl) (by kernel_rfl) (by kernel_rfl) (by kernel_rfl)
  have h27 := @run_callFunc_extern Tryd.prog 120 _ (ReflectliteType.abiMethod fun t => do pure (.int .u8 (← Rtype.kind t))) Tryd.func120 (by kernel_rfl) (by kernel_rfl) (by kernel_rfl) (by kernel_rfl)
  have h37 := @run_callFunc_extern Tryd.prog 130 _ (ReflectliteType.method ReflectliteType.elem) Tryd.func130 (by kernel_rfl) (by kernel_rfl) (by kernel_rfl) (by kernel_rfl)
  have h38 := @run_callFunc_extern Tryd.prog 131 _ (ReflectliteType.relation "Implements" ReflectliteType.implements_) Tryd.func131 (by kernel_rfl) (by kernel_rfl) (by kernel_rfl) (by kernel_rfl)
  have h10 := @run_callFunc_extern Tryd.prog 103 _ ReflectliteType.typeOf Tryd.func103 (by kernel_rfl) (by kernel_rfl) (by kernel_rfl) (by kernel_rfl)
  have h35 := @run_callFunc_extern Tryd.prog 128 _ (ReflectliteType.relation "AssignableTo" ReflectliteType.assignableTo) Tryd.func128 (by kernel_rfl) (by kernel_rfl) (by kernel_rfl) (by kernel_rfl)
  have h11 := @run_callFunc_extern Tryd.prog 104 _ (ReflectliteValue.method (ReflectliteValue.valueError "reflectlite.Value.Elem" 0) ReflectliteValue.elem) Tryd.func104 (by kernel_rfl) (by kernel_rfl) (by kernel_rfl) (by kernel_rfl)
  have h12 := @run_callFunc_extern Tryd.prog 105 _ ReflectliteValue.set Tryd.func105 (by kernel_rfl) (by kernel_rfl) (by kernel_rfl) (by kernel_rfl)
  have tO := Ea.typeOf25
  have mA := Ea.methodAssignableTo
  have a25 := Ea.assignable25
  have v25 := Ea.valueOf25
  have f6 := Ea.valueOf27
  have f7 := Ea.type27
  have mK := Ea.methodKind
  have mE := Ea.methodElem
  have mI := Ea.methodImplements
  have k27 := Ea.kind27
  have k25 := Ea.kind25
  have e27 := Ea.elem27
  have i25 := Ea.implements25
  have n8 := Ea.isNil27 ⟨w.heap.size, 0, none⟩ t ((w.alloc (.cells #[.pointer (some t)] 138)).alloc (.cells #[.pointer (some ⟨1, 138, none⟩), .pointer (some ⟨w.heap.size, 0, none⟩), .int .u64 150] 159)) (by simp)
  have hlt : 0 < w.heap.size := by
    rcases Nat.eq_zero_or_pos w.heap.size with h0 | h
    · simp [World.cell?, h0] at hg
    · exact h
  have hg2 : ((w.alloc (.cells #[.pointer (some t)] 138)).alloc (.cells #[.pointer (some ⟨1, 138, none⟩), .pointer (some ⟨w.heap.size, 0, none⟩), .int .u64 150] 159)).cell? ⟨0, 0, none⟩ = some (.iface 176 (.agg #[.pointer (some ⟨1, 30, none⟩)])) := by
    rw [World.cell?_alloc_lt _ _ ⟨0, 0, none⟩ (by simp), World.cell?_alloc_lt _ _ ⟨0, 0, none⟩ hlt]; exact hg
  have htl : t.block < w.heap.size := by
    rcases Nat.lt_or_ge t.block w.heap.size with h | h
    · exact h
    · simp [World.cell?, Array.getElem?_eq_none h] at ht0
  have el := Ea.elemV27 ⟨w.heap.size, 0, none⟩ t (((w.alloc (.cells #[.pointer (some t)] 138)).alloc (.cells #[.pointer (some ⟨1, 138, none⟩), .pointer (some ⟨w.heap.size, 0, none⟩), .int .u64 150] 159)).alloc (.cells #[.pointer (some ⟨1, 138, none⟩), .pointer (some ⟨w.heap.size, 0, none⟩), .int .u64 150] 159)) (by rw [World.cell?_alloc_lt _ _ ⟨w.heap.size, 0, none⟩ (by simp; omega)]; simp)
  have st := Ea.set25 t ⟨w.heap.size + 1 + 1 + 1, 0, none⟩ n old ((((w.alloc (.cells #[.pointer (some t)] 138)).alloc (.cells #[.pointer (some ⟨1, 138, none⟩), .pointer (some ⟨w.heap.size, 0, none⟩), .int .u64 150] 159)).alloc (.cells #[.pointer (some ⟨1, 138, none⟩), .pointer (some ⟨w.heap.size, 0, none⟩), .int .u64 150] 159)).alloc (.cells #[.int .i64 n] 26))
    (by rw [World.cell?_alloc_at _ _ _ _ (by simp)]; rfl)
    (by rw [World.cell?_alloc_lt _ _ t (by simp; omega), World.cell?_alloc_lt _ _ t (by simp; omega), World.cell?_alloc_lt _ _ t (by simp; omega), World.cell?_alloc_lt _ _ t htl]; exact ht0)
    (by rw [World.frozen?_alloc_old _ _ t (by simp; omega), World.frozen?_alloc_old _ _ t (by simp; omega), World.frozen?_alloc_old _ _ t (by simp; omega), World.frozen?_alloc_old _ _ t (Nat.ne_of_lt htl)]; exact hf0)
  go_enter Tryd.func87, Tryd.ntmps87
  go_wp2
  refine wp_loop_rounds 1 ?_
  rw [rounds_succ]
  go_wp2
  go_ret
  exact ⟨rfl, rfl⟩
end Go.Proofs.YtfhncnhkeodngaaDoor
namespace Go.Proofs.YtfhncnhkeodngaaDoor
open Go.RowKit

/-- What errors.errorType holds. -/
def errCell (w : World) : Prop := w.cell? ⟨0, 0, none⟩ = some (.iface 176 (.agg #[.pointer (some ⟨1, 30, none⟩)]))
theorem errCell.below {w w' : World} (h : errCell w) (hb : Below w.heap.size w w') : errCell w' :=
  (hb.cell (p := ⟨0, 0, none⟩) (cell_lt h)).trans h

set_option maxHeartbeats 4000000 in
theorem Told_calls (e : Int) (w : World) (hg : errCell w) :
    Calls Tryd.prog 54 #[errV 26 e] w (Ret (.int .i64 e) w) := by
  by_cases h0 : e = 0
  · subst h0
    rw [errV_zero]
    clear hg
    go_enter Tryd.func54, Tryd.ntmps54
    go_wp2
    go_ret
    exact Ret.mk rfl (Below.refl _ _)
  · rw [errV_ne _ h0]
    clear h0
    have hgA : (w.alloc (.cells #[.int .i64 0] 26)).cell? ⟨0, 0, none⟩ = some (.iface 176 (.agg #[.pointer (some ⟨1, 30, none⟩)])) :=
      errCell.below hg ((Below.refl _ _).alloc (Nat.le_refl _) _)
    have htA : (w.alloc (.cells #[.int .i64 0] 26)).cell? ⟨w.heap.size, 0, none⟩ = some (.int .i64 0) := by simp
    have hfA : (w.alloc (.cells #[.int .i64 0] 26)).frozen? ⟨w.heap.size, 0, none⟩ = false := by simp
    have H := Lib.hid (And.intro hgA (And.intro htA hfA))
    clear hgA htA hfA hg
    go_enter Tryd.func54, Tryd.ntmps54
    go_wp2_with fail
    refine (as_hit e ⟨w.heap.size, 0, none⟩ (.int .i64 0) _ H.out.1 H.out.2.1 H.out.2.2).mono ?_
    rintro e' w' ⟨rfl, hw⟩
    have hB : Below w.heap.size w w' := by
      rw [hw]
      exact (((((((Below.refl _ _).alloc (Nat.le_refl _) _).alloc (by simp) _).alloc (by simp; omega) _).alloc (by simp; omega) _).alloc (by simp; omega) _)).setCell (Nat.le_refl _) _
    have hc : w'.cell? ⟨w.heap.size, 0, none⟩ = some (.int .i64 e) := by
      rw [hw]
      refine (cell_of_row _ _ _ _ _ _ (heap_setCell_at (C := #[.int .i64 0]) (e := 26) (f := (0, 0)) ?_ _)).trans (by simp)
      rw [Below.heap_alloc _ _ _ (by simp; omega), Below.heap_alloc _ _ _ (by simp; omega), Below.heap_alloc _ _ _ (by simp; omega), Below.heap_alloc _ _ _ (by simp)]
      exact heap_alloc_new w _
    have HB := Lib.hid hB
    clear hw hB
    go_wp2_with fail
    go_ret
    exact Ret.mk rfl HB.out

set_option maxHeartbeats 4000000 in
theorem Error_calls (e f : Int) (w : World) (hg : errCell w) :
    Calls Tryd.prog 13 #[errV 26 e, .int .i64 f] w (Ret (.bool (e == f)) w) := by
  have H := Lib.hid hg; clear hg
  generalize hv : errV 26 e = v
  have Hv := Lib.hid hv; clear hv
  go_enter Tryd.func13, Tryd.ntmps13
  go_wp2_with fail
  rw [← Hv.out]
  refine (Told_calls e _ H.out).mono ?_
  rintro e' w' ⟨rfl, hb⟩
  have HB := Lib.hid hb; clear hb
  go_wp2_with fail
  go_ret
  exact Ret.mk rfl HB.out
end Go.Proofs.YtfhncnhkeodngaaDoor
namespace Go.Proofs.YtfhncnhkeodngaaDoor
open Go.ChangeShapes Go.WideShapes Go.RowKit

theorem et : Tryd.prog.globalNamed "errors.errorType" = some 0 := by kernel_rfl
theorem rt : (Tryd.prog.cutTypes.find? (·.1 == "internal/reflectlite.rtype")).map (·.2) = some 176 := by kernel_rfl
theorem oneRow : ((List.range 219).filter fun t => Tryd.prog.rowNamed t [101, 114, 114, 111, 114]) = [30] := by kernel_rfl
theorem typesSize : Tryd.prog.types.size = 219 := by kernel_rfl

/-- What a row lists. -/
def laidL : List (String × DataW Unit) := [("errors.errorType", Rows.laid_errors_errorType)]
theorem handle_of_laid {W : World} (h : laidMetH Tryd.prog laidL W) : errCell W := by
  have h' : laidMet Tryd.prog [] W ∧ handlesMet Tryd.prog laidL W := h
  obtain ⟨name, u, ty, e1, e2, e3, e4, e5⟩ := h'.2 _ (List.mem_singleton.2 rfl)
  have en : name = [101, 114, 114, 111, 114] := (Option.some.inj e1).symm
  subst en
  obtain rfl := Option.some.inj (rt.symm.trans e2)
  have hm : ty ∈ (List.range 219).filter fun t => Tryd.prog.rowNamed t [101, 114, 114, 111, 114] := List.mem_filter.2 ⟨List.mem_range.2 (by rw [← typesSize]; exact e3), e4⟩
  rw [oneRow] at hm
  obtain rfl := List.mem_singleton.1 hm
  have hh : typeHandle Tryd.prog 30 = .pointer (some ⟨1, 30, none⟩) := by kernel_rfl
  rw [hh] at e5
  unfold errCell
  simpa using World.var?_cell et e5 0

/-- A world that meets the list: the settled one, the variable's cell laid. -/
noncomputable def laidWorld (os : Os) : World :=
  let w0 := World.holding Tryd.prog os ⟨#[], #[], []⟩
  { w0 with heap := w0.heap.modify 0 fun
      | .cells _ t frozen => .cells #[.iface 176 (.agg #[.pointer (some ⟨1, 30, none⟩)])] t frozen
      | o => o }
theorem laidWorld_met (os : Os) (args : Array Value) : laidMetH Tryd.prog laidL ((laidWorld os).forCall (fun _ _ => 0) ⟨#[], args, []⟩).memory :=
  laidMetH_of_parts (laidMet_nil _ _) (by kernel_rfl)
end Go.Proofs.YtfhncnhkeodngaaDoor
