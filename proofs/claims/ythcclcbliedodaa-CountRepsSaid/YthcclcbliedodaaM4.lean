/- Plain laws, data behind worlds, and contracts of functions, for the last text. No conditions. -/
import Derived.Test.YthcclcbliedodaaM3
import Derived.WalkKit
import Derived.WalkSpells
import Derived.WalkLawsBesides
import Derived.Lib.Hide
import Derived.BigQuiet
import Derived.Deep.QuietTactic
import Derived.Test.YthcclcbliedodaaRows
import Derived.ProofKit
import Derived.OpenShut
import Derived.ShutString
import Derived.ChangeOld
import Derived.Deep.Slices
import Derived.Lib.SmallJoins
set_option linter.unusedSimpArgs false
set_option linter.unusedVariables false
set_option linter.unnecessarySimpa false
set_option linter.unusedSectionVars false
namespace Go.Proofs.Ythcclcbliedodaa
open Go.RowKit

/-- A value reads as a list whose elements are read by E; its cells lie in blocks that S lets. -/
def Sl {α : Type} (E : World → Value → α → Prop) (S : Nat → Prop) (w : World) (v : Value) (l : List α) : Prop :=
  ∃ a cap, v = .slice a l.length cap ∧ l.length ≤ 9223372036854775807 ∧ ∀ i (h : i < l.length), ∃ b off x, a = some ⟨b, off, none⟩ ∧ S b ∧ w.cell? ⟨b, off + i, none⟩ = some x ∧ E w x l[i]

def isInt (_ : World) (v : Value) (n : Int) : Prop := v = .int .i64 n ∧ I64 n
def isBool (_ : World) (v : Value) (b : Bool) : Prop := v = .bool b
abbrev Ints := Sl isInt
abbrev Bools := Sl isBool

theorem cell_lt {w : World} {b o : Nat} {v : Value} (h : w.cell? ⟨b, o, none⟩ = some v) : b < w.heap.size := World.block_lt_of_cell? w ⟨b, o, none⟩ h

/-- What is read stays as it is where its blocks stay. -/
theorem Sl.keep {α : Type} {E : World → Value → α → Prop} {S S' : Nat → Prop} {w w' : World} {v : Value} {l : List α} (h : Sl E S w v l)
    (hE : ∀ x a, E w x a → E w' x a) (hb : ∀ b, S b → b < w.heap.size → w'.heap[b]? = w.heap[b]? ∧ S' b) : Sl E S' w' v l := by
  obtain ⟨a, cap, hv, hl, hc⟩ := h
  refine ⟨a, cap, hv, hl, fun i hi => ?_⟩
  obtain ⟨b, off, x, ha, hS, hcell, hx⟩ := hc i hi
  have := hb b hS (cell_lt hcell)
  exact ⟨b, off, x, ha, this.2, (World.cell?_of_block (w := w) this.1).trans hcell, hE _ _ hx⟩
theorem Ints.keep {S S' : Nat → Prop} {w w' : World} {v : Value} {l : List Int} (h : Ints S w v l)
    (hb : ∀ b, S b → b < w.heap.size → w'.heap[b]? = w.heap[b]? ∧ S' b) : Ints S' w' v l := Sl.keep h (fun _ _ h => h) hb
theorem Bools.keep {S S' : Nat → Prop} {w w' : World} {v : Value} {l : List Bool} (h : Bools S w v l)
    (hb : ∀ b, S b → b < w.heap.size → w'.heap[b]? = w.heap[b]? ∧ S' b) : Bools S' w' v l := Sl.keep h (fun _ _ h => h) hb
/-- Behind a call that writes nothing that was there. -/
theorem Ints.below {S S' : Nat → Prop} {w w' : World} {v : Value} {l : List Int} (h : Ints S w v l) (hb : Below w.heap.size w w') (hS : ∀ b, S b → b < w.heap.size → S' b) : Ints S' w' v l :=
  h.keep fun b hb' hlt => ⟨hb.block b hlt, hS b hb' hlt⟩
theorem Bools.below {S S' : Nat → Prop} {w w' : World} {v : Value} {l : List Bool} (h : Bools S w v l) (hb : Below w.heap.size w w') (hS : ∀ b, S b → b < w.heap.size → S' b) : Bools S' w' v l :=
  h.keep fun b hb' hlt => ⟨hb.block b hlt, hS b hb' hlt⟩
/-- Below a given block. -/
theorem Ints.under {B : Nat} {w w' : World} {v : Value} {l : List Int} (h : Ints (· < B) w v l) (hb : Below B w w') : Ints (· < B) w' v l :=
  h.keep fun b hb' _ => ⟨hb.block b hb', hb'⟩
theorem Sl.nil {α : Type} (E : World → Value → α → Prop) (S : Nat → Prop) (w : World) : Sl E S w (.slice none 0 0) [] := ⟨none, 0, rfl, by simp, fun i h => absurd h (by simp)⟩

/-- What the call made and owns reads as a list. -/
theorem Sl.of_own {α : Type} {E : World → Value → α → Prop} {w : World} {B e n : Nat} {v : Value} {xs : List Value} (h : w.ownsRow B e 1 v n xs) (l : List α) (hl : l.length = n)
    (hE : ∀ i (h1 : i < xs.length) (h2 : i < l.length), E w xs[i] l[i]) : Sl E (B ≤ ·) w v l := by
  obtain ⟨hx, hc⟩ := h
  subst hl
  rcases hc with ⟨rfl, hn⟩ | ⟨g, cap, cur, rfl, hB, hg, hcap, hm, hcs, ht⟩
  · obtain rfl : l = [] := List.eq_nil_of_length_eq_zero hn
    exact Sl.nil _ _ _
  · refine ⟨_, cap, rfl, by simp only [maxLen] at hm ⊢; omega, fun i hi => ?_⟩
    have hi' : i < xs.length := by omega
    refine ⟨g, 0, xs[i], rfl, hB, ?_, hE i hi' hi⟩
    rw [cell_of_row w g (0 + i) cur e (0, 0) hg, Nat.zero_add]
    have hk : xs[i]? = (cur.toList.take (l.length * 1))[i]? := by rw [ht]
    rw [List.getElem?_take, if_pos (by omega)] at hk
    rw [← List.getElem?_eq_getElem hi', hk]
    simp
theorem Ints.of_own {w : World} {B e n : Nat} {v : Value} {l : List Int} (h : w.ownsRow B e 1 v n (l.map (Value.int .i64))) (hl : l.length = n) (hr : ∀ x ∈ l, I64 x) : Ints (B ≤ ·) w v l :=
  Sl.of_own h l hl fun i h1 h2 => ⟨by simp, hr _ (List.getElem_mem _)⟩
theorem Sl.at {α : Type} {E : World → Value → α → Prop} {S : Nat → Prop} {w : World} {a : Option Addr} {n cap : Nat} {l : List α} (h : Sl E S w (.slice a n cap) l) (i : Nat) (hi : i < l.length) :
    ∃ b off x, a = some ⟨b, off, none⟩ ∧ S b ∧ w.cell? ⟨b, off + i, none⟩ = some x ∧ E w x l[i] := by
  obtain ⟨a', cap', hv, _, hc⟩ := h
  obtain ⟨rfl, _, _⟩ : a = a' ∧ n = l.length ∧ cap = cap' := by simpa using hv
  exact hc i hi
/-- A slice written out. -/
theorem Ints.lit {w : World} {T : Nat} (l : List Int) (hl : l.length ≤ 1000) (hr : ∀ x ∈ l, I64 x) : Ints (w.heap.size ≤ ·) (w.alloc (.cells (l.map (Value.int .i64)).toArray T)) (.slice (some ⟨w.heap.size, 0, none⟩) l.length l.length) l := by
  refine ⟨_, _, rfl, by omega, fun i hi => ⟨w.heap.size, 0, _, rfl, Nat.le_refl _, ?_, ⟨rfl, hr _ (List.getElem_mem hi)⟩⟩⟩
  rw [World.cell?_alloc_at _ _ _ _ rfl]
  simp [List.getElem?_eq_getElem hi]

theorem own_form {w : World} {B e n s : Nat} {v : Value} {xs : List Value} (h : w.ownsRow B e s v n xs) : ∃ a cap, v = .slice a n cap := by
  rcases h.2 with ⟨rfl, rfl⟩ | ⟨g, cap, cur, rfl, _⟩
  · exact ⟨_, _, rfl⟩
  · exact ⟨_, _, rfl⟩

/-- A reading that stays where its blocks stay. -/
def Mov {α : Type} (E : (Nat → Prop) → World → Value → α → Prop) : Prop :=
  ∀ (S S' : Nat → Prop) (w w' : World) (v : Value) (a : α), E S w v a → (∀ b, S b → b < w.heap.size → w'.heap[b]? = w.heap[b]? ∧ S' b) → E S' w' v a
/-- A slice that the call owns; its elements are read apart from its own row. -/
def Acc {α : Type} (E : (Nat → Prop) → World → Value → α → Prop) (B e : Nat) (w : World) (v : Value) (L : List α) : Prop :=
  ∃ xs, w.ownsRow B e 1 v L.length xs ∧ ∀ i (h1 : i < xs.length) (h2 : i < L.length), E (fun b => B ≤ b ∧ some b ≠ v.ownBlock) w xs[i] L[i]
theorem Acc.nil {α : Type} (E : (Nat → Prop) → World → Value → α → Prop) (B e : Nat) (w : World) : Acc E B e w (.slice none 0 0) [] :=
  ⟨[], World.ownsRow_nil _ _ _ _, fun i h1 => absurd h1 (by simp)⟩
theorem Acc.len {α : Type} {E : (Nat → Prop) → World → Value → α → Prop} {B e : Nat} {w : World} {v : Value} {L : List α} (h : Acc E B e w v L) : ∃ a cap, v = .slice a L.length cap := by
  obtain ⟨xs, ho, _⟩ := h; exact own_form ho
theorem Acc.lt {α : Type} {E : (Nat → Prop) → World → Value → α → Prop} {B e : Nat} {w : World} {v : Value} {L : List α} (h : Acc E B e w v L) : ∀ k, v.ownBlock = some k → B ≤ k ∧ k < w.heap.size := by
  obtain ⟨xs, ho, _⟩ := h; exact ho.lt
/-- Behind a call that writes nothing that was there. -/
theorem Acc.below {α : Type} {E : (Nat → Prop) → World → Value → α → Prop} (hE : Mov E) {B e : Nat} {w w' : World} {v : Value} {L : List α} (h : Acc E B e w v L) (hb : Below w.heap.size w w') : Acc E B e w' v L := by
  obtain ⟨xs, ho, hx⟩ := h
  refine ⟨xs, ho.kept (row := none) ⟨hb.os, hb.tape, hb.output, hb.size, fun k hk _ => hb.block k hk⟩ ?_, fun i h1 h2 => hE _ _ _ _ _ _ (hx i h1 h2) fun b hS hlt => ⟨hb.block b hlt, hS⟩⟩
  cases v.ownBlock <;> simp
/-- At the end it is a list like any other. -/
theorem Acc.done {α : Type} {E : (Nat → Prop) → World → Value → α → Prop} (hE : Mov E) {B e : Nat} {w : World} {v : Value} {L : List α} (h : Acc E B e w v L) : Sl (E (B ≤ ·)) (B ≤ ·) w v L := by
  obtain ⟨xs, ho, hx⟩ := h
  exact Sl.of_own ho L rfl fun i h1 h2 => hE _ _ _ _ _ _ (hx i h1 h2) fun b hb _ => ⟨rfl, hb.1⟩

/-- The call returns V and writes nothing that was there. -/
def Ret (V : Value) (w : World) : Ending → World → Prop := fun e w' => e = .returned V ∧ Below w.heap.size w w'
theorem Ret.mk {V v : Value} {w w' : World} (h : v = V) (hb : Below w.heap.size w w') : Ret V w (.returned v) w' := ⟨by rw [h], hb⟩
/-- The call returns V and leaves the world alone. -/
def RetS (V : Value) (w : World) : Ending → World → Prop := fun e w' => e = .returned V ∧ w = w'
theorem RetS.mk {V v : Value} {w : World} (h : v = V) : RetS V w (.returned v) w := ⟨by rw [h], rfl⟩
/-- The call returns what Q says, and writes nothing that was there. -/
def RetQ (Q : Value → World → Prop) (w : World) : Ending → World → Prop := fun e w' => ∃ v, e = .returned v ∧ Q v w' ∧ Below w.heap.size w w'
theorem RetQ.mk {Q : Value → World → Prop} {v : Value} {w w' : World} (h : Q v w') (hb : Below w.heap.size w w') : RetQ Q w (.returned v) w' := ⟨v, rfl, h, hb⟩
abbrev Intss (S : Nat → Prop) := Sl (Ints S) S
theorem Intss.keep {S S' : Nat → Prop} {w w' : World} {v : Value} {l : List (List Int)} (h : Intss S w v l)
    (hb : ∀ b, S b → b < w.heap.size → w'.heap[b]? = w.heap[b]? ∧ S' b) : Intss S' w' v l := by
  obtain ⟨a, cap, hv, hl, hc⟩ := h
  refine ⟨a, cap, hv, hl, fun i hi => ?_⟩
  obtain ⟨b, off, x, ha, hS, hcell, hx⟩ := hc i hi
  have := hb b hS (cell_lt hcell)
  exact ⟨b, off, x, ha, this.2, (World.cell?_of_block (w := w) this.1).trans hcell, hx.keep hb⟩
theorem Intss.below {S S' : Nat → Prop} {w w' : World} {v : Value} {l : List (List Int)} (h : Intss S w v l) (hb : Below w.heap.size w w') (hS : ∀ b, S b → b < w.heap.size → S' b) : Intss S' w' v l :=
  h.keep fun b hb' hlt => ⟨hb.block b hlt, hS b hb' hlt⟩
theorem Intss.under {B : Nat} {w w' : World} {v : Value} {l : List (List Int)} (h : Intss (· < B) w v l) (hb : Below B w w') : Intss (· < B) w' v l :=
  h.keep fun b hb' _ => ⟨hb.block b hb', hb'⟩
end Go.Proofs.Ythcclcbliedodaa
namespace Go.Proofs.Ythcclcbliedodaa
open Go.ChangeShapes Go.WideShapes Go.ChangeAt Go.RowKit Go.Joins Go.Deep

theorem own : ownKnob Try.prog.godebug = none := by kernel_rfl
theorem laidOut : laidOutB Try.prog = true := by kernel_rfl

section
variable {H : Type} {enc : TypeId × Value → H} {w : World} {sp : Nat → Bool} {held : Bool}

/-- One cell that reads as an element. -/
def Opens {α : Type} (enc : TypeId × Value → H) (w : World) (sp : Nat → Bool) (held : Bool) (T : TypeId) (E : World → Value → α → Prop) : Prop :=
  ∀ n v y, DataW.trod enc Try.prog w 0 sp held n T [v] = some y → ∃ a, E w v a

theorem i64_of_wf {n : Int} (h : (Lit.int .i64 n).wf = true) : I64 n := bounds_i64 h

theorem opens_int {T : TypeId} (ht : Try.prog.underlying T = some (.int .i64)) : Opens enc w sp held T isInt := by
  intro n v y h
  obtain ⟨z, hc, _, hw⟩ := DataW.trod_int ht h
  obtain rfl : v = .int .i64 z := by simpa using hc
  exact ⟨z, rfl, i64_of_wf hw⟩
theorem opens_bool {T : TypeId} (ht : Try.prog.underlying T = some .bool) : Opens enc w sp held T isBool := by
  intro n v y h
  obtain ⟨z, hc, _⟩ := DataW.trod_bool ht h
  obtain rfl : v = .bool z := by simpa using hc
  exact ⟨z, rfl⟩
theorem Opens.trod {α : Type} {T : TypeId} {E : World → Value → α → Prop} (h : Opens enc w sp held T E) {v : Value} (hv : v.cells = #[v]) {d : DataW H} {p : List MemPlace} (hd : DataW.Trod enc Try.prog w 0 sp held T v d p) : ∃ a, E w v a := by
  obtain ⟨n, hn⟩ := hd
  rw [hv] at hn
  exact h n v _ hn
end
end Go.Proofs.Ythcclcbliedodaa
