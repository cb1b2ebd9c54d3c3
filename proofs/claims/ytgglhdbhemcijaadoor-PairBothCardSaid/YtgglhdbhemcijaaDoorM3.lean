/- Plain laws, data behind worlds, and contracts of functions, for the last text. No conditions. -/
import Derived.Test.YtgglhdbhemcijaaDoorM2
import Derived.WalkKit
import Derived.WalkSpells
import Derived.WalkLawsBesides
import Derived.Lib.Hide
import Derived.BigQuiet
import Derived.Deep.QuietTactic
import Derived.Test.YtgglhdbhemcijaaDoorRows
import Derived.ProofKit
import Derived.OpenShut
import Derived.ShutString
import Derived.ChangeOld
import Derived.Deep.Slices
import Derived.Lib.SmallJoins
import Derived.Test.YtgglhdbhemcijaaDoorChecked
import Derived.LaidEql
import Derived.Stop.Asserts
import Derived.RowKitTokens
import Derived.Test.YtgglhdbhemcijaaDoorCards
import Derived.Test.YtgglhdbhemcijaaDoorTie
import Derived.ChangeSame
import Derived.ChangeVars
import Derived.JoinedOf
import Derived.RowKit
import Derived.LaidLaws
import Derived.LaidHandle
import Derived.Stop.Joined
import Derived.SevenTiedAt
set_option linter.unusedSimpArgs false
set_option linter.unusedVariables false
set_option linter.unnecessarySimpa false
namespace Go.Proofs.YtgglhdbhemcijaaDoor
open Go.RowKit

/-- A value reads as a list whose elements are read by E; its cells lie in blocks that S lets. -/
def Sl {α : Type} (E : World → Value → α → Prop) (S : Nat → Prop) (w : World) (v : Value) (l : List α) : Prop :=
  ∃ a cap, v = .slice a l.length cap ∧ l.length ≤ 9223372036854775807 ∧ ∀ i (h : i < l.length), ∃ b off x, a = some ⟨b, off, none⟩ ∧ S b ∧ w.cell? ⟨b, off + i, none⟩ = some x ∧ E w x l[i]

def I64 (n : Int) : Prop := -9223372036854775808 ≤ n ∧ n ≤ 9223372036854775807
def isInt (_ : World) (v : Value) (n : Int) : Prop := v = .int .i64 n ∧ I64 n
def isBool (_ : World) (v : Value) (b : Bool) : Prop := v = .bool b
abbrev Ints := Sl isInt
abbrev Bools := Sl isBool

def errV (T : Nat) (e : Int) : Value := if e = 0 then .nilIface else .iface T (.int .i64 e)

theorem cell_lt {w : World} {b o : Nat} {v : Value} (h : w.cell? ⟨b, o, none⟩ = some v) : b < w.heap.size := World.block_lt_of_cell? w ⟨b, o, none⟩ h

theorem errV_zero (T : Nat) : errV T 0 = .nilIface := rfl
theorem errV_ne (T : Nat) {e : Int} (h : e ≠ 0) : errV T e = .iface T (.int .i64 e) := by simp [errV, h]

/-- What is read stays as it is where its blocks stay. -/
theorem Sl.keep {α : Type} {E : World → Value → α → Prop} {S S' : Nat → Prop} {w w' : World} {v : Value} {l : List α} (h : Sl E S w v l)
    (hE : ∀ x a, E w x a → E w' x a) (hb : ∀ b, S b → b < w.heap.size → w'.heap[b]? = w.heap[b]? ∧ S' b) : Sl E S' w' v l := by
  obtain ⟨a, cap, hv, hl, hc⟩ := h
  refine ⟨a, cap, hv, hl, fun i hi => ?_⟩
  obtain ⟨b, off, x, ha, hS, hcell, hx⟩ := hc i hi
  have := hb b hS (cell_lt hcell)
  exact ⟨b, off, x, ha, this.2, (World.cell?_of_block (w := w) this.1).trans hcell, hE _ _ hx⟩
theorem Ints.keep {S S' : Nat → Prop} {w w' : World} {v : Value} {l : List Int} (h : Ints S w v l)
    (hb : ∀ b, S b → b < w.heap.size → w'.heap[b]? = w.heap[b]? ∧ S' b) : Ints S' w' v l := Sl.keep h (fun _ _ h => h) hb
theorem Bools.keep {S S' : Nat → Prop} {w w' : World} {v : Value} {l : List Bool} (h : Bools S w v l)
    (hb : ∀ b, S b → b < w.heap.size → w'.heap[b]? = w.heap[b]? ∧ S' b) : Bools S' w' v l := Sl.keep h (fun _ _ h => h) hb
/-- Behind a call that writes nothing that was there. -/
theorem Ints.below {S S' : Nat → Prop} {w w' : World} {v : Value} {l : List Int} (h : Ints S w v l) (hb : Below w.heap.size w w') (hS : ∀ b, S b → b < w.heap.size → S' b) : Ints S' w' v l :=
  h.keep fun b hb' hlt => ⟨hb.block b hlt, hS b hb' hlt⟩
theorem Bools.below {S S' : Nat → Prop} {w w' : World} {v : Value} {l : List Bool} (h : Bools S w v l) (hb : Below w.heap.size w w') (hS : ∀ b, S b → b < w.heap.size → S' b) : Bools S' w' v l :=
  h.keep fun b hb' hlt => ⟨hb.block b hlt, hS b hb' hlt⟩
/-- Below a given block. -/
theorem Ints.under {B : Nat} {w w' : World} {v : Value} {l : List Int} (h : Ints (· < B) w v l) (hb : Below B w w') : Ints (· < B) w' v l :=
  h.keep fun b hb' _ => ⟨hb.block b hb', hb'⟩
theorem Sl.nil {α : Type} (E : World → Value → α → Prop) (S : Nat → Prop) (w : World) : Sl E S w (.slice none 0 0) [] := ⟨none, 0, rfl, by simp, fun i h => absurd h (by simp)⟩

/-- What the call made and owns reads as a list. -/
theorem Sl.of_own {α : Type} {E : World → Value → α → Prop} {w : World} {B e n : Nat} {v : Value} {xs : List Value} (h : w.ownsRow B e 1 v n xs) (l : List α) (hl : l.length = n)
    (hE : ∀ i (h1 : i < xs.length) (h2 : i < l.length), E w xs[i] l[i]) : Sl E (B ≤ ·) w v l := by
  obtain ⟨hx, hc⟩ := h
  subst hl
  rcases hc with ⟨rfl, hn⟩ | ⟨g, cap, cur, rfl, hB, hg, hcap, hm, hcs, ht⟩
  · obtain rfl : l = [] := List.eq_nil_of_length_eq_zero hn
    exact Sl.nil _ _ _
  · refine ⟨_, cap, rfl, by simp only [maxLen] at hm ⊢; omega, fun i hi => ?_⟩
    have hi' : i < xs.length := by omega
    refine ⟨g, 0, xs[i], rfl, hB, ?_, hE i hi' hi⟩
    rw [cell_of_row w g (0 + i) cur e (0, 0) hg, Nat.zero_add]
    have hk : xs[i]? = (cur.toList.take (l.length * 1))[i]? := by rw [ht]
    rw [List.getElem?_take, if_pos (by omega)] at hk
    rw [← List.getElem?_eq_getElem hi', hk]
    simp
theorem Ints.of_own {w : World} {B e n : Nat} {v : Value} {l : List Int} (h : w.ownsRow B e 1 v n (l.map (Value.int .i64))) (hl : l.length = n) (hr : ∀ x ∈ l, I64 x) : Ints (B ≤ ·) w v l :=
  Sl.of_own h l hl fun i h1 h2 => ⟨by simp, hr _ (List.getElem_mem _)⟩
theorem Sl.form {α : Type} {E : World → Value → α → Prop} {S : Nat → Prop} {w : World} {v : Value} {l : List α} (h : Sl E S w v l) : ∃ a cap, v = .slice a l.length cap := by
  obtain ⟨a, cap, hv, _⟩ := h; exact ⟨a, cap, hv⟩
theorem Sl.at {α : Type} {E : World → Value → α → Prop} {S : Nat → Prop} {w : World} {a : Option Addr} {n cap : Nat} {l : List α} (h : Sl E S w (.slice a n cap) l) (i : Nat) (hi : i < l.length) :
    ∃ b off x, a = some ⟨b, off, none⟩ ∧ S b ∧ w.cell? ⟨b, off + i, none⟩ = some x ∧ E w x l[i] := by
  obtain ⟨a', cap', hv, _, hc⟩ := h
  obtain ⟨rfl, _, _⟩ : a = a' ∧ n = l.length ∧ cap = cap' := by simpa using hv
  exact hc i hi
/-- A slice written out. -/
theorem Ints.lit {w : World} {T : Nat} (l : List Int) (hl : l.length ≤ 1000) (hr : ∀ x ∈ l, I64 x) : Ints (w.heap.size ≤ ·) (w.alloc (.cells (l.map (Value.int .i64)).toArray T)) (.slice (some ⟨w.heap.size, 0, none⟩) l.length l.length) l := by
  refine ⟨_, _, rfl, by omega, fun i hi => ⟨w.heap.size, 0, _, rfl, Nat.le_refl _, ?_, ⟨rfl, hr _ (List.getElem_mem hi)⟩⟩⟩
  rw [World.cell?_alloc_at _ _ _ _ rfl]
  simp [List.getElem?_eq_getElem hi]

theorem own_form {w : World} {B e n s : Nat} {v : Value} {xs : List Value} (h : w.ownsRow B e s v n xs) : ∃ a cap, v = .slice a n cap := by
  rcases h.2 with ⟨rfl, rfl⟩ | ⟨g, cap, cur, rfl, _⟩
  · exact ⟨_, _, rfl⟩
  · exact ⟨_, _, rfl⟩

/-- A reading that stays where its blocks stay. -/
def Mov {α : Type} (E : (Nat → Prop) → World → Value → α → Prop) : Prop :=
  ∀ (S S' : Nat → Prop) (w w' : World) (v : Value) (a : α), E S w v a → (∀ b, S b → b < w.heap.size → w'.heap[b]? = w.heap[b]? ∧ S' b) → E S' w' v a
theorem movInts : Mov Ints := fun _ _ _ _ _ _ h hb => Ints.keep h hb
/-- A slice that the call owns; its elements are read apart from its own row. -/
def Acc {α : Type} (E : (Nat → Prop) → World → Value → α → Prop) (B e : Nat) (w : World) (v : Value) (L : List α) : Prop :=
  ∃ xs, w.ownsRow B e 1 v L.length xs ∧ ∀ i (h1 : i < xs.length) (h2 : i < L.length), E (fun b => B ≤ b ∧ some b ≠ v.ownBlock) w xs[i] L[i]
theorem Acc.nil {α : Type} (E : (Nat → Prop) → World → Value → α → Prop) (B e : Nat) (w : World) : Acc E B e w (.slice none 0 0) [] :=
  ⟨[], World.ownsRow_nil _ _ _ _, fun i h1 => absurd h1 (by simp)⟩
theorem Acc.len {α : Type} {E : (Nat → Prop) → World → Value → α → Prop} {B e : Nat} {w : World} {v : Value} {L : List α} (h : Acc E B e w v L) : ∃ a cap, v = .slice a L.length cap := by
  obtain ⟨xs, ho, _⟩ := h; exact own_form ho
theorem Acc.lt {α : Type} {E : (Nat → Prop) → World → Value → α → Prop} {B e : Nat} {w : World} {v : Value} {L : List α} (h : Acc E B e w v L) : ∀ k, v.ownBlock = some k → B ≤ k ∧ k < w.heap.size := by
  obtain ⟨xs, ho, _⟩ := h; exact ho.lt
/-- Behind a call that writes nothing that was there. -/
theorem Acc.below {α : Type} {E : (Nat → Prop) → World → Value → α → Prop} (hE : Mov E) {B e : Nat} {w w' : World} {v : Value} {L : List α} (h : Acc E B e w v L) (hb : Below w.heap.size w w') : Acc E B e w' v L := by
  obtain ⟨xs, ho, hx⟩ := h
  refine ⟨xs, ho.kept (row := none) ⟨hb.os, hb.tape, hb.output, hb.size, fun k hk _ => hb.block k hk⟩ ?_, fun i h1 h2 => hE _ _ _ _ _ _ (hx i h1 h2) fun b hS hlt => ⟨hb.block b hlt, hS⟩⟩
  cases v.ownBlock <;> simp
theorem Acc.appended {α : Type} {E : (Nat → Prop) → World → Value → α → Prop} (hE : Mov E) {B e : Nat} {w w' : World} {v v' : Value} {L : List α} {xs : List Value}
    (ho : w.ownsRow B e 1 v L.length xs) (hx : ∀ i (h1 : i < xs.length) (h2 : i < L.length), E (fun b => B ≤ b ∧ some b ≠ v.ownBlock) w xs[i] L[i]) (y : Value) (d : α) (hy : E (fun b => B ≤ b ∧ some b ≠ v.ownBlock) w y d)
    (hown : w'.ownsRow B e 1 v' (L.length + 1) (xs ++ [y])) (hgrow : w.grownBy w' v.ownBlock) (hwh : v'.ownBlock = v.ownBlock ∨ v'.ownBlock = some (w.heap.size + 1)) : Acc E B e w' v' (L ++ [d]) := by
  refine ⟨xs ++ [y], by simpa using hown, fun i h1 h2 => ?_⟩
  have key : ∀ b, (B ≤ b ∧ some b ≠ v.ownBlock) → b < w.heap.size → w'.heap[b]? = w.heap[b]? ∧ (B ≤ b ∧ some b ≠ v'.ownBlock) := fun b hb hlt => by
    refine ⟨hgrow.block b hlt hb.2, hb.1, ?_⟩
    rcases hwh with h | h
    · rw [h]; exact hb.2
    · rw [h]; intro e; cases e; omega
  have hxl : xs.length = L.length := by have := ho.1; simpa using this
  rw [List.getElem_append, List.getElem_append]
  by_cases hi : i < xs.length
  · rw [dif_pos hi, dif_pos (by omega)]
    exact hE _ _ _ _ _ _ (hx i hi (by omega)) key
  · rw [dif_neg hi, dif_neg (by omega)]
    simp only [List.getElem_singleton]
    exact hE _ _ _ _ _ _ hy key
/-- At the end it is a list like any other. -/
theorem Acc.done {α : Type} {E : (Nat → Prop) → World → Value → α → Prop} (hE : Mov E) {B e : Nat} {w : World} {v : Value} {L : List α} (h : Acc E B e w v L) : Sl (E (B ≤ ·)) (B ≤ ·) w v L := by
  obtain ⟨xs, ho, hx⟩ := h
  exact Sl.of_own ho L rfl fun i h1 h2 => hE _ _ _ _ _ _ (hx i h1 h2) fun b hb _ => ⟨rfl, hb.1⟩

/-- The call returns V and writes nothing that was there. -/
def Ret (V : Value) (w : World) : Ending → World → Prop := fun e w' => e = .returned V ∧ Below w.heap.size w w'
theorem Ret.mk {V v : Value} {w w' : World} (h : v = V) (hb : Below w.heap.size w w') : Ret V w (.returned v) w' := ⟨by rw [h], hb⟩
/-- The call returns V and leaves the world alone. -/
def RetS (V : Value) (w : World) : Ending → World → Prop := fun e w' => e = .returned V ∧ w = w'
theorem RetS.mk {V v : Value} {w : World} (h : v = V) : RetS V w (.returned v) w := ⟨by rw [h], rfl⟩
theorem quietS {P : Program} {f : FuncId} {args : Array Value} {w : World} {n : Nat} {v : Value} (h : Calls P f args (w.drewN n) (RetS v (w.drewN n))) :
    Calls P f args (w.drewN n) fun e w'' => e = .returned v ∧ ∃ m, w'' = w.drewN m :=
  Calls.quiet_of_same (h.mono fun _ _ ⟨a, b⟩ => ⟨a, b.symm⟩)

/-- The call returns what Q says, and writes nothing that was there. -/
def RetQ (Q : Value → World → Prop) (w : World) : Ending → World → Prop := fun e w' => ∃ v, e = .returned v ∧ Q v w' ∧ Below w.heap.size w w'
theorem RetQ.mk {Q : Value → World → Prop} {v : Value} {w w' : World} (h : Q v w') (hb : Below w.heap.size w w') : RetQ Q w (.returned v) w' := ⟨v, rfl, h, hb⟩
abbrev Intss (S : Nat → Prop) := Sl (Ints S) S
theorem Intss.keep {S S' : Nat → Prop} {w w' : World} {v : Value} {l : List (List Int)} (h : Intss S w v l)
    (hb : ∀ b, S b → b < w.heap.size → w'.heap[b]? = w.heap[b]? ∧ S' b) : Intss S' w' v l := by
  obtain ⟨a, cap, hv, hl, hc⟩ := h
  refine ⟨a, cap, hv, hl, fun i hi => ?_⟩
  obtain ⟨b, off, x, ha, hS, hcell, hx⟩ := hc i hi
  have := hb b hS (cell_lt hcell)
  exact ⟨b, off, x, ha, this.2, (World.cell?_of_block (w := w) this.1).trans hcell, hx.keep hb⟩
theorem movIntss : Mov Intss := fun _ _ _ _ _ _ h hb => Intss.keep h hb
theorem Intss.below {S S' : Nat → Prop} {w w' : World} {v : Value} {l : List (List Int)} (h : Intss S w v l) (hb : Below w.heap.size w w') (hS : ∀ b, S b → b < w.heap.size → S' b) : Intss S' w' v l :=
  h.keep fun b hb' hlt => ⟨hb.block b hlt, hS b hb' hlt⟩
theorem Intss.under {B : Nat} {w w' : World} {v : Value} {l : List (List Int)} (h : Intss (· < B) w v l) (hb : Below B w w') : Intss (· < B) w' v l :=
  h.keep fun b hb' _ => ⟨hb.block b hb', hb'⟩
theorem below_of_grown {w w' : World} {row : Option Nat} (h : w.grownBy w' row) (hr : ∀ k, row = some k → w.heap.size ≤ k) : Below w.heap.size w w' :=
  (Below.refl _ _).grown h (Nat.le_refl _) hr
theorem heap_setCell_at {w : World} {b o : Nat} {C : Array Value} {e : TypeId} {f : Nat × Nat} (h : w.heap[b]? = some (.cells C e f)) (v : Value) :
    (w.setCell ⟨b, o, none⟩ v).heap[b]? = some (.cells (C.setIfInBounds o v) e f) := by
  simp only [World.setCell, Array.getElem?_modify, h]; simp
theorem frozen_of_block {w : World} {b : Nat} {C : Array Value} {e : TypeId} (h : w.heap[b]? = some (.cells C e (0, 0))) (o : Nat) : w.frozen? ⟨b, o, none⟩ = false := by
  simp [World.frozen?, h]
theorem block_lt {w : World} {b : Nat} {o : Obj} (h : w.heap[b]? = some o) : b < w.heap.size := (Array.getElem?_eq_some_iff.1 h).1
theorem own_some {w : World} {B e n s : Nat} {v : Value} {xs : List Value} (h : w.ownsRow B e s v n xs) (hn : 0 < n) : ∃ g cap, v = .slice (some ⟨g, 0, none⟩) n cap ∧ B ≤ g ∧ g < w.heap.size := by
  rcases h.2 with ⟨rfl, rfl⟩ | ⟨g, cap, cur, rfl, hB, hg, _⟩
  · omega
  · exact ⟨_, _, rfl, hB, block_lt hg⟩
theorem heap_alloc_at {w : World} (o : Obj) (k : Nat) (h : k = w.heap.size) : (w.alloc o).heap[k]? = some o := by
  subst h; exact heap_alloc_new w o
end Go.Proofs.YtgglhdbhemcijaaDoor
namespace Go.Proofs.YtgglhdbhemcijaaDoor
open Go.ChangeShapes Go.WideShapes Go.ChangeAt Go.RowKit Go.Joins Go.Deep

theorem own : ownKnob Tryd.prog.godebug = none := by kernel_rfl
theorem laidOut : laidOutB Tryd.prog = true := by kernel_rfl

section
variable {H : Type} {enc : TypeId × Value → H} {w : World} {sp : Nat → Bool} {held : Bool}

/-- One cell that reads as an element. -/
def Opens {α : Type} (enc : TypeId × Value → H) (w : World) (sp : Nat → Bool) (held : Bool) (T : TypeId) (E : World → Value → α → Prop) : Prop :=
  ∀ n v y, DataW.trod enc Tryd.prog w 0 sp held n T [v] = some y → ∃ a, E w v a

theorem i64_of_wf {n : Int} (h : (Lit.int .i64 n).wf = true) : I64 n := bounds_i64 h

theorem opens_int {T : TypeId} (ht : Tryd.prog.underlying T = some (.int .i64)) : Opens enc w sp held T isInt := by
  intro n v y h
  obtain ⟨z, hc, _, hw⟩ := DataW.trod_int ht h
  obtain rfl : v = .int .i64 z := by simpa using hc
  exact ⟨z, rfl, i64_of_wf hw⟩
theorem opens_bool {T : TypeId} (ht : Tryd.prog.underlying T = some .bool) : Opens enc w sp held T isBool := by
  intro n v y h
  obtain ⟨z, hc, _⟩ := DataW.trod_bool ht h
  obtain rfl : v = .bool z := by simpa using hc
  exact ⟨z, rfl⟩
theorem opens_slice {α : Type} {T e : TypeId} {E : World → Value → α → Prop} (ht : Tryd.prog.underlying T = some (.slice e)) (hc : Tryd.prog.cellsOf e = 1) (hE : Opens enc w sp held e E) :
    Opens enc w sp held T (Sl E (· < w.heap.size)) := by
  intro n v y h
  rcases open_slice1 ht hc h with ⟨hcs, _⟩ | ⟨a, len, cap, m, n', V, D, Pl, hcs, _, hl, hcap, hm, _, hx⟩
  · obtain rfl : v = .slice none 0 0 := by simpa using hcs
    exact ⟨[], Sl.nil _ _ _⟩
  · obtain rfl : v = .slice (some a) len cap := by simpa using hcs
    have hlm : len ≤ m := by rw [hm]; split <;> omega
    have hall : ∀ i, i < len → ∃ b, E w (V i) b := fun i hi => hE _ _ _ (hx i (by omega)).2
    have key : ∀ k, k ≤ len → ∃ l : List α, l.length = k ∧ ∀ i (hi : i < l.length), E w (V i) l[i] := by
      intro k
      induction k with
      | zero => intro _; exact ⟨[], rfl, fun i hi => absurd hi (by simp)⟩
      | succ k ih =>
        intro hk
        obtain ⟨l, hl1, hl2⟩ := ih (by omega)
        obtain ⟨b, hb⟩ := hall k (by omega)
        refine ⟨l ++ [b], by simp [hl1], fun i hi => ?_⟩
        rw [List.getElem_append]
        split
        · exact hl2 i ‹_›
        · obtain rfl : i = k := by simp at hi; omega
          simpa using hb
    obtain ⟨l, hl1, hl2⟩ := key len (Nat.le_refl _)
    refine ⟨l, some a, cap, by rw [hl1], by simp only [maxLen] at hcap; omega, fun i hi => ?_⟩
    obtain ⟨b, off, spot⟩ := a
    have hc0 := (hx i (by omega)).1
    have hc1 := (hx 0 (by omega)).1
    have hspot : spot = none := by simpa [Addr.add] using World.cell?_spot hc1
    subst hspot
    have hadd : (⟨b, off, none⟩ : Addr).add i = ⟨b, off + i, none⟩ := by unfold Addr.add; split <;> simp_all
    rw [hadd] at hc0
    exact ⟨b, off, V i, rfl, cell_lt hc0, hc0, hl2 i hi⟩
theorem Opens.trod {α : Type} {T : TypeId} {E : World → Value → α → Prop} (h : Opens enc w sp held T E) {v : Value} (hv : v.cells = #[v]) {d : DataW H} {p : List MemPlace} (hd : DataW.Trod enc Tryd.prog w 0 sp held T v d p) : ∃ a, E w v a := by
  obtain ⟨n, hn⟩ := hd
  rw [hv] at hn
  exact h n v _ hn
theorem opensInts : Opens enc w sp held 22 (Ints (· < w.heap.size)) := opens_slice Tryd.underlying22 (by kernel_rfl) (opens_int Tryd.underlying3)
end
end Go.Proofs.YtgglhdbhemcijaaDoor
namespace Go.Proofs.YtgglhdbhemcijaaDoor
open Go.RowKit Go.Extern.Stop Go.Stop Go.Extern

/-- errors.As(nil, target). -/
theorem as_nil (t : Value) (w : World) :
    Calls Tryd.prog 86 #[.nilIface, t] w fun e w' => e = .returned (.bool false) ∧ w' = w := by
  go_enter Tryd.func86, Tryd.ntmps86
  go_wp2
  go_ret
  exact ⟨rfl, rfl⟩

/-! ### CLOSED FACTS ON THE MODEL's ENTRIES FOR internal/reflectlite, at this program's types: 25: *p.E · 27: **p.E · 23: error · 45: reflectlite's rtype · 1: how many package-level variables the dump has -/
theorem Ea.valueOf27 (t : Addr) (w : World) : (ReflectliteValue.unpack (.iface 121 (.pointer (some t)))).run Tryd.prog w
    = .ok (.agg #[.pointer (some ⟨1, 121, none⟩), .pointer (some ⟨w.heap.size, 0, none⟩), .int .u64 150]) (w.alloc (.cells #[.pointer (some t)] 121)) := by kernel_rfl
theorem Ea.type27 (a : Addr) (w : World) : (ReflectliteValue.methodAny (ReflectliteValue.valueError "reflectlite.Value.Type" 0) (fun t _ _ _ => ReflectliteType.toType t) #[.agg #[.pointer (some ⟨1, 121, none⟩), .pointer (some a), .int .u64 150]]).run Tryd.prog w
    = .ok (.iface 146 (.agg #[.pointer (some ⟨1, 121, none⟩)])) w := by kernel_rfl
theorem Ea.methodKind (h : Value) (w : World) : (Go.method 289 146 (.agg #[h]) "Kind").run Tryd.prog w = .ok (110, h) w := by kernel_rfl
theorem Ea.kind27 (w : World) : ((ReflectliteType.abiMethod fun t => Functor.map (fun a : Nat => Value.int IntKind.u8 (a : Int)) (Rtype.kind t)) #[.pointer (some ⟨1, 121, none⟩)]).run Tryd.prog w = .ok (.int .u8 22) w := by kernel_rfl
theorem Ea.kind25 (w : World) : ((ReflectliteType.abiMethod fun t => Functor.map (fun a : Nat => Value.int IntKind.u8 (a : Int)) (Rtype.kind t)) #[.pointer (some ⟨1, 27, none⟩)]).run Tryd.prog w = .ok (.int .u8 2) w := by kernel_rfl

/-! ### THE ENTRIES THAT READ OR WRITE MEMORY: laws with a premise on the cell (after Derived/Lib/ReflectliteSlice.lean's manner: each unfolding a lemma of its own, by rfl) -/
theorem rlm (z : Sem Value) (f : TypeId → Addr → Nat → Nat → Sem Value) (v : Value) :
    ReflectliteValue.method z f #[v] = (do match ← ReflectliteValue.parts v with | none => z | some (t, a, fl) => f t a fl (fl % 32)) := rfl
theorem Ea.parts27 (a : Addr) (w : World) : (ReflectliteValue.parts (.agg #[.pointer (some ⟨1, 121, none⟩), .pointer (some a), .int .u64 150])).run Tryd.prog w = .ok (some (121, a, 150)) w := by kernel_rfl
/-- (Value).IsNil at the Value of a **p.E that is not nil. -/
theorem Ea.isNil27 (a p : Addr) (W : World) (ha : W.cell? a = some (.pointer (some p))) :
    (ReflectliteValue.method (ReflectliteValue.valueError "reflectlite.Value.IsNil" 0) ReflectliteValue.isNil #[.agg #[.pointer (some ⟨1, 121, none⟩), .pointer (some a), .int .u64 150]]).run Tryd.prog W = .ok (.bool false) W := by
  rw [rlm]
  simp only [Sem.run_bind, Ea.parts27, Result.andThen]
  simp [ReflectliteValue.isNil, loadVar, isAgg, underlying, Tryd.underlying121, ha, Result.andThen]

theorem Ea.methodElem (h : Value) (w : World) : (Go.method 289 146 (.agg #[h]) "Elem").run Tryd.prog w = .ok (120, .agg #[h]) w := by kernel_rfl
theorem Ea.methodImplements (h : Value) (w : World) : (Go.method 289 146 (.agg #[h]) "Implements").run Tryd.prog w = .ok (121, .agg #[h]) w := by kernel_rfl
theorem Ea.methodAssignableTo (h : Value) (w : World) : (Go.method 289 146 (.agg #[h]) "AssignableTo").run Tryd.prog w = .ok (118, .agg #[h]) w := by kernel_rfl
theorem Ea.elem27 (w : World) : (ReflectliteType.method ReflectliteType.elem #[.agg #[.pointer (some ⟨1, 121, none⟩)]]).run Tryd.prog w = .ok (.iface 146 (.agg #[.pointer (some ⟨1, 27, none⟩)])) w := by kernel_rfl
theorem Ea.implements25 (w : World) : (ReflectliteType.relation "Implements" ReflectliteType.implements_ #[.agg #[.pointer (some ⟨1, 27, none⟩)], .iface 146 (.agg #[.pointer (some ⟨1, 24, none⟩)])]).run Tryd.prog w = .ok (.bool true) w := by kernel_rfl
theorem Ea.typeOf25 (v : Value) (w : World) : (ReflectliteType.typeOf #[.iface 27 v]).run Tryd.prog w = .ok (.iface 146 (.agg #[.pointer (some ⟨1, 27, none⟩)])) w := by kernel_rfl
theorem Ea.assignable25 (w : World) : (ReflectliteType.relation "AssignableTo" ReflectliteType.assignableTo #[.agg #[.pointer (some ⟨1, 27, none⟩)], .iface 146 (.agg #[.pointer (some ⟨1, 27, none⟩)])]).run Tryd.prog w = .ok (.bool true) w := by kernel_rfl
theorem Ea.valueOf25 (n : Int) (w : World) : (ReflectliteValue.unpack (.iface 27 (.int .i64 n))).run Tryd.prog w
    = .ok (.agg #[.pointer (some ⟨1, 27, none⟩), .pointer (some ⟨w.heap.size, 0, none⟩), .int .u64 130]) (w.alloc (.cells #[.int .i64 n] 27)) := by kernel_rfl

theorem Ea.elemOf27 (w : World) : (Rtype.elem? 121).run Tryd.prog w = .ok (some 27) w := by kernel_rfl
theorem Ea.mk25 (p : Addr) (w : World) : (ReflectliteValue.mk 27 p ReflectliteValue.flagAddr).run Tryd.prog w = .ok (.agg #[.pointer (some ⟨1, 27, none⟩), .pointer (some p), .int .u64 386]) w := by kernel_rfl
/-- (Value).Elem at the Value of a **p.E that is not nil: the Value of the *p.E variable that it points to, addressable. -/
theorem Ea.elemV27 (a p : Addr) (W : World) (ha : W.cell? a = some (.pointer (some p))) :
    (ReflectliteValue.method (ReflectliteValue.valueError "reflectlite.Value.Elem" 0) ReflectliteValue.elem #[.agg #[.pointer (some ⟨1, 121, none⟩), .pointer (some a), .int .u64 150]]).run Tryd.prog W
      = .ok (.agg #[.pointer (some ⟨1, 27, none⟩), .pointer (some p), .int .u64 386]) W := by
  rw [rlm]
  simp only [Sem.run_bind, Ea.parts27, Result.andThen]
  simp [ReflectliteValue.elem, loadVar, isAgg, underlying, Tryd.underlying121, ha, Result.andThen, Ea.elemOf27, Ea.mk25]
theorem rls (v x : Value) : ReflectliteValue.set #[v, x] = (do
    let (some (dst, a, fl), some (src, b, _)) := (← ReflectliteValue.parts v, ← ReflectliteValue.parts x)
      | unsupported (.noEntry "extern/(internal/reflectlite.Value).Set.zeroValue")
    if fl / ReflectliteValue.flagAddr % 2 == 0 then unsupported (.noEntry "extern/(internal/reflectlite.Value).Set.unaddressable")
    let val ← loadVar src b
    if ← Rtype.directlyAssignable dst src then storeVar dst a val
    else if ← Rtype.implements dst src then
      if (← Rtype.kind src) == 20 then
        match val with
        | .nilIface => unsupported (.noEntry "extern/reflectlite: a nil value of one interface type handed on as a value of another")
        | _ => storeVar dst a val
      else storeVar dst a (.iface src val)
    else panicString ("reflectlite.Set: value of type " ++ (← Rtype.spelt src) ++ " is not assignable to type " ++ (← Rtype.spelt dst))
    pure (.tuple #[])) := rfl
theorem Ea.parts25a (a : Addr) (w : World) : (ReflectliteValue.parts (.agg #[.pointer (some ⟨1, 27, none⟩), .pointer (some a), .int .u64 386])).run Tryd.prog w = .ok (some (27, a, 386)) w := by kernel_rfl
theorem Ea.parts25 (a : Addr) (w : World) : (ReflectliteValue.parts (.agg #[.pointer (some ⟨1, 27, none⟩), .pointer (some a), .int .u64 130])).run Tryd.prog w = .ok (some (27, a, 130)) w := by kernel_rfl
theorem Ea.direct25 (w : World) : (Rtype.directlyAssignable 27 27).run Tryd.prog w = .ok true w := by kernel_rfl
theorem Ea.size25 (w : World) : (sizeOf 27).run Tryd.prog w = .ok 1 w := by kernel_rfl
/-- (Value).Set: the *p.E variable at 'ta' gets what the Value's own variable 'b' holds. -/
theorem Ea.set25 (ta b : Addr) (n : Int) (old : Value) (W : World) (hb : W.cell? b = some (.int .i64 n)) (ht : W.cell? ta = some old) (hf : W.frozen? ta = false) :
    (ReflectliteValue.set #[.agg #[.pointer (some ⟨1, 27, none⟩), .pointer (some ta), .int .u64 386], .agg #[.pointer (some ⟨1, 27, none⟩), .pointer (some b), .int .u64 130]]).run Tryd.prog W
      = .ok (.tuple #[]) (W.setCell ta (.int .i64 n)) := by
  rw [rls]
  simp only [Sem.run_bind, Ea.parts25a, Ea.parts25, Result.andThen]
  simp [ReflectliteValue.flagAddr, loadVar, isAgg, underlying, Tryd.underlying27, hb, Result.andThen, Ea.direct25, storeVar, Value.cells, storeCells, Addr.add]
  rw [run_store Tryd.prog W ta _ _ (by rfl)]
  simp [ht, hf]

set_option maxHeartbeats 4000000 in
theorem as_hit (n : Int) (t : Addr) (old : Value) (w : World) (hg : w.cell? ⟨0, 0, none⟩ = some (.iface 146 (.agg #[.pointer (some ⟨1, 24, none⟩)]))) (ht0 : w.cell? t = some old) (hf0 : w.frozen? t = false) :
    Calls Tryd.prog 86 #[.iface 27 (.int .i64 n), .iface 121 (.pointer (some t))] w fun ev w' => ev = .returned (.bool true) ∧ w' = ((((w.alloc (.cells #[.pointer (some t)] 121)).alloc (.cells #[.pointer (some ⟨1, 121, none⟩), .pointer (some ⟨w.heap.size, 0, none⟩), .int .u64 150] 135)).alloc (.cells #[.pointer (some ⟨1, 121, none⟩), .pointer (some ⟨w.heap.size, 0, none⟩), .int .u64 150] 135)).alloc (.cells #[.int .i64 n] 27)).setCell t (.int .i64 n) := by
  have h6 := @run_callFunc_extern Tryd.prog 89 _ (fun args => ReflectliteValue.unpack (args.getD 0 (.tuple #[]))) Tryd.func89 (by kernel_rfl) (by kernel_rfl) (by kernel_rfl) (by kernel_rfl)
  have h7 := @run_callFunc_extern Tryd.prog 90 _ (ReflectliteValue.methodAny (ReflectliteValue.valueError "reflectlite.Value.Type" 0) (fun t _ _ _ => ReflectliteType.toType t)) Tryd.func90 (by kernel_rfl) (by kernel_rfl) (by kernel_rfl) (by kernel_rfl)
  have h8 := @run_callFunc_extern Tryd.prog 91 _ (ReflectliteValue.method (ReflectliteValue.valueError "reflectlite.Value.IsNil" 0) ReflectliteValue.isNil) Tryd.func91 (by kernel_rfl) (by kernel_rfl) (by kernel_rfl) (by kernel_rfl)
  have h27 := @run_callFunc_extern Tryd.prog 110 _ (ReflectliteType.abiMethod fun t => do pure (.int .u8 (← Rtype.kind t))) Tryd.func110 (by kernel_rfl) (by kernel_rfl) (by kernel_rfl) (by kernel_rfl)
  have h37 := @run_callFunc_extern Tryd.prog 120 _ (ReflectliteType.method ReflectliteType.elem) Tryd.func120 (by kernel_rfl) (by kernel_rfl) (by kernel_rfl) (by kernel_rfl)
  have h38 := @run_callFunc_extern Tryd.prog 121 _ (ReflectliteType.relation "Implements" ReflectliteType.implements_) Tryd.func121 (by kernel_rfl) (by kernel_rfl) (by kernel_rfl) (by kernel_rfl)
  have h10 := @run_callFunc_extern Tryd.prog 93 _ ReflectliteType.typeOf Tryd.func93 (by kernel_rfl) (by kernel_rfl) (by kernel_rfl) (by kernel_rfl)
  have h35 := @run_callFunc_extern Tryd.prog 118 _ (ReflectliteType.relation "AssignableTo" ReflectliteType.assignableTo) Tryd.func118 (by kernel_rfl) (by kernel_rfl) (by kernel_rfl) (by kernel_rfl)
  have h11 := @run_callFunc_extern Tryd.prog 94 _ (ReflectliteValue.method (ReflectliteValue.valueError "reflectlite.Value.Elem" 0) ReflectliteValue.elem) Tryd.func94 (by kernel_rfl) (by kernel_rfl) (by kernel_rfl) (by kernel_rfl)
  have h12 := @run_callFunc_extern Tryd.prog 95 _ ReflectliteValue.set Tryd.func95 (by kernel_rfl) (by kernel_rfl) (by kernel_rfl) (by kernel_rfl)
  have tO := Ea.typeOf25
  have mA := Ea.methodAssignableTo
  have a25 := Ea.assignable25
  have v25 := Ea.valueOf25
  have f6 := Ea.valueOf27
  have f7 := Ea.type27
  have mK := Ea.methodKind
  have mE := Ea.methodElem
  have mI := Ea.methodImplements
  have k27 := Ea.kind27
  have k25 := Ea.kind25
  have e27 := Ea.elem27
  have i25 := Ea.implements25
  have n8 := Ea.isNil27 ⟨w.heap.size, 0, none⟩ t ((w.alloc (.cells #[.pointer (some t)] 121)).alloc (.cells #[.pointer (some ⟨1, 121, none⟩), .pointer (some ⟨w.heap.size, 0, none⟩), .int .u64 150] 135)) (by simp)
  have hlt : 0 < w.heap.size := by
    rcases Nat.eq_zero_or_pos w.heap.size with h0 | h
    · simp [World.cell?, h0] at hg
    · exact h
  have hg2 : ((w.alloc (.cells #[.pointer (some t)] 121)).alloc (.cells #[.pointer (some ⟨1, 121, none⟩), .pointer (some ⟨w.heap.size, 0, none⟩), .int .u64 150] 135)).cell? ⟨0, 0, none⟩ = some (.iface 146 (.agg #[.pointer (some ⟨1, 24, none⟩)])) := by
    rw [World.cell?_alloc_lt _ _ ⟨0, 0, none⟩ (by simp), World.cell?_alloc_lt _ _ ⟨0, 0, none⟩ hlt]; exact hg
  have htl : t.block < w.heap.size := by
    rcases Nat.lt_or_ge t.block w.heap.size with h | h
    · exact h
    · simp [World.cell?, Array.getElem?_eq_none h] at ht0
  have el := Ea.elemV27 ⟨w.heap.size, 0, none⟩ t (((w.alloc (.cells #[.pointer (some t)] 121)).alloc (.cells #[.pointer (some ⟨1, 121, none⟩), .pointer (some ⟨w.heap.size, 0, none⟩), .int .u64 150] 135)).alloc (.cells #[.pointer (some ⟨1, 121, none⟩), .pointer (some ⟨w.heap.size, 0, none⟩), .int .u64 150] 135)) (by rw [World.cell?_alloc_lt _ _ ⟨w.heap.size, 0, none⟩ (by simp; omega)]; simp)
  have st := Ea.set25 t ⟨w.heap.size + 1 + 1 + 1, 0, none⟩ n old ((((w.alloc (.cells #[.pointer (some t)] 121)).alloc (.cells #[.pointer (some ⟨1, 121, none⟩), .pointer (some ⟨w.heap.size, 0, none⟩), .int .u64 150] 135)).alloc (.cells #[.pointer (some ⟨1, 121, none⟩), .pointer (some ⟨w.heap.size, 0, none⟩), .int .u64 150] 135)).alloc (.cells #[.int .i64 n] 27))
    (by rw [World.cell?_alloc_at _ _ _ _ (by simp)]; rfl)
    (by rw [World.cell?_alloc_lt _ _ t (by simp; omega), World.cell?_alloc_lt _ _ t (by simp; omega), World.cell?_alloc_lt _ _ t (by simp; omega), World.cell?_alloc_lt _ _ t htl]; exact ht0)
    (by rw [World.frozen?_alloc_old _ _ t (by simp; omega), World.frozen?_alloc_old _ _ t (by simp; omega), World.frozen?_alloc_old _ _ t (by simp; omega), World.frozen?_alloc_old _ _ t (Nat.ne_of_lt htl)]; exact hf0)
  go_enter Tryd.func86, Tryd.ntmps86
  go_wp2
  refine wp_loop_rounds 1 ?_
  rw [rounds_succ]
  go_wp2
  go_ret
  exact ⟨rfl, rfl⟩
end Go.Proofs.YtgglhdbhemcijaaDoor
namespace Go.Proofs.YtgglhdbhemcijaaDoor
open Go.RowKit

/-- What errors.errorType holds. -/
def errCell (w : World) : Prop := w.cell? ⟨0, 0, none⟩ = some (.iface 146 (.agg #[.pointer (some ⟨1, 24, none⟩)]))
theorem errCell.below {w w' : World} (h : errCell w) (hb : Below w.heap.size w w') : errCell w' :=
  (hb.cell (p := ⟨0, 0, none⟩) (cell_lt h)).trans h

set_option maxHeartbeats 1000000 in
theorem Told_calls (e : Int) (w : World) (hg : errCell w) :
    Calls Tryd.prog 68 #[errV 27 e] w (Ret (.int .i64 e) w) := by
  by_cases h0 : e = 0
  · subst h0
    rw [errV_zero]
    clear hg
    go_enter Tryd.func68, Tryd.ntmps68
    go_wp2
    go_ret
    exact Ret.mk rfl (Below.refl _ _)
  · rw [errV_ne _ h0]
    clear h0
    have hgA : (w.alloc (.cells #[.int .i64 0] 27)).cell? ⟨0, 0, none⟩ = some (.iface 146 (.agg #[.pointer (some ⟨1, 24, none⟩)])) :=
      errCell.below hg ((Below.refl _ _).alloc (Nat.le_refl _) _)
    have htA : (w.alloc (.cells #[.int .i64 0] 27)).cell? ⟨w.heap.size, 0, none⟩ = some (.int .i64 0) := by simp
    have hfA : (w.alloc (.cells #[.int .i64 0] 27)).frozen? ⟨w.heap.size, 0, none⟩ = false := by simp
    have H := Lib.hid (And.intro hgA (And.intro htA hfA))
    clear hgA htA hfA hg
    go_enter Tryd.func68, Tryd.ntmps68
    go_wp2_with fail
    refine (as_hit e ⟨w.heap.size, 0, none⟩ (.int .i64 0) _ H.out.1 H.out.2.1 H.out.2.2).mono ?_
    rintro e' w' ⟨rfl, hw⟩
    have hB : Below w.heap.size w w' := by
      rw [hw]
      exact (((((((Below.refl _ _).alloc (Nat.le_refl _) _).alloc (by simp) _).alloc (by simp; omega) _).alloc (by simp; omega) _).alloc (by simp; omega) _)).setCell (Nat.le_refl _) _
    have hc : w'.cell? ⟨w.heap.size, 0, none⟩ = some (.int .i64 e) := by
      rw [hw]
      refine (cell_of_row _ _ _ _ _ _ (heap_setCell_at (C := #[.int .i64 0]) (e := 27) (f := (0, 0)) ?_ _)).trans (by simp)
      rw [Below.heap_alloc _ _ _ (by simp; omega), Below.heap_alloc _ _ _ (by simp; omega), Below.heap_alloc _ _ _ (by simp; omega), Below.heap_alloc _ _ _ (by simp)]
      exact heap_alloc_new w _
    have HB := Lib.hid hB
    clear hw hB
    go_wp2_with fail
    go_ret
    exact Ret.mk rfl HB.out

set_option maxHeartbeats 1000000 in
theorem Error_calls (e f : Int) (w : World) (hg : errCell w) :
    Calls Tryd.prog 15 #[errV 27 e, .int .i64 f] w (Ret (.bool (e == f)) w) := by
  have H := Lib.hid hg; clear hg
  generalize hv : errV 27 e = v
  have Hv := Lib.hid hv; clear hv
  go_enter Tryd.func15, Tryd.ntmps15
  go_wp2_with fail
  rw [← Hv.out]
  refine (Told_calls e _ H.out).mono ?_
  rintro e' w' ⟨rfl, hb⟩
  have HB := Lib.hid hb; clear hb
  go_wp2_with fail
  go_ret
  exact Ret.mk rfl HB.out
end Go.Proofs.YtgglhdbhemcijaaDoor
namespace Go.Proofs.YtgglhdbhemcijaaDoor
open Go.ChangeShapes Go.WideShapes Go.RowKit

theorem et : Tryd.prog.globalNamed "errors.errorType" = some 0 := by kernel_rfl
theorem rt : (Tryd.prog.cutTypes.find? (·.1 == "internal/reflectlite.rtype")).map (·.2) = some 146 := by kernel_rfl
theorem oneRow : ((List.range 189).filter fun t => Tryd.prog.rowNamed t [101, 114, 114, 111, 114]) = [24] := by kernel_rfl
theorem typesSize : Tryd.prog.types.size = 189 := by kernel_rfl

/-- What a row lists. -/
def laidL : List (String × DataW Unit) := [("errors.errorType", Rows.laid_errors_errorType)]
theorem handle_of_laid {W : World} (h : laidMetH Tryd.prog laidL W) : errCell W := by
  have h' : laidMet Tryd.prog [] W ∧ handlesMet Tryd.prog laidL W := h
  obtain ⟨name, u, ty, e1, e2, e3, e4, e5⟩ := h'.2 _ (List.mem_singleton.2 rfl)
  have en : name = [101, 114, 114, 111, 114] := (Option.some.inj e1).symm
  subst en
  obtain rfl := Option.some.inj (rt.symm.trans e2)
  have hm : ty ∈ (List.range 189).filter fun t => Tryd.prog.rowNamed t [101, 114, 114, 111, 114] := List.mem_filter.2 ⟨List.mem_range.2 (by rw [← typesSize]; exact e3), e4⟩
  rw [oneRow] at hm
  obtain rfl := List.mem_singleton.1 hm
  have hh : typeHandle Tryd.prog 24 = .pointer (some ⟨1, 24, none⟩) := by kernel_rfl
  rw [hh] at e5
  unfold errCell
  simpa using World.var?_cell et e5 0

/-- A world that meets the list: the settled one, the variable's cell laid. -/
noncomputable def laidWorld (os : Os) : World :=
  let w0 := World.holding Tryd.prog os ⟨#[], #[], []⟩
  { w0 with heap := w0.heap.modify 0 fun
      | .cells _ t frozen => .cells #[.iface 146 (.agg #[.pointer (some ⟨1, 24, none⟩)])] t frozen
      | o => o }
theorem laidWorld_met (os : Os) (args : Array Value) : laidMetH Tryd.prog laidL ((laidWorld os).forCall (fun _ _ => 0) ⟨#[], args, []⟩).memory :=
  laidMetH_of_parts (laidMet_nil _ _) (by kernel_rfl)
end Go.Proofs.YtgglhdbhemcijaaDoor
namespace Go.Proofs.YtgglhdbhemcijaaDoor
open Go.RowKit

set_option maxHeartbeats 400000 in
theorem Radix_calls (base : Int) (w : World) :
    Calls Tryd.prog 66 #[.int .i64 base] w (RetS (.int .i64 (radix base)) w) := by
  by_cases h1 : base = 1
  · subst h1
    go_enter Tryd.func66, Tryd.ntmps66
    go_wp2
    go_ret
    exact RetS.mk rfl
  · have hr := Lib.hid (show radix base = if 2 ≤ base ∧ base ≤ 6 then base else 0 by simp [radix, h1])
    have h1' : (base == 1) = false := by simp [h1]
    clear h1
    by_cases h2 : 2 ≤ base
    · by_cases h3 : base ≤ 6
      · have hr' := Lib.hid (show radix base = base by rw [hr.out, if_pos ⟨h2, h3⟩])
        go_enter Tryd.func66, Tryd.ntmps66
        go_wp2
        go_ret
        exact RetS.mk (by rw [hr'.out]; rfl)
      · have hr' := Lib.hid (show radix base = 0 by rw [hr.out, if_neg (by omega)])
        go_enter Tryd.func66, Tryd.ntmps66
        go_wp2
        go_ret
        exact RetS.mk (by rw [hr'.out]; rfl)
    · have hr' := Lib.hid (show radix base = 0 by rw [hr.out, if_neg (by omega)])
      go_enter Tryd.func66, Tryd.ntmps66
      go_wp2
      go_ret
      exact RetS.mk (by rw [hr'.out]; rfl)

set_option maxHeartbeats 400000 in
theorem check_calls (S : Nat → Prop) (base : Int) (v : Value) (d : List Int) (w : World) (hd : Ints S w v d) :
    Calls Tryd.prog 69 #[.int .i64 base, v] w (RetS (errV 27 (digitsFault base d)) w) := by
  obtain ⟨a, cap, rfl, hlen, hcell⟩ := hd
  by_cases h0 : radix base = 0
  · have e0 : (radix base == 0) = true := by simp [h0]
    have hfin := Lib.hid (show digitsFault base d = 1 by simp [digitsFault, h0])
    clear h0
    go_enter Tryd.func69, Tryd.ntmps69
    go_wp2_with (go_at_call 66; refine (Radix_calls _ _).mono ?_; rintro e w' ⟨rfl, rfl⟩)
    go_ret
    exact RetS.mk (by rw [hfin.out]; rfl)
  · have e0 : (radix base == 0) = false := by simp [h0]
    by_cases h1 : 60 < d.length
    · have hfin := Lib.hid (show digitsFault base d = 3 by simp [digitsFault, h0, h1])
      clear h0
      have h1' : (60:Int) < d.length := by omega
      clear h1
      go_enter Tryd.func69, Tryd.ntmps69
      go_wp2_with (go_at_call 66; refine (Radix_calls _ _).mono ?_; rintro e w' ⟨rfl, rfl⟩)
      go_ret
      exact RetS.mk (by rw [hfin.out]; rfl)
    · have hfin := Lib.hid (show digitsFault base d = if d.all (fun x => decide (0 ≤ x ∧ x < radix base)) then 0 else 1 by simp [digitsFault, h0, h1])
      clear h0
      have h1' : ¬ (60:Int) < d.length := by omega
      clear h1
      go_enter Tryd.func69, Tryd.ntmps69
      go_wp2_with (go_at_call 66; refine (Radix_calls _ _).mono ?_; rintro e w' ⟨rfl, rfl⟩)
      go_loop [19] (fun i => ∃ k : Nat, k ≤ d.length ∧ i = .int .i64 k ∧ ∀ j (h : j < k) (h' : j < d.length), 0 ≤ d[j] ∧ d[j] < radix base) (fun i => d.length - (intOf i).toNat)
      case atStart => exact ⟨0, by omega, rfl, fun j h => by omega⟩
      case round =>
        obtain ⟨k, hk, rfl, hall⟩ := hrel
        have Hall := Lib.hid hall; clear hall
        by_cases hlt : k < d.length
        · obtain ⟨b, off, x, ha, hS, hc, hx, hi⟩ := hcell k hlt
          subst ha hx
          by_cases c1 : 0 ≤ d[k]
          · by_cases c2 : d[k] < radix base
            · go_wp2
              go_round
              case rel => exact ⟨k + 1, by omega, by go_num, fun j h h' => by
                by_cases e : j < k
                · exact Hall.out j e h'
                · obtain rfl : j = k := by omega
                  exact ⟨c1, c2⟩⟩
              case measure => (simp [intOf] <;> omega)
            · have hne := Lib.hid (show (if d.all (fun x => decide (0 ≤ x ∧ x < radix base)) then 0 else 1 : Int) = 1 by
                rw [if_neg]; intro h; rw [List.all_eq_true] at h; have := h d[k] (List.getElem_mem _); simp at this; omega)
              go_wp2
              go_ret
              exact RetS.mk (by rw [hfin.out, hne.out]; rfl)
          · have hne := Lib.hid (show (if d.all (fun x => decide (0 ≤ x ∧ x < radix base)) then 0 else 1 : Int) = 1 by
              rw [if_neg]; intro h; rw [List.all_eq_true] at h; have := h d[k] (List.getElem_mem _); simp at this; omega)
            go_wp2
            go_ret
            exact RetS.mk (by rw [hfin.out, hne.out]; rfl)
        · have hne := Lib.hid (show (if d.all (fun x => decide (0 ≤ x ∧ x < radix base)) then 0 else 1 : Int) = 0 by
            rw [if_pos]; rw [List.all_eq_true]; intro x hx; obtain ⟨j, hj, rfl⟩ := List.mem_iff_getElem.1 hx; have := Hall.out j (by omega) hj; simp; omega)
          go_wp2
          go_ret
          exact RetS.mk (by rw [hfin.out, hne.out]; rfl)

set_option maxHeartbeats 400000 in
theorem Ints_calls (S S' : Nat → Prop) (v v' : Value) (d d' : List Int) (w : World) (hd : Ints S w v d) (hd' : Ints S' w v' d') :
    Calls Tryd.prog 16 #[v, v'] w (Ret (.bool (decide (d = d'))) w) := by
  obtain ⟨a, cap, rfl, hlen, hcell⟩ := hd
  obtain ⟨a', cap', rfl, hlen', hcell'⟩ := hd'
  by_cases hl : d.length = d'.length
  · have e0 : ((d.length : Int) != (d'.length : Int)) = false := by simp [hl]
    have hL := Lib.hid hl; clear hl
    go_enter Tryd.func16, Tryd.ntmps16
    go_wp2
    go_loopw [5] (fun i wr => ∃ k : Nat, k ≤ d.length ∧ i = .int .i64 k ∧ d.take k = d'.take k ∧ Below w.heap.size w wr) (fun i _ => d.length - (intOf i).toNat)
    case atStart => exact ⟨0, by omega, rfl, rfl, Below.refl _ _⟩
    case round =>
      obtain ⟨k, hk, rfl, hall, hb⟩ := hrel
      have Hall := Lib.hid hall; clear hall
      have Hb := Lib.hid hb; clear hb
      by_cases hlt : k < d.length
      · have hlt' : k < d'.length := by have := hL.out; omega
        obtain ⟨b, off, x, ha, hS, hc, hx, hi⟩ := hcell k hlt
        obtain ⟨b', off', x', ha', hS', hc', hx', hi'⟩ := hcell' k hlt'
        subst ha hx ha' hx'
        have hc1 := (Hb.out.cell (p := ⟨b, off + k, none⟩) (cell_lt hc)).trans hc
        have hc2 := (Hb.out.cell (p := ⟨b', off' + k, none⟩) (cell_lt hc')).trans hc'
        by_cases heq : d[k] = d'[k]
        · have e1 : (d[k] != d'[k]) = false := by simp [heq]
          have Heq := Lib.hid heq; clear heq
          go_wp2
          go_quiet (fail)
          go_wp2
          go_roundw
          case rel => exact ⟨k + 1, by omega, by go_num, by rw [List.take_succ_eq_append_getElem hlt, List.take_succ_eq_append_getElem hlt', Hall.out, Heq.out], below_drewN Hb.out _⟩
          case measure => (simp [intOf] <;> omega)
        · have e1 : (d[k] != d'[k]) = true := by simp [heq]
          have hne := Lib.hid (show decide (d = d') = false by
            rw [decide_eq_false_iff_not]; rintro rfl; exact heq rfl)
          clear heq
          go_wp2
          go_quiet (fail)
          go_wp2
          go_ret
          exact Ret.mk (by rw [hne.out]; rfl) (below_drewN Hb.out _)
      · have he := Lib.hid (show decide (d = d') = true by
          have h1 := Hall.out
          rw [List.take_of_length_le (by omega), List.take_of_length_le (by have := hL.out; omega)] at h1
          simp [h1])
        go_wp2
        go_ret
        exact Ret.mk (by rw [he.out]; rfl) (Hb.out)
  · have e0 : ((d.length : Int) != (d'.length : Int)) = true := by simp; omega
    have he := Lib.hid (show decide (d = d') = false by rw [decide_eq_false_iff_not]; rintro rfl; exact hl rfl)
    clear hl
    go_enter Tryd.func16, Tryd.ntmps16
    go_wp2
    go_ret
    exact Ret.mk (by rw [he.out]; rfl) (Below.refl _ _)

set_option maxHeartbeats 400000 in
theorem Right_calls (S : Nat → Prop) (base : Int) (v : Value) (d : List Int) (w : World) (hd : Ints S w v d) :
    Calls Tryd.prog 18 #[.int .i64 base, v] w
      (RetS (.tuple #[.bool (rightRes base d), errV 27 (digitsFault base d)]) w) := by
  have hd' := Lib.hid hd
  obtain ⟨a, cap, rfl, hlen, hcell⟩ := hd
  by_cases h0 : digitsFault base d = 0
  · have E0 := Lib.hid (show errV 27 (digitsFault base d) = .nilIface by simp [errV, h0])
    by_cases hb : base = 1
    · have e1 : (base == 1) = true := by simp [hb]
      have Hb := Lib.hid (And.intro h0 hb)
      clear h0 hb
      go_enter Tryd.func18, Tryd.ntmps18
      go_wp2_with (go_at_call 69; refine (check_calls S _ _ _ _ hd'.out).mono ?_; rintro e w' ⟨rfl, rfl⟩; rw [E0.out])
      go_loopw [7] (fun i wr => ∃ k : Nat, i = .int .i64 (k + 1) ∧ (k < d.length ∨ k = 0) ∧ wr = w ∧ ∀ j, j < k → ¬ (d[j]? = some (1 : Int) ∧ d[j + 1]? = some (1 : Int))) (fun i _ => d.length - (intOf i).toNat)
      case atStart => exact ⟨0, rfl, by omega, rfl, fun j h => by omega⟩
      case round =>
        obtain ⟨k, rfl, hk, rfl, hall⟩ := hrel
        have Hall := Lib.hid hall; clear hall
        by_cases hlt : k + 1 < d.length
        · obtain ⟨b, off, x, ha, hS, hc, hx, hi⟩ := hcell k (by omega)
          obtain ⟨b', off', x', ha', hS', hc', hx', hi'⟩ := hcell (k + 1) hlt
          subst ha hx hx'
          obtain ⟨rfl, rfl⟩ : b = b' ∧ off = off' := by simpa using ha'
          have c1 : (k : Int) + 1 < d.length := by omega
          have step : ¬ (d[k] = 1 ∧ d[k + 1] = 1) → ∀ j, j < k + 1 → ¬ (d[j]? = some (1 : Int) ∧ d[j + 1]? = some (1 : Int)) := fun hn j hj => by
            by_cases e : j < k
            · exact Hall.out j e
            · obtain rfl : j = k := by omega
              simpa [List.getElem?_eq_getElem hlt, List.getElem?_eq_getElem (show j < d.length by omega)] using hn
          have Step := Lib.hid step; clear step
          by_cases e2 : d[k] = 1
          · by_cases e3 : d[k + 1] = 1
            · have hno := Lib.hid (show rightRes base d = false by
                unfold rightRes
                rw [decide_eq_false_iff_not]; rintro ⟨_, h⟩
                unfold rightOf at h
                rw [Hb.out.2] at h
                exact (noTwo_iff d).1 (by simpa using h) k (by simp [List.getElem?_eq_getElem hlt, List.getElem?_eq_getElem (show k < d.length by omega), e2, e3]))
              have e2' : (d[k] == 1) = true := by simp [e2]
              have e3' : (d[k + 1] == 1) = true := by simp [e3]
              clear e2 e3
              go_wp2
              go_ret2
              exact RetS.mk (by rw [hno.out, E0.out]; rfl)
            · have hs := Lib.hid (Step.out (fun h => e3 h.2))
              have e2' : (d[k] == 1) = true := by simp [e2]
              have e3' : (d[k + 1] == 1) = false := by simp [e3]
              clear e2 e3
              go_wp2
              go_roundw
              case rel => exact ⟨k + 1, by go_num, by omega, trivial, hs.out⟩
              case measure => (simp [intOf] <;> omega)
          · have hs := Lib.hid (Step.out (fun h => e2 h.1))
            have e2' : (d[k] == 1) = false := by simp [e2]
            clear e2
            go_wp2
            go_roundw
            case rel => exact ⟨k + 1, by go_num, by omega, trivial, hs.out⟩
            case measure => (simp [intOf] <;> omega)
        · have c1 : ¬ (k : Int) + 1 < d.length := by omega
          have hyes := Lib.hid (show rightRes base d = true by
            unfold rightRes
            rw [decide_eq_true_iff]; refine ⟨Hb.out.1, ?_⟩
            unfold rightOf; rw [Hb.out.2]; simp only [Bool.or_eq_true]; right
            rw [noTwo_iff]; intro j
            by_cases e : j < k
            · exact Hall.out j e
            · rintro ⟨_, h⟩; have := (List.getElem?_eq_some_iff.1 h).1; omega)
          go_wp2
          go_ret2
          exact RetS.mk (by rw [hyes.out, E0.out]; rfl)
    · have e1 : (base == 1) = false := by simp [hb]
      have hyes := Lib.hid (show rightRes base d = true by
        unfold rightRes
        rw [decide_eq_true_iff]; exact ⟨h0, by simp [rightOf, hb]⟩)
      clear h0 hb
      go_enter Tryd.func18, Tryd.ntmps18
      go_wp2_with (go_at_call 69; refine (check_calls S _ _ _ _ hd'.out).mono ?_; rintro e w' ⟨rfl, rfl⟩; rw [E0.out])
      go_loopw [7] (fun i wr => i = .int .i64 1 ∧ wr = w) (fun _ _ => 0)
      case atStart => exact ⟨rfl, rfl⟩
      case round =>
        obtain ⟨rfl, rfl⟩ := hrel
        by_cases hlt : (1 : Int) < d.length
        all_goals
          go_wp2
          go_ret2
          exact RetS.mk (by rw [hyes.out, E0.out]; rfl)
  · obtain ⟨e, he⟩ : ∃ e, digitsFault base d = e := ⟨_, rfl⟩
    rw [he] at h0
    have hno := Lib.hid (show rightRes base d = false by
      unfold rightRes
      rw [decide_eq_false_iff_not]; rintro ⟨h, _⟩; omega)
    have E0 := Lib.hid (show errV 27 (digitsFault base d) = .iface 27 (.int .i64 e) by simp [errV, he, h0])
    clear h0 he
    go_enter Tryd.func18, Tryd.ntmps18
    go_wp2_with (go_at_call 69; refine (check_calls S _ _ _ _ hd'.out).mono ?_; rintro e w' ⟨rfl, rfl⟩; rw [E0.out])
    go_ret2
    exact RetS.mk (by rw [hno.out, E0.out]; rfl)

end Go.Proofs.YtgglhdbhemcijaaDoor
namespace Go.Proofs.YtgglhdbhemcijaaDoor
open Go.RowKit
theorem infoInt : (Tryd.prog.info? 3).map (fun i => (i.zero, i.size, i.bytes)) = some (some (.int .i64 0), 1, 8) := by kernel_rfl
theorem infoInts : (Tryd.prog.info? 22).map (fun i => (i.zero, i.size, i.bytes)) = some (some (.slice none 0 0), 1, 24) := by kernel_rfl
theorem infoBool : (Tryd.prog.info? 4).map (fun i => (i.zero, i.size, i.bytes)) = some (some (.bool false), 1, 1) := by kernel_rfl

/-- Append onto a slice that the call owns: the row stays, or is new. -/
theorem run_append_where {P : Program} (w : World) (base : Nat) (t ty e : TypeId) (i : TypeInfo) (z : Value) (bytes : Nat) (ht : P.underlying t = some (.slice e)) (hi : P.info? e = some i) (hz : i.zero = some z)
    (hsize : i.size = 1) (hby : i.bytes = bytes) (hzs : z.cells.size = 1)
    (v : Value) (n : Nat) (xs : List Value) (hown : w.ownsRow base e 1 v n xs)
    (a : Addr) (m c : Nat) (news : List Value) (hl : news.length = m) (hm : 0 < m) (hnews : ∀ j u, news[j]? = some u → w.cell? (a.add j) = some u) (h1 : ∀ u ∈ news, u.oneCell' = true)
    (h63 : n + m ≤ maxLen) (hbytes : (n + m) * bytes ≤ 140737488355328) (hbase : base ≤ w.heap.size) :
    ∃ v' w', (Builtin.append_ #[t, t] ty #[v, .slice (some a) m c]).run P w = .ok v' w' ∧ w'.ownsRow base e 1 v' (n + m) (xs ++ news) ∧ w.grownBy w' v.ownBlock ∧
      (v'.ownBlock = v.ownBlock ∨ v'.ownBlock = some w.heap.size) := by
  obtain ⟨v', w', hr, h2, h3, _⟩ := run_append_own (P := P) w base t ty e i z 1 bytes ht hi hz hsize hby hzs (by decide) v n xs hown a m c news (by simpa using hl) hnews h1 h63 hbytes hbase
  refine ⟨v', w', hr, h2, h3, ?_⟩
  have hsmall : n + m ≤ 9223372036854775807 := by simp only [maxLen] at h63; omega
  rcases hown.2 with ⟨rfl, rfl⟩ | ⟨g, cap, cur, rfl, hbg, hg, hnc, hcm, hcs, htake⟩
  · have hr' := run_append_nil (P := P) w t ty e i z ht hi hz a m c news (by rw [hsize]; omega) hnews hm (by omega) (by rw [hby]; have hb := hbytes; simp only [Nat.zero_add] at hb; omega)
    rw [hr] at hr'
    cases hr'
    exact .inr rfl
  · by_cases hroom : n + m ≤ cap
    · have hr' := run_append_room (P := P) w t ty e i ht hi g n cap cur hg a m c news (by rw [hsize]; omega) hnews h1 hroom (by rw [hsize]; omega)
      rw [hr] at hr'
      cases hr'
      exact .inl rfl
    · have holds : ∀ j u, xs[j]? = some u → w.cell? ((⟨g, 0, none⟩ : Addr).add j) = some u := hown.cells (g := g) rfl
      have hr' := run_append_grow (P := P) w t ty e i z ht hi hz ⟨g, 0, none⟩ n cap xs (by rw [hsize]; exact hown.1) holds a m c news (by rw [hsize]; omega) hnews (by omega) (by omega) (growslice_fits (by omega) (by rw [hby]; exact hbytes))
      rw [hr] at hr'
      cases hr'
      exact .inr rfl
theorem wpList_append_where {P : Program} {w : World} {ops : Array Oper} {rest : List Oper} {o : Oper} {a : Act} {Q : Exit → Act → World → Prop} (hgd : o.guard = none) (s x : Operand) (t : TypeId)
    (ho : o.op = .call { callee := .builtin .append, args := #[s, x], argTypes := #[t, t] })
    (base : Nat) (e : TypeId) (i : TypeInfo) (z : Value) (bytes : Nat) (ht : P.underlying t = some (.slice e)) (hi : P.info? e = some i) (hz : i.zero = some z)
    (hsize : i.size = 1) (hby : i.bytes = bytes) (hzs : z.cells.size = 1)
    (v : Value) (n : Nat) (xs : List Value) (hs : a.eval s = v) (hown : w.ownsRow base e 1 v n xs)
    (ad : Addr) (m c : Nat) (news : List Value) (hx : a.eval x = .slice (some ad) m c) (hl : news.length = m) (hm : 0 < m) (hnews : ∀ j u, news[j]? = some u → w.cell? (ad.add j) = some u) (h1 : ∀ u ∈ news, u.oneCell' = true)
    (h63 : n + m ≤ maxLen) (hbytes : (n + m) * bytes ≤ 140737488355328) (hbase : base ≤ w.heap.size)
    (h : ∀ v' w', w'.ownsRow base e 1 v' (n + m) (xs ++ news) → w.grownBy w' v.ownBlock → (v'.ownBlock = v.ownBlock ∨ v'.ownBlock = some w.heap.size) → wpList P ops Q rest (a.put o.dst v') w') : wpList P ops Q (o :: rest) a w := by
  refine wpList_plain hgd fun K hK => ?_
  obtain ⟨v', w', hr, h2, h3, h4⟩ := run_append_where (P := P) w base t o.type e i z bytes ht hi hz hsize hby hzs v n xs hown ad m c news hl hm hnews h1 h63 hbytes hbase
  unfold Oper.wp execOp
  simp only [ho, resolve, invoke, builtin, Sem.run_bind, Sem.run_pure, Result.andThen_ok, List.map_toArray, List.map_cons, List.map_nil, hs, hx, hr]
  exact hK _ _ (h v' w' h2 h3 h4)
/-- One new cell, in a block just made. -/
theorem wpList_append_one {P : Program} {w : World} {ops : Array Oper} {rest : List Oper} {o : Oper} {a : Act} {Q : Exit → Act → World → Prop} (hgd : o.guard = none) (s x : Operand) (t : TypeId)
    (ho : o.op = .call { callee := .builtin .append, args := #[s, x], argTypes := #[t, t] })
    (base : Nat) (e : TypeId) (i : TypeInfo) (z : Value) (bytes : Nat) (ht : P.underlying t = some (.slice e)) (hi : P.info? e = some i) (hz : i.zero = some z)
    (hsize : i.size = 1) (hby : i.bytes = bytes) (hzs : z.cells.size = 1)
    (v : Value) (n : Nat) (xs : List Value) (hs : a.eval s = v) (hown : w.ownsRow base e 1 v n xs) (y : Value) (hx : a.eval x = .slice (some ⟨w.heap.size, 0, none⟩) 1 1) (hy : y.oneCell' = true)
    (h63 : n + 1 ≤ maxLen) (hbytes : (n + 1) * bytes ≤ 140737488355328) (hbase : base ≤ w.heap.size)
    (h : ∀ v' w', w'.ownsRow base e 1 v' (n + 1) (xs ++ [y]) → w.grownBy w' v.ownBlock → (v'.ownBlock = v.ownBlock ∨ v'.ownBlock = some (w.heap.size + 1)) → wpList P ops Q rest (a.put o.dst v') w') :
    wpList P ops Q (o :: rest) a (w.alloc (.cells #[y] e)) := by
  refine wpList_append_where hgd s x t ho base e i z bytes ht hi hz hsize hby hzs v n xs hs (hown.alloc _) ⟨w.heap.size, 0, none⟩ 1 1 [y] hx rfl (by decide) (cell_one_new _ _ _) (by simpa using hy) h63 hbytes (by simp; omega) ?_
  intro v' w' h1 h2 h3
  refine h v' w' h1 ⟨h2.os, h2.tape, h2.output, by have := h2.size; simp at this; omega, fun k hk hne => ?_⟩ (by simpa using h3)
  rw [h2.block k (by simp; omega) hne, Below.heap_alloc _ _ _ hk]

section
variable {w : World} {ops : Array Oper} {rest : List Oper} {o : Oper} {a : Act} {Q : Exit → Act → World → Prop}
/-- 'append(s, x)' of one integer onto a slice that the call owns. -/
theorem appInt (hgd : o.guard = none) (s x : Operand) (ho : o.op = .call { callee := .builtin .append, args := #[s, x], argTypes := #[22, 22] })
    (B : Nat) (v : Value) (n : Nat) (xs : List Value) (hs : a.eval s = v) (hown : w.ownsRow B 3 1 v n xs) (y : Value)
    (hx : a.eval x = .slice (some ⟨w.heap.size, 0, none⟩) 1 1) (hy : y.oneCell' = true) (hn : n ≤ 17592186044415) (hB : B ≤ w.heap.size)
    (h : ∀ v' w', w'.ownsRow B 3 1 v' (n + 1) (xs ++ [y]) → w.grownBy w' v.ownBlock → (v'.ownBlock = v.ownBlock ∨ v'.ownBlock = some (w.heap.size + 1)) → wpList Tryd.prog ops Q rest (a.put o.dst v') w') :
    wpList Tryd.prog ops Q (o :: rest) a (w.alloc (.cells #[y] 3)) := by
  obtain ⟨i0, hi, hz0, hz1, hz2⟩ := info_parts infoInt
  exact wpList_append_one hgd s x 22 ho B 3 i0 (.int .i64 0) 8 Tryd.underlying22 hi hz0 hz1 hz2 rfl v n xs hs hown y hx hy (by simp only [maxLen]; omega) (by omega) hB h
theorem appBool (hgd : o.guard = none) (s x : Operand) (ho : o.op = .call { callee := .builtin .append, args := #[s, x], argTypes := #[58, 58] })
    (B : Nat) (v : Value) (n : Nat) (xs : List Value) (hs : a.eval s = v) (hown : w.ownsRow B 4 1 v n xs) (y : Value)
    (hx : a.eval x = .slice (some ⟨w.heap.size, 0, none⟩) 1 1) (hy : y.oneCell' = true) (hn : n ≤ 17592186044415) (hB : B ≤ w.heap.size)
    (h : ∀ v' w', w'.ownsRow B 4 1 v' (n + 1) (xs ++ [y]) → w.grownBy w' v.ownBlock → (v'.ownBlock = v.ownBlock ∨ v'.ownBlock = some (w.heap.size + 1)) → wpList Tryd.prog ops Q rest (a.put o.dst v') w') :
    wpList Tryd.prog ops Q (o :: rest) a (w.alloc (.cells #[y] 4)) := by
  obtain ⟨i0, hi, hz0, hz1, hz2⟩ := info_parts infoBool
  exact wpList_append_one hgd s x 58 ho B 4 i0 (.bool false) 1 Tryd.underlying58 hi hz0 hz1 hz2 rfl v n xs hs hown y hx hy (by simp only [maxLen]; omega) (by omega) hB h
theorem appInts (hgd : o.guard = none) (s x : Operand) (ho : o.op = .call { callee := .builtin .append, args := #[s, x], argTypes := #[57, 57] })
    (B : Nat) (v : Value) (n : Nat) (xs : List Value) (hs : a.eval s = v) (hown : w.ownsRow B 22 1 v n xs) (y : Value)
    (hx : a.eval x = .slice (some ⟨w.heap.size, 0, none⟩) 1 1) (hy : y.oneCell' = true) (hn : n ≤ 4398046511104) (hB : B ≤ w.heap.size)
    (h : ∀ v' w', w'.ownsRow B 22 1 v' (n + 1) (xs ++ [y]) → w.grownBy w' v.ownBlock → (v'.ownBlock = v.ownBlock ∨ v'.ownBlock = some (w.heap.size + 1)) → wpList Tryd.prog ops Q rest (a.put o.dst v') w') :
    wpList Tryd.prog ops Q (o :: rest) a (w.alloc (.cells #[y] 22)) := by
  obtain ⟨i0, hi, hz0, hz1, hz2⟩ := info_parts infoInts
  exact wpList_append_one hgd s x 57 ho B 22 i0 (.slice none 0 0) 24 Tryd.underlying57 hi hz0 hz1 hz2 rfl v n xs hs hown y hx hy (by simp only [maxLen]; omega) (by omega) hB h
/-- 'append(rows, row)'. -/
theorem appRow (hgd : o.guard = none) (s x : Operand) (ho : o.op = .call { callee := .builtin .append, args := #[s, x], argTypes := #[57, 57] })
    (B : Nat) (v : Value) (L : List (List Int)) (hs : a.eval s = v) (hacc : Acc Ints B 22 w v L) (y : Value) (d : List Int) (hy : Ints (fun b => B ≤ b ∧ some b ≠ v.ownBlock) w y d)
    (hx : a.eval x = .slice (some ⟨w.heap.size, 0, none⟩) 1 1) (hn : L.length ≤ 4398046511104) (hB : B ≤ w.heap.size)
    (h : ∀ v' w', Acc Ints B 22 w' v' (L ++ [d]) → w.grownBy w' v.ownBlock → Below B w w' → wpList Tryd.prog ops Q rest (a.put o.dst v') w') :
    wpList Tryd.prog ops Q (o :: rest) a (w.alloc (.cells #[y] 22)) := by
  obtain ⟨xs, hown, hxs⟩ := hacc
  refine appInts hgd s x ho B v L.length xs hs hown y hx (by obtain ⟨_, _, rfl⟩ := hy.form; rfl) hn hB fun v' w' h1 h2 h3 => ?_
  exact h v' w' (Acc.appended movInts hown hxs y d hy h1 h2 h3) h2 ((Below.refl _ _).grown h2 hB fun k hk => (hown.lt k hk).1)
/-- 'make([]T, n)'. -/
theorem makeInt (hg : o.guard = none) (l : Operand) (hop : o.op = Op.makeSlice 22 l l) (n : Nat) (hl : a.eval l = .int .i64 n) (hn : n ≤ 17592186044415)
    (hK : ∀ w', w'.ownsRow w.heap.size 3 1 (.slice (some ⟨w.heap.size, 0, none⟩) n n) n (List.replicate n (.int .i64 0)) → w.grownBy w' none → wpList Tryd.prog ops Q rest (a.put o.dst (.slice (some ⟨w.heap.size, 0, none⟩) n n)) w') :
    wpList Tryd.prog ops Q (o :: rest) a w := by
  obtain ⟨i0, hi, hz0, hz1, hz2⟩ := info_parts infoInt
  refine wpList_make_full w hg l l 22 hop w.heap.size 3 i0 (.int .i64 0) 1 Tryd.underlying22 hi hz0 hz1 .i64 .i64 _ _ n hl hl rfl rfl (by rw [hz2]; omega) (by simp only [maxLen]; omega) (Nat.le_refl _) ?_
  intro w' h1 h2
  have e : (madeCells (Value.int .i64 0).cells (n * 1)).toList = List.replicate n (.int .i64 0) := by
    show (madeCells #[Value.int .i64 0] (n * 1)).toList = _
    rw [toList_madeCells_one, Nat.mul_one]
  rw [e] at h1
  exact hK w' h1 h2
theorem makeBool (hg : o.guard = none) (l : Operand) (hop : o.op = Op.makeSlice 58 l l) (n : Nat) (hl : a.eval l = .int .i64 n) (hn : n ≤ 17592186044415)
    (hK : ∀ w', w'.ownsRow w.heap.size 4 1 (.slice (some ⟨w.heap.size, 0, none⟩) n n) n (List.replicate n (.bool false)) → w.grownBy w' none → wpList Tryd.prog ops Q rest (a.put o.dst (.slice (some ⟨w.heap.size, 0, none⟩) n n)) w') :
    wpList Tryd.prog ops Q (o :: rest) a w := by
  obtain ⟨i0, hi, hz0, hz1, hz2⟩ := info_parts infoBool
  refine wpList_make_full w hg l l 58 hop w.heap.size 4 i0 (.bool false) 1 Tryd.underlying58 hi hz0 hz1 .i64 .i64 _ _ n hl hl rfl rfl (by rw [hz2]; omega) (by simp only [maxLen]; omega) (Nat.le_refl _) ?_
  intro w' h1 h2
  have e : (madeCells (Value.bool false).cells (n * 1)).toList = List.replicate n (.bool false) := by
    show (madeCells #[Value.bool false] (n * 1)).toList = _
    rw [toList_madeCells_one, Nat.mul_one]
  rw [e] at h1
  exact hK w' h1 h2
theorem makeInts (hg : o.guard = none) (l : Operand) (hop : o.op = Op.makeSlice 57 l l) (n : Nat) (hl : a.eval l = .int .i64 n) (hn : n ≤ 4398046511104)
    (hK : ∀ w', w'.ownsRow w.heap.size 22 1 (.slice (some ⟨w.heap.size, 0, none⟩) n n) n (List.replicate n (.slice none 0 0)) → w.grownBy w' none → wpList Tryd.prog ops Q rest (a.put o.dst (.slice (some ⟨w.heap.size, 0, none⟩) n n)) w') :
    wpList Tryd.prog ops Q (o :: rest) a w := by
  obtain ⟨i0, hi, hz0, hz1, hz2⟩ := info_parts infoInts
  refine wpList_make_full w hg l l 57 hop w.heap.size 22 i0 (.slice none 0 0) 1 Tryd.underlying57 hi hz0 hz1 .i64 .i64 _ _ n hl hl rfl rfl (by rw [hz2]; omega) (by simp only [maxLen]; omega) (Nat.le_refl _) ?_
  intro w' h1 h2
  have e : (madeCells (Value.slice none 0 0).cells (n * 1)).toList = List.replicate n (.slice none 0 0) := by
    show (madeCells #[Value.slice none 0 0] (n * 1)).toList = _
    rw [toList_madeCells_one, Nat.mul_one]
  rw [e] at h1
  exact hK w' h1 h2
end

theorem arr64 : Tryd.prog.arrayLen 94 = 64 := by kernel_rfl
set_option maxRecDepth 100000 in
theorem slice64 (w : World) (b k : Nat) (h : k < 64) : (Instr.sliceAt 94 (.pointer (some ⟨b, 0, none⟩)) (some (.int .i64 (k : Int))) none none).run Tryd.prog w = .ok (.slice (some ⟨b, k, none⟩) (64 - k) (64 - k)) w := by
  rw [run_sliceAt_array_l w 94 ⟨b, 0, none⟩ (P := Tryd.prog) Tryd.underlying94 .i64 (k : Int) (by omega) (by rw [arr64]; omega)]
  have e : ¬ 64 = k := by omega
  go_simp
end Go.Proofs.YtgglhdbhemcijaaDoor
namespace Go.Proofs.YtgglhdbhemcijaaDoor
open Go.RowKit

theorem powW_bd {k : Int} (h2 : 2 ≤ k) (h6 : k ≤ 6) {j : Nat} (hj : j ≤ 5) : 1 ≤ powW k j ∧ powW k j ≤ 7776 := by
  have key : ∀ j, j ≤ 5 → powW k j ≤ powW 6 j := by
    intro j
    induction j with
    | zero => intro _; exact Int.le_refl _
    | succ j ih =>
      intro hj
      have h := ih (by omega)
      have p := powW_pos h2 j
      show powW k j * k ≤ powW 6 j * 6
      exact Int.le_trans (Int.mul_le_mul_of_nonneg_right h (by omega)) (Int.mul_le_mul_of_nonneg_left h6 (by omega))
  refine ⟨powW_pos h2 j, Int.le_trans (key j hj) ?_⟩
  have : j = 0 ∨ j = 1 ∨ j = 2 ∨ j = 3 ∨ j = 4 ∨ j = 5 := by omega
  rcases this with rfl | rfl | rfl | rfl | rfl | rfl <;> decide

set_option maxHeartbeats 1000000 in
theorem Many_calls (base t : Int) (w : World) :
    Calls Tryd.prog 23 #[.int .i64 base, .int .i64 t] w (RetS (.tuple #[.int .i64 (manyOf base t), errV 27 (manyErr base t)]) w) := by
  by_cases hbad : radix base = 0 ∨ t < 0 ∨ 5 < t
  · have H := Lib.hid (show manyErr base t = 1 ∧ manyOf base t = 0 by simp [manyErr, manyOf, hbad])
    by_cases h1 : radix base = 0
    · have e0 : (radix base == 0) = true := by simp [h1]
      clear hbad h1
      go_enter Tryd.func23, Tryd.ntmps23
      go_wp2_with (go_at_call 66; refine (Radix_calls _ _).mono ?_; rintro e w' ⟨rfl, rfl⟩)
      go_ret2
      exact RetS.mk (by rw [H.out.1, H.out.2]; rfl)
    · have e0 : (radix base == 0) = false := by simp [h1]
      by_cases h2 : t < 0
      · clear hbad h1
        go_enter Tryd.func23, Tryd.ntmps23
        go_wp2_with (go_at_call 66; refine (Radix_calls _ _).mono ?_; rintro e w' ⟨rfl, rfl⟩)
        go_ret2
        exact RetS.mk (by rw [H.out.1, H.out.2]; rfl)
      · have h3 : 5 < t := by omega
        clear hbad h1
        go_enter Tryd.func23, Tryd.ntmps23
        go_wp2_with (go_at_call 66; refine (Radix_calls _ _).mono ?_; rintro e w' ⟨rfl, rfl⟩)
        go_ret2
        exact RetS.mk (by rw [H.out.1, H.out.2]; rfl)
  · have H := Lib.hid (show manyErr base t = if 36 < powW (radix base) t.toNat then 3 else 0 by simp only [manyErr, if_neg hbad])
    obtain ⟨t, rfl⟩ := Int.eq_ofNat_of_zero_le (show 0 ≤ t by omega)
    simp only [Int.toNat_natCast] at H
    have h1 : radix base ≠ 0 := by omega
    have e0 : (radix base == 0) = false := by simp [h1]
    have h2 : ¬ ((t : Int) < 0) := by omega
    have h3 : ¬ (5 < (t : Int)) := by omega
    have ht5 : t ≤ 5 := by omega
    obtain ⟨r2, r6⟩ := radix_two h1
    have HP := Lib.hid (show ∀ j, j ≤ 5 → 1 ≤ powW (radix base) j ∧ powW (radix base) j ≤ 7776 from fun j hj => powW_bd r2 r6 hj)
    have HM := Lib.hid (show manyErr base t = 0 → manyOf base t = powW (radix base) t by intro h; simp [manyOf, h])
    have HM0 := Lib.hid (show manyErr base t ≠ 0 → manyOf base t = 0 by intro h; simp [manyOf, h])
    clear hbad h1
    generalize hk : radix base = k at *
    have Hk := Lib.hid hk; clear hk
    go_enter Tryd.func23, Tryd.ntmps23
    go_wp2_with (go_at_call 66; refine (Radix_calls _ _).mono ?_; rintro e w' ⟨rfl, rfl⟩; rw [Hk.out])
    go_loopw [7, 22] (fun n i wr => ∃ j : Nat, j ≤ t ∧ i = .int .i64 j ∧ n = .int .i64 (powW k j) ∧ wr = w) (fun _ i _ => t - (intOf i).toNat)
    case atStart => exact ⟨0, by omega, rfl, rfl, rfl⟩
    case round =>
      obtain ⟨j, hj, rfl, rfl, rfl⟩ := hrel
      by_cases hlt : j < t
      · have p1 := (HP.out j (by omega)).1
        have p2 := (HP.out j (by omega)).2
        have p3 : 0 ≤ powW k j * k := Int.mul_nonneg (by omega) (by omega)
        have p4 : powW k j * k ≤ 46656 := by
          have := Int.mul_le_mul p2 r6 (by omega) (by omega)
          omega
        go_wp2
        go_roundw
        case rel => exact ⟨j + 1, by omega, by go_num, rfl, trivial⟩
        case measure => (simp [intOf] <;> omega)
      · obtain rfl : j = t := by omega
        by_cases hbig : 36 < powW k j
        · have R := Lib.hid (show manyErr base j = 3 ∧ manyOf base j = 0 by
            have : manyErr base j = 3 := by rw [H.out, if_pos hbig]
            exact ⟨this, HM0.out (by omega)⟩)
          go_wp2
          go_ret2
          exact RetS.mk (by rw [R.out.1, R.out.2]; rfl)
        · have R := Lib.hid (show manyErr base j = 0 ∧ manyOf base j = powW k j by
            have : manyErr base j = 0 := by rw [H.out, if_neg hbig]
            exact ⟨this, HM.out this⟩)
          go_wp2
          go_ret2
          exact RetS.mk (by rw [R.out.1, R.out.2]; rfl)

theorem packErr_many {base : Int} {d : List Int} (h : manyErr base d.length ≠ 0) : packErr base d = manyErr base d.length ∧ packOf base d = 0 := by
  have : packErr base d = manyErr base d.length := by simp [packErr, h]
  exact ⟨this, by simp [packOf, this, h]⟩
theorem packErr_digit {base : Int} {d : List Int} (h : manyErr base d.length = 0) {i : Nat} (hi : i < d.length) (hx : ¬ (0 ≤ d[i] ∧ d[i] < radix base)) : packErr base d = 1 ∧ packOf base d = 0 := by
  have : packErr base d = 1 := by
    rw [packErr, h]
    simp only [ne_eq, not_true_eq_false, if_false]
    rw [if_neg]
    intro hall
    have := List.all_eq_true.1 hall d[i] (List.getElem_mem _)
    exact hx (by simpa using this)
  exact ⟨this, by simp [packOf, this]⟩
theorem packErr_ok {base : Int} {d : List Int} (h : manyErr base d.length = 0) (hx : ∀ x ∈ d, 0 ≤ x ∧ x < radix base) : packErr base d = 0 ∧ packOf base d = pack (radix base) d := by
  have : packErr base d = 0 := by
    rw [packErr, h]
    simp only [ne_eq, not_true_eq_false, if_false]
    rw [if_pos]
    rw [List.all_eq_true]; intro x hx'; simpa using hx x hx'
  exact ⟨this, by simp [packOf, this]⟩

set_option maxHeartbeats 1000000 in
theorem Pack_calls (S : Nat → Prop) (base : Int) (v : Value) (d : List Int) (w : World) (hd : Ints S w v d) :
    Calls Tryd.prog 29 #[.int .i64 base, v] w (RetS (.tuple #[.int .i64 (packOf base d), errV 27 (packErr base d)]) w) := by
  obtain ⟨a, cap, rfl, hlen, hcell⟩ := hd
  by_cases h0 : manyErr base d.length = 0
  · obtain ⟨h1, _, h5, hp36, _⟩ := many_ok h0
    obtain ⟨r2, r6⟩ := radix_two h1
    have hl5 : d.length ≤ 5 := by omega
    have H0 := Lib.hid h0
    have HP := Lib.hid (show ∀ j, j ≤ 5 → 1 ≤ powW (radix base) j ∧ powW (radix base) j ≤ 7776 from fun j hj => powW_bd r2 r6 hj)
    have HD := Lib.hid (show ∀ (i : Nat) (hi : i < d.length), ¬ (0 ≤ d[i] ∧ d[i] < radix base) → packErr base d = 1 ∧ packOf base d = 0 from fun i hi hx => packErr_digit h0 hi hx)
    have HO := Lib.hid (show (∀ x ∈ d, 0 ≤ x ∧ x < radix base) → packErr base d = 0 ∧ packOf base d = pack (radix base) d from packErr_ok h0)
    have hbd := Lib.hid (show ∀ e : List Int, (∀ x ∈ e, 0 ≤ x ∧ x < radix base) → 0 ≤ pack (radix base) e ∧ pack (radix base) e < powW (radix base) e.length from fun e he => pack_bd r2 e he)
    clear h0 h1 h5 hp36
    generalize hk : radix base = k at *
    have Hk := Lib.hid hk; clear hk
    go_enter Tryd.func29, Tryd.ntmps29
    go_wp2_with fail
    refine (Many_calls _ _ _).mono ?_; rintro e w' ⟨rfl, rfl⟩; rw [H0.out, errV_zero]
    go_wp2_with fail
    refine (Radix_calls _ _).mono ?_; rintro e w' ⟨rfl, rfl⟩; rw [Hk.out]
    go_wp2_with fail
    go_loopw [9, 26] (fun l i wr => ∃ j : Nat, j ≤ d.length ∧ i = .int .i64 j ∧ l = .int .i64 (pack k (d.take j)) ∧ wr = w ∧ Hid (∀ x ∈ d.take j, 0 ≤ x ∧ x < k)) (fun _ i _ => d.length - (intOf i).toNat)
    case atStart => exact ⟨0, by omega, rfl, rfl, rfl, fun x hx => by simp at hx⟩
    case round =>
      obtain ⟨j, hj, rfl, rfl, rfl, Hall⟩ := hrel
      by_cases hlt : j < d.length
      · obtain ⟨b, off, x, ha, hS, hc, hx, hi⟩ := hcell j hlt
        subst ha hx
        have q := hbd.out _ Hall.out
        have q1 := q.1
        have q2 : pack k (d.take j) ≤ 7776 := by
          have := (HP.out (d.take j).length (by simp; omega)).2; omega
        have Hs := Lib.hid (show pack k (d.take (j + 1)) = pack k (d.take j) * k + d[j] by
          rw [List.take_succ_eq_append_getElem hlt, pack_snoc])
        clear q
        generalize hp : pack k (d.take j) = p at *
        have Hp := Lib.hid hp; clear hp
        have p3 : 0 ≤ p * k := Int.mul_nonneg (by omega) (by omega)
        have p4 : p * k ≤ 46656 := by
          have := Int.mul_le_mul q2 r6 (by omega) (by omega)
          omega
        by_cases c1 : 0 ≤ d[j]
        · by_cases c2 : d[j] < k
          · go_wp2
            go_roundw
            case rel => exact ⟨j + 1, by omega, by go_num, by rw [Hs.out], trivial, fun x hx => by
              rw [List.take_succ_eq_append_getElem hlt] at hx
              rcases List.mem_append.1 hx with hx | hx
              · exact Hall.out x hx
              · obtain rfl : x = d[j] := by simpa using hx
                exact ⟨c1, c2⟩⟩
            case measure => (simp [intOf] <;> omega)
          · have R := Lib.hid (HD.out j hlt (by omega))
            go_wp2
            go_ret2
            exact RetS.mk (by rw [R.out.1, R.out.2]; rfl)
        · have R := Lib.hid (HD.out j hlt (by omega))
          go_wp2
          go_ret2
          exact RetS.mk (by rw [R.out.1, R.out.2]; rfl)
      · have e : d.take j = d := List.take_of_length_le (by omega)
        rw [e] at Hall ⊢
        have R := Lib.hid (HO.out Hall.out)
        clear e
        go_wp2
        go_ret2
        exact RetS.mk (by rw [R.out.1, R.out.2]; rfl)
  · have R := Lib.hid (packErr_many h0)
    have E := Lib.hid (errV_ne 27 h0)
    clear h0
    go_enter Tryd.func29, Tryd.ntmps29
    go_wp2_with fail
    refine (Many_calls _ _ _).mono ?_; rintro e w' ⟨rfl, rfl⟩; rw [E.out]
    go_wp2
    go_ret2
    exact RetS.mk (by rw [R.out.1, R.out.2, E.out]; rfl)

end Go.Proofs.YtgglhdbhemcijaaDoor
namespace Go.Proofs.YtgglhdbhemcijaaDoor
open Go.RowKit

/-- A value reads as an automaton. -/
def IsAuto (S : Nat → Prop) (w : World) (v : Value) (a : GAuto) : Prop :=
  ∃ vn ve, v = .agg #[.int .i64 a.base, .int .i64 a.tracks, vn, ve] ∧ Intss S w vn a.next ∧ Bools S w ve a.ends
theorem IsAuto.keep {S S' : Nat → Prop} {w w' : World} {v : Value} {a : GAuto} (h : IsAuto S w v a) (hb : ∀ b, S b → b < w.heap.size → w'.heap[b]? = w.heap[b]? ∧ S' b) : IsAuto S' w' v a := by
  obtain ⟨vn, ve, hv, h1, h2⟩ := h
  exact ⟨vn, ve, hv, h1.keep hb, h2.keep hb⟩
theorem IsAuto.below {S S' : Nat → Prop} {w w' : World} {v : Value} {a : GAuto} (h : IsAuto S w v a) (hb : Below w.heap.size w w') (hS : ∀ b, S b → b < w.heap.size → S' b) : IsAuto S' w' v a :=
  h.keep fun b hb' hlt => ⟨hb.block b hlt, hS b hb' hlt⟩
theorem IsAuto.under {B : Nat} {w w' : World} {v : Value} {a : GAuto} (h : IsAuto (· < B) w v a) (hb : Below B w w') : IsAuto (· < B) w' v a :=
  h.keep fun b hb' _ => ⟨hb.block b hb', hb'⟩

theorem rowsFault_at {n m : Int} {l : List (List Int)} {k : Nat} (hk : k < l.length) (h : ∀ i (hi : i < l.length), i < k → (l[i].length : Int) = n ∧ ∀ s ∈ l[i], 0 ≤ s ∧ s < m) :
    ((l[k].length : Int) ≠ n → rowsFault n m l = 2) ∧ ((l[k].length : Int) = n → (∃ s ∈ l[k], ¬ (0 ≤ s ∧ s < m)) → rowsFault n m l = 1) := by
  induction l generalizing k with
  | nil => simp at hk
  | cons r t ih =>
    cases k with
    | zero =>
      refine ⟨fun h1 => ?_, fun h1 h2 => ?_⟩
      · simp only [List.getElem_cons_zero] at h1
        unfold rowsFault; rw [if_pos h1]
      · simp only [List.getElem_cons_zero] at h1 h2
        obtain ⟨s, hs, hn⟩ := h2
        unfold rowsFault
        rw [if_neg (by omega), if_neg]
        intro hall
        exact hn (by simpa using List.all_eq_true.1 hall s hs)
    | succ k =>
      have h0 := h 0 (by simp) (by omega)
      simp only [List.getElem_cons_zero] at h0
      have e : rowsFault n m (r :: t) = rowsFault n m t := by
        conv => lhs; unfold rowsFault
        rw [if_neg (by omega), if_pos]
        rw [List.all_eq_true]; intro s hs; simpa using h0.2 s hs
      rw [e]
      exact ih (by simpa using hk) (fun i hi hik => h (i + 1) (by simp; omega) (by omega))

set_option maxHeartbeats 2000000 in
set_option maxRecDepth 100000 in
theorem Check_calls (S : Nat → Prop) (v : Value) (a : GAuto) (w : World) (ha : IsAuto S w v a) :
    Calls Tryd.prog 38 #[v] w (Ret (errV 27 (autoFault a)) w) := by
  obtain ⟨vn, ve, rfl, hn, he⟩ := ha
  have HB := Lib.hid ((Below.refl w.heap.size w).alloc (Nat.le_refl _) (.cells #[.int .i64 a.base, .int .i64 a.tracks, vn, ve] 60))
  have Hn := Lib.hid (hn.below (S' := fun _ => True) HB.out (fun _ _ _ => trivial))
  obtain ⟨pn, cn, rfl⟩ := hn.form
  obtain ⟨pe, ce, rfl⟩ := he.form
  clear hn he
  by_cases h0 : manyErr a.base a.tracks = 0
  · have E0 := Lib.hid h0
    by_cases h1 : a.next.length = 0
    · have R := Lib.hid (show autoFault a = 4 by simp [autoFault, h0, h1])
      have e1 : ((a.next.length : Int) == 0) = true := beq_iff_eq.2 (by omega)
      clear h0 h1
      go_enter Tryd.func38, Tryd.ntmps38
      go_wp2_with (go_at_call 23; refine (Many_calls _ _ _).mono ?_; rintro e w' ⟨rfl, rfl⟩; rw [E0.out, errV_zero])
      go_ret
      exact Ret.mk (by rw [R.out]; rfl) HB.out
    · have e1 : ((a.next.length : Int) == 0) = false := beq_eq_false_iff_ne.2 (by omega)
      by_cases h2 : 80 < a.next.length
      · have R := Lib.hid (show autoFault a = 3 by simp only [autoFault, h0, if_neg h1, if_pos h2]; simp)
        have e2 : (80 : Int) < a.next.length := by omega
        clear h0 h1 h2
        go_enter Tryd.func38, Tryd.ntmps38
        go_wp2_with (go_at_call 23; refine (Many_calls _ _ _).mono ?_; rintro e w' ⟨rfl, rfl⟩; rw [E0.out, errV_zero])
        go_ret
        exact Ret.mk (by rw [R.out]; rfl) HB.out
      · have e2 : ¬ (80 : Int) < a.next.length := by omega
        by_cases h3 : a.ends.length ≠ a.next.length
        · have R := Lib.hid (show autoFault a = 2 by simp only [autoFault, h0, if_neg h1, if_neg h2, if_pos h3]; simp)
          have e3 : ((a.ends.length : Int) != (a.next.length : Int)) = true := by rw [bne_iff_ne]; omega
          clear h0 h1 h2 h3
          go_enter Tryd.func38, Tryd.ntmps38
          go_wp2_with (go_at_call 23; refine (Many_calls _ _ _).mono ?_; rintro e w' ⟨rfl, rfl⟩; rw [E0.out, errV_zero])
          go_ret
          exact Ret.mk (by rw [R.out]; rfl) HB.out
        · have R := Lib.hid (show autoFault a = rowsFault (manyOf a.base a.tracks) a.next.length a.next by simp only [autoFault, h0, if_neg h1, if_neg h2, if_neg h3]; simp)
          have e3 : ((a.ends.length : Int) != (a.next.length : Int)) = false := by simp at h3; simp [h3]
          have h36 : manyOf a.base a.tracks ≤ 36 := by have := many_ok h0; omega
          clear h0 h1 h2 h3
          generalize hmo : manyOf a.base a.tracks = n at *
          have Hmo := Lib.hid hmo; clear hmo
          go_enter Tryd.func38, Tryd.ntmps38
          go_wp2_with (go_at_call 23; refine (Many_calls _ _ _).mono ?_; rintro e w' ⟨rfl, rfl⟩; rw [E0.out, errV_zero, Hmo.out])
          go_loop [45] (fun i => ∃ k : Nat, k ≤ a.next.length ∧ i = .int .i64 k ∧ Hid (∀ i (hi : i < a.next.length), i < k → (a.next[i].length : Int) = n ∧ ∀ s ∈ a.next[i], 0 ≤ s ∧ s < (a.next.length : Int))) (fun i => a.next.length - (intOf i).toNat)
          case atStart => exact ⟨0, by omega, rfl, fun i hi h => by omega⟩
          case round =>
            obtain ⟨k, hk, rfl, HA⟩ := hrel
            by_cases hlt : k < a.next.length
            · obtain ⟨b, off, x, hp, hS, hc, hx⟩ := Hn.out.at k hlt
              obtain ⟨px, cx, rfl⟩ := hx.form
              subst hp
              have Hx := Lib.hid hx
              clear hx hS
              have Hat := Lib.hid (rowsFault_at hlt HA.out)
              by_cases c : (a.next[k].length : Int) = n
              · have c' : ((a.next[k].length : Int) != n) = false := by simp [c]
                have Hc := Lib.hid c
                have hc36 : a.next[k].length ≤ 36 := by omega
                clear c
                go_wp2_with fail
                go_loop [56] (fun i => ∃ q : Nat, q ≤ a.next[k].length ∧ i = .int .i64 q ∧ Hid (∀ i (hi : i < a.next[k].length), i < q → 0 ≤ a.next[k][i] ∧ a.next[k][i] < (a.next.length : Int))) (fun i => a.next[k].length - (intOf i).toNat)
                case atStart => exact ⟨0, by omega, rfl, fun i hi h => by omega⟩
                case round =>
                  obtain ⟨q, hq, rfl, HQ⟩ := hrel
                  by_cases hqt : q < a.next[k].length
                  · obtain ⟨b2, off2, y, hp2, hS2, hc2, hy, hi2⟩ := Hx.out.at q hqt
                    subst hp2 hy
                    clear hS2
                    by_cases d1 : a.next[k][q] < 0
                    · have R2 := Lib.hid (Hat.out.2 Hc.out ⟨_, List.getElem_mem hqt, by omega⟩)
                      go_wp2
                      go_ret
                      exact Ret.mk (by rw [R.out, R2.out]; rfl) HB.out
                    · by_cases d2 : (a.next.length : Int) ≤ a.next[k][q]
                      · have R2 := Lib.hid (Hat.out.2 Hc.out ⟨_, List.getElem_mem hqt, by omega⟩)
                        go_wp2
                        go_ret
                        exact Ret.mk (by rw [R.out, R2.out]; rfl) HB.out
                      · have HG := Lib.hid (show 0 ≤ a.next[k][q] ∧ a.next[k][q] < (a.next.length : Int) by omega)
                        go_wp2
                        go_round
                        case rel =>
                          refine ⟨q + 1, by omega, by go_num, fun i hi h => ?_⟩
                          by_cases e : i < q
                          · exact HQ.out i hi e
                          · obtain rfl : i = q := by omega
                            exact HG.out
                        case measure => (simp [intOf] <;> omega)
                  · have HK := Lib.hid (show ∀ s ∈ a.next[k], 0 ≤ s ∧ s < (a.next.length : Int) from fun s hs => by
                      obtain ⟨i, hi, rfl⟩ := List.mem_iff_getElem.1 hs
                      exact HQ.out i hi (by omega))
                    go_wp2
                    go_round
                    case rel =>
                      refine ⟨k + 1, by omega, by go_num, fun i hi h => ?_⟩
                      by_cases e : i < k
                      · exact HA.out i hi e
                      · obtain rfl : i = k := by omega
                        exact ⟨Hc.out, HK.out⟩
                    case measure => (simp [intOf] <;> omega)
              · have c' : ((a.next[k].length : Int) != n) = true := by simpa using c
                have R2 := Lib.hid (Hat.out.1 c)
                clear c
                go_wp2
                go_ret
                exact Ret.mk (by rw [R.out, R2.out]; rfl) HB.out
            · have R2 := Lib.hid (show rowsFault n a.next.length a.next = 0 by
                rw [rowsFault_zero]
                intro r hr
                obtain ⟨i, hi, rfl⟩ := List.mem_iff_getElem.1 hr
                exact HA.out i hi (by omega))
              go_wp2
              go_ret
              exact Ret.mk (by rw [R.out, R2.out]; rfl) HB.out
  · have R := Lib.hid (show autoFault a = manyErr a.base a.tracks by simp [autoFault, h0])
    have E := Lib.hid (errV_ne 27 h0)
    clear h0
    go_enter Tryd.func38, Tryd.ntmps38
    go_wp2_with (go_at_call 23; refine (Many_calls _ _ _).mono ?_; rintro e w' ⟨rfl, rfl⟩; rw [E.out])
    go_ret
    exact Ret.mk (by rw [R.out, E.out]; rfl) HB.out
end Go.Proofs.YtgglhdbhemcijaaDoor
namespace Go.Proofs.YtgglhdbhemcijaaDoor
open Go.RowKit

theorem nextOf_at {n m : Nat} {next : List (List Int)} (h : Rows0 n m next) {s q : Nat} (hs : s < m) (hq : q < n) :
    ∃ (h1 : s < next.length) (h2 : q < next[s].length), nextOf next s q = next[s][q] ∧ 0 ≤ next[s][q] ∧ next[s][q] < m := by
  have h1 : s < next.length := by have := h.len; omega
  have h2 : q < next[s].length := by have := h.row _ (List.getElem_mem h1); omega
  refine ⟨h1, h2, ?_, h.ok _ (List.getElem_mem h1) _ (List.getElem_mem h2)⟩
  unfold nextOf
  simp only [Int.toNat_natCast]
  rw [getD_lt h1, getD_lt h2]
theorem runFrom_snoc (next : List (List Int)) (s : Int) (w : List Int) (l : Int) : runFrom next s (w ++ [l]) = nextOf next (runFrom next s w) l := by simp [runFrom, List.foldl_append]

set_option maxHeartbeats 2000000 in
set_option maxRecDepth 100000 in
theorem Run_calls (S S' : Nat → Prop) (v : Value) (a : GAuto) (vl : Value) (l : List Int) (w : World) (hS : ∀ b, S b → b < w.heap.size) (hS' : ∀ b, S' b → b < w.heap.size) (ha : IsAuto S w v a) (hl : Ints S' w vl l) :
    Calls Tryd.prog 41 #[v, vl] w (Ret (.tuple #[.int .i64 (runOf a l), errV 27 (runErr a l)]) w) := by
  have HA := Lib.hid ha
  have HL := Lib.hid hl
  obtain ⟨vn, ve, rfl, hn, he⟩ := ha
  obtain ⟨pn, cn, rfl⟩ := hn.form
  obtain ⟨pe, ce, rfl⟩ := he.form
  obtain ⟨pl, cl, rfl⟩ := hl.form
  have hb0 : Below w.heap.size w (w.alloc (.cells #[.int .i64 a.base, .int .i64 a.tracks, .slice pn a.next.length cn, .slice pe a.ends.length ce] 60)) := (Below.refl w.heap.size w).alloc (Nat.le_refl _) _
  have HB0 := Lib.hid hb0
  have HA1 := Lib.hid (HA.out.below hb0 (S' := (· < w.heap.size + 1)) (fun b hb _ => by have := hS b hb; omega))
  clear hn he hl hb0
  go_enter Tryd.func41, Tryd.ntmps41
  go_wp2_with fail
  refine (Check_calls _ _ a _ HA1.out).mono ?_
  rintro e w1 ⟨rfl, hb1⟩
  have hbox : ∀ j, w1.cell? ⟨w.heap.size, j, none⟩ = (w.alloc (.cells #[.int .i64 a.base, .int .i64 a.tracks, .slice pn a.next.length cn, .slice pe a.ends.length ce] 60)).cell? ⟨w.heap.size, j, none⟩ :=
    fun j => hb1.cell (p := ⟨w.heap.size, j, none⟩) (by simp)
  have hbox2 : w1.cell? ⟨w.heap.size, 2, none⟩ = some (.slice pn a.next.length cn) := by rw [hbox, World.cell?_alloc_at _ _ _ _ rfl]; rfl
  have HB1 := Lib.hid (HB0.out.trans (hb1.mono HB0.out.size))
  clear hbox hb1
  have HA2 := Lib.hid (HA.out.keep (w' := w1) (S' := fun _ => True) fun b hb _ => ⟨HB1.out.block b (hS b hb), trivial⟩)
  have HL2 := Lib.hid (HL.out.keep (w' := w1) (S' := fun _ => True) fun b hb _ => ⟨HB1.out.block b (hS' b hb), trivial⟩)
  by_cases h0 : autoFault a = 0
  · have G := Lib.hid (good_of h0)
    have HE := Lib.hid (show runErr a l = longFault (letters a) l by simp [runErr, h0])
    rw [h0, errV_zero]
    generalize hnn : (manyOf a.base a.tracks).toNat = n at *
    clear hnn h0
    have hm0 := G.out.m0
    have hm80 := G.out.m80
    have hn36 := G.out.n36
    have HLt := Lib.hid G.out.letters
    by_cases h4 : 400 < l.length
    · have R := Lib.hid (show runErr a l = 3 ∧ runOf a l = 0 by
        have : runErr a l = 3 := by rw [HE.out]; simp [longFault, h4]
        exact ⟨this, by simp [runOf, this]⟩)
      have h4' : (400 : Int) < l.length := by omega
      clear h4
      go_wp2
      go_ret2
      exact Ret.mk (by rw [R.out.1, R.out.2]; rfl) HB1.out
    · have h4' : ¬ (400 : Int) < l.length := by omega
      have h400 : l.length ≤ 400 := by omega
      have HLF := Lib.hid (show runErr a l = if l.all (fun x => decide (0 ≤ x ∧ x < (n : Int))) then 0 else 1 by rw [HE.out, HLt.out]; simp [longFault, h4])
      clear h4
      -- the first row
      have hrow0 : ∃ b off x p c, pn = some ⟨b, off, none⟩ ∧ w1.cell? ⟨b, off, none⟩ = some (.slice p n c) ∧ x = Value.slice p n c := by
        obtain ⟨vn, ve, hv, hnx, _⟩ := HA2.out
        cases hv
        obtain ⟨b, off, x, hp, _, hc, hx⟩ := hnx.at 0 (by omega)
        obtain ⟨p, c, rfl⟩ := hx.form
        have hl0 : a.next[0].length = n := G.out.rows.row _ (List.getElem_mem (by omega))
        rw [hl0] at hc
        exact ⟨b, off, _, p, c, hp, by simpa using hc, rfl⟩
      obtain ⟨b0, off0, _, p0, c0, hpn, hc0, _⟩ := hrow0
      subst hpn
      go_wp2_with fail
      go_loop [23] (fun i => ∃ k : Nat, k ≤ l.length ∧ i = .int .i64 k ∧ Hid (∀ i (hi : i < l.length), i < k → 0 ≤ l[i] ∧ l[i] < (n : Int))) (fun i => l.length - (intOf i).toNat)
      case atStart => exact ⟨0, by omega, rfl, fun i hi h => by omega⟩
      case round =>
        obtain ⟨k, hk, rfl, HQ⟩ := hrel
        by_cases hlt : k < l.length
        · obtain ⟨b, off, x, hp, hS1, hc, hx, hi⟩ := HL2.out.at k hlt
          subst hp hx
          clear hS1
          have hbad : ¬ (0 ≤ l[k] ∧ l[k] < (n : Int)) → runErr a l = 1 ∧ runOf a l = 0 := fun hx => by
            have : runErr a l = 1 := by
              rw [HLF.out, if_neg]
              intro hall
              exact hx (by simpa using List.all_eq_true.1 hall _ (List.getElem_mem hlt))
            exact ⟨this, by simp [runOf, this]⟩
          have Hbad := Lib.hid hbad
          clear hbad
          by_cases d1 : l[k] < 0
          · have R := Lib.hid (Hbad.out (by omega))
            go_wp2
            go_ret2
            exact Ret.mk (by rw [R.out.1, R.out.2]; rfl) HB1.out
          · by_cases d2 : (n : Int) ≤ l[k]
            · have R := Lib.hid (Hbad.out (by omega))
              go_wp2
              go_ret2
              exact Ret.mk (by rw [R.out.1, R.out.2]; rfl) HB1.out
            · have HG := Lib.hid (show 0 ≤ l[k] ∧ l[k] < (n : Int) by omega)
              go_wp2
              go_round
              case rel =>
                refine ⟨k + 1, by omega, by go_num, fun i hi h => ?_⟩
                by_cases e : i < k
                · exact HQ.out i hi e
                · obtain rfl : i = k := by omega
                  exact HG.out
              case measure => (simp [intOf] <;> omega)
        · have HAll := Lib.hid (show ∀ i (hi : i < l.length), 0 ≤ l[i] ∧ l[i] < (n : Int) from fun i hi => HQ.out i hi (by omega))
          have R := Lib.hid (show runErr a l = 0 ∧ runOf a l = runFrom a.next 0 l by
            have : runErr a l = 0 := by
              rw [HLF.out, if_pos]
              rw [List.all_eq_true]
              intro x hx
              obtain ⟨i, hi, rfl⟩ := List.mem_iff_getElem.1 hx
              simpa using HAll.out i hi
            exact ⟨this, by simp [runOf, this]⟩)
          go_wp2_with fail
          go_loop [9, 42] (fun st i => ∃ (k s : Nat), k ≤ l.length ∧ i = .int .i64 k ∧ st = .int .i64 s ∧ s < a.next.length ∧ Hid (runFrom a.next 0 (l.take k) = s)) (fun _ i => l.length - (intOf i).toNat)
          case atStart => exact ⟨0, 0, by omega, rfl, rfl, hm0, by simp [Hid, runFrom]⟩
          case round =>
            obtain ⟨k, s, hk, rfl, rfl, hs, HR⟩ := hrel
            by_cases hlt : k < l.length
            · obtain ⟨b, off, x, hp, hS1, hc, hx, hi⟩ := HL2.out.at k hlt
              subst hp hx
              obtain ⟨q, hq⟩ := Int.eq_ofNat_of_zero_le (HAll.out k hlt).1
              have hqn : q < n := by have := (HAll.out k hlt).2; omega
              rw [hq] at hc
              obtain ⟨g1, g2, g3, g4, g5⟩ := nextOf_at G.out.rows (s := s) (q := q) hs hqn
              obtain ⟨z, hz⟩ := Int.eq_ofNat_of_zero_le g4
              rw [hz] at g3 g5
              have hrow : ∃ bb oo p c, Value.slice (some ⟨b0, off0, none⟩) a.next.length cn = .slice (some ⟨bb, oo, none⟩) a.next.length cn ∧ w1.cell? ⟨bb, oo + s, none⟩ = some (.slice p n c) ∧ ∃ b2 o2, p = some ⟨b2, o2, none⟩ ∧ w1.cell? ⟨b2, o2 + q, none⟩ = some (.int .i64 z) := by
                obtain ⟨vn, ve, hv, hnx, _⟩ := HA2.out
                cases hv
                obtain ⟨bb, oo, x, hp, _, hc, hx⟩ := hnx.at s g1
                obtain ⟨p2, c2, rfl⟩ := hx.form
                obtain ⟨b3, o3, y3, hp3, _, hc3, hy3, _⟩ := hx.at q g2
                subst hp3 hy3
                have hl0 : a.next[s].length = n := G.out.rows.row _ (List.getElem_mem g1)
                rw [hl0] at hc
                rw [hz] at hc3
                exact ⟨bb, oo, _, _, by rw [hp], hc, b3, o3, rfl, hc3⟩
              obtain ⟨bb, oo, p, c, hpe, hcs, b2, o2, rfl, hcq⟩ := hrow
              obtain ⟨rfl, rfl⟩ : b0 = bb ∧ off0 = oo := by simpa using hpe
              have Hz := Lib.hid (show runFrom a.next 0 (l.take (k + 1)) = z by
                rw [List.take_succ_eq_append_getElem hlt, runFrom_snoc, HR.out, hq, g3])
              have Hq := Lib.hid hq
              have hzm : z < a.next.length := by omega
              have hsi : (s : Int) < a.next.length := by omega
              have hqi : (q : Int) < n := by omega
              clear hq hz g3 g4 g5 hpe hS1 hi g1 g2
              go_wp2
              go_round
              case rel => exact ⟨k + 1, z, by omega, by go_num, rfl, hzm, Hz.out⟩
              case measure => (simp [intOf] <;> omega)
            · have e : l.take k = l := List.take_of_length_le (by omega)
              have HF := Lib.hid (show runOf a l = s by rw [R.out.2, ← HR.out, e])
              clear e
              go_wp2
              go_ret2
              exact Ret.mk (by rw [R.out.1, HF.out]; rfl) HB1.out
  · have R := Lib.hid (show runErr a l = autoFault a ∧ runOf a l = 0 by
      have : runErr a l = autoFault a := by simp [runErr, h0]
      exact ⟨this, by simp [runOf, this, h0]⟩)
    have E := Lib.hid (errV_ne 27 h0)
    rw [E.out]
    clear h0
    go_wp2
    go_ret2
    exact Ret.mk (by rw [R.out.1, R.out.2, E.out]; rfl) HB1.out
end Go.Proofs.YtgglhdbhemcijaaDoor
namespace Go.Proofs.YtgglhdbhemcijaaDoor
open Go.RowKit

theorem takes_no {a : GAuto} {l : List Int} (h : ¬ runErr a l = 0) : takesOf a l = false := by simp [takesOf, h]
theorem takes_yes {a : GAuto} {l : List Int} (h : runErr a l = 0) : ∃ (s : Nat) (hs : s < a.ends.length), runOf a l = s ∧ takesOf a l = a.ends[s] := by
  have hz := runErr_zero h
  have g := good_of hz.1
  have hl := g.letters
  rw [hl] at hz
  have hr := runFrom_ok g.rows l 0 ⟨by omega, by have := g.m0; omega⟩ hz.2.2
  obtain ⟨s, hs⟩ := Int.eq_ofNat_of_zero_le hr.1
  have he : s < a.ends.length := by have := g.ends; omega
  refine ⟨s, he, ?_, ?_⟩
  · simp [runOf, h, hs]
  · unfold takesOf endOf
    rw [h, hs, Int.toNat_natCast, getD_lt he]
    simp

set_option maxHeartbeats 2000000 in
set_option maxRecDepth 100000 in
theorem Takes_calls (S S' : Nat → Prop) (v : Value) (a : GAuto) (vl : Value) (l : List Int) (w : World) (hS : ∀ b, S b → b < w.heap.size) (hS' : ∀ b, S' b → b < w.heap.size) (ha : IsAuto S w v a) (hl : Ints S' w vl l) :
    Calls Tryd.prog 42 #[v, vl] w (Ret (.tuple #[.bool (takesOf a l), errV 27 (runErr a l)]) w) := by
  have HA := Lib.hid ha
  have HL := Lib.hid hl
  obtain ⟨vn, ve, rfl, hn, he⟩ := ha
  obtain ⟨pn, cn, rfl⟩ := hn.form
  obtain ⟨pe, ce, rfl⟩ := he.form
  obtain ⟨pl, cl, rfl⟩ := hl.form
  have hb0 : Below w.heap.size w (w.alloc (.cells #[.int .i64 a.base, .int .i64 a.tracks, .slice pn a.next.length cn, .slice pe a.ends.length ce] 60)) := (Below.refl w.heap.size w).alloc (Nat.le_refl _) _
  have HB0 := Lib.hid hb0
  have HA1 := Lib.hid (HA.out.below hb0 (S' := (· < w.heap.size + 1)) (fun b hb _ => by have := hS b hb; omega))
  have HL1 := Lib.hid (HL.out.below hb0 (S' := (· < w.heap.size + 1)) (fun b hb _ => by have := hS' b hb; omega))
  clear hn he hl hb0
  go_enter Tryd.func42, Tryd.ntmps42
  go_wp2_with fail
  refine (Run_calls _ _ _ a _ l _ (fun b hb => by simpa using hb) (fun b hb => by simpa using hb) HA1.out HL1.out).mono ?_
  rintro e w1 ⟨rfl, hb1⟩
  have hbox : ∀ j, w1.cell? ⟨w.heap.size, j, none⟩ = (w.alloc (.cells #[.int .i64 a.base, .int .i64 a.tracks, .slice pn a.next.length cn, .slice pe a.ends.length ce] 60)).cell? ⟨w.heap.size, j, none⟩ :=
    fun j => hb1.cell (p := ⟨w.heap.size, j, none⟩) (by simp)
  have hbox3 : w1.cell? ⟨w.heap.size, 3, none⟩ = some (.slice pe a.ends.length ce) := by rw [hbox, World.cell?_alloc_at _ _ _ _ rfl]; rfl
  have HB1 := Lib.hid (HB0.out.trans (hb1.mono HB0.out.size))
  clear hbox hb1
  have HA2 := Lib.hid (HA.out.keep (w' := w1) (S' := fun _ => True) fun b hb _ => ⟨HB1.out.block b (hS b hb), trivial⟩)
  by_cases h0 : runErr a l = 0
  · obtain ⟨s, hs, h1, h2⟩ := takes_yes h0
    obtain ⟨b, off, x, hp, hc, hx⟩ : ∃ b off x, pe = some ⟨b, off, none⟩ ∧ w1.cell? ⟨b, off + s, none⟩ = some x ∧ x = .bool a.ends[s] := by
      obtain ⟨vn, ve, hv, _, hee⟩ := HA2.out
      cases hv
      obtain ⟨b, off, x, hp, _, hc, hx⟩ := hee.at s hs
      exact ⟨b, off, x, hp, hc, hx⟩
    subst hp hx
    obtain ⟨z, hz⟩ : ∃ z, z = a.ends[s] := ⟨_, rfl⟩
    rw [← hz] at hc h2
    rw [h0, errV_zero, h1]
    have H2 := Lib.hid h2
    have H0 := Lib.hid h0
    clear h0 h1 h2 hz
    have hs' : (s : Int) < a.ends.length := by omega
    go_wp2
    go_ret2
    exact Ret.mk (by rw [H2.out, H0.out]; rfl) HB1.out
  · have R := Lib.hid (takes_no h0)
    have E := Lib.hid (errV_ne 27 h0)
    rw [E.out]
    clear h0
    go_wp2
    go_ret2
    exact Ret.mk (by rw [R.out, E.out]; rfl) HB1.out
end Go.Proofs.YtgglhdbhemcijaaDoor
namespace Go.Proofs.YtgglhdbhemcijaaDoor
open Go.RowKit

theorem unpackErr_many {base t l : Int} (h : manyErr base t ≠ 0) : unpackErr base t l = manyErr base t ∧ unpackOf base t l = [] := by
  have : unpackErr base t l = manyErr base t := by simp [unpackErr, h]
  exact ⟨this, by simp [unpackOf, this, h]⟩
theorem unpackErr_letter {base t l : Int} (h : manyErr base t = 0) (hl : l < 0 ∨ manyOf base t ≤ l) : unpackErr base t l = 1 ∧ unpackOf base t l = [] := by
  have : unpackErr base t l = 1 := by simp [unpackErr, h, hl]
  exact ⟨this, by simp [unpackOf, this]⟩
theorem unpackErr_ok {base t l : Int} (h : manyErr base t = 0) (hl : ¬ (l < 0 ∨ manyOf base t ≤ l)) : unpackErr base t l = 0 ∧ unpackOf base t l = unpack (radix base) t.toNat l := by
  have : unpackErr base t l = 0 := by simp only [unpackErr, h, if_neg hl]; simp
  exact ⟨this, by simp [unpackOf, this]⟩

set_option maxHeartbeats 1000000 in
set_option maxRecDepth 100000 in
theorem Unpack_calls (base t l : Int) (w : World) :
    Calls Tryd.prog 25 #[.int .i64 base, .int .i64 t, .int .i64 l] w
      (RetQ (fun v w' => ∃ x, v = .tuple #[x, errV 27 (unpackErr base t l)] ∧ Ints (w.heap.size ≤ ·) w' x (unpackOf base t l)) w) := by
  by_cases h0 : manyErr base t = 0
  · have E0 := Lib.hid (show errV 27 (manyErr base t) = .nilIface by rw [h0]; rfl)
    by_cases hl : l < 0 ∨ manyOf base t ≤ l
    · have R := Lib.hid (unpackErr_letter h0 hl)
      by_cases hl0 : l < 0
      · clear hl h0
        go_enter Tryd.func25, Tryd.ntmps25
        go_wp2_with (go_at_call 23; refine (Many_calls _ _ _).mono ?_; rintro e w' ⟨rfl, rfl⟩; rw [E0.out])
        go_ret2
        exact RetQ.mk ⟨_, by rw [R.out.1]; rfl, by rw [R.out.2]; exact Sl.nil _ _ _⟩ (Below.refl _ _)
      · have hl1 : manyOf base t ≤ l := by omega
        clear hl h0
        go_enter Tryd.func25, Tryd.ntmps25
        go_wp2_with (go_at_call 23; refine (Many_calls _ _ _).mono ?_; rintro e w' ⟨rfl, rfl⟩; rw [E0.out])
        go_ret2
        exact RetQ.mk ⟨_, by rw [R.out.1]; rfl, by rw [R.out.2]; exact Sl.nil _ _ _⟩ (Below.refl _ _)
    · have R := Lib.hid (unpackErr_ok h0 hl)
      have hl0 : ¬ l < 0 := by omega
      have hl1 : ¬ manyOf base t ≤ l := by omega
      obtain ⟨h1, ht0, h5, hp36, hmo⟩ := many_ok h0
      obtain ⟨r2, r6⟩ := radix_two h1
      obtain ⟨t, rfl⟩ := Int.eq_ofNat_of_zero_le ht0
      simp only [Int.toNat_natCast] at R hp36 hmo
      have hl36 : l ≤ 36 := by omega
      have ht5 : t ≤ 5 := by omega
      clear hl h0 h1 hp36 hmo
      generalize hk : radix base = k at *
      have Hk := Lib.hid hk; clear hk
      obtain ⟨i0, hi, hz0, hz1, hz2⟩ := info_parts infoInt
      go_enter Tryd.func25, Tryd.ntmps25
      go_wp2_with fail
      refine (Many_calls _ _ _).mono ?_; rintro e w' ⟨rfl, rfl⟩; rw [E0.out]
      go_wp2_with fail
      refine (Radix_calls _ _).mono ?_; rintro e w' ⟨rfl, rfl⟩; rw [Hk.out]
      go_wp2_with (at_make; go_loud (refine wpList_make_full w rfl _ _ 22 rfl w.heap.size 3 i0 (.int .i64 0) 1 Tryd.underlying22 hi hz0 hz1 .i64 .i64 _ _ t rfl rfl rfl rfl ?c1 ?c2 (Nat.le_refl _) ?_))
      case c1 => rw [hz2]; omega
      case c2 => simp only [maxLen]; omega
      intro w1 hown hgrow
      have HB := Lib.hid ((Below.refl w.heap.size w).grown hgrow (Nat.le_refl _) (by simp)); clear hgrow
      have hown' : w1.ownsRow w.heap.size 3 1 (.slice (some ⟨w.heap.size, 0, none⟩) t t) t ((List.replicate t 0 ++ ([] : List Int)).map (Value.int .i64)) := by
        have e : (madeCells (Value.int .i64 0).cells (t * 1)).toList = (List.replicate t 0 ++ ([] : List Int)).map (Value.int .i64) := by
          show (madeCells #[Value.int .i64 0] (t * 1)).toList = _
          rw [toList_madeCells_one]; simp
        rw [← e, Nat.mul_one]; exact hown
      clear hown
      have Hown := Lib.hid hown'; clear hown'
      go_wp2_with fail
      go_loopw [2, 35] (fun m i wr => ∃ (j : Nat) (q : Int) (u : List Int), j ≤ t ∧ i = .int .i64 j ∧ m = .int .i64 q ∧ 0 ≤ q ∧ q ≤ 36 ∧ u.length = j ∧ Hid (unpack k t l = unpack k (t - j) q ++ u) ∧
        Hid (wr.ownsRow w.heap.size 3 1 (.slice (some ⟨w.heap.size, 0, none⟩) t t) t ((List.replicate (t - j) 0 ++ u).map (Value.int .i64))) ∧ Hid (Below w.heap.size w wr)) (fun _ i _ => t - (intOf i).toNat)
      case atStart => exact ⟨0, l, [], by omega, rfl, rfl, by omega, hl36, rfl, by simp [Hid], Hown.out, HB.out⟩
      case round =>
        obtain ⟨j, q, u, hj, rfl, rfl, q0, q36, hu, HU, HO, HB'⟩ := hrel
        have Hu := Lib.hid hu; clear hu
        by_cases hlt : j < t
        · have q1 : 0 ≤ q % k := Int.emod_nonneg _ (by omega)
          have q2 : q % k < k := Int.emod_lt_of_pos _ (by omega)
          have q3 : 0 ≤ q / k := Int.ediv_nonneg q0 (by omega)
          have q4 : q / k ≤ q := Int.ediv_le_self _ q0
          obtain ⟨r, hr⟩ : ∃ r : Nat, (t : Int) - 1 - j = r := ⟨t - 1 - j, by omega⟩
          have hr' : t - j = r + 1 := by omega
          have HO' := Lib.hid (show wr.ownsRow w.heap.size 3 1 (.slice (some ⟨w.heap.size, 0, none⟩) t t) t ((List.replicate (r + 1) 0 ++ u).map (Value.int .i64)) by rw [← hr']; exact HO.out)
          have hcell : wr.cell? ⟨w.heap.size, r, none⟩ = some (.int .i64 0) := by
            rw [HO'.out.cellAt r (by omega)]
            simp [List.replicate_succ']
          have hfr : wr.frozen? ⟨w.heap.size, r, none⟩ = false := HO'.out.frozenAt r
          have r0 : (r : Int) < t := by omega
          have Hr := Lib.hid hr'; clear hr' HO
          go_wp2
          go_roundw
          case rel =>
            refine ⟨j + 1, q / k, (q % k) :: u, by omega, by go_num, rfl, by omega, by omega, by have := Hu.out; simp; omega, ?_, ?_, ?_⟩
            · have e : t - (j + 1) = r := by have := Hr.out; omega
              show unpack k t l = unpack k (t - (j + 1)) (q / k) ++ q % k :: u
              rw [HU.out, e, Hr.out, unpack, List.append_assoc]; rfl
            · have e : t - (j + 1) = r := by have := Hr.out; omega
              have := (HO'.out.stored r (.int .i64 (q % k))).1
              have e2 : ((List.replicate (r + 1) 0 ++ u).map (Value.int .i64)).set r (.int .i64 (q % k)) = (List.replicate (t - (j + 1)) 0 ++ (q % k) :: u).map (Value.int .i64) := by
                rw [e, List.replicate_succ', List.append_assoc, List.map_append, List.map_append, List.set_append_right (h := by simp)]
                simp
              rw [e2] at this
              exact this
            · exact HB'.out.setCell (Nat.le_refl _) _
          case measure => (simp [intOf] <;> omega)
        · obtain rfl : j = t := by omega
          have Hfin := Lib.hid (show unpackOf base j l = u by rw [R.out.2, HU.out]; simp [unpack])
          have HO' := Lib.hid (show wr.ownsRow w.heap.size 3 1 (.slice (some ⟨w.heap.size, 0, none⟩) j j) j (u.map (Value.int .i64)) by simpa using HO.out)
          clear HO
          go_wp2
          go_ret2
          refine RetQ.mk ⟨_, by rw [R.out.1]; rfl, ?_⟩ HB'.out
          rw [Hfin.out]
          refine Ints.of_own HO'.out Hu.out fun x hx => ?_
          have hx' : x ∈ unpack k j l := by rw [HU.out]; simp [hx]
          have := unpack_ok r2 _ _ x hx'
          exact ⟨by omega, by omega⟩
  · have R := Lib.hid (unpackErr_many (l := l) h0)
    have E := Lib.hid (errV_ne 27 h0)
    clear h0
    go_enter Tryd.func25, Tryd.ntmps25
    go_wp2_with (go_at_call 23; refine (Many_calls _ _ _).mono ?_; rintro e w' ⟨rfl, rfl⟩; rw [E.out])
    go_ret2
    exact RetQ.mk ⟨_, by rw [R.out.1, E.out]; rfl, by rw [R.out.2]; exact Sl.nil _ _ _⟩ (Below.refl _ _)
end Go.Proofs.YtgglhdbhemcijaaDoor
namespace Go.Proofs.YtgglhdbhemcijaaDoor
open Go.RowKit

set_option maxHeartbeats 400000 in
theorem RRadix_calls (base : Int) (w : World) :
    Calls Tryd.prog 27 #[.int .i64 base] w (RetS (.int .i64 (radix base)) w) := by
  by_cases h1 : base = 1
  · subst h1
    go_enter Tryd.func27, Tryd.ntmps27
    go_wp2
    go_ret
    exact RetS.mk rfl
  · have hr := Lib.hid (show radix base = if 2 ≤ base ∧ base ≤ 6 then base else 0 by simp [radix, h1])
    have h1' : (base == 1) = false := by simp [h1]
    clear h1
    by_cases h2 : 2 ≤ base
    · by_cases h3 : base ≤ 6
      · have hr' := Lib.hid (show radix base = base by rw [hr.out, if_pos ⟨h2, h3⟩])
        go_enter Tryd.func27, Tryd.ntmps27
        go_wp2
        go_ret
        exact RetS.mk (by rw [hr'.out]; rfl)
      · have hr' := Lib.hid (show radix base = 0 by rw [hr.out, if_neg (by omega)])
        go_enter Tryd.func27, Tryd.ntmps27
        go_wp2
        go_ret
        exact RetS.mk (by rw [hr'.out]; rfl)
    · have hr' := Lib.hid (show radix base = 0 by rw [hr.out, if_neg (by omega)])
      go_enter Tryd.func27, Tryd.ntmps27
      go_wp2
      go_ret
      exact RetS.mk (by rw [hr'.out]; rfl)

set_option maxHeartbeats 400000 in
theorem RFault_calls (S : Nat → Prop) (base : Int) (v : Value) (d : List Int) (w : World) (hd : Ints S w v d) :
    Calls Tryd.prog 17 #[.int .i64 base, v] w (RetS (.int .i64 (digitsFault base d)) w) := by
  obtain ⟨a, cap, rfl, hlen, hcell⟩ := hd
  by_cases h0 : radix base = 0
  · have e0 : (radix base == 0) = true := by simp [h0]
    have hfin := Lib.hid (show digitsFault base d = 1 by simp [digitsFault, h0])
    clear h0
    go_enter Tryd.func17, Tryd.ntmps17
    go_wp2_with (go_at_call 27; refine (RRadix_calls _ _).mono ?_; rintro e w' ⟨rfl, rfl⟩)
    go_ret
    exact RetS.mk (by rw [hfin.out]; rfl)
  · have e0 : (radix base == 0) = false := by simp [h0]
    by_cases h1 : 60 < d.length
    · have hfin := Lib.hid (show digitsFault base d = 3 by simp [digitsFault, h0, h1])
      clear h0
      have h1' : (60:Int) < d.length := by omega
      clear h1
      go_enter Tryd.func17, Tryd.ntmps17
      go_wp2_with (go_at_call 27; refine (RRadix_calls _ _).mono ?_; rintro e w' ⟨rfl, rfl⟩)
      go_ret
      exact RetS.mk (by rw [hfin.out]; rfl)
    · have hfin := Lib.hid (show digitsFault base d = if d.all (fun x => decide (0 ≤ x ∧ x < radix base)) then 0 else 1 by simp [digitsFault, h0, h1])
      clear h0
      have h1' : ¬ (60:Int) < d.length := by omega
      clear h1
      go_enter Tryd.func17, Tryd.ntmps17
      go_wp2_with (go_at_call 27; refine (RRadix_calls _ _).mono ?_; rintro e w' ⟨rfl, rfl⟩)
      go_loop [6] (fun i => ∃ k : Nat, k ≤ d.length ∧ i = .int .i64 k ∧ Hid (∀ j (h : j < k) (h' : j < d.length), 0 ≤ d[j] ∧ d[j] < radix base)) (fun i => d.length - (intOf i).toNat)
      case atStart => exact ⟨0, by omega, rfl, fun j h => by omega⟩
      case round =>
        obtain ⟨k, hk, rfl, Hall⟩ := hrel
        by_cases hlt : k < d.length
        · obtain ⟨b, off, x, ha, hS, hc, hx, hi⟩ := hcell k hlt
          subst ha hx
          by_cases c1 : 0 ≤ d[k]
          · by_cases c2 : d[k] < radix base
            · go_wp2
              go_round
              case rel => exact ⟨k + 1, by omega, by go_num, fun j h h' => by
                by_cases e : j < k
                · exact Hall.out j e h'
                · obtain rfl : j = k := by omega
                  exact ⟨c1, c2⟩⟩
              case measure => (simp [intOf] <;> omega)
            · have hne := Lib.hid (show (if d.all (fun x => decide (0 ≤ x ∧ x < radix base)) then 0 else 1 : Int) = 1 by
                rw [if_neg]; intro h; rw [List.all_eq_true] at h; have := h d[k] (List.getElem_mem _); simp at this; omega)
              go_wp2
              go_ret
              exact RetS.mk (by rw [hfin.out, hne.out]; rfl)
          · have hne := Lib.hid (show (if d.all (fun x => decide (0 ≤ x ∧ x < radix base)) then 0 else 1 : Int) = 1 by
              rw [if_neg]; intro h; rw [List.all_eq_true] at h; have := h d[k] (List.getElem_mem _); simp at this; omega)
            go_wp2
            go_ret
            exact RetS.mk (by rw [hfin.out, hne.out]; rfl)
        · have hne := Lib.hid (show (if d.all (fun x => decide (0 ≤ x ∧ x < radix base)) then 0 else 1 : Int) = 0 by
            rw [if_pos]; rw [List.all_eq_true]; intro x hx; obtain ⟨j, hj, rfl⟩ := List.mem_iff_getElem.1 hx; have := Hall.out j (by omega) hj; simp; omega)
          go_wp2
          go_ret
          exact RetS.mk (by rw [hfin.out, hne.out]; rfl)

set_option maxHeartbeats 800000 in
theorem RRight_calls (S : Nat → Prop) (base : Int) (v : Value) (d : List Int) (w : World) (hd : Ints S w v d) :
    Calls Tryd.prog 19 #[.int .i64 base, v] w (RetS (.bool (rightOf base d)) w) := by
  obtain ⟨a, cap, rfl, hlen, hcell⟩ := hd
  by_cases hb : base = 1
  · have e1 : (base == 1) = true := by simp [hb]
    have Hb := Lib.hid hb
    clear hb
    go_enter Tryd.func19, Tryd.ntmps19
    go_wp2_with fail
    go_loop [5] (fun i => ∃ k : Nat, i = .int .i64 (k + 1) ∧ (k < d.length ∨ k = 0) ∧ Hid (∀ j, j < k → ¬ (d[j]? = some (1 : Int) ∧ d[j + 1]? = some (1 : Int)))) (fun i => d.length - (intOf i).toNat)
    case atStart => exact ⟨0, rfl, by omega, fun j h => by omega⟩
    case round =>
      obtain ⟨k, rfl, hk, Hall⟩ := hrel
      by_cases hlt : k + 1 < d.length
      · obtain ⟨b, off, x, ha, hS, hc, hx, hi⟩ := hcell k (by omega)
        obtain ⟨b', off', x', ha', hS', hc', hx', hi'⟩ := hcell (k + 1) hlt
        subst ha hx hx'
        obtain ⟨rfl, rfl⟩ : b = b' ∧ off = off' := by simpa using ha'
        have c1 : (k : Int) + 1 < d.length := by omega
        have step : ¬ (d[k] = 1 ∧ d[k + 1] = 1) → ∀ j, j < k + 1 → ¬ (d[j]? = some (1 : Int) ∧ d[j + 1]? = some (1 : Int)) := fun hn j hj => by
          by_cases e : j < k
          · exact Hall.out j e
          · obtain rfl : j = k := by omega
            simpa [List.getElem?_eq_getElem hlt, List.getElem?_eq_getElem (show j < d.length by omega)] using hn
        have Step := Lib.hid step; clear step
        by_cases e3 : d[k + 1] = 1
        · by_cases e2 : d[k] = 1
          · have hno := Lib.hid (show rightOf base d = false by
              unfold rightOf
              rw [Hb.out]
              cases h : noTwo d
              · rfl
              · exact absurd ((noTwo_iff d).1 h k) (by simp [List.getElem?_eq_getElem hlt, List.getElem?_eq_getElem (show k < d.length by omega), e2, e3]))
            have e2' : (d[k] == 1) = true := by simp [e2]
            have e3' : (d[k + 1] == 1) = true := by simp [e3]
            clear e2 e3
            go_wp2
            go_ret
            exact RetS.mk (by rw [hno.out]; rfl)
          · have hs := Lib.hid (Step.out (fun h => e2 h.1))
            have e2' : (d[k] == 1) = false := by simp [e2]
            have e3' : (d[k + 1] == 1) = true := by simp [e3]
            clear e2 e3
            go_wp2
            go_round
            case rel => exact ⟨k + 1, by go_num, by omega, hs.out⟩
            case measure => (simp [intOf] <;> omega)
        · have hs := Lib.hid (Step.out (fun h => e3 h.2))
          have e3' : (d[k + 1] == 1) = false := by simp [e3]
          clear e3
          go_wp2
          go_round
          case rel => exact ⟨k + 1, by go_num, by omega, hs.out⟩
          case measure => (simp [intOf] <;> omega)
      · have c1 : ¬ (k : Int) + 1 < d.length := by omega
        have hyes := Lib.hid (show rightOf base d = true by
          unfold rightOf; rw [Hb.out]; simp only [Bool.or_eq_true]; right
          rw [noTwo_iff]; intro j
          by_cases e : j < k
          · exact Hall.out j e
          · rintro ⟨_, h⟩; have := (List.getElem?_eq_some_iff.1 h).1; omega)
        go_wp2
        go_ret
        exact RetS.mk (by rw [hyes.out]; rfl)
  · have e1 : (base == 1) = false := by simp [hb]
    have hyes := Lib.hid (show rightOf base d = true by simp [rightOf, hb])
    clear hb
    go_enter Tryd.func19, Tryd.ntmps19
    go_wp2_with fail
    go_loop [5] (fun i => ∃ k : Nat, i = .int .i64 (k + 1) ∧ k ≤ d.length) (fun i => d.length + 2 - (intOf i).toNat)
    case atStart => exact ⟨0, rfl, by omega⟩
    case round =>
      obtain ⟨k, rfl, hk⟩ := hrel
      by_cases hlt : (k : Int) + 1 < d.length
      · go_wp2
        go_round
        case rel => exact ⟨k + 1, by go_num, by omega⟩
        case measure => (simp [intOf] <;> omega)
      · go_wp2
        go_ret
        exact RetS.mk (by rw [hyes.out]; rfl)

theorem range_snoc_map (b : Int) (m : Nat) : (List.range (m + 1)).map (W b) = (List.range m).map (W b) ++ [W b m] := by
  rw [List.range_succ, List.map_append]; rfl

set_option maxHeartbeats 1000000 in
set_option maxRecDepth 100000 in
theorem Weights_calls (base : Int) (w : World) (hr : radix base ≠ 0) :
    Calls Tryd.prog 67 #[.int .i64 base] w (RetQ (fun v w' => ∃ ws, Ints (w.heap.size ≤ ·) w' v ws ∧ Weights base ws) w) := by
  have HW := Lib.hid (W_pos hr)
  have HS := Lib.hid (show ∀ m, W base m ≤ 1099511627776 → m ≤ 57 from fun m hm => by
    rcases Nat.lt_or_ge m 58 with c | c
    · omega
    · have := W_big hr c; omega)
  have H6 := Lib.hid (W_six hr)
  have hrp := radix_pos hr
  have hb0 : 1 ≤ base := by omega
  have hb6 : base ≤ 6 := by omega
  have Hrp := Lib.hid hrp
  clear hr hrp
  go_enter Tryd.func67, Tryd.ntmps67
  go_wp2_with fail
  go_loopw [3] (fun out wr => ∃ (m : Nat), Hid (∀ i, i < m → W base i ≤ 1099511627776) ∧ Hid (wr.ownsRow w.heap.size 3 1 out (m + 1) (((List.range (m + 1)).map (W base)).map (Value.int .i64))) ∧ Hid (Below w.heap.size w wr)) (fun out _ => match out with | .slice _ n _ => 64 - n | _ => 0)
  case atStart =>
    refine ⟨0, fun i h => by omega, ?_, (Below.refl _ _).alloc (Nat.le_refl _) _⟩
    have := World.ownsRow_lit (base := w.heap.size) (e := 3) (size := 1) w #[Value.int .i64 1] 1 (Nat.le_refl _) (by decide) rfl
    have e : W base 0 = 1 := by unfold W; split <;> rfl
    simpa [Hid, e, List.range_succ] using this
  case round =>
    obtain ⟨m, HM, HO, HB⟩ := hrel
    obtain ⟨g, cap, rfl, hg, hgl⟩ := own_some HO.out (by omega)
    have hcell : wr.cell? ⟨g, m, none⟩ = some (.int .i64 (W base m)) := by
      rw [HO.out.cellAt m (by omega)]; simp
    have hm58 : m ≤ 58 := by
      rcases Nat.eq_zero_or_pos m with h | h
      · omega
      · have := HS.out (m - 1) (HM.out (m - 1) (by omega)); omega
    have hwp := HW.out m
    by_cases hbig : W base m ≤ 1099511627776
    · have hm57 := HS.out m hbig
      have fin : ∀ (v' : Value) (w' : World), w'.ownsRow w.heap.size 3 1 v' (m + 1 + 1) (((List.range (m + 1)).map (W base)).map (Value.int .i64) ++ [.int .i64 (W base (m + 1))]) → wr.grownBy w' (some g) →
          Hid (∀ i, i < m + 1 → W base i ≤ 1099511627776) ∧ Hid (w'.ownsRow w.heap.size 3 1 v' (m + 1 + 1) (((List.range (m + 1 + 1)).map (W base)).map (Value.int .i64))) ∧ Hid (Below w.heap.size w w') := fun v' w' h1 h2 => by
        refine ⟨fun i hi => ?_, ?_, HB.out.grown h2 HB.out.size (fun k hk => by cases hk; exact hg)⟩
        · by_cases e : i = m
          · subst e; exact hbig
          · exact HM.out i (by omega)
        · rw [range_snoc_map base (m + 1)]
          simpa [Hid] using h1
      have Fin := Lib.hid fin; clear fin
      have hown := HO.out
      generalize hXS : ((List.range (m + 1)).map (W base)).map (Value.int .i64) = XS at hown
      have HXS := Lib.hid hXS; clear hXS
      by_cases hb : base = 1
      · have e1 : (base == 1) = true := by simp [hb]
        have hmul : W base m * base = W base m := by rw [hb]; omega
        by_cases hm0 : m = 0
        · subst hm0
          have hw1 : W base 1 = 2 := by rw [hb]; rfl
          have Hw1 := Lib.hid hw1
          have hm1 : 0 ≤ W base 0 * base := by omega
          have hm2 : W base 0 * base ≤ 6597069766656 := by omega
          clear hb hmul hw1
          go_wp2_with (at_builtin; go_loud (refine appInt rfl _ _ rfl w.heap.size _ _ _ rfl hown _ rfl rfl ?c1 HB.out.size ?_))
          case c1 => omega
          intro v' w' hown' hgrow _
          have Hf := Lib.hid (Fin.out v' w' (by rw [HXS.out, Hw1.out]; exact hown') hgrow)
          obtain ⟨pv, cv, rfl⟩ := own_form hown'
          clear hown' hgrow hown
          go_wp2_with fail
          go_roundw
          case rel => exact ⟨1, Hf.out⟩
          case measure => (simp <;> omega)
        · obtain ⟨q, rfl⟩ : ∃ q, m = q + 1 := ⟨m - 1, by omega⟩
          have hw1 : W base (q + 1 + 1) = W base (q + 1) + W base q := by rw [hb]; simp [W, fibW]
          have Hw1 := Lib.hid hw1
          have hcell2 : wr.cell? ⟨g, q, none⟩ = some (.int .i64 (W base q)) := by
            rw [HO.out.cellAt q (by omega), List.getElem?_map, List.getElem?_map, List.getElem?_range (by omega)]; rfl
          have hwq := HW.out q
          have hwq2 := HM.out q (by omega)
          have hm1 : 0 ≤ W base (q + 1) * base := by omega
          have hm2 : W base (q + 1) * base ≤ 6597069766656 := by omega
          clear hb hmul hw1
          go_wp2_with fail
          go_quiet (fail)
          go_wp2_with (at_builtin; go_loud (refine appInt rfl _ _ rfl w.heap.size _ _ _ rfl hown _ rfl rfl ?c1 HB.out.size ?_))
          case c1 => omega
          intro v' w' hown' hgrow _
          have Hf := Lib.hid (Fin.out v' w' (by rw [HXS.out, Hw1.out]; exact hown') ⟨hgrow.os, hgrow.tape, hgrow.output, hgrow.size, hgrow.block⟩)
          obtain ⟨pv, cv, rfl⟩ := own_form hown'
          clear hown' hgrow hown
          go_wp2_with fail
          go_roundw
          case rel => exact ⟨q + 1 + 1, Hf.out⟩
          case measure => (simp <;> omega)
      · have e1 : (base == 1) = false := by simp [hb]
        have Hw1 := Lib.hid (W_succ_base hb m)
        have hm1 : 0 ≤ W base m * base := Int.mul_nonneg (by omega) (by omega)
        have hm2 : W base m * base ≤ 6597069766656 := by
          have := Int.mul_le_mul hbig hb6 (by omega) (by omega)
          omega
        clear hb
        go_wp2_with (at_builtin; go_loud (refine appInt rfl _ _ rfl w.heap.size _ _ _ rfl hown _ rfl rfl ?c1 HB.out.size ?_))
        case c1 => omega
        intro v' w' hown' hgrow _
        have Hf := Lib.hid (Fin.out v' w' (by rw [HXS.out, Hw1.out]; exact hown') hgrow)
        obtain ⟨pv, cv, rfl⟩ := own_form hown'
        clear hown' hgrow hown
        go_wp2_with fail
        go_roundw
        case rel => exact ⟨m + 1, Hf.out⟩
        case measure => (simp <;> omega)
    · have HWe := Lib.hid (show Weights base ((List.range (m + 1)).map (W base)) from ⟨by simp, by simp, by simp; omega, fun i hi => HM.out i (by simpa using hi), by simp; omega⟩)
      go_wp2_with fail
      go_ret
      refine RetQ.mk ⟨_, Ints.of_own HO.out (by simp) ?_, HWe.out⟩ HB.out
      intro x hx
      obtain ⟨i, hi, rfl⟩ := List.mem_map.1 hx
      have hi' : i < m + 1 := by simpa using hi
      have h1 := HW.out i
      refine ⟨by omega, ?_⟩
      by_cases e : i < m
      · have := HM.out i e; omega
      · obtain rfl : i = m := by omega
        rcases Nat.eq_zero_or_pos i with h0 | h0
        · have : W base i = 1 := by rw [h0]; unfold W; split <;> rfl
          omega
        · have h2 := HM.out (i - 1) (by omega)
          have h3 := H6.out (i - 1)
          rw [show i - 1 + 1 = i by omega] at h3
          omega
end Go.Proofs.YtgglhdbhemcijaaDoor
namespace Go.Proofs.YtgglhdbhemcijaaDoor
open Go.RowKit

set_option maxHeartbeats 1000000 in
theorem RLetters_calls (base t : Int) (w : World) :
    Calls Tryd.prog 24 #[.int .i64 base, .int .i64 t] w (RetS (.tuple #[.int .i64 (manyOf base t), .int .i64 (manyErr base t)]) w) := by
  by_cases hbad : radix base = 0 ∨ t < 0 ∨ 5 < t
  · have H := Lib.hid (show manyErr base t = 1 ∧ manyOf base t = 0 by simp [manyErr, manyOf, hbad])
    by_cases h1 : radix base = 0
    · have e0 : (radix base == 0) = true := by simp [h1]
      clear hbad h1
      go_enter Tryd.func24, Tryd.ntmps24
      go_wp2_with (go_at_call 27; refine (RRadix_calls _ _).mono ?_; rintro e w' ⟨rfl, rfl⟩)
      go_ret2
      exact RetS.mk (by rw [H.out.1, H.out.2]; rfl)
    · have e0 : (radix base == 0) = false := by simp [h1]
      by_cases h2 : t < 0
      · clear hbad h1
        go_enter Tryd.func24, Tryd.ntmps24
        go_wp2_with (go_at_call 27; refine (RRadix_calls _ _).mono ?_; rintro e w' ⟨rfl, rfl⟩)
        go_ret2
        exact RetS.mk (by rw [H.out.1, H.out.2]; rfl)
      · have h3 : 5 < t := by omega
        clear hbad h1
        go_enter Tryd.func24, Tryd.ntmps24
        go_wp2_with (go_at_call 27; refine (RRadix_calls _ _).mono ?_; rintro e w' ⟨rfl, rfl⟩)
        go_ret2
        exact RetS.mk (by rw [H.out.1, H.out.2]; rfl)
  · have H := Lib.hid (show manyErr base t = if 36 < powW (radix base) t.toNat then 3 else 0 by simp only [manyErr, if_neg hbad])
    obtain ⟨t, rfl⟩ := Int.eq_ofNat_of_zero_le (show 0 ≤ t by omega)
    simp only [Int.toNat_natCast] at H
    have h1 : radix base ≠ 0 := by omega
    have e0 : (radix base == 0) = false := by simp [h1]
    have h2 : ¬ ((t : Int) < 0) := by omega
    have h3 : ¬ (5 < (t : Int)) := by omega
    have ht5 : t ≤ 5 := by omega
    obtain ⟨r2, r6⟩ := radix_two h1
    have HP := Lib.hid (show ∀ j, j ≤ 5 → 1 ≤ powW (radix base) j ∧ powW (radix base) j ≤ 7776 from fun j hj => powW_bd r2 r6 hj)
    have HM := Lib.hid (show manyErr base t = 0 → manyOf base t = powW (radix base) t by intro h; simp [manyOf, h])
    have HM0 := Lib.hid (show manyErr base t ≠ 0 → manyOf base t = 0 by intro h; simp [manyOf, h])
    clear hbad h1
    generalize hk : radix base = k at *
    have Hk := Lib.hid hk; clear hk
    go_enter Tryd.func24, Tryd.ntmps24
    go_wp2_with (go_at_call 27; refine (RRadix_calls _ _).mono ?_; rintro e w' ⟨rfl, rfl⟩; rw [Hk.out])
    go_loop [7, 8] (fun n i => ∃ j : Nat, j ≤ t ∧ i = .int .i64 j ∧ n = .int .i64 (powW k j)) (fun _ i => t - (intOf i).toNat)
    case atStart => exact ⟨0, by omega, rfl, rfl⟩
    case round =>
      obtain ⟨j, hj, rfl, rfl⟩ := hrel
      by_cases hlt : j < t
      · have p1 := (HP.out j (by omega)).1
        have p2 := (HP.out j (by omega)).2
        have p3 : 0 ≤ powW k j * k := Int.mul_nonneg (by omega) (by omega)
        have p4 : powW k j * k ≤ 46656 := by
          have := Int.mul_le_mul p2 r6 (by omega) (by omega)
          omega
        go_wp2
        go_round
        case rel => exact ⟨j + 1, by omega, by go_num, rfl⟩
        case measure => (simp [intOf] <;> omega)
      · obtain rfl : j = t := by omega
        by_cases hbig : 36 < powW k j
        · have R := Lib.hid (show manyErr base j = 3 ∧ manyOf base j = 0 by
            have : manyErr base j = 3 := by rw [H.out, if_pos hbig]
            exact ⟨this, HM0.out (by omega)⟩)
          go_wp2
          go_ret2
          exact RetS.mk (by rw [R.out.1, R.out.2]; rfl)
        · have R := Lib.hid (show manyErr base j = 0 ∧ manyOf base j = powW k j by
            have : manyErr base j = 0 := by rw [H.out, if_neg hbig]
            exact ⟨this, HM.out this⟩)
          go_wp2
          go_ret2
          exact RetS.mk (by rw [R.out.1, R.out.2]; rfl)

theorem unpack_last (k : Int) (t : Nat) (l : Int) : (unpack k (t + 1) l).getD t 0 = l % k := by
  rw [unpack, List.getD_eq_getElem?_getD, List.getElem?_append_right (by rw [unpack_length]; exact Nat.le_refl _), unpack_length]
  simp
theorem unpack_pre (k : Int) (t : Nat) (l : Int) (i : Nat) (h : i < t) : (unpack k (t + 1) l).getD i 0 = (unpack k t (l / k)).getD i 0 := by
  rw [unpack, List.getD_eq_getElem?_getD, List.getElem?_append_left (by rw [unpack_length]; exact h), ← List.getD_eq_getElem?_getD]

set_option maxHeartbeats 1000000 in
theorem RDigitOf_calls (base : Int) (t : Nat) (l : Int) (i : Nat) (w : World) (hr : radix base ≠ 0) (ht : t ≤ 5) (hl0 : 0 ≤ l) (hl1 : l ≤ 7776) (hi : i < t) :
    Calls Tryd.prog 26 #[.int .i64 base, .int .i64 t, .int .i64 l, .int .i64 i] w (RetS (.int .i64 (digitAt (radix base) t l i)) w) := by
  obtain ⟨r2, r6⟩ := radix_two hr
  have Hr := Lib.hid hr; clear hr
  generalize hk : radix base = k at *
  have Hk := Lib.hid hk; clear hk
  go_enter Tryd.func26, Tryd.ntmps26
  go_wp2_with (go_at_call 27; refine (RRadix_calls _ _).mono ?_; rintro e w' ⟨rfl, rfl⟩; rw [Hk.out])
  go_loop [2, 10] (fun q j => ∃ (m : Nat) (z : Int), i < m ∧ m ≤ t ∧ j = .int .i64 ((m : Int) - 1) ∧ q = .int .i64 z ∧ 0 ≤ z ∧ z ≤ 7776 ∧ Hid (digitAt k t l i = digitAt k m z i)) (fun _ j => (intOf j).toNat)
  case atStart => exact ⟨t, l, hi, Nat.le_refl _, rfl, rfl, hl0, hl1, rfl⟩
  case round =>
    obtain ⟨m, z, him, hmt, rfl, rfl, hz0, hz1, HZ⟩ := hrel
    by_cases hgt : i + 1 < m
    · obtain ⟨m, rfl⟩ : ∃ m', m = m' + 1 := ⟨m - 1, by omega⟩
      have q0 : 0 ≤ z / k := Int.ediv_nonneg hz0 (by omega)
      have q1 : z / k ≤ z := Int.ediv_le_self _ hz0
      have hlt : (i : Int) < ((m + 1 : Nat) : Int) - 1 := by omega
      go_wp2
      go_round
      case rel => exact ⟨m, z / k, by omega, by omega, by go_num, rfl, q0, by omega, by show _ = _; rw [HZ.out]; exact unpack_pre k m z i (by omega)⟩
      case measure => (simp [intOf] <;> omega)
    · obtain rfl : m = i + 1 := by omega
      have hlt : ¬ (i : Int) < ((i + 1 : Nat) : Int) - 1 := by omega
      have HF := Lib.hid (show digitAt k t l i = z % k by rw [HZ.out]; exact unpack_last k i z)
      go_wp2
      go_ret
      exact RetS.mk (by rw [HF.out]; rfl)

set_option maxHeartbeats 1000000 in
theorem RPackOf_calls (S : Nat → Prop) (base : Int) (v : Value) (d : List Int) (w : World) (hr : radix base ≠ 0) (hl : d.length ≤ 5) (hok : okDigits base d) (hS : ∀ b, S b → b < w.heap.size) (hd : Ints S w v d) :
    Calls Tryd.prog 28 #[.int .i64 base, v] w (Ret (.int .i64 (pack (radix base) d)) w) := by
  obtain ⟨r2, r6⟩ := radix_two hr
  have Hok := Lib.hid hok; clear hok hr
  obtain ⟨a, cap, rfl, hlen, hcell⟩ := hd
  have HP := Lib.hid (show ∀ j, j ≤ 5 → powW (radix base) j ≤ 7776 from fun j hj => (powW_bd r2 r6 hj).2)
  have HB := Lib.hid (show ∀ j, 0 ≤ pack (radix base) (d.take j) ∧ pack (radix base) (d.take j) < powW (radix base) (d.take j).length from fun j => pack_bd r2 _ (fun x hx => Hok.out x (List.mem_of_mem_take hx)))
  have Hx := Lib.hid (show ∀ j (hj : j < d.length), 0 ≤ d[j] ∧ d[j] < radix base from fun j hj => Hok.out _ (List.getElem_mem hj))
  have Hc := Lib.hid (RRadix_calls base)
  generalize hk : radix base = k at *
  have Hk := Lib.hid hk; clear hk
  go_enter Tryd.func28, Tryd.ntmps28
  go_wp2_with fail
  go_loopw [5, 6] (fun l i wr => ∃ j : Nat, j ≤ d.length ∧ i = .int .i64 j ∧ l = .int .i64 (pack k (d.take j)) ∧ Hid (Below w.heap.size w wr)) (fun _ i _ => d.length - (intOf i).toNat)
  case atStart => exact ⟨0, by omega, rfl, rfl, Below.refl _ _⟩
  case round =>
    obtain ⟨j, hj, rfl, rfl, HBe⟩ := hrel
    by_cases hlt : j < d.length
    · obtain ⟨b, off, x, ha, hSb, hc, hx, hi⟩ := hcell j hlt
      subst ha hx
      have hc' := (HBe.out.cell (p := ⟨b, off + j, none⟩) (hS b hSb)).trans hc
      have p0 := (HB.out j).1
      have p1 : pack k (d.take j) ≤ 7776 := by
        have h1 := (HB.out j).2
        have h2 := HP.out (d.take j).length (by simp; omega)
        omega
      have x0 := (Hx.out j hlt).1
      have x1 := (Hx.out j hlt).2
      have Hs := Lib.hid (show pack k (d.take (j + 1)) = pack k (d.take j) * k + d[j] by rw [List.take_succ_eq_append_getElem hlt, pack_snoc])
      generalize pack k (d.take j) = p at *
      have m0 : 0 ≤ p * k := Int.mul_nonneg p0 (by omega)
      have m1 : p * k ≤ 46656 := by
        have := Int.mul_le_mul p1 r6 (by omega) (by omega)
        omega
      go_wp2
      go_quiet ((go_at_call 27; exact quietS (Hc.out _)))
      go_wp2
      go_roundw
      case rel => exact ⟨j + 1, by omega, by go_num, by rw [Hs.out], below_drewN HBe.out _⟩
      case measure => (simp [intOf] <;> omega)
    · have e : d.take j = d := List.take_of_length_le (by omega)
      rw [e]
      clear e
      go_wp2
      go_ret
      exact Ret.mk rfl HBe.out
end Go.Proofs.YtgglhdbhemcijaaDoor
namespace Go.Proofs.YtgglhdbhemcijaaDoor
open Go.RowKit

set_option maxHeartbeats 2000000 in
set_option maxRecDepth 100000 in
theorem RAFault_calls (S : Nat → Prop) (v : Value) (a : GAuto) (w : World) (hS : ∀ b, S b → b < w.heap.size) (ha : IsAuto S w v a) :
    Calls Tryd.prog 37 #[v] w (Ret (.int .i64 (autoFault a)) w) := by
  obtain ⟨vn, ve, rfl, hn, he⟩ := ha
  obtain ⟨pn, cn, rfl⟩ := hn.form
  obtain ⟨pe, ce, rfl⟩ := he.form
  obtain ⟨W0, hW0⟩ : ∃ W0, w.alloc (.cells #[.int .i64 a.base, .int .i64 a.tracks, .slice pn a.next.length cn, .slice pe a.ends.length ce] 60) = W0 := ⟨_, rfl⟩
  have HB := Lib.hid (show Below w.heap.size w W0 by rw [← hW0]; exact (Below.refl w.heap.size w).alloc (Nat.le_refl _) (.cells #[.int .i64 a.base, .int .i64 a.tracks, .slice pn a.next.length cn, .slice pe a.ends.length ce] 60))
  have hbox2 : W0.cell? ⟨w.heap.size, 2, none⟩ = some (.slice pn a.next.length cn) := by rw [← hW0, World.cell?_alloc_at _ _ _ _ rfl]; rfl
  have Hbox := Lib.hid hbox2
  have Hsz := Lib.hid (show W0.heap.size = w.heap.size + 1 by rw [← hW0]; simp)
  have Hn := Lib.hid (hn.below (S' := (· < w.heap.size + 1)) HB.out (fun b hb _ => by have := hS b hb; omega))
  clear hn he hbox2
  have HW := Lib.hid hW0
  clear hW0
  by_cases h0 : manyErr a.base a.tracks = 0
  · have E0 := Lib.hid h0
    by_cases h1 : a.next.length = 0
    · have R := Lib.hid (show autoFault a = 4 by simp [autoFault, h0, h1])
      have e1 : ((a.next.length : Int) == 0) = true := beq_iff_eq.2 (by omega)
      clear h0 h1
      go_enter Tryd.func37, Tryd.ntmps37
      go_wp2_with (go_at_call 24; refine (RLetters_calls _ _ _).mono ?_; rintro e w' ⟨rfl, rfl⟩; rw [E0.out])
      go_ret
      exact Ret.mk (by rw [R.out]; rfl) (by rw [HW.out]; exact HB.out)
    · have e1 : ((a.next.length : Int) == 0) = false := beq_eq_false_iff_ne.2 (by omega)
      by_cases h2 : 80 < a.next.length
      · have R := Lib.hid (show autoFault a = 3 by simp only [autoFault, h0, if_neg h1, if_pos h2]; simp)
        have e2 : (80 : Int) < a.next.length := by omega
        clear h0 h1 h2
        go_enter Tryd.func37, Tryd.ntmps37
        go_wp2_with (go_at_call 24; refine (RLetters_calls _ _ _).mono ?_; rintro e w' ⟨rfl, rfl⟩; rw [E0.out])
        go_ret
        exact Ret.mk (by rw [R.out]; rfl) (by rw [HW.out]; exact HB.out)
      · have e2 : ¬ (80 : Int) < a.next.length := by omega
        have h80 : a.next.length ≤ 80 := by omega
        by_cases h3 : a.ends.length ≠ a.next.length
        · have R := Lib.hid (show autoFault a = 2 by simp only [autoFault, h0, if_neg h1, if_neg h2, if_pos h3]; simp)
          have e3 : ((a.ends.length : Int) != (a.next.length : Int)) = true := by rw [bne_iff_ne]; omega
          clear h0 h1 h2 h3
          go_enter Tryd.func37, Tryd.ntmps37
          go_wp2_with (go_at_call 24; refine (RLetters_calls _ _ _).mono ?_; rintro e w' ⟨rfl, rfl⟩; rw [E0.out])
          go_ret
          exact Ret.mk (by rw [R.out]; rfl) (by rw [HW.out]; exact HB.out)
        · have R := Lib.hid (show autoFault a = rowsFault (manyOf a.base a.tracks) a.next.length a.next by simp only [autoFault, h0, if_neg h1, if_neg h2, if_neg h3]; simp)
          have e3 : ((a.ends.length : Int) != (a.next.length : Int)) = false := by simp at h3; simp [h3]
          have h36 : manyOf a.base a.tracks ≤ 36 := by have := many_ok h0; omega
          clear h0 h1 h2 h3
          generalize hmo : manyOf a.base a.tracks = n at *
          have Hmo := Lib.hid hmo; clear hmo
          go_enter Tryd.func37, Tryd.ntmps37
          go_wp2_with (go_at_call 24; refine (RLetters_calls _ _ _).mono ?_; rintro e w' ⟨rfl, rfl⟩; rw [E0.out, Hmo.out])
          rw [HW.out]
          go_loopw [5] (fun i wr => ∃ k : Nat, k ≤ a.next.length ∧ i = .int .i64 k ∧ Hid (∀ i (hi : i < a.next.length), i < k → (a.next[i].length : Int) = n ∧ ∀ s ∈ a.next[i], 0 ≤ s ∧ s < (a.next.length : Int)) ∧ Hid (Below (w.heap.size + 1) W0 wr)) (fun i _ => a.next.length - (intOf i).toNat)
          case atStart => exact ⟨0, by omega, rfl, fun i hi h => by omega, Below.refl _ _⟩
          case round =>
            obtain ⟨k, hk, rfl, HA, HBr⟩ := hrel
            have hbox := (HBr.out.cell (p := ⟨w.heap.size, 2, none⟩) (by simp)).trans Hbox.out
            by_cases hlt : k < a.next.length
            · obtain ⟨b, off, x, hp, hSb, hc0, hx⟩ := Hn.out.at k hlt
              obtain ⟨px, cx, rfl⟩ := hx.form
              subst hp
              have hc := (HBr.out.cell (p := ⟨b, off + k, none⟩) hSb).trans hc0
              have Hx := Lib.hid hx
              have Hc0 := Lib.hid hc0
              have HSb := Lib.hid hSb
              clear hx hSb hc0
              have Hat := Lib.hid (rowsFault_at hlt HA.out)
              have hki : (k : Int) < a.next.length := by omega
              by_cases c : (a.next[k].length : Int) = n
              · have c' : ((a.next[k].length : Int) != n) = false := by simp [c]
                have Hc := Lib.hid c
                have hc36 : a.next[k].length ≤ 36 := by omega
                clear c
                go_wp2_with fail
                clear hbox hc
                go_loopw [6] (fun i wr => ∃ q : Nat, q ≤ a.next[k].length ∧ i = .int .i64 q ∧ Hid (∀ i (hi : i < a.next[k].length), i < q → 0 ≤ a.next[k][i] ∧ a.next[k][i] < (a.next.length : Int)) ∧ Hid (Below (w.heap.size + 1) W0 wr)) (fun i _ => a.next[k].length - (intOf i).toNat)
                case atStart => exact ⟨0, by omega, rfl, fun i hi h => by omega, HBr.out⟩
                case round =>
                  obtain ⟨q, hq, rfl, HQ, HBq⟩ := hrel
                  have hbox := (HBq.out.cell (p := ⟨w.heap.size, 2, none⟩) (by simp)).trans Hbox.out
                  have hc := (HBq.out.cell (p := ⟨b, off + k, none⟩) HSb.out).trans Hc0.out
                  by_cases hqt : q < a.next[k].length
                  · obtain ⟨b2, off2, y, hp2, hS2, hc02, hy, hi2⟩ := Hx.out.at q hqt
                    subst hp2 hy
                    have hc2 := (HBq.out.cell (p := ⟨b2, off2 + q, none⟩) hS2).trans hc02
                    have hqn : (q : Int) < n := by have := Hc.out; omega
                    have hql : (q : Int) < a.next[k].length := by omega
                    clear hS2 hc02
                    by_cases d1 : a.next[k][q] < 0
                    · have R2 := Lib.hid (Hat.out.2 Hc.out ⟨_, List.getElem_mem hqt, by omega⟩)
                      have d1' : decide (a.next[k][q] < 0) = true := by simpa using d1
                      go_wp2
                      go_quiet (fail)
                      go_wp2
                      go_ret
                      exact Ret.mk (by rw [R.out, R2.out]; rfl) (HB.out.trans ((below_drewN HBq.out _).mono (by omega)))
                    · have d1' : decide (a.next[k][q] < 0) = false := by simpa using d1
                      by_cases d2 : (a.next.length : Int) ≤ a.next[k][q]
                      · have R2 := Lib.hid (Hat.out.2 Hc.out ⟨_, List.getElem_mem hqt, by omega⟩)
                        have d2' : decide ((a.next.length : Int) ≤ a.next[k][q]) = true := by simpa using d2
                        go_wp2
                        go_quiet (fail)
                        go_wp2
                        go_ret
                        exact Ret.mk (by rw [R.out, R2.out]; rfl) (HB.out.trans ((below_drewN HBq.out _).mono (by omega)))
                      · have HG := Lib.hid (show 0 ≤ a.next[k][q] ∧ a.next[k][q] < (a.next.length : Int) by omega)
                        have d2' : decide ((a.next.length : Int) ≤ a.next[k][q]) = false := by simpa using d2
                        go_wp2
                        go_quiet (fail)
                        go_wp2
                        go_roundw
                        case rel =>
                          refine ⟨q + 1, by omega, by go_num, fun i hi h => ?_, below_drewN HBq.out _⟩
                          by_cases e : i < q
                          · exact HQ.out i hi e
                          · obtain rfl : i = q := by omega
                            exact HG.out
                        case measure => (simp [intOf] <;> omega)
                  · have HK := Lib.hid (show ∀ s ∈ a.next[k], 0 ≤ s ∧ s < (a.next.length : Int) from fun s hs => by
                      obtain ⟨i, hi, rfl⟩ := List.mem_iff_getElem.1 hs
                      exact HQ.out i hi (by omega))
                    have hqn : ¬ (q : Int) < n := by have := Hc.out; omega
                    go_wp2
                    go_roundw
                    case rel =>
                      refine ⟨k + 1, by omega, by go_num, fun i hi h => ?_, HBq.out⟩
                      by_cases e : i < k
                      · exact HA.out i hi e
                      · obtain rfl : i = k := by omega
                        exact ⟨Hc.out, HK.out⟩
                    case measure => (simp [intOf] <;> omega)
              · have c' : ((a.next[k].length : Int) != n) = true := by simpa using c
                have R2 := Lib.hid (Hat.out.1 c)
                clear c
                go_wp2
                go_ret
                exact Ret.mk (by rw [R.out, R2.out]; rfl) (HB.out.trans (HBr.out.mono (by omega)))
            · have R2 := Lib.hid (show rowsFault n a.next.length a.next = 0 by
                rw [rowsFault_zero]
                intro r hr
                obtain ⟨i, hi, rfl⟩ := List.mem_iff_getElem.1 hr
                exact HA.out i hi (by omega))
              go_wp2
              go_ret
              exact Ret.mk (by rw [R.out, R2.out]; rfl) (HB.out.trans (HBr.out.mono (by omega)))
  · have R := Lib.hid (show autoFault a = manyErr a.base a.tracks by simp [autoFault, h0])
    have e0 : (manyErr a.base a.tracks != 0) = true := by simpa using h0
    clear h0
    go_enter Tryd.func37, Tryd.ntmps37
    go_wp2_with (go_at_call 24; refine (RLetters_calls _ _ _).mono ?_; rintro e w' ⟨rfl, rfl⟩)
    go_ret
    exact Ret.mk (by rw [R.out]; rfl) (by rw [HW.out]; exact HB.out)
end Go.Proofs.YtgglhdbhemcijaaDoor
