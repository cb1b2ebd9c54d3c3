/- From the reading of an argument to the predicates of these proofs: integers, slices, slices of slices, automata. No conditions. -/
import Derived.Test.YtgglhdbhemcijaaDoorBase
import Derived.Test.YtgglhdbhemcijaaDoorRows
import Derived.ProofKit
import Derived.OpenShut
import Derived.ShutString
import Derived.ChangeOld
import Derived.Deep.Slices
import Derived.Lib.SmallJoins
namespace Go.Proofs.YtgglhdbhemcijaaDoor
open Go.ChangeShapes Go.WideShapes Go.ChangeAt Go.RowKit Go.Joins Go.Deep

theorem own : ownKnob Tryd.prog.godebug = none := by kernel_rfl
theorem laidOut : laidOutB Tryd.prog = true := by kernel_rfl

section
variable {H : Type} {enc : TypeId × Value → H} {w : World} {sp : Nat → Bool} {held : Bool}

/-- One cell that reads as an element. -/
def Opens {α : Type} (enc : TypeId × Value → H) (w : World) (sp : Nat → Bool) (held : Bool) (T : TypeId) (E : World → Value → α → Prop) : Prop :=
  ∀ n v y, DataW.trod enc Tryd.prog w 0 sp held n T [v] = some y → ∃ a, E w v a

theorem i64_of_wf {n : Int} (h : (Lit.int .i64 n).wf = true) : I64 n := bounds_i64 h

theorem opens_int {T : TypeId} (ht : Tryd.prog.underlying T = some (.int .i64)) : Opens enc w sp held T isInt := by
  intro n v y h
  obtain ⟨z, hc, _, hw⟩ := DataW.trod_int ht h
  obtain rfl : v = .int .i64 z := by simpa using hc
  exact ⟨z, rfl, i64_of_wf hw⟩
theorem opens_bool {T : TypeId} (ht : Tryd.prog.underlying T = some .bool) : Opens enc w sp held T isBool := by
  intro n v y h
  obtain ⟨z, hc, _⟩ := DataW.trod_bool ht h
  obtain rfl : v = .bool z := by simpa using hc
  exact ⟨z, rfl⟩
theorem opens_slice {α : Type} {T e : TypeId} {E : World → Value → α → Prop} (ht : Tryd.prog.underlying T = some (.slice e)) (hc : Tryd.prog.cellsOf e = 1) (hE : Opens enc w sp held e E) :
    Opens enc w sp held T (Sl E (· < w.heap.size)) := by
  intro n v y h
  rcases open_slice1 ht hc h with ⟨hcs, _⟩ | ⟨a, len, cap, m, n', V, D, Pl, hcs, _, hl, hcap, hm, _, hx⟩
  · obtain rfl : v = .slice none 0 0 := by simpa using hcs
    exact ⟨[], Sl.nil _ _ _⟩
  · obtain rfl : v = .slice (some a) len cap := by simpa using hcs
    have hlm : len ≤ m := by rw [hm]; split <;> omega
    have hall : ∀ i, i < len → ∃ b, E w (V i) b := fun i hi => hE _ _ _ (hx i (by omega)).2
    have key : ∀ k, k ≤ len → ∃ l : List α, l.length = k ∧ ∀ i (hi : i < l.length), E w (V i) l[i] := by
      intro k
      induction k with
      | zero => intro _; exact ⟨[], rfl, fun i hi => absurd hi (by simp)⟩
      | succ k ih =>
        intro hk
        obtain ⟨l, hl1, hl2⟩ := ih (by omega)
        obtain ⟨b, hb⟩ := hall k (by omega)
        refine ⟨l ++ [b], by simp [hl1], fun i hi => ?_⟩
        rw [List.getElem_append]
        split
        · exact hl2 i ‹_›
        · obtain rfl : i = k := by simp at hi; omega
          simpa using hb
    obtain ⟨l, hl1, hl2⟩ := key len (Nat.le_refl _)
    refine ⟨l, some a, cap, by rw [hl1], by simp only [maxLen] at hcap; omega, fun i hi => ?_⟩
    obtain ⟨b, off, spot⟩ := a
    have hc0 := (hx i (by omega)).1
    have hc1 := (hx 0 (by omega)).1
    have hspot : spot = none := by simpa [Addr.add] using World.cell?_spot hc1
    subst hspot
    have hadd : (⟨b, off, none⟩ : Addr).add i = ⟨b, off + i, none⟩ := by unfold Addr.add; split <;> simp_all
    rw [hadd] at hc0
    exact ⟨b, off, V i, rfl, cell_lt hc0, hc0, hl2 i hi⟩
theorem Opens.trod {α : Type} {T : TypeId} {E : World → Value → α → Prop} (h : Opens enc w sp held T E) {v : Value} (hv : v.cells = #[v]) {d : DataW H} {p : List MemPlace} (hd : DataW.Trod enc Tryd.prog w 0 sp held T v d p) : ∃ a, E w v a := by
  obtain ⟨n, hn⟩ := hd
  rw [hv] at hn
  exact h n v _ hn
theorem opensInts : Opens enc w sp held 22 (Ints (· < w.heap.size)) := opens_slice Tryd.underlying22 (by kernel_rfl) (opens_int Tryd.underlying3)
end
end Go.Proofs.YtgglhdbhemcijaaDoor
