/- The walk of split: a word's tracks. No conditions but that the value reads as a list. -/
import Derived.Test.YtgglhdbhemcijaaDoorLetterB
namespace Go.Proofs.YtgglhdbhemcijaaDoor
open Go.RowKit

theorem splitErr_many {base t : Int} {l : List Int} (h : manyErr base t ≠ 0) : splitErr base t l = manyErr base t ∧ splitOf base t l = [] := by
  have : splitErr base t l = manyErr base t := by simp [splitErr, h]
  exact ⟨this, by simp [splitOf, this, h]⟩
theorem splitErr_long {base t : Int} {l : List Int} (h : manyErr base t = 0) (hl : 60 < l.length) : splitErr base t l = 3 ∧ splitOf base t l = [] := by
  have : splitErr base t l = 3 := by simp [splitErr, h, hl]
  exact ⟨this, by simp [splitOf, this]⟩
theorem splitErr_letter {base t : Int} {l : List Int} (h : manyErr base t = 0) (hl : ¬ 60 < l.length) {i : Nat} (hi : i < l.length) (hx : l[i] < 0 ∨ manyOf base t ≤ l[i]) : splitErr base t l = 1 ∧ splitOf base t l = [] := by
  have : splitErr base t l = 1 := by
    unfold splitErr
    rw [if_neg (by omega), if_neg hl, if_neg]
    intro hall
    have := List.all_eq_true.1 hall l[i] (List.getElem_mem _)
    simp at this
    omega
  exact ⟨this, by simp [splitOf, this]⟩
theorem splitErr_ok {base t : Int} {l : List Int} (h : manyErr base t = 0) (hl : ¬ 60 < l.length) (hx : ∀ i (hi : i < l.length), ¬ (l[i] < 0 ∨ manyOf base t ≤ l[i])) :
    splitErr base t l = 0 ∧ splitOf base t l = (List.range t.toNat).map (trackOf (radix base) t.toNat l) := by
  have : splitErr base t l = 0 := by
    unfold splitErr
    rw [if_neg (by omega), if_neg hl, if_pos]
    rw [List.all_eq_true]
    intro x hx'
    obtain ⟨i, hi, rfl⟩ := List.mem_iff_getElem.1 hx'
    have := hx i hi
    simp; omega
  exact ⟨this, by simp [splitOf, this]⟩
theorem trackOf_snoc (k : Int) (t : Nat) (l : List Int) (x : Int) (i : Nat) : trackOf k t (l ++ [x]) i = trackOf k t l i ++ [(unpack k t x).getD i 0] := by simp [trackOf]

/-- Rows under way: each is owned, no two share. -/
structure RowsOwn (w : World) (B : Nat) (xs : List Value) (L : Nat → List Int) : Prop where
  own : ∀ i (h : i < xs.length), w.ownsRow (B + 1) 3 1 xs[i] (L i).length ((L i).map (Value.int .i64))
  apart : ∀ i j (h1 : i < xs.length) (h2 : j < xs.length), i ≠ j → ∀ b, xs[i].ownBlock = some b → xs[j].ownBlock ≠ some b
theorem RowsOwn.congr {w : World} {B : Nat} {xs : List Value} {L L' : Nat → List Int} (h : RowsOwn w B xs L) (hL : ∀ i, i < xs.length → L i = L' i) : RowsOwn w B xs L' :=
  ⟨fun i hi => by rw [← hL i hi]; exact h.own i hi, h.apart⟩
theorem RowsOwn.keep {w w' : World} {B : Nat} {xs : List Value} {L : Nat → List Int} (h : RowsOwn w B xs L) (hb : ∀ k, B < k → k < w.heap.size → w'.heap[k]? = w.heap[k]?) : RowsOwn w' B xs L := by
  refine ⟨fun i hi => ?_, h.apart⟩
  have ho := h.own i hi
  refine ⟨ho.1, ?_⟩
  rcases ho.2 with hn | ⟨g, cap, cur, hv, hB, hg, rest⟩
  · exact .inl hn
  · exact .inr ⟨g, cap, cur, hv, hB, by rw [hb g (by omega) (block_lt hg)]; exact hg, rest⟩
theorem RowsOwn.append {w w' : World} {B : Nat} {xs : List Value} {L : Nat → List Int} (h : RowsOwn w B xs L) (q : Nat) (hq : q < xs.length) (v' : Value) (x : Int)
    (hown : w'.ownsRow (B + 1) 3 1 v' ((L q).length + 1) ((L q).map (Value.int .i64) ++ [.int .i64 x])) (hgrow : w.grownBy w' xs[q].ownBlock)
    (hwhere : v'.ownBlock = xs[q].ownBlock ∨ v'.ownBlock = some (w.heap.size + 1)) :
    RowsOwn w' B (xs.set q v') (fun i => if i = q then L q ++ [x] else L i) := by
  have hlt : ∀ i (hi : i < xs.length) b, xs[i].ownBlock = some b → b < w.heap.size := fun i hi b hb => ((h.own i hi).lt b hb).2
  refine ⟨fun i hi => ?_, fun i j h1 h2 hij b => ?_⟩
  · by_cases e : i = q
    · subst e
      rw [List.getElem_set_self, if_pos rfl]
      simpa using hown
    · rw [List.getElem_set_ne (Ne.symm e), if_neg e]
      have hi' : i < xs.length := by simpa using hi
      refine (h.own i hi').kept hgrow ?_
      cases hb : xs[i].ownBlock with
      | none => exact .inl rfl
      | some b => exact .inr fun e' => h.apart i q hi' hq e b hb e'.symm
  · have h1' : i < xs.length := by simpa using h1
    have h2' : j < xs.length := by simpa using h2
    by_cases ei : i = q
    · subst ei
      rw [List.getElem_set_self, List.getElem_set_ne hij]
      intro hb hb'
      rcases hwhere with hw | hw
      · exact h.apart i j h1' h2' hij b (hw ▸ hb) hb'
      · rw [hw] at hb
        have := hlt j h2' b hb'
        simp at hb; omega
    · rw [List.getElem_set_ne (Ne.symm ei)]
      by_cases ej : j = q
      · subst ej
        rw [List.getElem_set_self]
        intro hb hb'
        rcases hwhere with hw | hw
        · exact h.apart i j h1' h2' hij b hb (hw ▸ hb')
        · rw [hw] at hb'
          have := hlt i h1' b hb
          simp at hb'; omega
      · rw [List.getElem_set_ne (Ne.symm ej)]
        exact h.apart i j h1' h2' hij b
theorem RowsOwn.start (w : World) (B n : Nat) : RowsOwn w B (List.replicate n (.slice none 0 0)) (fun _ => []) :=
  ⟨fun i hi => by rw [List.getElem_replicate]; exact World.ownsRow_nil _ _ _ _, fun i j h1 h2 _ b hb => by rw [List.getElem_replicate] at hb; cases hb⟩
/-- No row under way lies in a block. -/
def Clear (xs : List Value) (B b : Nat) : Prop := b ≠ B ∧ ∀ i (h : i < xs.length), xs[i].ownBlock ≠ some b
end Go.Proofs.YtgglhdbhemcijaaDoor
