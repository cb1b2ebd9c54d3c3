/- Plain laws of automata: faults, where a word ends, which words are taken. No program in sight; no conditions. -/
import Derived.Test.YtgglhdbhemcijaaDoorPlainL
namespace Go.Proofs.YtgglhdbhemcijaaDoor

structure GAuto where
  base : Int
  tracks : Int
  next : List (List Int)
  ends : List Bool

def GAuto.zero : GAuto := ⟨0, 0, [], []⟩

def rowsFault (n m : Int) : List (List Int) → Int
  | [] => 0
  | r :: t => if (r.length : Int) ≠ n then 2 else if r.all (fun s => decide (0 ≤ s ∧ s < m)) then rowsFault n m t else 1
def autoFault (a : GAuto) : Int :=
  if manyErr a.base a.tracks ≠ 0 then manyErr a.base a.tracks else if a.next.length = 0 then 4 else if 80 < a.next.length then 3
  else if a.ends.length ≠ a.next.length then 2 else rowsFault (manyOf a.base a.tracks) a.next.length a.next

/-- Where one letter leads. -/
def nextOf (next : List (List Int)) (s l : Int) : Int := (next.getD s.toNat []).getD l.toNat 0
def runFrom (next : List (List Int)) (s : Int) (w : List Int) : Int := w.foldl (nextOf next) s
def endOf (ends : List Bool) (s : Int) : Bool := ends.getD s.toNat false
def letters (a : GAuto) : Int := (a.next.getD 0 []).length
def longFault (n : Int) (w : List Int) : Int := if 400 < w.length then 3 else if w.all (fun l => decide (0 ≤ l ∧ l < n)) then 0 else 1
def runErr (a : GAuto) (w : List Int) : Int := if autoFault a ≠ 0 then autoFault a else longFault (letters a) w
def runOf (a : GAuto) (w : List Int) : Int := if runErr a w = 0 then runFrom a.next 0 w else 0
def takesOf (a : GAuto) (w : List Int) : Bool := decide (runErr a w = 0) && endOf a.ends (runFrom a.next 0 w)

/-- Rows of nexts over m states and n letters. -/
structure Rows0 (n m : Nat) (next : List (List Int)) : Prop where
  len : next.length = m
  row : ∀ r ∈ next, r.length = n
  ok : ∀ r ∈ next, ∀ s ∈ r, 0 ≤ s ∧ s < m
structure Good (a : GAuto) (n m : Nat) : Prop where
  many : manyErr a.base a.tracks = 0
  n_eq : manyOf a.base a.tracks = n
  n0 : 0 < n
  n36 : n ≤ 36
  m0 : 0 < m
  m80 : m ≤ 80
  ends : a.ends.length = m
  rows : Rows0 n m a.next

theorem rowsFault_zero {n m : Int} : ∀ {l : List (List Int)}, rowsFault n m l = 0 ↔ ∀ r ∈ l, (r.length : Int) = n ∧ ∀ s ∈ r, 0 ≤ s ∧ s < m
  | [] => by simp [rowsFault]
  | r :: t => by
    unfold rowsFault
    have ih := rowsFault_zero (n := n) (m := m) (l := t)
    by_cases h1 : (r.length : Int) = n
    · rw [if_neg (by simpa using h1)]
      by_cases h2 : r.all (fun s => decide (0 ≤ s ∧ s < m)) = true
      · rw [if_pos h2, ih]
        have h2' : ∀ s ∈ r, 0 ≤ s ∧ s < m := fun s hs => by simpa using List.all_eq_true.1 h2 s hs
        constructor
        · intro h r' hr'
          rcases List.mem_cons.1 hr' with rfl | hr'
          · exact ⟨h1, h2'⟩
          · exact h r' hr'
        · intro h r' hr'
          exact h r' (List.mem_cons_of_mem _ hr')
      · rw [if_neg h2]
        simp only [Int.reduceEq, false_iff]
        intro h
        apply h2
        rw [List.all_eq_true]
        intro s hs
        simpa using (h r List.mem_cons_self).2 s hs
    · rw [if_pos (by simpa using h1)]
      simp only [Int.reduceEq, false_iff]
      intro h
      exact h1 (h r List.mem_cons_self).1
theorem rowsFault_cases (n m : Int) : ∀ l, rowsFault n m l = 0 ∨ rowsFault n m l = 1 ∨ rowsFault n m l = 2
  | [] => .inl rfl
  | r :: t => by unfold rowsFault; split <;> (try split) <;> first | simp | exact rowsFault_cases n m t

theorem good_of {a : GAuto} (h : autoFault a = 0) : Good a (manyOf a.base a.tracks).toNat a.next.length := by
  unfold autoFault at h
  split at h
  · omega
  · rename_i h1
    have h1 : manyErr a.base a.tracks = 0 := by omega
    obtain ⟨r0, t0, t5, p36, hm⟩ := many_ok h1
    have p1 := powW_pos (radix_two r0).1 a.tracks.toNat
    have hn : manyOf a.base a.tracks = ((manyOf a.base a.tracks).toNat : Int) := by omega
    split at h
    · omega
    · split at h
      · omega
      · split at h
        · omega
        · have := rowsFault_zero.1 h
          refine ⟨h1, hn, by omega, by omega, by omega, by omega, by omega, ⟨rfl, fun r hr => ?_, fun r hr => (this r hr).2⟩⟩
          have := (this r hr).1
          omega
theorem Good.fault {a : GAuto} {n m : Nat} (h : Good a n m) : autoFault a = 0 := by
  unfold autoFault
  have h1 := h.many
  have h2 := h.rows.len
  have h3 := h.m0
  have h4 := h.m80
  have h5 := h.ends
  rw [if_neg (by omega), if_neg (by omega), if_neg (by omega), if_neg (by omega)]
  refine rowsFault_zero.2 fun r hr => ⟨?_, fun s hs => ?_⟩
  · rw [h.rows.row r hr, h.n_eq]
  · have := h.rows.ok r hr s hs; omega

theorem nextOf_ok {n m : Nat} {next : List (List Int)} (h : Rows0 n m next) {s l : Int} (hs : 0 ≤ s ∧ s < m) (hl : 0 ≤ l ∧ l < n) : 0 ≤ nextOf next s l ∧ nextOf next s l < m := by
  have h1 : s.toNat < next.length := by have := h.len; omega
  have h2 : next[s.toNat] ∈ next := List.getElem_mem h1
  have h3 : l.toNat < next[s.toNat].length := by have := h.row _ h2; omega
  unfold nextOf
  rw [getD_lt h1, getD_lt h3]
  exact h.ok _ h2 _ (List.getElem_mem h3)
theorem runFrom_ok {n m : Nat} {next : List (List Int)} (h : Rows0 n m next) : ∀ (w : List Int) (s : Int), (0 ≤ s ∧ s < m) → (∀ l ∈ w, 0 ≤ l ∧ l < n) → 0 ≤ runFrom next s w ∧ runFrom next s w < m
  | [], _, hs, _ => hs
  | l :: w, s, hs, hw => by
    show 0 ≤ runFrom next (nextOf next s l) w ∧ _
    exact runFrom_ok h w _ (nextOf_ok h hs (hw l List.mem_cons_self)) (fun l' hl' => hw l' (List.mem_cons_of_mem _ hl'))
theorem runFrom_append (next : List (List Int)) (s : Int) (v w : List Int) : runFrom next s (v ++ w) = runFrom next (runFrom next s v) w := by simp [runFrom, List.foldl_append]
theorem Good.letters {a : GAuto} {n m : Nat} (h : Good a n m) : letters a = n := by
  have h1 : 0 < a.next.length := by have := h.rows.len; have := h.m0; omega
  unfold Go.Proofs.YtgglhdbhemcijaaDoor.letters
  rw [getD_lt h1, h.rows.row _ (List.getElem_mem h1)]
theorem longFault_zero {n : Int} {w : List Int} : longFault n w = 0 ↔ w.length ≤ 400 ∧ ∀ l ∈ w, 0 ≤ l ∧ l < n := by
  unfold longFault
  by_cases h1 : 400 < w.length
  · rw [if_pos h1]; simp; omega
  · rw [if_neg h1]
    by_cases h2 : w.all (fun l => decide (0 ≤ l ∧ l < n)) = true
    · rw [if_pos h2]
      simp only [true_iff]
      exact ⟨by omega, fun l hl => by simpa using List.all_eq_true.1 h2 l hl⟩
    · rw [if_neg h2]
      simp only [Int.reduceEq, false_iff, not_and]
      intro _ h
      apply h2
      rw [List.all_eq_true]
      intro l hl
      simpa using h l hl
theorem runErr_zero {a : GAuto} {w : List Int} (h : runErr a w = 0) : autoFault a = 0 ∧ w.length ≤ 400 ∧ ∀ l ∈ w, 0 ≤ l ∧ l < letters a := by
  unfold runErr at h
  split at h
  · omega
  · have := longFault_zero.1 h
    exact ⟨by omega, this.1, this.2⟩
theorem runErr_good {a : GAuto} {n m : Nat} (g : Good a n m) (w : List Int) : runErr a w = 0 ↔ w.length ≤ 400 ∧ ∀ l ∈ w, 0 ≤ l ∧ l < n := by
  unfold runErr
  rw [if_neg (by have := g.fault; omega), longFault_zero, g.letters]
theorem takes_good {a : GAuto} {n m : Nat} (g : Good a n m) {w : List Int} (h : w.length ≤ 400) (hw : ∀ l ∈ w, 0 ≤ l ∧ l < n) : takesOf a w = endOf a.ends (runFrom a.next 0 w) := by
  unfold takesOf
  rw [(runErr_good g w).2 ⟨h, hw⟩]; simp
end Go.Proofs.YtgglhdbhemcijaaDoor
