/- Plain laws, data behind worlds, and contracts of functions, for the last text. No conditions. -/
import Derived.WalkKit
import Derived.WalkSpells
import Derived.WalkLawsBesides
import Derived.Lib.Hide
import Derived.BigQuiet
import Derived.Deep.QuietTactic
import Derived.DeepKeys5
import Derived.Maps.Keyed
import Derived.Laws.BytesString
import Derived.Deep.LoopGhost
import Derived.Orders
set_option linter.unusedSimpArgs false
set_option linter.unusedVariables false
set_option linter.unnecessarySimpa false
set_option linter.unusedSectionVars false
namespace Go.Proofs.YtpgkpbfefnpagaaGreatDoor

def I64 (n : Int) : Prop := -9223372036854775808 ≤ n ∧ n ≤ 9223372036854775807
theorem getD_lt {α : Type} {l : List α} {i : Nat} {d : α} (h : i < l.length) : l.getD i d = l[i] := by simp [h]

def radix (b : Int) : Int := if b = 1 then 2 else if 2 ≤ b ∧ b ≤ 6 then b else 0
/-- What places count. -/
def fibW : Nat → Int
  | 0 => 1
  | 1 => 2
  | n + 2 => fibW (n + 1) + fibW n
def powW (k : Int) : Nat → Int
  | 0 => 1
  | n + 1 => powW k n * k
def W (base : Int) (n : Nat) : Int := if base = 1 then fibW n else powW base n

/-- What digits count. -/
def wv (base : Int) : List Int → Int
  | [] => 0
  | x :: t => x * W base t.length + wv base t

def noTwo : List Int → Bool
  | x :: y :: t => !(decide (x = 1) && decide (y = 1)) && noTwo (y :: t)
  | _ => true
def rightOf (base : Int) (d : List Int) : Bool := !(decide (base = 1)) || noTwo d

def okDigits (base : Int) (d : List Int) : Prop := ∀ x ∈ d, 0 ≤ x ∧ x < radix base

theorem radix_pos {b : Int} (h : radix b ≠ 0) : b = 1 ∧ radix b = 2 ∨ 2 ≤ b ∧ b ≤ 6 ∧ radix b = b := by
  unfold radix at *; split <;> (try split) <;> simp_all

theorem fibW_pos : ∀ n, 1 ≤ fibW n ∧ fibW n ≤ fibW (n + 1)
  | 0 => by decide
  | 1 => by decide
  | n + 2 => by
    have h1 := fibW_pos (n + 1); have h2 := fibW_pos n
    have e : fibW (n + 1 + 1) = fibW (n + 1) + fibW n := rfl
    show 1 ≤ fibW (n + 1) + fibW n ∧ fibW (n + 1) + fibW n ≤ fibW (n + 1 + 1) + fibW (n + 1)
    omega
theorem powW_pos {k : Int} (hk : 2 ≤ k) : ∀ n, 1 ≤ powW k n
  | 0 => by simp [powW]
  | n + 1 => by
    have h := powW_pos hk n
    show 1 ≤ powW k n * k
    have : powW k n * 2 ≤ powW k n * k := Int.mul_le_mul_of_nonneg_left hk (by omega)
    omega
theorem W_pos {b : Int} (h : radix b ≠ 0) (n : Nat) : 1 ≤ W b n := by
  unfold W
  rcases radix_pos h with ⟨h1, _⟩ | ⟨h1, _, _⟩
  · rw [if_pos h1]; exact (fibW_pos n).1
  · rw [if_neg (by omega)]; exact powW_pos h1 n
theorem W_mono {b : Int} (h : radix b ≠ 0) (n : Nat) : W b n ≤ W b (n + 1) := by
  unfold W
  rcases radix_pos h with ⟨h1, _⟩ | ⟨h1, _, _⟩
  · rw [if_pos h1, if_pos h1]; exact (fibW_pos n).2
  · rw [if_neg (by omega), if_neg (by omega)]
    show powW b n ≤ powW b n * b
    have := powW_pos h1 n
    have : powW b n * 1 ≤ powW b n * b := Int.mul_le_mul_of_nonneg_left (by omega) (by omega)
    omega
theorem W_le {b : Int} (h : radix b ≠ 0) {m n : Nat} (hmn : m ≤ n) : W b m ≤ W b n := by
  induction n with
  | zero => obtain rfl : m = 0 := by omega
            exact Int.le_refl _
  | succ n ih =>
    by_cases e : m = n + 1
    · subst e; exact Int.le_refl _
    · exact Int.le_trans (ih (by omega)) (W_mono h n)

theorem noTwo_tail {x : Int} {t : List Int} (h : noTwo (x :: t) = true) : noTwo t = true := by
  cases t with
  | nil => rfl
  | cons y t => simp [noTwo] at h; exact h.2
theorem ok_tail {b x : Int} {t : List Int} (h : okDigits b (x :: t)) : okDigits b t := fun y hy => h y (List.mem_cons_of_mem _ hy)
theorem ok_head {b x : Int} {t : List Int} (h : okDigits b (x :: t)) : 0 ≤ x ∧ x < radix b := h x List.mem_cons_self

theorem wv_nonneg {b : Int} (h : radix b ≠ 0) : ∀ {d : List Int}, okDigits b d → 0 ≤ wv b d
  | [], _ => Int.le_refl _
  | x :: t, hd => by
    have h1 := wv_nonneg h (ok_tail hd)
    have h2 := ok_head hd
    have h3 := W_pos h t.length
    show 0 ≤ x * W b t.length + wv b t
    have : 0 ≤ x * W b t.length := Int.mul_nonneg h2.1 (by omega)
    omega

/-- No 0 ahead. -/
def noLead (d : List Int) : Prop := d.head? ≠ some 0

theorem wv_ge {b : Int} (h : radix b ≠ 0) {x : Int} {t : List Int} (hd : okDigits b (x :: t)) (hl : noLead (x :: t)) : W b t.length ≤ wv b (x :: t) := by
  have h1 := wv_nonneg h (ok_tail hd)
  have h2 := ok_head hd
  have h3 := W_pos h t.length
  have h4 : x ≠ 0 := fun e => hl (by simp [e])
  show _ ≤ x * W b t.length + wv b t
  have : 1 * W b t.length ≤ x * W b t.length := Int.mul_le_mul_of_nonneg_right (by omega) (by omega)
  omega

/-- The digits of a number: right, no 0 ahead, and they count it. -/
structure IsOf (base n : Int) (d : List Int) : Prop where
  ok : okDigits base d
  right : rightOf base d = true
  lead : noLead d
  val : wv base d = n
theorem powW_two_le {k : Int} (hk : 2 ≤ k) : ∀ n, powW 2 n ≤ powW k n
  | 0 => Int.le_refl _
  | n + 1 => by
    have h := powW_two_le hk n
    have p := powW_pos (k := 2) (by omega) n
    show powW 2 n * 2 ≤ powW k n * k
    exact Int.le_trans (Int.mul_le_mul_of_nonneg_right h (by omega)) (Int.mul_le_mul_of_nonneg_left hk (by omega))
theorem W_big {b : Int} (h : radix b ≠ 0) {n : Nat} (hn : 58 ≤ n) : 1099511627776 < W b n := by
  refine Int.lt_of_lt_of_le ?_ (W_le h hn)
  unfold W
  rcases radix_pos h with ⟨hb, _⟩ | ⟨hb, _, _⟩
  · rw [if_pos hb]; decide +kernel
  · rw [if_neg (by omega)]
    exact Int.lt_of_lt_of_le (by decide +kernel) (powW_two_le hb 58)
theorem IsOf.len {b n : Int} (h : radix b ≠ 0) {d : List Int} (hd : IsOf b n d) (hn : n ≤ 1099511627776) : d.length ≤ 58 := by
  cases d with
  | nil => simp
  | cons x t =>
    have g := wv_ge h hd.ok hd.lead
    rw [hd.val] at g
    rcases Nat.lt_or_ge t.length 58 with c | c
    · simp; omega
    · have := W_big h c; omega
theorem wv_zeros (b : Int) : ∀ j, wv b (List.replicate j 0) = 0
  | 0 => rfl
  | j + 1 => by show 0 * _ + wv b (List.replicate j 0) = 0; rw [wv_zeros b j]; omega
theorem wv_mid (b x : Int) (t : List Int) : ∀ l : List Int, wv b (l ++ x :: t) = wv b (l ++ 0 :: t) + x * W b t.length
  | [] => by show x * _ + wv b t = 0 * _ + wv b t + _; omega
  | y :: l => by
    show y * W b (l ++ x :: t).length + wv b (l ++ x :: t) = y * W b (l ++ 0 :: t).length + wv b (l ++ 0 :: t) + _
    rw [wv_mid b x t l]
    simp only [List.length_append, List.length_cons]
    omega
theorem noTwo_snoc : ∀ (l : List Int) (x : Int), noTwo l = true → (x = 1 → l.getLast? ≠ some 1) → noTwo (l ++ [x]) = true
  | [], x, _, _ => by simp [noTwo]
  | [y], x, _, h => by
    simp only [List.cons_append, List.nil_append, noTwo, Bool.and_true, Bool.not_eq_true', Bool.and_eq_false_imp, decide_eq_true_eq, decide_eq_false_iff_not]
    intro hy hx
    exact h hx (by simp [hy])
  | y :: z :: t, x, hn, h => by
    have h2 := noTwo_snoc (z :: t) x (noTwo_tail hn) (fun e => by simpa using h e)
    simp only [List.cons_append, noTwo, Bool.and_eq_true] at hn h2 ⊢
    exact ⟨hn.1, h2⟩
/-- What stands between rounds while a number is written in Fib, the greatest places first. -/
structure Greedy (n : Int) (j : Nat) (r : Int) (l : List Int) : Prop where
  r0 : 0 ≤ r
  rlt : r < fibW j
  val : wv 1 (l ++ List.replicate j 0) + r = n
  ok : okDigits 1 l
  right : noTwo l = true
  lead : noLead l
  last : l.getLast? = some 1 → ∀ i, j = i + 1 → r < fibW i
  len : l.length + j ≤ 64
theorem fibW_gap : ∀ (j : Nat) (r : Int), r < fibW (j + 1) → fibW j ≤ r → r - fibW j < fibW j ∧ ∀ i, j = i + 1 → r - fibW j < fibW i
  | 0, r, h, _ => by simp [fibW] at h ⊢; omega
  | j + 1, r, h, _ => by
    have e : fibW (j + 1 + 1) = fibW (j + 1) + fibW j := rfl
    have := (fibW_pos j).2
    refine ⟨by omega, fun i hi => ?_⟩
    obtain rfl : j = i := by omega
    omega
theorem Greedy.one {n : Int} {j : Nat} {r : Int} {l : List Int} (h : Greedy n (j + 1) r l) (hr : fibW j ≤ r) : Greedy n j (r - fibW j) (l ++ [1]) := by
  have g := fibW_gap j r h.rlt hr
  refine ⟨by omega, g.1, ?_, ?_, ?_, ?_, fun _ => g.2, by have := h.len; simp; omega⟩
  · have hv := h.val
    rw [List.replicate_succ] at hv
    have := wv_mid 1 1 (List.replicate j 0) l
    rw [List.append_assoc, List.singleton_append, this]
    simp [W]
    omega
  · intro x hx
    rcases List.mem_append.1 hx with hx | hx
    · exact h.ok x hx
    · obtain rfl : x = 1 := by simpa using hx
      simp [radix]
  · refine noTwo_snoc l 1 h.right fun _ hl => ?_
    have := h.last hl j rfl
    omega
  · have := h.lead
    unfold noLead at *
    cases l <;> simp_all
theorem Greedy.zero {n : Int} {j : Nat} {r : Int} {l : List Int} (h : Greedy n (j + 1) r l) (hr : r < fibW j) (hl : l ≠ []) : Greedy n j r (l ++ [0]) := by
  refine ⟨h.r0, hr, ?_, ?_, ?_, ?_, by simp, by have := h.len; simp; omega⟩
  · have hv := h.val
    rw [List.replicate_succ] at hv
    rw [List.append_assoc, List.singleton_append]
    exact hv
  · intro x hx
    rcases List.mem_append.1 hx with hx | hx
    · exact h.ok x hx
    · obtain rfl : x = 0 := by simpa using hx
      simp [radix]
  · exact noTwo_snoc l 0 h.right (fun e => by simp at e)
  · have := h.lead
    unfold noLead at *
    cases l <;> simp_all
theorem Greedy.none {n : Int} {j : Nat} {r : Int} (h : Greedy n (j + 1) r []) (hr : r < fibW j) : Greedy n j r [] := by
  refine ⟨h.r0, hr, ?_, h.ok, h.right, h.lead, by simp, by have := h.len; simp at this ⊢; omega⟩
  have hv := h.val
  rw [List.nil_append, wv_zeros] at hv ⊢
  exact hv
theorem Greedy.done {n r : Int} {l : List Int} (h : Greedy n 0 r l) : IsOf 1 n l := by
  have h1 := h.rlt
  have h2 := h.r0
  have h3 := h.val
  simp [fibW] at h1
  simp at h3
  exact ⟨h.ok, by simp [rightOf, h.right], h.lead, by omega⟩
end Go.Proofs.YtpgkpbfefnpagaaGreatDoor
namespace Go.Proofs.YtpgkpbfefnpagaaGreatDoor

def unpack (k : Int) : Nat → Int → List Int
  | 0, _ => []
  | t + 1, l => unpack k t (l / k) ++ [l % k]

def manyErr (base t : Int) : Int := if radix base = 0 ∨ t < 0 ∨ 5 < t then 1 else if 36 < powW (radix base) t.toNat then 3 else 0
def manyOf (base t : Int) : Int := if manyErr base t = 0 then powW (radix base) t.toNat else 0
theorem many_ok {base t : Int} (h : manyErr base t = 0) : radix base ≠ 0 ∧ 0 ≤ t ∧ t ≤ 5 ∧ powW (radix base) t.toNat ≤ 36 ∧ manyOf base t = powW (radix base) t.toNat := by
  have h' := h
  unfold manyErr at h
  split at h
  · simp at h
  · split at h
    · simp at h
    · refine ⟨by omega, by omega, by omega, by omega, by simp [manyOf, h']⟩
theorem radix_two {b : Int} (h : radix b ≠ 0) : 2 ≤ radix b ∧ radix b ≤ 6 := by
  rcases radix_pos h with ⟨_, h2⟩ | ⟨h1, h2, h3⟩ <;> omega

end Go.Proofs.YtpgkpbfefnpagaaGreatDoor
namespace Go.Proofs.YtpgkpbfefnpagaaGreatDoor

structure GAuto where
  base : Int
  tracks : Int
  next : List (List Int)
  ends : List Bool

def GAuto.zero : GAuto := ⟨0, 0, [], []⟩

def rowsFault (n m : Int) : List (List Int) → Int
  | [] => 0
  | r :: t => if (r.length : Int) ≠ n then 2 else if r.all (fun s => decide (0 ≤ s ∧ s < m)) then rowsFault n m t else 1
def autoFault (a : GAuto) : Int :=
  if manyErr a.base a.tracks ≠ 0 then manyErr a.base a.tracks else if a.next.length = 0 then 4 else if 80 < a.next.length then 3
  else if a.ends.length ≠ a.next.length then 2 else rowsFault (manyOf a.base a.tracks) a.next.length a.next

def endOf (ends : List Bool) (s : Int) : Bool := ends.getD s.toNat false
def letters (a : GAuto) : Int := (a.next.getD 0 []).length
/-- Rows of nexts over m states and n letters. -/
structure Rows0 (n m : Nat) (next : List (List Int)) : Prop where
  len : next.length = m
  row : ∀ r ∈ next, r.length = n
  ok : ∀ r ∈ next, ∀ s ∈ r, 0 ≤ s ∧ s < m
structure Good (a : GAuto) (n m : Nat) : Prop where
  many : manyErr a.base a.tracks = 0
  n_eq : manyOf a.base a.tracks = n
  n0 : 0 < n
  n36 : n ≤ 36
  m0 : 0 < m
  m80 : m ≤ 80
  ends : a.ends.length = m
  rows : Rows0 n m a.next

theorem rowsFault_zero {n m : Int} : ∀ {l : List (List Int)}, rowsFault n m l = 0 ↔ ∀ r ∈ l, (r.length : Int) = n ∧ ∀ s ∈ r, 0 ≤ s ∧ s < m
  | [] => by simp [rowsFault]
  | r :: t => by
    unfold rowsFault
    have ih := rowsFault_zero (n := n) (m := m) (l := t)
    by_cases h1 : (r.length : Int) = n
    · rw [if_neg (by simpa using h1)]
      by_cases h2 : r.all (fun s => decide (0 ≤ s ∧ s < m)) = true
      · rw [if_pos h2, ih]
        have h2' : ∀ s ∈ r, 0 ≤ s ∧ s < m := fun s hs => by simpa using List.all_eq_true.1 h2 s hs
        constructor
        · intro h r' hr'
          rcases List.mem_cons.1 hr' with rfl | hr'
          · exact ⟨h1, h2'⟩
          · exact h r' hr'
        · intro h r' hr'
          exact h r' (List.mem_cons_of_mem _ hr')
      · rw [if_neg h2]
        simp only [Int.reduceEq, false_iff]
        intro h
        apply h2
        rw [List.all_eq_true]
        intro s hs
        simpa using (h r List.mem_cons_self).2 s hs
    · rw [if_pos (by simpa using h1)]
      simp only [Int.reduceEq, false_iff]
      intro h
      exact h1 (h r List.mem_cons_self).1
theorem good_of {a : GAuto} (h : autoFault a = 0) : Good a (manyOf a.base a.tracks).toNat a.next.length := by
  unfold autoFault at h
  split at h
  · omega
  · rename_i h1
    have h1 : manyErr a.base a.tracks = 0 := by omega
    obtain ⟨r0, t0, t5, p36, hm⟩ := many_ok h1
    have p1 := powW_pos (radix_two r0).1 a.tracks.toNat
    have hn : manyOf a.base a.tracks = ((manyOf a.base a.tracks).toNat : Int) := by omega
    split at h
    · omega
    · split at h
      · omega
      · split at h
        · omega
        · have := rowsFault_zero.1 h
          refine ⟨h1, hn, by omega, by omega, by omega, by omega, by omega, ⟨rfl, fun r hr => ?_, fun r hr => (this r hr).2⟩⟩
          have := (this r hr).1
          omega
theorem Good.letters {a : GAuto} {n m : Nat} (h : Good a n m) : letters a = n := by
  have h1 : 0 < a.next.length := by have := h.rows.len; have := h.m0; omega
  unfold Go.Proofs.YtpgkpbfefnpagaaGreatDoor.letters
  rw [getD_lt h1, h.rows.row _ (List.getElem_mem h1)]
end Go.Proofs.YtpgkpbfefnpagaaGreatDoor
namespace Go.Proofs.YtpgkpbfefnpagaaGreatDoor
open Go.RowKit

/-- Pure data. -/
inductive T where
  | int (k : IntKind) (n : Int)
  | bool (b : Bool)
  | str (s : ByteArray)
  | list (l : List T)
  | agg (l : List T)
  | tup (l : List T)
  | nilI
  | iface (t : Nat) (x : T)
  | fn (f : Nat) (cap : List T)
  | ptr (l : List T)
  | raw (a : Option Addr) (n cap : Nat)
  | undef
  deriving Inhabited

def T.cells : T → List T
  | .agg l => l
  | x => [x]
/-- Can it lie in one cell? -/
def T.isCell : T → Bool
  | .agg _ | .tup _ | .undef => false
  | _ => true
def flat (l : List T) : List T := l.flatMap T.cells
theorem flat_length {sz : Nat} : ∀ {l : List T}, (∀ x ∈ l, x.cells.length = sz) → (flat l).length = l.length * sz
  | [], _ => by simp [flat]
  | x :: t, h => by
    have h1 := h x List.mem_cons_self
    have h2 := flat_length (l := t) fun y hy => h y (List.mem_cons_of_mem _ hy)
    simp only [flat, List.flatMap_cons, List.length_append, List.length_cons] at h2 ⊢
    rw [h1, h2, Nat.add_mul]; omega
theorem flat_get {sz : Nat} : ∀ {l : List T} {i j : Nat} {x y : T}, (∀ x ∈ l, x.cells.length = sz) → l[i]? = some x → x.cells[j]? = some y → (flat l)[i * sz + j]? = some y
  | [], i, j, x, y, _, h, _ => by simp at h
  | z :: t, 0, j, x, y, hs, h, h2 => by
    obtain rfl : z = x := by simpa using h
    have hj := (List.getElem?_eq_some_iff.1 h2).1
    simp only [flat, List.flatMap_cons, Nat.zero_mul, Nat.zero_add]
    rw [List.getElem?_append_left hj]; exact h2
  | z :: t, i + 1, j, x, y, hs, h, h2 => by
    have h1 := hs z List.mem_cons_self
    have ih := flat_get (l := t) (fun y hy => hs y (List.mem_cons_of_mem _ hy)) (by simpa using h) h2
    simp only [flat, List.flatMap_cons] at ih ⊢
    rw [List.getElem?_append_right (by rw [h1, Nat.add_mul]; omega), h1]
    rw [show (i + 1) * sz + j - sz = i * sz + j by rw [Nat.add_mul]; omega]
    exact ih
theorem flat_append (a b : List T) : flat (a ++ b) = flat a ++ flat b := by simp [flat]

inductive RepT (S : Nat → Prop) (w : World) : T → Value → Prop where
  | int (k : IntKind) (n : Int) : RepT S w (.int k n) (.int k n)
  | bool (b : Bool) : RepT S w (.bool b) (.bool b)
  | str (s : ByteArray) : RepT S w (.str s) (.string s)
  | list (l : List T) (a : Option Addr) (cap sz : Nat) (xs : Nat → Value) (hm : l.length ≤ maxLen) (h0 : 0 < sz) (hf : ∀ x ∈ l, x.cells.length = sz)
      (ha : l ≠ [] → ∃ b off, a = some ⟨b, off, none⟩ ∧ S b ∧ ∀ k, k < l.length * sz → w.cell? ⟨b, off + k, none⟩ = some (xs k))
      (h1 : ∀ k, k < l.length * sz → (xs k).oneCell' = true)
      (hx : ∀ (k : Nat) (y : T), (flat l)[k]? = some y → RepT S w y (xs k)) (hle : l.length ≤ cap) : RepT S w (.list l) (.slice a l.length cap)
  | agg (l : List T) (vs : Array Value) (hl : vs.size = l.length) (h1 : ∀ (k : Nat) (v : Value), vs[k]? = some v → v.oneCell' = true) (hx : ∀ (k : Nat) (y : T) (v : Value), l[k]? = some y → vs[k]? = some v → RepT S w y v) : RepT S w (.agg l) (.agg vs)
  | tup (l : List T) (vs : Array Value) (hl : vs.size = l.length) (hx : ∀ (k : Nat) (y : T) (v : Value), l[k]? = some y → vs[k]? = some v → RepT S w y v) : RepT S w (.tup l) (.tuple vs)
  | nilI : RepT S w .nilI .nilIface
  | iface (t : Nat) (x : T) (v : Value) (h : RepT S w x v) : RepT S w (.iface t x) (.iface t v)
  | fn (f : Nat) (cap : List T) (vs : Array Value) (hl : vs.size = cap.length) (hx : ∀ (k : Nat) (y : T) (v : Value), cap[k]? = some y → vs[k]? = some v → RepT S w y v) : RepT S w (.fn f cap) (.func (.func f) #[] vs)
  | ptr (l : List T) (b off : Nat) (xs : Nat → Value) (hS : S b) (hlt : b < w.heap.size) (hc : ∀ k, k < l.length → w.cell? ⟨b, off + k, none⟩ = some (xs k))
      (h1 : ∀ k, k < l.length → (xs k).oneCell' = true) (hx : ∀ (k : Nat) (y : T), l[k]? = some y → RepT S w y (xs k)) : RepT S w (.ptr l) (.pointer (some ⟨b, off, none⟩))
  | raw (a : Option Addr) (n cap : Nat) : RepT S w (.raw a n cap) (.slice a n cap)
  | undef (v : Value) : RepT S w .undef v

theorem cellLt {w : World} {b o : Nat} {v : Value} (h : w.cell? ⟨b, o, none⟩ = some v) : b < w.heap.size := World.block_lt_of_cell? w ⟨b, o, none⟩ h
theorem cellKeep {w w' : World} {b o : Nat} (h : w'.heap[b]? = w.heap[b]?) : w'.cell? ⟨b, o, none⟩ = w.cell? ⟨b, o, none⟩ := by simp [World.cell?, h]

/-- What the blocks of S hold stays, and they stay in S'. -/
def Stay (S S' : Nat → Prop) (w w' : World) : Prop := w.heap.size ≤ w'.heap.size ∧ ∀ b, S b → b < w.heap.size → w'.heap[b]? = w.heap[b]? ∧ S' b

theorem RepT.keep {S S' : Nat → Prop} {w w' : World} (hb : Stay S S' w w') {x : T} {v : Value} (h : RepT S w x v) : RepT S' w' x v := by
  induction h with
  | int k n => exact .int k n
  | bool b => exact .bool b
  | str s => exact .str s
  | list l a cap sz xs hm h0 hf ha h1 hx hle ih =>
    refine .list l a cap sz xs hm h0 hf (fun hl => ?_) h1 ih hle
    obtain ⟨b, off, e, hS, hc⟩ := ha hl
    have hlt := cellLt (hc 0 (Nat.mul_pos (List.length_pos_iff.2 hl) h0))
    have := hb.2 b hS hlt
    exact ⟨b, off, e, this.2, fun k hk => (cellKeep this.1).trans (hc k hk)⟩
  | agg l vs hl h1 hx ih => exact .agg l vs hl h1 ih
  | tup l vs hl hx ih => exact .tup l vs hl ih
  | nilI => exact .nilI
  | iface t x v h ih => exact .iface t x v ih
  | fn f cap vs hl hx ih => exact .fn f cap vs hl ih
  | ptr l b off xs hS hlt hc h1 hx ih =>
    have := hb.2 b hS hlt
    exact .ptr l b off xs this.2 (by have := hb.1; omega) (fun k hk => (cellKeep this.1).trans (hc k hk)) h1 ih
  | raw a n cap => exact .raw a n cap
  | undef v => exact .undef v

theorem RepT.ptrInv {S : Nat → Prop} {w : World} {l : List T} {v : Value} (h : RepT S w (.ptr l) v) : ∃ b off, ∃ xs : Nat → Value, v = .pointer (some ⟨b, off, none⟩) ∧ S b ∧ b < w.heap.size ∧ (∀ k, k < l.length → w.cell? ⟨b, off + k, none⟩ = some (xs k)) ∧
    (∀ k, k < l.length → (xs k).oneCell' = true) ∧ ∀ (k : Nat) (y : T), l[k]? = some y → RepT S w y (xs k) := by
  cases h
  exact ⟨_, _, _, rfl, ‹_›, ‹_›, ‹_›, ‹_›, ‹_›⟩
theorem RepT.listCap {S : Nat → Prop} {w : World} {l : List T} {a : Option Addr} {n cap : Nat} (h : RepT S w (.list l) (.slice a n cap)) : l.length ≤ cap := by
  cases h; assumption
theorem RepT.listInv {S : Nat → Prop} {w : World} {l : List T} {v : Value} (h : RepT S w (.list l) v) : ∃ a cap sz, ∃ xs : Nat → Value, v = .slice a l.length cap ∧ l.length ≤ maxLen ∧ 0 < sz ∧ (∀ x ∈ l, x.cells.length = sz) ∧
    (l ≠ [] → ∃ b off, a = some ⟨b, off, none⟩ ∧ S b ∧ ∀ k, k < l.length * sz → w.cell? ⟨b, off + k, none⟩ = some (xs k)) ∧
    (∀ k, k < l.length * sz → (xs k).oneCell' = true) ∧ ∀ (k : Nat) (y : T), (flat l)[k]? = some y → RepT S w y (xs k) := by
  cases h
  exact ⟨_, _, _, _, rfl, ‹_›, ‹_›, ‹_›, ‹_›, ‹_›, ‹_›⟩
theorem RepT.one {S : Nat → Prop} {w : World} {x : T} {v : Value} (h : RepT S w x v) (hc : x.isCell = true) : v.oneCell' = true := by
  cases h <;> first | rfl | simp [T.isCell] at hc
/-- The cells of a value, as data. -/
structure RepL (S : Nat → Prop) (w : World) (l : List T) (vs : List Value) : Prop where
  len : vs.length = l.length
  one : ∀ v ∈ vs, v.oneCell' = true
  rep : ∀ (k : Nat) (y : T) (v : Value), l[k]? = some y → vs[k]? = some v → RepT S w y v
theorem RepL.keep {S S' : Nat → Prop} {w w' : World} (hb : Stay S S' w w') {l : List T} {vs : List Value} (h : RepL S w l vs) : RepL S' w' l vs :=
  ⟨h.len, h.one, fun k y v h1 h2 => (h.rep k y v h1 h2).keep hb⟩
def T.storable : T → Bool
  | .tup _ | .undef => false
  | _ => true
theorem RepT.toL {S : Nat → Prop} {w : World} {x : T} {v : Value} (h : RepT S w x v) (hc : x.storable = true) : RepL S w x.cells v.cells.toList := by
  cases h with
  | agg l vs hl h1 hx => exact ⟨by simpa [T.cells, Value.cells] using hl, fun v hv => by obtain ⟨i, hi, rfl⟩ := List.mem_iff_getElem.1 hv; exact h1 i _ (by simp [Value.cells]), fun k y v a b => hx k y v a (by simpa [Value.cells] using b)⟩
  | tup => simp [T.storable] at hc
  | undef => simp [T.storable] at hc
  | _ =>
    refine ⟨rfl, fun u hu => ?_, fun k y u h1 h2 => ?_⟩
    · simp [Value.cells] at hu; subst hu; rfl
    · cases k with
      | zero => simp [T.cells, Value.cells] at h1 h2; subst h1 h2; constructor <;> assumption
      | succ k => simp [T.cells] at h1
theorem RepL.append {S : Nat → Prop} {w : World} {l m : List T} {vs us : List Value} (h : RepL S w l vs) (h' : RepL S w m us) : RepL S w (l ++ m) (vs ++ us) := by
  refine ⟨by simp [h.len, h'.len], fun v hv => ?_, fun k y v a b => ?_⟩
  · rcases List.mem_append.1 hv with hv | hv
    · exact h.one v hv
    · exact h'.one v hv
  · by_cases hk : k < l.length
    · rw [List.getElem?_append_left hk] at a
      rw [List.getElem?_append_left (by rw [h.len]; exact hk)] at b
      exact h.rep k y v a b
    · rw [List.getElem?_append_right (by omega)] at a
      rw [List.getElem?_append_right (by rw [h.len]; omega), h.len] at b
      exact h'.rep _ y v a b
theorem RepL.nil (S : Nat → Prop) (w : World) : RepL S w [] [] := ⟨rfl, fun v hv => by simp at hv, fun k y v h => by simp at h⟩
theorem RepL.drop {S : Nat → Prop} {w : World} {l : List T} {vs : List Value} (h : RepL S w l vs) (n : Nat) : RepL S w (l.drop n) (vs.drop n) :=
  ⟨by simp [h.len], fun v hv => h.one v (List.mem_of_mem_drop hv), fun k y v a b => h.rep (n + k) y v (by simpa using a) (by simpa using b)⟩
theorem RepL.take {S : Nat → Prop} {w : World} {l : List T} {vs : List Value} (h : RepL S w l vs) (n : Nat) : RepL S w (l.take n) (vs.take n) := by
  refine ⟨by simp [h.len], fun v hv => h.one v (List.mem_of_mem_take hv), fun k y v a b => ?_⟩
  rw [List.getElem?_take] at a b
  split at a
  · rw [if_pos ‹_›] at b; exact h.rep k y v a b
  · simp at a
theorem RepL.toAgg {S : Nat → Prop} {w : World} {l : List T} {vs : Array Value} (h : RepL S w l vs.toList) : RepT S w (.agg l) (.agg vs) :=
  .agg l vs (by simpa using h.len) (fun k v hv => h.one v (by rw [List.mem_iff_getElem?]; exact ⟨k, by simpa using hv⟩)) (fun k y v a b => h.rep k y v a (by simpa using b))

/-- What a map's key is: a number, a text, a row of numbers. -/
inductive KK where
  | int (q : IntKind) | str | ints (n : Nat)
  deriving Inhabited, DecidableEq
def T.inR : T → Bool
  | .int .i64 n => decide (-9223372036854775808 ≤ n) && decide (n ≤ 9223372036854775807)
  | _ => false
/-- May it be a key? -/
def T.okKey : KK → T → Bool
  | .int q, .int q' n => decide (q' = q) && (decide (q.min ≤ n) && decide (n ≤ q.max))
  | .str, .str s => decide (s.size ≤ 9223372036854775807)
  | .ints m, .agg l => decide (l.length = m) && l.all T.inR
  | _, _ => false
/-- The key as a value. -/
def T.val : T → Value
  | .int k n => .int k n
  | .str s => .string s
  | .agg l => .agg (l.map fun | .int k n => Value.int k n | _ => _root_.Go.undef).toArray
  | _ => _root_.Go.undef
theorem okKey_int {x : T} {q : IntKind} (h : x.okKey (.int q) = true) : ∃ n, x = .int q n ∧ q.min ≤ n ∧ n ≤ q.max := by
  cases x <;> simp [T.okKey] at h
  obtain ⟨rfl, h1, h2⟩ := h
  exact ⟨_, rfl, h1, h2⟩
theorem okKey_str {x : T} (h : x.okKey .str = true) : ∃ s, x = .str s ∧ s.size ≤ 9223372036854775807 := by
  cases x <;> simp [T.okKey] at h
  exact ⟨_, rfl, h⟩
theorem okKey_ints {x : T} {m : Nat} (h : x.okKey (.ints m) = true) : ∃ l, x = .agg l ∧ l.length = m ∧ ∀ y ∈ l, y.inR = true := by
  cases x <;> simp [T.okKey] at h
  exact ⟨_, rfl, h⟩
theorem inR_inv {x : T} (h : x.inR = true) : ∃ n, x = .int .i64 n ∧ -9223372036854775808 ≤ n ∧ n ≤ 9223372036854775807 := by
  unfold T.inR at h
  split at h
  · simp only [Bool.and_eq_true, decide_eq_true_eq] at h
    exact ⟨_, rfl, h.1, h.2⟩
  · cases h
/-- A key's value is the one that it is. -/
theorem okKey_val {S : Nat → Prop} {w : World} {x : T} {v : Value} {kk : KK} (h : x.okKey kk = true) (hr : RepT S w x v) : v = x.val := by
  cases kk with
  | int q => obtain ⟨n, rfl, _⟩ := okKey_int h; cases hr; rfl
  | str => obtain ⟨s, rfl, _⟩ := okKey_str h; cases hr; rfl
  | ints m =>
    obtain ⟨l, rfl, hl, hall⟩ := okKey_ints h
    cases hr with
    | agg l vs hs h1 hx =>
      simp only [T.val]
      congr 1
      apply Array.ext (by simpa using hs)
      intro k h2 h3
      have hk : k < l.length := by omega
      obtain ⟨n, hn, _⟩ := inR_inv (hall _ (List.getElem_mem hk))
      have := hx k l[k] vs[k] (List.getElem?_eq_getElem hk) (Array.getElem?_eq_getElem h2)
      rw [hn] at this
      generalize vs[k] = u at this
      cases this
      simp [hn]
theorem okKey_inj {x y : T} {kk : KK} (h : x.okKey kk = true) (h' : y.okKey kk = true) (e : x.val = y.val) : x = y := by
  cases kk with
  | int q => obtain ⟨n, rfl, _⟩ := okKey_int h; obtain ⟨m, rfl, _⟩ := okKey_int h'; simpa [T.val] using e
  | str => obtain ⟨n, rfl, _⟩ := okKey_str h; obtain ⟨m, rfl, _⟩ := okKey_str h'; simpa [T.val] using e
  | ints m =>
    obtain ⟨l, rfl, hl, hall⟩ := okKey_ints h
    obtain ⟨l', rfl, hl', hall'⟩ := okKey_ints h'
    simp only [T.val, Value.agg.injEq] at e
    congr 1
    apply List.ext_getElem (by omega)
    intro k h1 h2
    obtain ⟨n, hn, _⟩ := inR_inv (hall _ (List.getElem_mem h1))
    obtain ⟨n', hn', _⟩ := inR_inv (hall' _ (List.getElem_mem h2))
    have : (l.map fun | .int k n => Value.int k n | _ => _root_.Go.undef)[k]? = (l'.map fun | .int k n => Value.int k n | _ => _root_.Go.undef)[k]? := by
      have e2 := congrArg Array.toList e
      simp only [List.toList_toArray] at e2
      rw [e2]
    rw [List.getElem?_map, List.getElem?_map, List.getElem?_eq_getElem h1, List.getElem?_eq_getElem h2, hn, hn'] at this
    simp at this
    rw [hn, hn', this]

/-- What a slot of a frame holds: data, or a way into the frame's own memory. -/
inductive SV where
  | t (x : T)
  | nil
  | lit (l : List T)
  | agg (l : List SV)
  | sref (i : Nat)
  | cut (i m : Nat)
  | bptr (i off : Nat)
  | eptr (i sz k off : Nat)
  | map (i : Nat)
  | fn (f : Nat) (cap : List SV)
  | pin (i b : Nat)
  | pinS (i : Nat) (a : Option Addr) (n cap : Nat)
  deriving Inhabited

/-- An own object: a slice, a variable, a map; or one that is no longer written. -/
inductive Ob where
  | row (e sz : Nat) (wr : Bool) (l : List T)
  | box (l : List SV)
  | map (kk : KK) (l : List (T × T))
  | froz (l : List T)
  | fbox (l : List T)
  | gone
  | hole
  deriving Inhabited

/-- Where an own object lies. -/
inductive Hd where
  | sl (a : Option Addr) (n cap : Nat) (o : Option Nat)
  | bx (b : Nat) (o : Bool)
  | mp (r : Nat)
  | no
def Hd.own : Hd → Option Nat
  | .sl _ _ _ o => o
  | .bx b o => if o then some b else none
  | .mp r => some r
  | .no => none

/-- The same place, given up. -/
def Hd.off : Hd → Hd
  | .sl a n cap _ => .sl a n cap none
  | .bx b _ => .bx b false
  | h => h

def litZ (w : World) (b : Nat) (l : List T) : Prop := l ≠ [] → ∃ vs t, w.heap[b]? = some (.cells vs t (0, 0))
theorem litZ.keep {S S' : Nat → Prop} {w w' : World} (hb : Stay S S' w w') {l : List T} {b n cap : Nat} (h : RepT S w (.list l) (.slice (some ⟨b, 0, none⟩) n cap)) (hz : litZ w b l) : litZ w' b l := fun hne => by
  obtain ⟨vs, t, e⟩ := hz hne
  obtain ⟨a, cap', sz, xs, e1, _, _, _, ha, _, _⟩ := h.listInv
  obtain ⟨b', off, e2, hS, _⟩ := ha hne
  rw [e2] at e1
  injection e1 with q1 q2 q3
  injection q1 with q1
  injection q1 with q1 q4 q5
  subst q1
  exact ⟨vs, t, by rw [(hb.2 b hS (Array.getElem?_eq_some_iff.1 e).1).1]; exact e⟩
inductive RepS (S : Nat → Prop) (w : World) (hd : List Hd) : SV → Value → Prop where
  | t (x : T) (v : Value) (h : RepT S w x v) : RepS S w hd (.t x) v
  | nil : RepS S w hd .nil (.slice none 0 0)
  | lit (l : List T) (b : Nat) (h : RepT S w (.list l) (.slice (some ⟨b, 0, none⟩) l.length l.length)) (hz : litZ w b l) : RepS S w hd (.lit l) (.slice (some ⟨b, 0, none⟩) l.length l.length)
  | agg (l : List SV) (vs : Array Value) (hl : vs.size = l.length) (h1 : ∀ (k : Nat) (v : Value), vs[k]? = some v → v.oneCell' = true) (hx : ∀ (k : Nat) (y : SV) (v : Value), l[k]? = some y → vs[k]? = some v → RepS S w hd y v) : RepS S w hd (.agg l) (.agg vs)
  | sref (i : Nat) (a : Option Addr) (n cap : Nat) (o : Option Nat) (h : hd[i]? = some (.sl a n cap o)) : RepS S w hd (.sref i) (.slice a n cap)
  | cut (i m : Nat) (a : Option Addr) (n cap : Nat) (o : Option Nat) (h : hd[i]? = some (.sl a n cap o)) (hm : m ≤ n) : RepS S w hd (.cut i m) (.slice a m cap)
  | bptr (i off b : Nat) (o : Bool) (h : hd[i]? = some (.bx b o)) : RepS S w hd (.bptr i off) (.pointer (some ⟨b, off, none⟩))
  | eptr (i sz k off g n cap : Nat) (o : Option Nat) (h : hd[i]? = some (.sl (some ⟨g, 0, none⟩) n cap o)) : RepS S w hd (.eptr i sz k off) (.pointer (some ⟨g, k * sz + off, none⟩))
  | map (i r : Nat) (h : hd[i]? = some (.mp r)) : RepS S w hd (.map i) (.map (some r))
  | fn (f : Nat) (cap : List SV) (vs : Array Value) (hl : vs.size = cap.length) (hx : ∀ (k : Nat) (y : SV) (v : Value), cap[k]? = some y → vs[k]? = some v → RepS S w hd y v) : RepS S w hd (.fn f cap) (.func (.func f) #[] vs)
  | pin (i b : Nat) (o : Bool) (h : hd[i]? = some (.bx b o)) : RepS S w hd (.pin i b) undef
  | pinS (i : Nat) (a : Option Addr) (n cap : Nat) (o : Option Nat) (h : hd[i]? = some (.sl a n cap o)) : RepS S w hd (.pinS i a n cap) undef

mutual
/-- Own objects by other numbers; what has none is lost. -/
def SV.ren (π : Nat → Option Nat) : SV → SV
  | .t x => .t x
  | .nil => .nil
  | .lit l => .lit l
  | .agg l => .agg (renL π l)
  | .sref i => match π i with | some j => .sref j | none => .t .undef
  | .cut i m => match π i with | some j => .cut j m | none => .t .undef
  | .bptr i off => match π i with | some j => .bptr j off | none => .t .undef
  | .eptr i sz k off => match π i with | some j => .eptr j sz k off | none => .t .undef
  | .map i => match π i with | some j => .map j | none => .t .undef
  | .fn f cap => .fn f (renL π cap)
  | .pin i b => match π i with | some j => .pin j b | none => .t .undef
  | .pinS i a n cap => match π i with | some j => .pinS j a n cap | none => .t .undef
def renL (π : Nat → Option Nat) : List SV → List SV
  | [] => []
  | x :: t => x.ren π :: renL π t
end
theorem renL_map (π : Nat → Option Nat) : ∀ l, renL π l = l.map (SV.ren π)
  | [] => rfl
  | x :: t => by simp [renL, renL_map π t]

theorem RepS.ren {S S' : Nat → Prop} {w w' : World} {hd hd' : List Hd} {π : Nat → Option Nat} (hb : Stay S S' w w') (hp : ∀ i j h, π i = some j → hd[i]? = some h → ∃ h', hd'[j]? = some h' ∧ (h' = h ∨ h' = h.off))
    {x : SV} {v : Value} (h : RepS S w hd x v) : RepS S' w' hd' (x.ren π) v := by
  induction h with
  | t x v h => exact .t x v (h.keep hb)
  | nil => exact .nil
  | lit l a h hz => exact .lit l a (h.keep hb) (hz.keep hb h)
  | agg l vs hl h1 hx ih =>
    simp only [SV.ren, renL_map]
    refine .agg _ vs (by simpa using hl) h1 fun k y v a b => ?_
    simp only [List.getElem?_map, Option.map_eq_some_iff] at a
    obtain ⟨z, hz, rfl⟩ := a
    exact ih k z v hz b
  | sref i a n cap o h =>
    simp only [SV.ren]
    cases hi : π i with
    | none => exact .t _ _ (.undef _)
    | some j =>
      obtain ⟨h', e1, e2⟩ := hp i j _ hi h
      rcases e2 with rfl | rfl
      · exact .sref j a n cap o e1
      · exact .sref j a n cap none e1
  | cut i m a n cap o h hm =>
    simp only [SV.ren]
    cases hi : π i with
    | none => exact .t _ _ (.undef _)
    | some j =>
      obtain ⟨h', e1, e2⟩ := hp i j _ hi h
      rcases e2 with rfl | rfl
      · exact .cut j m a n cap o e1 hm
      · exact .cut j m a n cap none e1 hm
  | bptr i off b o h =>
    simp only [SV.ren]
    cases hi : π i with
    | none => exact .t _ _ (.undef _)
    | some j =>
      obtain ⟨h', e1, e2⟩ := hp i j _ hi h
      rcases e2 with rfl | rfl
      · exact .bptr j off b o e1
      · exact .bptr j off b false e1
  | eptr i sz k off g n cap o h =>
    simp only [SV.ren]
    cases hi : π i with
    | none => exact .t _ _ (.undef _)
    | some j =>
      obtain ⟨h', e1, e2⟩ := hp i j _ hi h
      rcases e2 with rfl | rfl
      · exact .eptr j sz k off g n cap o e1
      · exact .eptr j sz k off g n cap none e1
  | map i r h =>
    simp only [SV.ren]
    cases hi : π i with
    | none => exact .t _ _ (.undef _)
    | some j =>
      obtain ⟨h', e1, e2⟩ := hp i j _ hi h
      rcases e2 with rfl | rfl
      · exact .map j r e1
      · exact .map j r e1
  | fn f cap vs hl hx ih =>
    simp only [SV.ren, renL_map]
    refine .fn f _ vs (by simpa using hl) fun k y v a b => ?_
    simp only [List.getElem?_map, Option.map_eq_some_iff] at a
    obtain ⟨z, hz, rfl⟩ := a
    exact ih k z v hz b
  | pin i b o h =>
    simp only [SV.ren]
    cases hi : π i with
    | none => exact .t _ _ (.undef _)
    | some j =>
      obtain ⟨h', e1, e2⟩ := hp i j _ hi h
      rcases e2 with rfl | rfl
      · exact .pin j b o e1
      · exact .pin j b false e1
  | pinS i a n cap o h =>
    simp only [SV.ren]
    cases hi : π i with
    | none => exact .t _ _ (.undef _)
    | some j =>
      obtain ⟨h', e1, e2⟩ := hp i j _ hi h
      rcases e2 with rfl | rfl
      · exact .pinS j a n cap o e1
      · exact .pinS j a n cap none e1
end Go.Proofs.YtpgkpbfefnpagaaGreatDoor
namespace Go.Proofs.YtpgkpbfefnpagaaGreatDoor
open Go.RowKit

mutual
theorem SV.ren_some : ∀ x : SV, x.ren some = x
  | .t _ => rfl
  | .nil => rfl
  | .lit _ => rfl
  | .agg l => by simp only [SV.ren, renL_some l]
  | .sref _ => rfl
  | .cut _ _ => rfl
  | .bptr _ _ => rfl
  | .eptr _ _ _ _ => rfl
  | .map _ => rfl
  | .fn f cap => by simp only [SV.ren, renL_some cap]
  | .pin _ _ => rfl
  | .pinS _ _ _ _ => rfl
theorem renL_some : ∀ l : List SV, renL some l = l
  | [] => rfl
  | x :: t => by simp only [renL, SV.ren_some x, renL_some t]
end

/-- Headers that stay, but for a variable that is no longer written. -/
def Keeps (π : Nat → Option Nat) (hd hd' : List Hd) : Prop :=
  ∀ i j h, π i = some j → hd[i]? = some h → ∃ h', hd'[j]? = some h' ∧ (h' = h ∨ h' = h.off)
theorem Keeps.refl (hd : List Hd) : Keeps some hd hd := fun i j h e g => by cases e; exact ⟨h, g, .inl rfl⟩
theorem RepS.keep {S S' : Nat → Prop} {w w' : World} {hd hd' : List Hd} (hb : Stay S S' w w') (hp : Keeps some hd hd') {x : SV} {v : Value} (h : RepS S w hd x v) : RepS S' w' hd' x v := by
  have := RepS.ren hb hp h
  rwa [SV.ren_some] at this
theorem Stay.refl (S : Nat → Prop) (w : World) : Stay S S w w := ⟨Nat.le_refl _, fun _ h _ => ⟨rfl, h⟩⟩

def ObR (S : Nat → Prop) (B : Nat) (w : World) (hd : List Hd) : Ob → Hd → Prop
  | .row e sz wr l, .sl a n cap o => n = l.length ∧ 0 < sz ∧ l.length ≤ maxLen ∧ (∀ x ∈ l, x.cells.length = sz) ∧
      ((∃ xs, w.ownsRow B e sz (.slice a n cap) n xs ∧ o = (Value.slice a n cap).ownBlock ∧ RepL S w (flat l) xs) ∨ (wr = false ∧ o = none ∧ cap = n ∧ ∃ b, a = some ⟨b, 0, none⟩ ∧ RepT S w (.list l) (.slice a n n)))
  | .box l, .bx b o => o = true ∧ ∃ vs t, w.heap[b]? = some (.cells vs t (0, 0)) ∧ vs.size = l.length ∧ (∀ (k : Nat) (v : Value), vs[k]? = some v → v.oneCell' = true) ∧ ∀ (k : Nat) (y : SV) (v : Value), l[k]? = some y → vs[k]? = some v → RepS S w hd y v
  | .map kk l, .mp r => ∃ es cl, w.heap[r]? = some (.map es cl) ∧ es.size = l.length ∧ (∀ p ∈ l, p.1.okKey kk = true) ∧ l.Pairwise (fun p q => p.1 ≠ q.1) ∧ ∀ (k : Nat) (y : T × T) (e : MapEntry), l[k]? = some y → es[k]? = some e → e.key = y.1.val ∧ RepT S w y.2 e.val
  | .froz l, .sl a n cap o => n = l.length ∧ o = none ∧ RepT S w (.list l) (.slice a n cap)
  | .fbox l, .bx b o => o = false ∧ RepT S w (.ptr l) (.pointer (some ⟨b, 0, none⟩))
  | .gone, _ => True
  | .hole, .no => True
  | _, _ => False

def Ob.ren (π : Nat → Option Nat) : Ob → Ob
  | .box l => .box (renL π l)
  | o => o
theorem Ob.ren_some (o : Ob) : o.ren some = o := by cases o <;> simp [Ob.ren, renL_some]

theorem ownsRow_same {w w' : World} {B e n s : Nat} {v : Value} {xs : List Value} (h : w.ownsRow B e s v n xs) (hs : ∀ k, v.ownBlock = some k → w'.heap[k]? = w.heap[k]?) : w'.ownsRow B e s v n xs := by
  refine ⟨h.1, ?_⟩
  rcases h.2 with h | ⟨g, cap, cur, rfl, hB, hg, r⟩
  · exact .inl h
  · exact .inr ⟨g, cap, cur, rfl, hB, (hs g rfl).trans hg, r⟩

theorem ObR.ren {S S' : Nat → Prop} {B : Nat} {w w' : World} {hd hd' : List Hd} {π : Nat → Option Nat} (hb : Stay S S' w w') (hp : Keeps π hd hd') {o : Ob} {h : Hd}
    (ho : ∀ b, h.own = some b → w'.heap[b]? = w.heap[b]?) (hr : ObR S B w hd o h) : ObR S' B w' hd' (o.ren π) h := by
  cases o <;> cases h <;> simp only [ObR, Ob.ren] at hr ⊢ <;> try exact hr.elim
  · obtain ⟨h1, h2, h3, h4, h5⟩ := hr
    refine ⟨h1, h2, h3, h4, ?_⟩
    rcases h5 with ⟨xs, a, b, c⟩ | ⟨a, b, c, q, e, d⟩
    · exact .inl ⟨xs, ownsRow_same a (fun k hk => ho k (by rw [← hk, ← b]; rfl)), b, c.keep hb⟩
    · exact .inr ⟨a, b, c, q, e, d.keep hb⟩
  · obtain ⟨rfl, vs, t, h1, h2, h3, h4⟩ := hr
    refine ⟨rfl, vs, t, (ho _ rfl).trans h1, by rw [renL_map]; simpa using h2, h3, fun k y v a b => ?_⟩
    rw [renL_map, List.getElem?_map, Option.map_eq_some_iff] at a
    obtain ⟨z, hz, rfl⟩ := a
    exact RepS.ren hb hp (h4 k z v hz b)
  · obtain ⟨es, cl, h1, h2, h4, h5, h3⟩ := hr
    exact ⟨es, cl, (ho _ rfl).trans h1, h2, h4, h5, fun k y e a b => ⟨(h3 k y e a b).1, (h3 k y e a b).2.keep hb⟩⟩
  · exact ⟨hr.1, hr.2.1, hr.2.2.keep hb⟩
  · exact ⟨hr.1, hr.2.keep hb⟩
theorem ObR.keep {S S' : Nat → Prop} {B : Nat} {w w' : World} {hd hd' : List Hd} (hb : Stay S S' w w') (hp : Keeps some hd hd') {o : Ob} {h : Hd}
    (ho : ∀ b, h.own = some b → w'.heap[b]? = w.heap[b]?) (hr : ObR S B w hd o h) : ObR S' B w' hd' o h := by
  have := ObR.ren hb hp ho hr
  rwa [Ob.ren_some] at this

structure St where
  nt : Nat
  tmps : List (Nat × SV)
  heap : List Ob
def look : List (Nat × SV) → Nat → Option SV
  | [], _ => none
  | (k, x) :: r, t => if k = t then some x else look r t
def St.get (st : St) (t : Nat) : SV := (look st.tmps t).getD (.t .undef)
def St.put (st : St) (d : Option Nat) (x : SV) : St := match d with
  | none => st
  | some d => { st with tmps := (d, x) :: st.tmps }

/-- Where a call began: what it may read, the world at the outermost call's begin and at its own, the blocks that were lent to it, those that are hidden. -/
structure Ctx where
  S0 : Nat → Prop
  w0 : World
  w1 : World
  L : Nat → Prop
  K : Nat → Prop
  le : w0.heap.size ≤ w1.heap.size
  hK : ∀ b, K b → b < w1.heap.size ∧ ¬ L b
def Ctx.of (S0 : Nat → Prop) (w0 : World) : Ctx := ⟨S0, w0, w0, fun _ => False, fun _ => False, Nat.le_refl _, fun _ h => h.elim⟩
def seen (C : Ctx) (b : Nat) : Prop := (C.S0 b ∨ C.w0.heap.size ≤ b) ∧ ¬ C.K b
/-- The blocks that are read and never written. -/
def vis (C : Ctx) (hd : List Hd) (b : Nat) : Prop := seen C b ∧ ∀ h ∈ hd, h.own ≠ some b
/-- Nothing but what was lent is written. -/
structure Ext (C : Ctx) (hd : List Hd) (w : World) : Prop where
  gro : C.w1.heap.size ≤ w.heap.size
  stay : ∀ b, b < C.w1.heap.size → ¬ C.L b → w.heap[b]? = C.w1.heap[b]?
  lent : ∀ (h : Hd) (b : Nat), h ∈ hd → h.own = some b → C.L b ∨ C.w1.heap.size ≤ b
theorem Ext.seen {C : Ctx} {hd : List Hd} {w : World} (e : Ext C hd w) {h : Hd} {b : Nat} (h1 : h ∈ hd) (h2 : h.own = some b) (h3 : C.w0.heap.size ≤ b) : seen C b :=
  ⟨.inr h3, fun k => by
    have := C.hK b k
    rcases e.lent h b h1 h2 with h | h
    · exact this.2 h
    · omega⟩
theorem Ext.fresh {C : Ctx} {hd : List Hd} {w : World} (e : Ext C hd w) {b : Nat} (h : w.heap.size ≤ b) : Go.Proofs.YtpgkpbfefnpagaaGreatDoor.seen C b :=
  ⟨.inr (by have := C.le; have := e.gro; omega), fun k => by have := (C.hK b k).1; have := e.gro; omega⟩
theorem Ext.change {C : Ctx} {hd hd' : List Hd} {w w' : World} (e : Ext C hd w) (hs : w.heap.size ≤ w'.heap.size) (hu : ∀ b, b < w.heap.size → (∀ h ∈ hd, h.own ≠ some b) → w'.heap[b]? = w.heap[b]?)
    (ho : ∀ (h : Hd) (b : Nat), h ∈ hd' → h.own = some b → (∃ g ∈ hd, g.own = some b) ∨ w.heap.size ≤ b) : Ext C hd' w' :=
  ⟨Nat.le_trans e.gro hs, fun b h1 h2 => (hu b (Nat.lt_of_lt_of_le h1 e.gro) fun h hh hb => by
      rcases e.lent h b hh hb with h3 | h3
      · exact h2 h3
      · omega).trans (e.stay b h1 h2), fun h b h1 h2 => by
      rcases ho h b h1 h2 with ⟨g, g1, g2⟩ | h3
      · exact e.lent g b g1 g2
      · exact .inr (Nat.le_trans e.gro h3)⟩

structure StR (C : Ctx) (st : St) (hd : List Hd) (a : Act) (w : World) : Prop where
  below : Below C.w0.heap.size C.w0 w
  df : a.defers = []
  nt : a.tmps.size = st.nt
  hl : hd.length = st.heap.length
  ob : ∀ (i : Nat) (o : Ob) (h : Hd), st.heap[i]? = some o → hd[i]? = some h → ObR (vis C hd) C.w0.heap.size w hd o h
  own : ∀ (h : Hd) (b : Nat), h ∈ hd → h.own = some b → C.w0.heap.size ≤ b ∧ b < w.heap.size
  dist : ∀ (i j : Nat) (hi hj : Hd) (b : Nat), hd[i]? = some hi → hd[j]? = some hj → hi.own = some b → hj.own = some b → i = j
  sl : ∀ (t : Nat) (x : SV), look st.tmps t = some x → RepS (vis C hd) w hd x (a.tmps.getD t undef)
  ext : Ext C hd w

section
variable {C : Ctx} {st : St} {hd : List Hd} {a : Act} {w : World}
theorem StR.get (h : StR C st hd a w) (t : Nat) : RepS (vis C hd) w hd (st.get t) (a.tmps.getD t undef) := by
  unfold St.get
  cases e : look st.tmps t with
  | none => exact .t _ _ (.undef _)
  | some x => exact h.sl t x e
theorem StR.put (h : StR C st hd a w) {d : Option Nat} (hd' : ∀ t, d = some t → t < st.nt) {x : SV} {v : Value} (hx : RepS (vis C hd) w hd x v) : StR C (st.put d x) hd (a.put d v) w := by
  cases d with
  | none => exact h
  | some d =>
    have hlt : d < a.tmps.size := by rw [h.nt]; exact hd' d rfl
    refine ⟨h.below, h.df, by simp [Act.put, St.put, h.nt], h.hl, h.ob, h.own, h.dist, fun t y hy => ?_, h.ext⟩
    simp only [St.put, look] at hy
    split at hy
    · rename_i e
      subst e
      cases hy
      simpa [Act.put, hlt] using hx
    · rename_i e
      have := h.sl t y hy
      simpa [Act.put, Array.getElem?_setIfInBounds, e] using this
/-- Own memory that has changed. -/
theorem StR.change (h : StR C st hd a w) {w' : World} {hd' : List Hd} {heap' : List Ob} (π : Nat → Option Nat) (hb : Below C.w0.heap.size w w') (hs : Stay (vis C hd) (vis C hd') w w') (hp : Keeps π hd hd')
    (hl : hd'.length = heap'.length) (ob : ∀ (i : Nat) (o : Ob) (h : Hd), heap'[i]? = some o → hd'[i]? = some h → ObR (vis C hd') C.w0.heap.size w' hd' o h) (own : ∀ (h : Hd) (b : Nat), h ∈ hd' → h.own = some b → C.w0.heap.size ≤ b ∧ b < w'.heap.size)
    (dist : ∀ (i j : Nat) (hi hj : Hd) (b : Nat), hd'[i]? = some hi → hd'[j]? = some hj → hi.own = some b → hj.own = some b → i = j)
    (hu : ∀ b, b < w.heap.size → (∀ h ∈ hd, h.own ≠ some b) → w'.heap[b]? = w.heap[b]?) (ho' : ∀ (h : Hd) (b : Nat), h ∈ hd' → h.own = some b → (∃ g ∈ hd, g.own = some b) ∨ w.heap.size ≤ b) :
    StR C { nt := st.nt, tmps := st.tmps.map fun p => (p.1, p.2.ren π), heap := heap' } hd' a w' := by
  refine ⟨h.below.trans hb, h.df, h.nt, hl, ob, own, dist, fun t x hx => ?_, h.ext.change hb.size hu ho'⟩
  have : ∀ l : List (Nat × SV), look (l.map fun p => (p.1, p.2.ren π)) t = (look l t).map (SV.ren π) := by
    intro l
    induction l with
    | nil => rfl
    | cons p l ih =>
      simp only [List.map_cons, look]
      split <;> simp_all
  simp only [this, Option.map_eq_some_iff] at hx
  obtain ⟨y, hy, rfl⟩ := hx
  exact RepS.ren hs hp (h.sl t y hy)
theorem map_ren_some (l : List (Nat × SV)) : (l.map fun p => (p.1, p.2.ren some)) = l := by
  conv => rhs; rw [← List.map_id l]
  exact List.map_congr_left fun p _ => by simp [SV.ren_some]
theorem StR.change0 (h : StR C st hd a w) {w' : World} {hd' : List Hd} {heap' : List Ob} (hb : Below C.w0.heap.size w w') (hs : Stay (vis C hd) (vis C hd') w w') (hp : Keeps some hd hd')
    (hl : hd'.length = heap'.length) (ob : ∀ (i : Nat) (o : Ob) (h : Hd), heap'[i]? = some o → hd'[i]? = some h → ObR (vis C hd') C.w0.heap.size w' hd' o h) (own : ∀ (h : Hd) (b : Nat), h ∈ hd' → h.own = some b → C.w0.heap.size ≤ b ∧ b < w'.heap.size)
    (dist : ∀ (i j : Nat) (hi hj : Hd) (b : Nat), hd'[i]? = some hi → hd'[j]? = some hj → hi.own = some b → hj.own = some b → i = j)
    (hu : ∀ b, b < w.heap.size → (∀ h ∈ hd, h.own ≠ some b) → w'.heap[b]? = w.heap[b]?) (ho' : ∀ (h : Hd) (b : Nat), h ∈ hd' → h.own = some b → (∃ g ∈ hd, g.own = some b) ∨ w.heap.size ≤ b) :
    StR C { st with heap := heap' } hd' a w' := by
  have := h.change some hb hs hp hl ob own dist hu ho'
  rwa [map_ren_some] at this
/-- A world in which new blocks have come, and nothing that was there has changed. -/
theorem StR.grow (h : StR C st hd a w) {w' : World} (hb : Below w.heap.size w w') : StR C st hd a w' := by
  have hsz := h.below.size
  have := h.change0 (heap' := st.heap) (hb.mono hsz) (hd' := hd) ⟨hb.size, fun b hS hlt => ⟨hb.block b hlt, hS⟩⟩ (Keeps.refl hd) h.hl
    (fun i o g h1 h2 => (h.ob i o g h1 h2).keep ⟨hb.size, fun b hS hlt => ⟨hb.block b hlt, hS⟩⟩ (Keeps.refl hd) fun b e => hb.block b (h.own g b (List.mem_of_getElem? h2) e).2)
    (fun g b h1 h2 => ⟨(h.own g b h1 h2).1, Nat.lt_of_lt_of_le (h.own g b h1 h2).2 hb.size⟩) h.dist (fun b h1 _ => hb.block b h1) (fun g b h1 h2 => .inl ⟨g, h1, h2⟩)
  exact this
/-- A new own object, in a block that was not there. -/
theorem StR.new (h : StR C st hd a w) {w' : World} (hb : Below w.heap.size w w') (o : Ob) (g : Hd) (ho : ∀ b, g.own = some b → w.heap.size ≤ b ∧ b < w'.heap.size)
    (hr : ObR (vis C (hd ++ [g])) C.w0.heap.size w' (hd ++ [g]) o g) : StR C { st with heap := st.heap ++ [o] } (hd ++ [g]) a w' := by
  have hsz := h.below.size
  have hst : Stay (vis C hd) (vis C (hd ++ [g])) w w' := ⟨hb.size, fun b hS hlt => ⟨hb.block b hlt, hS.1, fun x hx => by
    rcases List.mem_append.1 hx with hx | hx
    · exact hS.2 x hx
    · simp at hx; subst hx; intro e; have := ho b e; omega⟩⟩
  have hk : Keeps some hd (hd ++ [g]) := fun i j x e hx => by
    cases e
    exact ⟨x, by rw [List.getElem?_append_left (List.getElem?_eq_some_iff.1 hx).1]; exact hx, .inl rfl⟩
  have cases_hd : ∀ i x, (hd ++ [g])[i]? = some x → hd[i]? = some x ∨ (i = hd.length ∧ x = g) := fun i x hx => by
    by_cases hi : i < hd.length
    · rw [List.getElem?_append_left hi] at hx; exact .inl hx
    · rw [List.getElem?_append_right (by omega)] at hx
      have : i - hd.length = 0 := by
        by_cases h0 : i - hd.length = 0
        · exact h0
        · obtain ⟨n, hn⟩ := Nat.exists_eq_succ_of_ne_zero h0; rw [hn] at hx; simp at hx
      rw [this] at hx
      exact .inr ⟨by omega, by simpa using hx.symm⟩
  refine h.change0 (hb.mono hsz) hst hk (by simp [h.hl]) (fun i o' x h1 h2 => ?_) (fun x b hx hb' => ?_) (fun i j hi hj b e1 e2 e3 e4 => ?_) (fun b h1 _ => hb.block b h1) (fun x b hx hb' => by
    rcases List.mem_append.1 hx with hx | hx
    · exact .inl ⟨x, hx, hb'⟩
    · simp at hx; subst hx; exact .inr (ho b hb').1)
  · rcases cases_hd i x h2 with h2 | ⟨rfl, rfl⟩
    · have hi := (List.getElem?_eq_some_iff.1 h2).1
      rw [List.getElem?_append_left (by rw [← h.hl]; exact hi)] at h1
      exact (h.ob i o' x h1 h2).keep hst hk fun b e => hb.block b (h.own x b (List.mem_of_getElem? h2) e).2
    · rw [List.getElem?_append_right (by rw [h.hl]; exact Nat.le_refl _), h.hl, Nat.sub_self] at h1
      obtain rfl : o = o' := by simpa using h1
      exact hr
  · rcases List.mem_append.1 hx with hx | hx
    · have := h.own x b hx hb'; exact ⟨this.1, Nat.lt_of_lt_of_le this.2 hb.size⟩
    · simp at hx; subst hx; have := ho b hb'; exact ⟨by omega, this.2⟩
  · rcases cases_hd i hi e1 with f1 | ⟨a1, b1⟩ <;> rcases cases_hd j hj e2 with f2 | ⟨a2, b2⟩
    · exact h.dist i j hi hj b f1 f2 e3 e4
    · have := (h.own hi b (List.mem_of_getElem? f1) e3).2; rw [b2] at e4; have := ho b e4; omega
    · have := (h.own hj b (List.mem_of_getElem? f2) e4).2; rw [b1] at e3; have := ho b e3; omega
    · omega
/-- One own object has changed; its block stays, or is new, or is given up. -/
theorem StR.set (h : StR C st hd a w) {w' : World} (π : Nat → Option Nat) (j : Nat) (o : Ob) (g0 g : Hd) (hj : hd[j]? = some g0) (hb : Below C.w0.heap.size w w') (hblk : ∀ b, b < w.heap.size → g0.own ≠ some b → w'.heap[b]? = w.heap[b]?)
    (ho : ∀ b, g.own = some b → C.w0.heap.size ≤ b ∧ b < w'.heap.size ∧ (g0.own = some b ∨ w.heap.size ≤ b)) (hp : Keeps π hd (hd.set j g))
    (hr : ObR (vis C (hd.set j g)) C.w0.heap.size w' (hd.set j g) o g) : StR C { nt := st.nt, tmps := st.tmps.map fun p => (p.1, p.2.ren π), heap := (st.heap.map (Ob.ren π)).set j o } (hd.set j g) a w' := by
  have hjl := (List.getElem?_eq_some_iff.1 hj).1
  have hst : Stay (vis C hd) (vis C (hd.set j g)) w w' := ⟨hb.size, fun b hS hlt => ⟨hblk b hlt (hS.2 g0 (List.mem_of_getElem? hj)), hS.1, fun x hx => by
    obtain ⟨i, hi⟩ := List.mem_iff_getElem?.1 hx
    rw [List.getElem?_set] at hi
    split at hi
    · rename_i e0; subst e0; try rw [if_pos hjl] at hi
      cases hi; intro e
      rcases (ho b e).2.2 with e | e
      · exact hS.2 g0 (List.mem_of_getElem? hj) e
      · omega
    · exact hS.2 x (List.mem_of_getElem? hi)⟩⟩
  have old : ∀ i x, (hd.set j g)[i]? = some x → (i = j ∧ x = g) ∨ (i ≠ j ∧ hd[i]? = some x) := fun i x hx => by
    rw [List.getElem?_set] at hx
    split at hx
    · rename_i e0; subst e0; try rw [if_pos hjl] at hx
      cases hx; exact .inl ⟨by omega, rfl⟩
    · exact .inr ⟨by omega, hx⟩
  refine h.change π hb hst hp (by simp [h.hl]) (fun i o' x h1 h2 => ?_) (fun x b hx hb' => ?_) (fun i k hi hk b e1 e2 e3 e4 => ?_) (fun b h1 h2 => hblk b h1 (h2 g0 (List.mem_of_getElem? hj))) (fun x b hx hb' => by
    obtain ⟨i, hi⟩ := List.mem_iff_getElem?.1 hx
    rcases old i x hi with ⟨_, rfl⟩ | ⟨_, hi⟩
    · rcases (ho b hb').2.2 with e | e
      · exact .inl ⟨g0, List.mem_of_getElem? hj, e⟩
      · exact .inr e
    · exact .inl ⟨x, List.mem_of_getElem? hi, hb'⟩)
  · rcases old i x h2 with ⟨rfl, rfl⟩ | ⟨hne, h2⟩
    · rw [List.getElem?_set_self (by simpa [h.hl] using hjl)] at h1
      cases h1; exact hr
    · rw [List.getElem?_set_ne (by omega), List.getElem?_map, Option.map_eq_some_iff] at h1
      obtain ⟨o1, h1, rfl⟩ := h1
      refine ObR.ren hst hp (fun b e => hblk b (h.own x b (List.mem_of_getElem? h2) e).2 fun e' => ?_) (h.ob i o1 x h1 h2)
      exact hne (h.dist i j x g0 b h2 hj e e')
  · obtain ⟨i, hi⟩ := List.mem_iff_getElem?.1 hx
    rcases old i x hi with ⟨_, rfl⟩ | ⟨_, hi⟩
    · have := ho b hb'; exact ⟨this.1, this.2.1⟩
    · have := h.own x b (List.mem_of_getElem? hi) hb'; exact ⟨this.1, Nat.lt_of_lt_of_le this.2 hb.size⟩
  · rcases old i hi e1 with ⟨a1, b1⟩ | ⟨n1, f1⟩ <;> rcases old k hk e2 with ⟨a2, b2⟩ | ⟨n2, f2⟩
    · omega
    · rw [b1] at e3
      rcases (ho b e3).2.2 with e | e
      · exact (n2 (h.dist k j hk g0 b f2 hj e4 e)).elim
      · have := (h.own hk b (List.mem_of_getElem? f2) e4).2; omega
    · rw [b2] at e4
      rcases (ho b e4).2.2 with e | e
      · exact (n1 (h.dist i j hi g0 b f1 hj e3 e)).elim
      · have := (h.own hi b (List.mem_of_getElem? f1) e3).2; omega
    · exact h.dist i k hi hk b f1 f2 e3 e4
end
end Go.Proofs.YtpgkpbfefnpagaaGreatDoor
namespace Go.Proofs.YtpgkpbfefnpagaaGreatDoor
open Go.RowKit

/-- What a type is. -/
inductive TK where
  | int (k : IntKind) | bool | str | slice (e : Nat) | array (n e : Nat) | struct (fs : List (Nat × Nat)) | map (kk : KK) (k e : Nat) | iface | plain
  deriving Inhabited, DecidableEq
structure TI where
  k : TK
  sz : Nat
  by_ : Nat
  zero : List SV
  eqi : Bool
  deriving Inhabited
def TK.isAgg : TK → Bool
  | .struct _ | .array _ _ => true
  | _ => false
def zm : SV → Value → Bool
  | .t (.int k n), .int k' n' => k == k' && n == n'
  | .t (.bool b), .bool b' => b == b'
  | .t .nilI, .nilIface => true
  | .nil, .slice none 0 0 => true
  | .t (.raw none 0 0), .slice none 0 0 => true
  | .t (.str s), .string s' => decide (s = s')
  | .t .undef, .nilFunc => true
  | .t .undef, .pointer _ => true
  | .t .undef, .map _ => true
  | _, _ => false
theorem zm_rep {S : Nat → Prop} {w : World} {hd : List Hd} {x : SV} {v : Value} (h : zm x v = true) : RepS S w hd x v ∧ v.oneCell' = true := by
  unfold zm at h
  split at h
  · simp at h; obtain ⟨rfl, rfl⟩ := h; exact ⟨.t _ _ (.int _ _), rfl⟩
  · simp at h; subst h; exact ⟨.t _ _ (.bool _), rfl⟩
  · exact ⟨.t _ _ .nilI, rfl⟩
  · exact ⟨.nil, rfl⟩
  · exact ⟨.t _ _ (.raw _ _ _), rfl⟩
  · simp at h; subst h; exact ⟨.t _ _ (.str _), rfl⟩
  · exact ⟨.t _ _ (.undef _), rfl⟩
  · exact ⟨.t _ _ (.undef _), rfl⟩
  · exact ⟨.t _ _ (.undef _), rfl⟩
  · simp at h
structure KeyFine (P : Program) (k : TypeId) (kk : KK) : Prop where
  keyed : Maps.Keyed P k
  lit : ∀ x : T, x.okKey kk = true → ∃ l, keyOf P k x.val = some l
def chkKey (P : Program) (k : TypeId) (kk : KK) : Bool := match kk, P.underlying k with
  | .int q, some (.int q') => decide (q = q')
  | .str, some .string => true
  | .ints m, some (.array n e) => decide (n = m) && P.keyType k && decide (k < P.types.size) && decide (P.cellsOf k = m) && decide (P.cellsOf e = 1) && (match P.underlying e with | some (.int q) => decide (q = .i64) | _ => false)
  | .ints m, some (.struct fs) => P.keyType k && decide (k < P.types.size) && decide (P.cellsOf k = m) && fs.toList.all fun f => f.name != "_" && decide (P.cellsOf f.type = 1) && decide (f.offset < m) && (match P.underlying f.type with | some (.int q) => decide (q = .i64) | _ => false)
  | _, _ => false
theorem mapM_some {α β : Type} {f : α → Option β} : ∀ {l : List α}, (∀ x ∈ l, ∃ y, f x = some y) → ∃ ys, l.mapM f = some ys
  | [], _ => ⟨[], rfl⟩
  | x :: l, h => by
    obtain ⟨y, hy⟩ := h x List.mem_cons_self
    obtain ⟨ys, hys⟩ := mapM_some (f := f) (l := l) fun z hz => h z (List.mem_cons_of_mem _ hz)
    exact ⟨y :: ys, by rw [List.mapM_cons, hy]; simp [hys]⟩
theorem keyLits_int {P : Program} {e : TypeId} (he : P.underlying e = some (.int .i64)) {n : Int} (h1 : -9223372036854775808 ≤ n) (h2 : n ≤ 9223372036854775807) (D : Nat) : P.keyLits (D + 1) e [.int .i64 n] = some [.int .i64 n] := by
  simp only [Program.keyLits, he]
  rw [if_pos]
  refine ⟨by trivial, ?_⟩
  simp only [Lit.wf, Bool.and_eq_true, decide_eq_true_eq]
  exact ⟨h1, h2⟩
theorem chkKey_ok {P : Program} (hl : laidOutB P = true) (hsmall : P.types.size + 2 ≤ 10000) {k : TypeId} {kk : KK} (h : chkKey P k kk = true) : KeyFine P k kk := by
  unfold chkKey at h
  split at h
  · rename_i q q' hu
    simp only [decide_eq_true_eq] at h
    subst h
    refine ⟨Maps.int_keyed hu, fun x hx => ?_⟩
    obtain ⟨n, rfl, h1, h2⟩ := okKey_int hx
    exact ⟨_, Maps.keyOf_int_mk hu (by simp only [Lit.wf, Bool.and_eq_true, decide_eq_true_eq]; exact ⟨h1, h2⟩)⟩
  · rename_i hu
    refine ⟨Maps.string_keyed hu, fun x hx => ?_⟩
    obtain ⟨s, rfl, hx⟩ := okKey_str hx
    refine ⟨.string s.data.toList, ?_⟩
    simp only [keyOf, hu, mapKey, T.val]
    rw [if_pos (by simp only [maxLen]; omega)]
  · rename_i m n e hu
    simp only [Bool.and_eq_true, decide_eq_true_eq] at h
    obtain ⟨⟨⟨⟨⟨rfl, h1⟩, h2⟩, h3⟩, h4⟩, h5⟩ := h
    have h6 : P.underlying e = some (.int .i64) := by
      split at h5
      · rename_i q hq; simp only [decide_eq_true_eq] at h5; subst h5; exact hq
      · cases h5
    refine ⟨Maps.Keyed.of_law (deep_law_gate hl hsmall h2 h1 (by rw [hu])), fun x hx => ?_⟩
    obtain ⟨l, rfl, hlen, hall⟩ := okKey_ints hx
    have hf : (T.val (.agg l)).formed P k = true := by simp [T.val, Value.formed, hu, hlen, h3]
    have : ∃ ls, P.keyLits (P.types.size + 1) k (T.val (.agg l)).cells.toList = some ls := by
      simp only [Program.keyLits, hu]
      rw [if_pos (by simp [T.val, Value.cells, hlen, h3])]
      obtain ⟨ys, hys⟩ := mapM_some (l := List.range n) (f := fun i => P.keyLits P.types.size e (((T.val (.agg l)).cells.toList.drop (i * P.cellsOf e)).take (P.cellsOf e))) fun i hi => by
        have hi' : i < l.length := by rw [hlen]; exact List.mem_range.1 hi
        obtain ⟨z, hz, z1, z2⟩ := inR_inv (hall _ (List.getElem_mem hi'))
        rw [h4, Nat.mul_one]
        have : ((T.val (.agg l)).cells.toList.drop i).take 1 = [.int .i64 z] := by
          simp only [T.val, Value.cells]
          rw [List.drop_eq_getElem_cons (by simpa using hi')]
          simp [hz]
        rw [this]
        obtain ⟨D, hD⟩ : ∃ D, P.types.size = D + 1 := ⟨P.types.size - 1, (Nat.succ_pred_eq_of_pos (Nat.lt_of_le_of_lt (Nat.zero_le _) h2)).symm⟩
        rw [hD]
        exact ⟨_, keyLits_int h6 z1 z2 D⟩
      rw [hys]
      exact ⟨_, rfl⟩
    obtain ⟨ls, hls⟩ := this
    refine ⟨.string (keyBytes ls), ?_⟩
    simp only [keyOf, hu, h1, hf, Bool.and_self, if_true, hls, Option.map_some]
  · rename_i m fs hu
    simp only [Bool.and_eq_true, decide_eq_true_eq, List.all_eq_true] at h
    obtain ⟨⟨⟨h1, h2⟩, h3⟩, h5⟩ := h
    refine ⟨Maps.Keyed.of_law (deep_law_gate hl hsmall h2 h1 (by rw [hu])), fun x hx => ?_⟩
    obtain ⟨l, rfl, hlen, hall⟩ := okKey_ints hx
    have hf : (T.val (.agg l)).formed P k = true := by simp [T.val, Value.formed, hu, hlen, h3]
    have : ∃ ls, P.keyLits (P.types.size + 1) k (T.val (.agg l)).cells.toList = some ls := by
      simp only [Program.keyLits, hu]
      rw [if_pos ⟨by simp [T.val, Value.cells, hlen, h3], by rw [Array.all_eq_true_iff_forall_mem]; exact fun f hf => (h5 f (by simpa using hf)).1.1.1⟩]
      obtain ⟨ys, hys⟩ := mapM_some (l := fs.toList) (f := fun f => P.keyLits P.types.size f.type (((T.val (.agg l)).cells.toList.drop f.offset).take (P.cellsOf f.type))) fun f hf => by
        obtain ⟨⟨⟨g1, g2⟩, g3⟩, g4⟩ := h5 f hf
        have g5 : P.underlying f.type = some (.int .i64) := by
          split at g4
          · rename_i q hq; simp only [decide_eq_true_eq] at g4; subst g4; exact hq
          · cases g4
        have hi' : f.offset < l.length := by omega
        obtain ⟨z, hz, z1, z2⟩ := inR_inv (hall _ (List.getElem_mem hi'))
        rw [g2]
        have : ((T.val (.agg l)).cells.toList.drop f.offset).take 1 = [.int .i64 z] := by
          simp only [T.val, Value.cells]
          rw [List.drop_eq_getElem_cons (by simpa using hi')]
          simp [hz]
        rw [this]
        obtain ⟨D, hD⟩ : ∃ D, P.types.size = D + 1 := ⟨P.types.size - 1, (Nat.succ_pred_eq_of_pos (Nat.lt_of_le_of_lt (Nat.zero_le _) h2)).symm⟩
        rw [hD]
        exact ⟨_, keyLits_int g5 z1 z2 D⟩
      rw [hys]
      exact ⟨_, rfl⟩
    obtain ⟨ls, hls⟩ := this
    refine ⟨.string (keyBytes ls), ?_⟩
    simp only [keyOf, hu, h1, hf, Bool.and_self, if_true, hls, Option.map_some]
  · cases h
def chkK (P : Program) (t : Nat) (k : TK) : Bool :=
  match k, P.underlying t with
  | .int k, some (.int k') => decide (k = k')
  | .bool, some .bool => true
  | .str, some .string => true
  | .slice e, some (.slice e') => e == e'
  | .array n e, some (.array n' e') => n == n' && e == e'
  | .struct fs, some (.struct fields) => fields.size == fs.length && (fs.zip fields.toList).all fun p => p.2.offset == p.1.1 && decide (0 < p.1.2) && (match P.info? p.2.type with | some fi => fi.size == p.1.2 | none => false)
  | .map kk k e, some (.map k' e') => k == k' && e == e' && chkKey P k kk
  | .iface, some (.interface _) => true
  | .plain, some d => (match d with | .struct _ | .array _ _ | .interface _ => false | _ => true)
  | _, _ => false
/-- Values of this type, numbers side by side, can be compared. -/
structure EqFine (P : Program) (t : TypeId) (n : Nat) : Prop where
  fine : KeyFine P t (.ints n)
  key : P.keyType t = true
  wide : (match P.underlying t with | some (.array _ _) | some (.struct _) => true | _ => false) = true
  guard : P.eqGuardType P.depth t = false
  small : P.types.size + 1 ≤ 10000
def chkEq (P : Program) (t : TypeId) (n : Nat) : Bool := chkKey P t (.ints n) && P.keyType t && (match P.underlying t with | some (.array _ _) | some (.struct _) => true | _ => false) && !P.eqGuardType P.depth t
theorem chkEq_ok {P : Program} (hl : laidOutB P = true) (hsmall : P.types.size + 2 ≤ 10000) {t n : Nat} (h : chkEq P t n = true) : EqFine P t n := by
  unfold chkEq at h
  simp only [Bool.and_eq_true, Bool.not_eq_true'] at h
  obtain ⟨⟨⟨h1, h2⟩, h3⟩, h4⟩ := h
  exact ⟨chkKey_ok hl hsmall h1, h2, h3, h4, by omega⟩
def chkTI (P : Program) (t : Nat) (i : TI) : Bool :=
  match P.info? t with
  | none => false
  | some inf => inf.size == i.sz && inf.bytes == i.by_ && decide (0 < i.sz) &&
    (match inf.zero with
      | some z => z.cells.size == i.zero.length && i.zero.length == i.sz && (i.zero.zip z.cells.toList).all (fun p => zm p.1 p.2) && (match z with | .agg _ => i.k.isAgg | .tuple _ => false | _ => !i.k.isAgg)
      | none => false) && chkK P t i.k && (!i.eqi || chkEq P t i.sz)
/-- A type's description. -/
def TK.says (P : Program) (t : Nat) : TK → Prop
  | .int k => P.underlying t = some (.int k)
  | .bool => P.underlying t = some .bool
  | .str => P.underlying t = some .string
  | .slice e => P.underlying t = some (.slice e)
  | .array n e => P.underlying t = some (.array n e)
  | .struct fs => ∃ fields : Array Field, P.underlying t = some (.struct fields) ∧ fields.size = fs.length ∧ ∀ (i : Nat) (f : Field) (o s : Nat), fields[i]? = some f → fs[i]? = some (o, s) → f.offset = o ∧ 0 < s ∧ ∃ fi, P.info? f.type = some fi ∧ fi.size = s
  | .map kk k e => P.underlying t = some (.map k e) ∧ KeyFine P k kk
  | .iface => ∃ ms, P.underlying t = some (.interface ms)
  | .plain => ∃ d, P.underlying t = some d ∧ (match d with | .struct _ | .array _ _ | .interface _ => false | _ => true) = true
structure TIok (P : Program) (t : Nat) (i : TI) : Prop where
  info : ∃ inf, P.info? t = some inf ∧ inf.size = i.sz ∧ inf.bytes = i.by_ ∧ ∃ z, inf.zero = some z ∧ z.cells.size = i.sz ∧ i.zero.length = i.sz ∧ (∀ (k : Nat) (x : SV) (v : Value), i.zero[k]? = some x → z.cells[k]? = some v → zm x v = true) ∧
    ((∃ cs, z = .agg cs ∧ i.k.isAgg = true) ∨ (z.oneCell' = true ∧ i.k.isAgg = false))
  pos : 0 < i.sz
  says : i.k.says P t
  eq : i.eqi = true → EqFine P t i.sz
theorem chkK_ok {P : Program} (hl : laidOutB P = true) (hsmall : P.types.size + 2 ≤ 10000) {t : Nat} {k : TK} (h : chkK P t k = true) : k.says P t := by
  unfold chkK at h
  split at h <;> rename_i hu <;> simp only [TK.says]
  · simp at h; subst h; exact hu
  · exact hu
  · exact hu
  · simp at h; subst h; exact hu
  · simp at h; obtain ⟨rfl, rfl⟩ := h; exact hu
  · simp only [Bool.and_eq_true, beq_iff_eq, List.all_eq_true] at h
    refine ⟨_, hu, h.1, fun k f o s hf ho => ?_⟩
    have := h.2 ((o, s), f) (List.mem_iff_getElem?.2 ⟨k, by rw [List.getElem?_zip_eq_some]; exact ⟨ho, by simpa using hf⟩⟩)
    simp only [Bool.and_eq_true, beq_iff_eq, decide_eq_true_eq] at this
    refine ⟨this.1.1, this.1.2, ?_⟩
    cases hfi : P.info? f.type with
    | none => simp [hfi] at this
    | some fi => exact ⟨fi, rfl, by simpa [hfi] using this.2⟩
  · simp only [Bool.and_eq_true, beq_iff_eq] at h; obtain ⟨⟨rfl, rfl⟩, h⟩ := h; exact ⟨hu, chkKey_ok hl hsmall h⟩
  · exact ⟨_, hu⟩
  · exact ⟨_, hu, h⟩
  · simp at h
theorem chkTI_ok {P : Program} (hl : laidOutB P = true) (hsmall : P.types.size + 2 ≤ 10000) {t : Nat} {i : TI} (h : chkTI P t i = true) : TIok P t i := by
  unfold chkTI at h
  cases hi : P.info? t with
  | none => simp [hi] at h
  | some inf =>
    simp only [hi, Bool.and_eq_true, beq_iff_eq, decide_eq_true_eq] at h
    obtain ⟨⟨⟨⟨⟨h1, h2⟩, h3⟩, h4⟩, h5⟩, h6⟩ := h
    refine ⟨⟨inf, hi, h1, h2, ?_⟩, h3, chkK_ok hl hsmall h5, fun he => by rw [he] at h6; exact chkEq_ok hl hsmall (by simpa using h6)⟩
    cases hz : inf.zero with
    | none => simp [hz] at h4
    | some z =>
      simp only [hz, Bool.and_eq_true, beq_iff_eq] at h4
      obtain ⟨⟨⟨a, b⟩, c⟩, d⟩ := h4
      refine ⟨z, rfl, by omega, b, fun k x v hx hv => ?_, ?_⟩
      · rw [List.all_eq_true] at c
        refine c (x, v) (List.mem_iff_getElem?.2 ⟨k, ?_⟩)
        rw [List.getElem?_zip_eq_some]
        exact ⟨hx, by simpa using hv⟩
      · cases z <;> simp_all [Value.oneCell']
def TTok (P : Program) (tt : Nat → Option TI) : Prop := ∀ t i, tt t = some i → TIok P t i

section
variable {P : Program} {t : Nat} {i : TI}
theorem TIok.sizeOf (h : TIok P t i) (w : World) : (sizeOf t).run P w = .ok i.sz w := by
  obtain ⟨inf, h1, h2, _⟩ := h.info
  simp [Go.sizeOf, typeInfo, h1, h2]
theorem TIok.isAgg (h : TIok P t i) (w : World) : (isAgg t).run P w = .ok i.k.isAgg w := by
  have hs := h.says
  have : ∃ d, P.underlying t = some d ∧ (match d with | .struct _ | .array _ _ => true | _ => false) = i.k.isAgg := by
    cases hk : i.k <;> simp only [hk, TK.says] at hs
    case struct => obtain ⟨f, h1, _⟩ := hs; exact ⟨_, h1, rfl⟩
    case iface => obtain ⟨f, h1⟩ := hs; exact ⟨_, h1, rfl⟩
    case plain => obtain ⟨d, h1, h2⟩ := hs; refine ⟨d, h1, ?_⟩; cases d <;> simp_all [TK.isAgg]
    case map => exact ⟨_, hs.1, rfl⟩
    all_goals exact ⟨_, hs, rfl⟩
  obtain ⟨d, h1, h2⟩ := this
  unfold Go.isAgg
  rw [Sem.run_bind, run_underlying h1 w, ← h2]
  cases d <;> simp
end

def ofConst : Value → SV
  | .int k n => .t (.int k n)
  | .bool b => .t (.bool b)
  | .string s => .t (.str s)
  | .nilIface => .t .nilI
  | .slice none 0 0 => .nil
  | _ => .t .undef
def St.ev (st : St) : Operand → SV
  | .tmp t => st.get t
  | .const v => ofConst v
  | .func f => .t (.fn f [])
  | .global _ => .t .undef
theorem ofConst_rep (S : Nat → Prop) (w : World) (hd : List Hd) (v : Value) : RepS S w hd (ofConst v) v := by
  unfold ofConst
  split
  · exact .t _ _ (.int _ _)
  · exact .t _ _ (.bool _)
  · exact .t _ _ (.str _)
  · exact .t _ _ .nilI
  · exact .nil
  · exact .t _ _ (.undef _)
theorem StR.ev {C : Ctx} {st : St} {hd : List Hd} {a : Act} {w : World} (h : StR C st hd a w) (x : Operand) : RepS (vis C hd) w hd (st.ev x) (a.eval x) := by
  cases x with
  | tmp t => exact h.get t
  | const v => exact ofConst_rep _ _ _ v
  | func f => exact .t _ _ (.fn f [] #[] rfl fun k y v a => by simp at a)
  | global g => exact .t _ _ (.undef _)

/-- Operators on data. -/
def isConst : Operand → Bool
  | .const _ => true
  | _ => false
def T.bin (k : TK) (c : Bool) (op : BinOp) : T → T → Option T
  | .int i a, .int j b => match op with
    | .shl => if b < 0 then none else some (.int i (i.wrap (a * 2 ^ (min b.toNat i.bits))))
    | .shr => if b < 0 then none else some (.int i (a.fdiv (2 ^ (min b.toNat i.bits))))
    | .add => if i = j then some (.int i (i.wrap (a + b))) else none
    | .sub => if i = j then some (.int i (i.wrap (a - b))) else none
    | .mul => if i = j then some (.int i (i.wrap (a * b))) else none
    | .quo => if i = j then (if b = 0 then none else some (.int i (i.wrap (a.tdiv b)))) else none
    | .rem => if i = j then (if b = 0 then none else some (.int i (a.tmod b))) else none
    | .and => if i = j then some (.int i (i.wrap (BitVec.ofInt i.bits a &&& BitVec.ofInt i.bits b).toNat)) else none
    | .or => if i = j then some (.int i (i.wrap (BitVec.ofInt i.bits a ||| BitVec.ofInt i.bits b).toNat)) else none
    | .xor => if i = j then some (.int i (i.wrap (BitVec.ofInt i.bits a ^^^ BitVec.ofInt i.bits b).toNat)) else none
    | .andNot => none
    | .eql => if i = j then some (.bool (decide (a = b))) else none
    | .neq => if i = j then some (.bool (!decide (a = b))) else none
    | .lss => if i = j then some (.bool (decide (a < b))) else none
    | .leq => if i = j then some (.bool (decide (a ≤ b))) else none
    | .gtr => if i = j then some (.bool (decide (b < a))) else none
    | .geq => if i = j then some (.bool (decide (b ≤ a))) else none
  | .bool a, .bool b => if k = .bool then (match op with
    | .eql => some (.bool (a == b))
    | .neq => some (.bool (!(a == b)))
    | _ => none) else none
  | .str a, .str b => match op with
    | .eql => some (.bool (a.toList == b.toList))
    | .neq => some (.bool (!(a.toList == b.toList)))
    | .add => if a.size + b.size ≤ 4611686018427387904 then some (.str (a ++ b)) else none
    | _ => none
  | .nilI, .nilI => if k = .iface ∧ c = true then (match op with
    | .eql => some (.bool true)
    | .neq => some (.bool false)
    | _ => none) else none
  | .nilI, .iface _ _ | .iface _ _, .nilI => if k = .iface then (match op with
    | .eql => some (.bool false)
    | .neq => some (.bool true)
    | _ => none) else none
  | _, _ => none
theorem equal_one (t : TypeId) (x y : Value) : Op.equal t x y = Op.equalIn (9999 + 1) t x y := rfl
theorem run_equal_bool {P : Program} {t : Nat} (hs : P.underlying t = some .bool) (w : World) (a b : Bool) : (Op.equal t (.bool a) (.bool b)).run P w = .ok (a == b) w := by
  rw [equal_one]; unfold Op.equalIn; rw [Sem.run_bind, run_underlying hs]; rfl
theorem run_equal_nil {P : Program} {t : Nat} {ms} (hs : P.underlying t = some (.interface ms)) (w : World) : (Op.equal t .nilIface .nilIface).run P w = .ok true w := by
  rw [equal_one]; unfold Op.equalIn; rw [Sem.run_bind, run_underlying hs]; rfl
theorem run_equal_nil1 {P : Program} {t : Nat} {ms} (hs : P.underlying t = some (.interface ms)) (w : World) (u : Nat) (v : Value) : (Op.equal t .nilIface (.iface u v)).run P w = .ok false w := by
  rw [equal_one]; unfold Op.equalIn; rw [Sem.run_bind, run_underlying hs]; rfl
theorem run_equal_nil2 {P : Program} {t : Nat} {ms} (hs : P.underlying t = some (.interface ms)) (w : World) (u : Nat) (v : Value) : (Op.equal t (.iface u v) .nilIface).run P w = .ok false w := by
  rw [equal_one]; unfold Op.equalIn; rw [Sem.run_bind, run_underlying hs]; rfl
theorem run_eql {P : Program} {t : Nat} {w : World} {u v : Value} {b : Bool} (h : (Op.equal t u v).run P w = .ok b w) : (do pure (.bool (← Op.equal t u v)) : Sem Value).run P w = .ok (.bool b) w := by
  rw [Sem.run_bind, h]; rfl
theorem run_neq {P : Program} {t : Nat} {w : World} {u v : Value} {b : Bool} (h : (Op.equal t u v).run P w = .ok b w) : (do pure (.bool (!(← Op.equal t u v))) : Sem Value).run P w = .ok (.bool !b) w := by
  rw [Sem.run_bind, h]; rfl
/-- Numbers side by side, compared. -/
def eqIs : List T → List T → Bool
  | .int _ a :: l, .int _ b :: m => decide (a = b) && eqIs l m
  | [], [] => true
  | _, _ => false
theorem eqIs_iff : ∀ {l m : List T}, l.length = m.length → (∀ y ∈ l, y.inR = true) → (∀ y ∈ m, y.inR = true) → (eqIs l m = true ↔ l = m)
  | [], [], _, _, _ => by simp [eqIs]
  | x :: l, y :: m, hl, h1, h2 => by
    obtain ⟨a, rfl, _⟩ := inR_inv (h1 x List.mem_cons_self)
    obtain ⟨b, rfl, _⟩ := inR_inv (h2 y List.mem_cons_self)
    have ih := eqIs_iff (l := l) (m := m) (by simpa using hl) (fun z hz => h1 z (List.mem_cons_of_mem _ hz)) (fun z hz => h2 z (List.mem_cons_of_mem _ hz))
    simp only [eqIs, Bool.and_eq_true, decide_eq_true_eq, ih, List.cons.injEq, T.int.injEq, true_and]
def T.beqA (i : TI) (op : BinOp) : T → T → Option T
  | .agg l, .agg m => if i.eqi = true ∧ (T.agg l).okKey (.ints i.sz) = true ∧ (T.agg m).okKey (.ints i.sz) = true then (match op with
    | .eql => some (.bool (eqIs l m))
    | .neq => some (.bool (!eqIs l m))
    | _ => none) else none
  | _, _ => none
theorem beqA_ok {S : Nat → Prop} {P : Program} {w : World} {t : Nat} {i : TI} (ht : TIok P t i) {op : BinOp} {p q r : T} {x y : Operand} {u v : Value} (h : T.beqA i op p q = some r)
    (hp : RepT S w p u) (hq : RepT S w q v) : ∃ z, (do eqGuard op t x y u v; binOp op t u v : Sem Value).run P w = .ok z w ∧ RepT S w r z := by
  unfold T.beqA at h
  split at h
  · rename_i l m
    split at h
    · rename_i hc
      obtain ⟨hc, k1, k2⟩ := hc
      have E := ht.eq hc
      have e1 := okKey_val k1 hp
      have e2 := okKey_val k2 hq
      obtain ⟨l1, f1⟩ := E.fine.lit _ k1
      obtain ⟨l2, f2⟩ := E.fine.lit _ k2
      obtain ⟨b, r1, r2⟩ := run_equal_deep w E.small E.key E.wide f1 f2
      have hiff : b = true ↔ l = m := by
        rw [r2]
        constructor
        · intro e
          rw [← e] at f2
          have := okKey_inj k1 k2 (E.fine.keyed.inj f1 f2)
          simpa using this
        · intro e
          subst e
          rw [f1] at f2; exact Option.some.inj f2
      have hb : b = eqIs l m := by
        obtain ⟨q1, e3, n1, a1⟩ := okKey_ints k1
        obtain ⟨q2, e4, n2, a2⟩ := okKey_ints k2
        cases e3; cases e4
        rw [Bool.eq_iff_iff, hiff, eqIs_iff (by omega) a1 a2]
      obtain ⟨us, hus⟩ : ∃ us, (T.agg l).val = .agg us := ⟨_, rfl⟩
      obtain ⟨vs, hvs⟩ : ∃ vs, (T.agg m).val = .agg vs := ⟨_, rfl⟩
      rw [hus] at e1 r1
      rw [hvs] at e2 r1
      subst e1 e2
      have hg := run_eqGuard_agg (P := P) w op t x y us vs E.guard
      have hq : (binOp .eql t (.agg us) (.agg vs)).run P w = .ok (.bool b) w := by
        have : (binOp .eql t (.agg us) (.agg vs)).run P w = ((Op.equal t (.agg us) (.agg vs)).run P w).andThen fun b w' => .ok (.bool b) w' := run_eql_struct w t us vs
        rw [this, r1]; rfl
      have hn : (binOp .neq t (.agg us) (.agg vs)).run P w = .ok (.bool (!b)) w := by
        have : (binOp .neq t (.agg us) (.agg vs)).run P w = ((Op.equal t (.agg us) (.agg vs)).run P w).andThen fun b w' => .ok (.bool (!b)) w' := run_neq_struct w t us vs
        rw [this, r1]; rfl
      split at h
      · cases h
        exact ⟨.bool b, by rw [Sem.run_bind, hg, Result.andThen_ok]; exact hq, by rw [hb]; exact .bool _⟩
      · cases h
        exact ⟨.bool (!b), by rw [Sem.run_bind, hg, Result.andThen_ok]; exact hn, by rw [hb]; exact .bool _⟩
      · cases h
    · cases h
  · cases h
theorem bin_ok {S : Nat → Prop} {P : Program} {w : World} {t : Nat} {i : TI} (ht : TIok P t i) {op : BinOp} {p q r : T} {x y : Operand} {u v : Value} (h : T.bin i.k (isConst x || isConst y) op p q = some r)
    (hp : RepT S w p u) (hq : RepT S w q v) : ∃ z, (do eqGuard op t x y u v; binOp op t u v : Sem Value).run P w = .ok z w ∧ RepT S w r z := by
  have hs := ht.says
  have g0 : ∀ {u v : Value}, (∀ (h1 : u = .nilIface) (h2 : v = .nilIface), (isConst x || isConst y) = true) → (∀ a b, u = .agg a → v = .agg b → False) → (eqGuard op t x y u v).run P w = .ok () w := by
    intro u v h1 h2
    cases op <;> first
      | (simp [eqGuard]; done)
      | (cases u <;> cases v <;> first
          | (simp [eqGuard]; done)
          | exact (h2 _ _ rfl rfl).elim
          | (have := h1 rfl rfl; cases x <;> cases y <;> simp [isConst] at this <;> simp [eqGuard]))
  unfold T.bin at h
  split at h
  · cases hp; cases hq
    rw [Sem.run_bind, g0 (by simp) (by simp)]
    simp only [Result.andThen_ok]
    cases op <;> simp only at h <;> (try split at h) <;> (try split at h) <;> simp at h <;> (try subst_vars) <;>
      refine ⟨_, by (simp [binOp, Op.shift, Op.intArith, Op.intDiv, Op.intBits, Op.intCmp, *] <;> rfl), ?_⟩ <;> first | exact .int _ _ | exact .bool _
  · cases hp; cases hq
    split at h
    · rename_i hk
      simp only [hk, TK.says] at hs
      rw [Sem.run_bind, g0 (by simp) (by simp)]
      simp only [Result.andThen_ok]
      cases op <;> simp only at h <;> (try simp at h) <;> subst h
      · exact ⟨_, run_eql (run_equal_bool hs w _ _), .bool _⟩
      · exact ⟨_, run_neq (run_equal_bool hs w _ _), .bool _⟩
    · simp at h
  · cases hp; cases hq
    rw [Sem.run_bind, g0 (by simp) (by simp)]
    simp only [Result.andThen_ok]
    cases op <;> simp only at h <;> (try simp at h) <;> (try subst h)
    · obtain ⟨h1, rfl⟩ := h
      refine ⟨_, ?_, .str _⟩
      simp only [binOp, Op.stringOp]
      rw [if_neg (by show ¬ (((_ + _ : Nat) : Int) > 9223372036854775807); omega)]
      rfl
    · exact ⟨_, rfl, .bool _⟩
    · exact ⟨_, rfl, .bool _⟩
  · cases hp; cases hq
    split at h
    · rename_i hk
      obtain ⟨hk, hc⟩ := hk
      simp only [hk, TK.says] at hs
      obtain ⟨ms, hs⟩ := hs
      rw [Sem.run_bind, g0 (fun _ _ => hc) (by simp)]
      simp only [Result.andThen_ok]
      cases op <;> simp only at h <;> (try simp at h) <;> subst h
      · exact ⟨_, run_eql (run_equal_nil hs w), .bool _⟩
      · exact ⟨_, run_neq (run_equal_nil hs w), .bool _⟩
    · simp at h
  · cases hp; cases hq
    split at h
    · rename_i hk
      simp only [hk, TK.says] at hs
      obtain ⟨ms, hs⟩ := hs
      rw [Sem.run_bind, g0 (by simp) (by simp)]
      simp only [Result.andThen_ok]
      cases op <;> simp only at h <;> (try simp at h) <;> subst h
      · exact ⟨_, run_eql (run_equal_nil1 hs w _ _), .bool _⟩
      · exact ⟨_, run_neq (run_equal_nil1 hs w _ _), .bool _⟩
    · simp at h
  · cases hp; cases hq
    split at h
    · rename_i hk
      simp only [hk, TK.says] at hs
      obtain ⟨ms, hs⟩ := hs
      rw [Sem.run_bind, g0 (by simp) (by simp)]
      simp only [Result.andThen_ok]
      cases op <;> simp only at h <;> (try simp at h) <;> subst h
      · exact ⟨_, run_eql (run_equal_nil2 hs w _ _), .bool _⟩
      · exact ⟨_, run_neq (run_equal_nil2 hs w _ _), .bool _⟩
    · simp at h
  · simp at h

def St.obj (st : St) (i : Nat) : Ob := (st.heap[i]?).getD .gone
/-- What a slice holds. -/
def St.lst (st : St) : SV → Option (List T)
  | .t (.list l) => some l
  | .nil => some []
  | .lit l => some l
  | .sref i => match st.obj i with
    | .row _ _ _ l => some l
    | .froz l => some l
    | _ => none
  | _ => none
def allT : List SV → Option (List T)
  | [] => some []
  | .t x :: r => (allT r).map (x :: ·)
  | _ :: _ => none
def mkAgg (l : List SV) : SV := match allT l with
  | some ts => .t (.agg ts)
  | none => .agg l
def loadT (i : TI) (l : List T) : Option T :=
  if i.k.isAgg then (if i.sz ≤ l.length then some (.agg (l.take i.sz)) else none) else l.head?
def loadS (i : TI) (l : List SV) : Option SV :=
  if i.k.isAgg then (if i.sz ≤ l.length then some (mkAgg (l.take i.sz)) else none) else l.head?
def St.load (st : St) (i : TI) : SV → Option SV
  | .t (.ptr l) => (loadT i l).map .t
  | .bptr j off => match st.obj j with
    | .box l => loadS i (l.drop off)
    | .fbox l => (loadT i (l.drop off)).map .t
    | _ => none
  | .eptr j sz k off => match st.obj j with
    | .row _ sz' _ l => if sz = sz' then (match l[k]? with
      | some x => (loadT i (x.cells.drop off)).map .t
      | none => none) else none
    | _ => none
  | _ => none
def treeIndex (isz : Nat) (l : List T) (n : Int) : Option SV :=
  if 0 ≤ n then match l[n.toNat]? with
    | some x => if x.cells.length = isz then some (.t (.ptr x.cells)) else none
    | none => none
  else none
/-- An element's place. -/
def St.index (st : St) (isz : Nat) (n : Int) : SV → Option SV
  | .t (.list l) => treeIndex isz l n
  | .lit l => treeIndex isz l n
  | .sref j => match st.obj j with
    | .row _ sz _ l => if sz = isz ∧ 0 ≤ n ∧ n < l.length then some (.eptr j sz n.toNat 0) else none
    | .froz l => treeIndex isz l n
    | _ => none
  | _ => none
/-- A part's place. -/
def SV.plus (o : Nat) : SV → Option SV
  | .t (.ptr l) => some (.t (.ptr (l.drop o)))
  | .bptr j off => some (.bptr j (off + o))
  | .eptr j sz k off => some (.eptr j sz k (off + o))
  | _ => none
end Go.Proofs.YtpgkpbfefnpagaaGreatDoor
namespace Go.Proofs.YtpgkpbfefnpagaaGreatDoor
open Go.RowKit

section
variable {P : Program} {S : Nat → Prop} {w : World} {t : Nat} {i : TI}
/-- The cells behind an address, loaded. -/
theorem run_loadVar_at (ht : TIok P t i) (b off : Nat) (xs : Nat → Value) (hc : ∀ k, k < i.sz → w.cell? ⟨b, off + k, none⟩ = some (xs k)) :
    (loadVar t ⟨b, off, none⟩).run P w = .ok (if i.k.isAgg then .agg ((List.range i.sz).map xs).toArray else xs 0) w := by
  unfold loadVar
  rw [Sem.run_bind, ht.isAgg w]
  simp only [Result.andThen_ok]
  cases hk : i.k.isAgg
  · have := hc 0 ht.pos
    simp only [Nat.add_zero] at this
    simp [this]
  · simp only [if_true]
    rw [Sem.run_bind, ht.sizeOf w]
    simp only [Result.andThen_ok]
    rw [Sem.run_bind, run_loadCells (P := P) w ⟨b, off, none⟩ i.sz xs (fun j hj => by rw [Addr.add_lit]; exact hc j hj)]
    rfl
theorem loadT_ok (ht : TIok P t i) {l : List T} {y : T} {b off : Nat} {xs : Nat → Value} (h : loadT i l = some y) (hc : ∀ k, k < l.length → w.cell? ⟨b, off + k, none⟩ = some (xs k)) (h1 : ∀ k, k < l.length → (xs k).oneCell' = true)
    (hx : ∀ (k : Nat) (y : T), l[k]? = some y → RepT S w y (xs k)) : ∃ v, (loadVar t ⟨b, off, none⟩).run P w = .ok v w ∧ RepT S w y v := by
  unfold loadT at h
  have hl : i.sz ≤ l.length ∨ (i.k.isAgg = false ∧ 0 < l.length) := by
    cases hk : i.k.isAgg <;> simp only [hk] at h
    · right; cases l <;> simp at h ⊢
    · left; simp at h; exact h.1
  have hk1 : i.k.isAgg = false → i.sz = 1 := fun hk => by
    obtain ⟨inf, _, _, _, z, _, hz, _, _, hz2⟩ := ht.info
    rcases hz2 with ⟨cs, _, e⟩ | ⟨e, _⟩
    · rw [hk] at e; cases e
    · cases z <;> simp_all [Value.cells, Value.oneCell']
  have hle : i.sz ≤ l.length := by rcases hl with h | ⟨h, h2⟩; exact h; have := hk1 h; omega
  refine ⟨_, run_loadVar_at ht b off xs fun k hk => hc k (by omega), ?_⟩
  cases hk : i.k.isAgg <;> simp only [hk] at h ⊢
  · simp only [Bool.false_eq_true, if_false] at h ⊢
    exact hx 0 y (by cases l <;> simp_all)
  · simp only [if_true, if_pos hle, Option.some.injEq] at h ⊢
    subst h
    refine .agg _ _ (by simp; omega) (fun k v hv => ?_) (fun k y v a b => ?_)
    · simp only [List.getElem?_toArray, List.getElem?_map, List.getElem?_range, Option.map_eq_some_iff] at hv
      obtain ⟨z, hz, rfl⟩ := hv
      rw [List.getElem?_eq_some_iff] at hz
      obtain ⟨h3, rfl⟩ := hz
      simp at h3 ⊢
      exact h1 _ (by omega)
    · simp only [List.getElem?_toArray, List.getElem?_map, Option.map_eq_some_iff] at b
      obtain ⟨z, hz, rfl⟩ := b
      rw [List.getElem?_eq_some_iff] at hz
      obtain ⟨h3, rfl⟩ := hz
      rw [List.getElem?_take] at a
      split at a
      · simp; exact hx k y a
      · cases a
end

section
variable {P : Program} {C : Ctx} {st : St} {hd : List Hd} {a : Act} {w : World} {t : Nat} {i : TI}
theorem obj_some {j : Nat} {o : Ob} (h : st.obj j = o) (hg : o ≠ .gone) : st.heap[j]? = some o := by
  unfold St.obj at h
  cases e : st.heap[j]? with
  | none => simp [e] at h; exact (hg h.symm).elim
  | some x => simp [e] at h; rw [h]
theorem row_cells {S : Nat → Prop} {B e sz : Nat} {wr : Bool} {l : List T} {ad : Option Addr} {n cap : Nat} {o : Option Nat} (h : ObR S B w hd (.row e sz wr l) (.sl ad n cap o)) :
    ∃ xs : Nat → Value, (l ≠ [] → ∃ b, ad = some ⟨b, 0, none⟩ ∧ ∀ k, k < l.length * sz → w.cell? ⟨b, k, none⟩ = some (xs k)) ∧ (∀ k, k < l.length * sz → (xs k).oneCell' = true) ∧ ∀ (k : Nat) (y : T), (flat l)[k]? = some y → RepT S w y (xs k) := by
  obtain ⟨h1, h2, h3, h4, h5⟩ := h
  have hfl := flat_length h4
  rcases h5 with ⟨xs, a, _, c⟩ | ⟨_, _, rfl, b, e1, d⟩
  · have hlen : xs.length = l.length * sz := by rw [c.len, hfl]
    refine ⟨fun k => xs.getD k undef, fun hne => ?_, fun k hk => ?_, fun k y hy => ?_⟩
    · have hpos : 0 < l.length := List.length_pos_iff.2 hne
      rcases a.2 with ⟨e1, e2⟩ | ⟨g, cap', cur, e1, _, hg, _, _, _, ht⟩
      · omega
      · cases e1
        refine ⟨g, rfl, fun k hk => ?_⟩
        show _ = some (xs.getD k undef)
        rw [cell_of_row w g k cur e (0, 0) hg, List.getD_eq_getElem?_getD, List.getElem?_eq_getElem (by omega), Option.getD_some]
        have : xs[k]? = (cur.toList.take (n * sz))[k]? := by rw [ht]
        rw [List.getElem?_take, if_pos (by rw [h1]; exact hk), List.getElem?_eq_getElem (by omega)] at this
        simpa using this.symm
    · show (xs.getD k undef).oneCell' = true
      rw [List.getD_eq_getElem?_getD, List.getElem?_eq_getElem (by omega)]
      exact c.one _ (List.getElem_mem _)
    · have hk := (List.getElem?_eq_some_iff.1 hy).1
      refine c.rep k y _ hy ?_
      show _ = some (xs.getD k undef)
      rw [List.getD_eq_getElem?_getD, List.getElem?_eq_getElem (by omega)]; rfl
  · subst h1
    obtain ⟨a', cap', sz', xs, hv, hm, h0, hf, ha, h1', hx⟩ := d.listInv
    cases hv
    refine ⟨xs, fun hne => ?_, fun k hk => ?_, hx⟩
    · obtain ⟨b', off, e2, _, hc⟩ := ha hne
      have hz : sz' = sz := by
        cases l with
        | nil => exact (hne rfl).elim
        | cons q r => rw [← hf q List.mem_cons_self, h4 q List.mem_cons_self]
      subst hz
      rw [e1] at e2
      cases e2
      exact ⟨b, e1, fun k hk => by simpa using hc k hk⟩
    · by_cases hne : l = []
      · subst hne; simp at hk
      · have hz : sz' = sz := by
          cases l with
          | nil => exact (hne rfl).elim
          | cons q r => rw [← hf q List.mem_cons_self, h4 q List.mem_cons_self]
        subst hz
        exact h1' k hk
theorem allT_spec : ∀ {l : List SV} {ts : List T}, allT l = some ts → l = ts.map SV.t
  | [], ts, h => by simp [allT] at h; subst h; rfl
  | .t x :: r, ts, h => by
    simp only [allT, Option.map_eq_some_iff] at h
    obtain ⟨u, hu, rfl⟩ := h
    rw [allT_spec hu]; rfl
  | .nil :: r, ts, h => by simp [allT] at h
  | .lit _ :: r, ts, h => by simp [allT] at h
  | .agg _ :: r, ts, h => by simp [allT] at h
  | .sref _ :: r, ts, h => by simp [allT] at h
  | .bptr _ _ :: r, ts, h => by simp [allT] at h
  | .eptr _ _ _ _ :: r, ts, h => by simp [allT] at h
  | .map _ :: r, ts, h => by simp [allT] at h
  | .fn _ _ :: r, ts, h => by simp [allT] at h
  | .pin _ _ :: r, ts, h => by simp [allT] at h
  | .pinS _ _ _ _ :: r, ts, h => by simp [allT] at h
theorem RepS.toT {S : Nat → Prop} {x : T} {v : Value} (h : RepS S w hd (.t x) v) : RepT S w x v := by cases h; assumption
theorem mkAgg_rep {S : Nat → Prop} {l : List SV} {vs : Array Value} (hl : vs.size = l.length) (h1 : ∀ (k : Nat) (v : Value), vs[k]? = some v → v.oneCell' = true) (hx : ∀ (k : Nat) (y : SV) (v : Value), l[k]? = some y → vs[k]? = some v → RepS S w hd y v) :
    RepS S w hd (mkAgg l) (.agg vs) := by
  unfold mkAgg
  split
  · rename_i ts hts
    have := allT_spec hts
    subst this
    refine .t _ _ (.agg ts vs (by simpa using hl) h1 fun k y v a b => ?_)
    exact (hx k (.t y) v (by simp [a]) b).toT
  · exact .agg l vs hl h1 hx
theorem loadS_ok {S : Nat → Prop} (ht : TIok P t i) {l : List SV} {y : SV} {b off : Nat} {xs : Nat → Value} (h : loadS i l = some y) (hc : ∀ k, k < l.length → w.cell? ⟨b, off + k, none⟩ = some (xs k)) (h1 : ∀ k, k < l.length → (xs k).oneCell' = true)
    (hx : ∀ (k : Nat) (y : SV), l[k]? = some y → RepS S w hd y (xs k)) : ∃ v, (loadVar t ⟨b, off, none⟩).run P w = .ok v w ∧ RepS S w hd y v := by
  unfold loadS at h
  have hl : i.sz ≤ l.length ∨ (i.k.isAgg = false ∧ 0 < l.length) := by
    cases hk : i.k.isAgg <;> simp only [hk] at h
    · right; cases l <;> simp at h ⊢
    · left; simp at h; exact h.1
  have hk1 : i.k.isAgg = false → i.sz = 1 := fun hk => by
    obtain ⟨inf, _, _, _, z, _, hz, _, _, hz2⟩ := ht.info
    rcases hz2 with ⟨cs, _, e⟩ | ⟨e, _⟩
    · rw [hk] at e; cases e
    · cases z <;> simp_all [Value.cells, Value.oneCell']
  have hle : i.sz ≤ l.length := by rcases hl with h | ⟨h, h2⟩; exact h; have := hk1 h; omega
  refine ⟨_, run_loadVar_at ht b off xs fun k hk => hc k (by omega), ?_⟩
  cases hk : i.k.isAgg <;> simp only [hk] at h ⊢
  · simp only [Bool.false_eq_true, if_false] at h ⊢
    exact hx 0 y (by cases l <;> simp_all)
  · simp only [if_true, if_pos hle, Option.some.injEq] at h ⊢
    subst h
    refine mkAgg_rep (by simp; omega) (fun k v hv => ?_) (fun k y v a b => ?_)
    · simp only [List.getElem?_toArray, List.getElem?_map, Option.map_eq_some_iff] at hv
      obtain ⟨z, hz, rfl⟩ := hv
      rw [List.getElem?_eq_some_iff] at hz
      obtain ⟨h3, rfl⟩ := hz
      simp at h3 ⊢
      exact h1 _ (by omega)
    · simp only [List.getElem?_toArray, List.getElem?_map, Option.map_eq_some_iff] at b
      obtain ⟨z, hz, rfl⟩ := b
      rw [List.getElem?_eq_some_iff] at hz
      obtain ⟨h3, rfl⟩ := hz
      rw [List.getElem?_take] at a
      split at a
      · simp; exact hx k y a
      · cases a
theorem load_ok (hr : StR C st hd a w) (ht : TIok P t i) {x y : SV} {v : Value} (h : st.load i x = some y) (hx : RepS (vis C hd) w hd x v) : ∃ u, (Instr.loadAt t v).run P w = .ok u w ∧ RepS (vis C hd) w hd y u := by
  unfold St.load at h
  split at h
  · simp only [Option.map_eq_some_iff] at h
    obtain ⟨z, hz, rfl⟩ := h
    have := hx.toT
    obtain ⟨b, off, xs, rfl, hS, hlt, hc, h1, hx'⟩ := this.ptrInv
    obtain ⟨u, hu, hru⟩ := loadT_ok ht hz hc h1 hx'
    exact ⟨u, by simpa [Instr.loadAt, Instr.sureAddr] using hu, .t _ _ hru⟩
  · rename_i j off
    split at h
    · rename_i l ho
      cases hx
      rename_i b o hb
      have := hr.ob j _ _ (obj_some ho (by simp)) hb
      obtain ⟨_, vs, ty, e1, e2, e3, e4⟩ := this
      have hlen : ∀ k, k < (l.drop off).length → off + k < vs.size := fun k hk => by simp at hk; omega
      obtain ⟨u, hu, hru⟩ := loadS_ok (S := vis C hd) (w := w) (hd := hd) ht h (b := b) (off := off) (xs := fun k => vs.getD (off + k) undef)
        (fun k hk => by rw [cell_of_row w b _ vs ty (0, 0) e1]; simp [hlen k hk]) (fun k hk => e3 (off + k) _ (by simp [hlen k hk]))
        (fun k y hy => by
          have hk := (List.getElem?_eq_some_iff.1 hy).1
          rw [List.getElem?_drop] at hy
          exact e4 _ y _ hy (by simp [hlen k hk]))
      exact ⟨u, by simpa [Instr.loadAt, Instr.sureAddr] using hu, hru⟩
    · rename_i l ho
      simp only [Option.map_eq_some_iff] at h
      obtain ⟨z, hz, rfl⟩ := h
      cases hx
      rename_i b o hb
      have := hr.ob j _ _ (obj_some ho (by simp)) hb
      obtain ⟨_, this⟩ := this
      obtain ⟨_, _, xs, e0, hS, hlt, hc, h1, hx'⟩ := this.ptrInv
      cases e0
      obtain ⟨u, hu, hru⟩ := loadT_ok (S := vis C hd) (w := w) ht hz (b := b) (off := off) (xs := fun k => xs (off + k)) (fun k hk => by have := hc (off + k) (by simp at hk; omega); simpa using this) (fun k hk => h1 _ (by simp at hk; omega))
        (fun k y hy => by rw [List.getElem?_drop] at hy; exact hx' _ y hy)
      exact ⟨u, by simpa [Instr.loadAt, Instr.sureAddr] using hu, .t _ _ hru⟩
    · cases h
  · rename_i j sz k off
    split at h
    · rename_i e sz' wr l ho
      split at h
      · rename_i hsz
        subst hsz
        split at h
        · rename_i x hxk
          simp only [Option.map_eq_some_iff] at h
          obtain ⟨z, hz, rfl⟩ := h
          cases hx
          rename_i g n cap o hb
          have hob := hr.ob j _ _ (obj_some ho (by simp)) hb
          obtain ⟨xs, h1, h2, h3⟩ := row_cells hob
          obtain ⟨_, hsz0, _, hall, _⟩ := hob
          have hkl := (List.getElem?_eq_some_iff.1 hxk).1
          have hxs : x.cells.length = sz := hall x (List.mem_of_getElem? hxk)
          obtain ⟨b, hb', hc⟩ := h1 (by intro e; subst e; simp at hkl)
          cases hb'
          have hin : ∀ q, q < (x.cells.drop off).length → k * sz + off + q < l.length * sz := fun q hq => by
            simp at hq
            have : (k + 1) * sz ≤ l.length * sz := Nat.mul_le_mul_right _ hkl
            rw [Nat.add_mul] at this; omega
          obtain ⟨u, hu, hru⟩ := loadT_ok (S := vis C hd) (w := w) ht hz (b := g) (off := k * sz + off) (xs := fun q => xs (k * sz + off + q)) (fun q hq => hc _ (hin q hq)) (fun q hq => h2 _ (hin q hq))
            (fun q y hy => by
              rw [List.getElem?_drop] at hy
              have := flat_get hall hxk hy
              rw [show k * sz + (off + q) = k * sz + off + q by omega] at this
              exact h3 _ y this)
          exact ⟨u, by simpa [Instr.loadAt, Instr.sureAddr] using hu, .t _ _ hru⟩
        · cases h
      · cases h
    · cases h
  · cases h
end
end Go.Proofs.YtpgkpbfefnpagaaGreatDoor
namespace Go.Proofs.YtpgkpbfefnpagaaGreatDoor
open Go.RowKit

def SV.toT0 : SV → T
  | .t x => x
  | .nil => .list []
  | _ => .undef
/-- A type's zero, as a datum. -/
def TI.zT (i : TI) : T := if i.k.isAgg then .agg (i.zero.map SV.toT0) else ((i.zero.head?).map SV.toT0).getD .undef
open Classical in
/-- What a map holds at a key. -/
noncomputable def mapGet : List (T × T) → T → Option T
  | [], _ => none
  | p :: r, k => if p.1 = k then some p.2 else mapGet r k
open Classical in
noncomputable def mapSet : List (T × T) → T → T → List (T × T)
  | [], k, v => [(k, v)]
  | p :: r, k, v => if p.1 = k then (k, v) :: r else p :: mapSet r k v
noncomputable def lookR (es : List (T × T)) (k z : T) (ok : Bool) : T := match mapGet es k with
  | some v => if ok then .tup [v, .bool true] else v
  | none => if ok then .tup [z, .bool false] else z
def mkFn (f : Nat) (l : List SV) : SV := match allT l with
  | some ts => .t (.fn f ts)
  | none => .fn f l
def bytesOf : List T → Option (List UInt8)
  | [] => some []
  | .int .u8 n :: r => (bytesOf r).map (UInt8.ofNat n.toNat :: ·)
  | _ :: _ => none
def St.len (st : St) (i : TI) (x : SV) : Option Int := match i.k with
  | .slice _ => match st.lst x with
    | some l => some (l.length : Int)
    | none => match x with
      | .t (.raw _ n _) => some (n : Int)
      | _ => none
  | .str => match x with
    | .t (.str s) => some s.size
    | _ => none
  | .map _ _ _ => match x with
    | .map j => match st.obj j with
      | .map _ l => some l.length
      | _ => none
    | _ => none
  | .array n _ => some n
  | _ => none
def T.max2 : T → T → Option T
  | .int i a, .int j b => if i = j then some (.int i (if b > a then b else a)) else none
  | _, _ => none
def T.min2 : T → T → Option T
  | .int i a, .int j b => if i = j then some (.int i (if b < a then b else a)) else none
  | _, _ => none
/-- A value's parts, put into their places. -/
def fillS (place : Nat → Option (Nat × Nat)) (cells : List SV) : List (Nat × SV) → Option (List SV)
  | [] => some cells
  | (i, x) :: rest => match place i with
    | none => none
    | some (off, size) => match x with
      | .t (.agg l) => if l.length = size ∧ off + size ≤ cells.length then fillS place (cells.take off ++ l.map .t ++ cells.drop (off + size)) rest else none
      | .agg l => if l.length = size ∧ off + size ≤ cells.length then fillS place (cells.take off ++ l ++ cells.drop (off + size)) rest else none
      | .t (.tup _) => none
      | .t .undef => none
      | .pin _ _ => none
      | .pinS _ _ _ _ => none
      | x => if size = 1 ∧ off + 1 ≤ cells.length then fillS place (cells.set off x) rest else none
/-- Is a slice nil? -/
def isNilS : SV → Option Bool
  | .nil => some true
  | .t (.raw none _ _) => some true
  | .t (.raw (some _) _ _) => some false
  | .t (.list l) => if l.length = 0 then none else some false
  | _ => none
def nilQ (i : TI) (op : BinOp) (x : SV) : Option SV := match i.k with
  | .slice _ => (match op with
    | .eql => (isNilS x).map fun b => .t (.bool b)
    | .neq => (isNilS x).map fun b => .t (.bool (!b))
    | _ => none)
  | _ => none
noncomputable def evalOp (tt : Nat → Option TI) (st : St) : Op → Option SV
  | .move x => some (st.ev x)
  | .assign x => some (st.ev x)
  | .nilCheck x => match st.ev x with
    | .t (.ptr l) => some (.t (.ptr l))
    | _ => none
  | .pick c a b => match st.ev c with
    | .t (.bool t) => match st.ev a, st.ev b with
      | .t (.bool p), .t (.bool q) => some (.t (.bool (if t then p else q)))
      | x, y => some (if t then x else y)
    | _ => none
  | .load t p => match tt t with
    | some i => st.load i (st.ev p)
    | none => none
  | .binOp op t x y _ => match tt t, st.ev x, st.ev y with
    | some i, .t p, .t q => match T.bin i.k (isConst x || isConst y) op p q with
      | some r => some (.t r)
      | none => (T.beqA i op p q).map .t
    | some i, p, .nil => nilQ i op p
    | _, _, _ => none
  | .unOp .not _ x => match st.ev x with
    | .t (.bool b) => some (.t (.bool (!b)))
    | _ => none
  | .unOp .neg _ x => match st.ev x with
    | .t (.int k n) => some (.t (.int k (k.wrap (0 - n))))
    | _ => none
  | .fieldAddr t x f => match tt t with
    | some i => match i.k with
      | .struct fs => match fs[f]? with
        | some p => (st.ev x).plus p.1
        | none => none
      | _ => none
    | none => none
  | .indexAddr t x ix => match tt t, st.ev ix with
    | some i, .t (.int _ n) => match i.k with
      | .slice e => match tt e with
        | some ie => st.index ie.sz n (st.ev x)
        | none => none
      | .array len e => match tt e with
        | some ie => if 0 ≤ n ∧ n < len then (st.ev x).plus (n.toNat * ie.sz) else none
        | none => none
      | _ => none
    | _, _ => none
  | .extract x k => match st.ev x with
    | .t (.tup l) => (l[k]?).map .t
    | _ => none
  | .makeInterface t x => match tt t, st.ev x with
    | some i, .t p => if i.k = .iface then none else some (.t (.iface t p))
    | _, _ => none
  | .convert s t x => match tt s, tt t with
    | some i, some j => match j.k with
      | .int k => match st.ev x with
        | .t (.int _ n) => some (.t (.int k (k.wrap n)))
        | _ => none
      | .str => match i.k with
        | .slice e => match tt e with
          | some ie => if ie.k = .int .u8 then (match st.lst (st.ev x) with
            | some l => (bytesOf l).map fun b => .t (.str ⟨b.toArray⟩)
            | none => none) else none
          | none => none
        | _ => none
      | _ => none
    | _, _ => none
  | .build t parts => match tt t with
    | some i => match i.k with
      | .struct fs => (fillS (fun k => fs[k]?) i.zero (parts.toList.map fun p => (p.1, st.ev p.2))).map mkAgg
      | .array _ e => match tt e with
        | some ie => (fillS (fun k => some (k * ie.sz, ie.sz)) i.zero (parts.toList.map fun p => (p.1, st.ev p.2))).map mkAgg
        | none => none
      | _ => none
    | none => none
  | .lookup t m k ok => match tt t, st.ev k with
    | some i, .t key => match i.k with
      | .map kk _ e => match tt e, st.ev m with
        | some ie, .map j => match st.obj j with
          | .map kk' es => if kk' = kk ∧ key.okKey kk = true then some (.t (lookR es key ie.zT ok)) else none
          | _ => none
        | _, _ => none
      | _ => none
    | _, _ => none
  | .index t x ix => match tt t, st.ev x, st.ev ix with
    | some i, .t (.str s), .t (.int _ n) => match i.k with
      | .str => if 0 ≤ n then match s.data.toList[n.toNat]? with
          | some b => some (.t (.int .u8 b.toNat))
          | none => none
        else none
      | _ => none
    | some i, .t (.agg l), .t (.int _ n) => match i.k with
      | .array len e => match tt e with
        | some ie => if 0 ≤ n ∧ n < len then (loadT ie (l.drop (n.toNat * ie.sz))).map .t else none
        | none => none
      | _ => none
    | _, _, _ => none
  | .makeFunc fn first cap => match fn, first.toList with
    | .func f, [] => some (mkFn f (cap.toList.map st.ev))
    | _, _ => none
  | .call c => match c.callee with
    | .builtin .len => match c.args.toList, c.argTypes.toList with
      | [x], [t] => match tt t with
        | some i => (st.len i (st.ev x)).map fun n => .t (.int .i64 n)
        | none => none
      | _, _ => none
    | .builtin .max => match c.args.toList with
      | [x, y] => match st.ev x, st.ev y with
        | .t p, .t q => (T.max2 p q).map .t
        | _, _ => none
      | _ => none
    | .builtin .min => match c.args.toList with
      | [x, y] => match st.ev x, st.ev y with
        | .t p, .t q => (T.min2 p q).map .t
        | _, _ => none
      | _ => none
    | _ => none
  | _ => none

section
variable {P : Program} {C : Ctx} {st : St} {hd : List Hd} {a : Act} {w : World} {tt : Nat → Option TI}
theorem lst_len (hr : StR C st hd a w) {x : SV} {l : List T} {v : Value} (h : st.lst x = some l) (hx : RepS (vis C hd) w hd x v) : ∃ ad cap, v = .slice ad l.length cap := by
  unfold St.lst at h
  split at h
  · cases h; obtain ⟨_, _, _, _, e, _⟩ := hx.toT.listInv; exact ⟨_, _, e⟩
  · cases h; cases hx; exact ⟨_, _, rfl⟩
  · cases h; cases hx; exact ⟨_, _, rfl⟩
  · split at h
    · cases h; cases hx
      rename_i ho _ _ _ _ hb
      have := hr.ob _ _ _ (obj_some ho (by simp)) hb
      exact ⟨_, _, by rw [this.1]⟩
    · cases h; cases hx
      rename_i ho _ _ _ _ hb
      have := hr.ob _ _ _ (obj_some ho (by simp)) hb
      exact ⟨_, _, by rw [this.1]⟩
    · cases h
  · cases h
theorem run_indexAt {t : Nat} {i : TI} {e : Nat} {ie : TI} (hi : TIok P t i) (hk : i.k = .slice e) (he : TIok P e ie) (b off len cap : Nat) (k : IntKind) (n : Int) (h0 : 0 ≤ n) (hn : n < len) :
    (Instr.indexAt t (.slice (some ⟨b, off, none⟩) len cap) (.int k n)).run P w = .ok (.pointer (some ⟨b, off + n.toNat * ie.sz, none⟩)) w := by
  have hs := hi.says
  rw [hk] at hs
  simp only [TK.says] at hs
  unfold Instr.indexAt
  simp [asIntOf, run_underlying hs, h0, hn, he.sizeOf, Addr.add_lit]
theorem treeIndex_ok {t : Nat} {i : TI} {e : Nat} {ie : TI} (hi : TIok P t i) (hk : i.k = .slice e) (he : TIok P e ie) {l : List T} {k : IntKind} {n : Int} {y : SV} {v : Value} (h : treeIndex ie.sz l n = some y) (hx : RepT (vis C hd) w (.list l) v) :
    ∃ u, (Instr.indexAt t v (.int k n)).run P w = .ok u w ∧ RepS (vis C hd) w hd y u := by
  unfold treeIndex at h
  split at h
  · rename_i h0
    split at h
    · rename_i x hxn
      split at h
      · rename_i hsz
        cases h
        obtain ⟨ad, cap, sz, xs, rfl, hm, hp, hf, ha, h1, hx'⟩ := hx.listInv
        have hlt := (List.getElem?_eq_some_iff.1 hxn).1
        have hz : ie.sz = sz := by rw [← hsz]; exact hf x (List.mem_of_getElem? hxn)
        obtain ⟨b, off, rfl, hS, hc⟩ := ha (by intro e; subst e; simp at hlt)
        refine ⟨_, run_indexAt hi hk he b off _ cap k n h0 (by omega), .t _ _ ?_⟩
        have hin : ∀ q, q < x.cells.length → n.toNat * ie.sz + q < l.length * sz := fun q hq => by
          have : (n.toNat + 1) * sz ≤ l.length * sz := Nat.mul_le_mul_right _ hlt
          rw [Nat.add_mul] at this; rw [hz]; omega
        have h00 := hc (n.toNat * ie.sz + 0) (hin 0 (by rw [hsz, hz]; exact hp))
        refine .ptr _ b _ (fun q => xs (n.toNat * ie.sz + q)) hS (cellLt h00) (fun q hq => ?_) (fun q hq => h1 _ (hin q hq)) (fun q y hy => ?_)
        · have := hc _ (hin q hq); rwa [← Nat.add_assoc] at this
        · have := flat_get hf hxn hy
          rw [← hz] at this
          exact hx' _ y this
      · cases h
    · cases h
  · cases h
theorem index_ok (hr : StR C st hd a w) {t : Nat} {i : TI} {e : Nat} {ie : TI} (hi : TIok P t i) (hk : i.k = .slice e) (he : TIok P e ie) {x : SV} {k : IntKind} {n : Int} {y : SV} {v : Value} (h : st.index ie.sz n x = some y) (hx : RepS (vis C hd) w hd x v) :
    ∃ u, (Instr.indexAt t v (.int k n)).run P w = .ok u w ∧ RepS (vis C hd) w hd y u := by
  unfold St.index at h
  split at h
  · exact treeIndex_ok hi hk he h hx.toT
  · cases hx; exact treeIndex_ok hi hk he h ‹_›
  · split at h
    · rename_i e' sz wr l ho
      split at h
      · rename_i hc
        obtain ⟨hsz, h0, hn⟩ := hc
        cases h
        cases hx
        rename_i ad n' cap o hb
        have hob := hr.ob _ _ _ (obj_some ho (by simp)) hb
        obtain ⟨xs, h1, _, _⟩ := row_cells hob
        obtain ⟨e1, _, _, _, _⟩ := hob
        obtain ⟨b, rfl, _⟩ := h1 (by intro e; subst e; simp at hn; omega)
        refine ⟨_, run_indexAt hi hk he b 0 _ cap k n h0 (by omega), ?_⟩
        rw [Nat.zero_add, ← hsz]
        exact .eptr _ sz n.toNat 0 b n' cap o hb
      · cases h
    · rename_i l ho
      cases hx
      rename_i ad n' cap o hb
      have hob := hr.ob _ _ _ (obj_some ho (by simp)) hb
      exact treeIndex_ok hi hk he h hob.2.2
    · cases h
  · cases h
theorem plus_ok {x y : SV} {o : Nat} {v : Value} (h : x.plus o = some y) (hx : RepS (vis C hd) w hd x v) : ∃ b off, v = .pointer (some ⟨b, off, none⟩) ∧ RepS (vis C hd) w hd y (.pointer (some ⟨b, off + o, none⟩)) := by
  unfold SV.plus at h
  split at h
  · cases h
    obtain ⟨b, off, xs, rfl, hS, hlt, hc, h1, hx'⟩ := hx.toT.ptrInv
    refine ⟨b, off, rfl, .t _ _ (.ptr _ b _ (fun k => xs (o + k)) hS hlt (fun k hk => ?_) (fun k hk => h1 _ (by simp at hk; omega)) (fun k y hy => hx' _ y (by rw [List.getElem?_drop] at hy; exact hy)))⟩
    have := hc (o + k) (by simp at hk; omega)
    rwa [← Nat.add_assoc] at this
  · cases h; cases hx; exact ⟨_, _, rfl, .bptr _ _ _ _ ‹_›⟩
  · cases h; cases hx
    rename_i hb
    refine ⟨_, _, rfl, ?_⟩
    rw [Nat.add_assoc]
    exact .eptr _ _ _ _ _ _ _ _ hb
  · cases h
theorem mkFn_rep {S : Nat → Prop} {f : Nat} {l : List SV} {vs : Array Value} (hl : vs.size = l.length) (hx : ∀ (k : Nat) (y : SV) (v : Value), l[k]? = some y → vs[k]? = some v → RepS S w hd y v) :
    RepS S w hd (mkFn f l) (.func (.func f) #[] vs) := by
  unfold mkFn
  split
  · rename_i ts hts
    have := allT_spec hts
    subst this
    refine .t _ _ (.fn f ts vs (by simpa using hl) fun k y v a b => ?_)
    exact (hx k (.t y) v (by simp [a]) b).toT
  · exact .fn f l vs hl hx
end
end Go.Proofs.YtpgkpbfefnpagaaGreatDoor
namespace Go.Proofs.YtpgkpbfefnpagaaGreatDoor
open Go.RowKit

/-- Cells of a variable, as slots. -/
structure RepC (S : Nat → Prop) (w : World) (hd : List Hd) (l : List SV) (vs : List Value) : Prop where
  len : vs.length = l.length
  one : ∀ v ∈ vs, v.oneCell' = true
  rep : ∀ (k : Nat) (y : SV) (v : Value), l[k]? = some y → vs[k]? = some v → RepS S w hd y v
section
variable {S : Nat → Prop} {w : World} {hd : List Hd}
theorem RepC.append {l m : List SV} {vs us : List Value} (h : RepC S w hd l vs) (h' : RepC S w hd m us) : RepC S w hd (l ++ m) (vs ++ us) := by
  refine ⟨by simp [h.len, h'.len], fun v hv => ?_, fun k y v a b => ?_⟩
  · rcases List.mem_append.1 hv with hv | hv
    · exact h.one v hv
    · exact h'.one v hv
  · by_cases hk : k < l.length
    · rw [List.getElem?_append_left hk] at a
      rw [List.getElem?_append_left (by rw [h.len]; exact hk)] at b
      exact h.rep k y v a b
    · rw [List.getElem?_append_right (by omega)] at a
      rw [List.getElem?_append_right (by rw [h.len]; omega), h.len] at b
      exact h'.rep _ y v a b
theorem RepC.drop {l : List SV} {vs : List Value} (h : RepC S w hd l vs) (n : Nat) : RepC S w hd (l.drop n) (vs.drop n) :=
  ⟨by simp [h.len], fun v hv => h.one v (List.mem_of_mem_drop hv), fun k y v a b => h.rep (n + k) y v (by simpa using a) (by simpa using b)⟩
theorem RepC.take {l : List SV} {vs : List Value} (h : RepC S w hd l vs) (n : Nat) : RepC S w hd (l.take n) (vs.take n) := by
  refine ⟨by simp [h.len], fun v hv => h.one v (List.mem_of_mem_take hv), fun k y v a b => ?_⟩
  rw [List.getElem?_take] at a b
  split at a
  · rw [if_pos ‹_›] at b; exact h.rep k y v a b
  · simp at a
theorem RepC.set {l : List SV} {vs : List Value} (h : RepC S w hd l vs) (n : Nat) {x : SV} {v : Value} (hx : RepS S w hd x v) (h1 : v.oneCell' = true) : RepC S w hd (l.set n x) (vs.set n v) := by
  refine ⟨by simp [h.len], fun u hu => ?_, fun k y u a b => ?_⟩
  · rcases List.mem_or_eq_of_mem_set hu with hu | rfl
    · exact h.one u hu
    · exact h1
  · rw [List.getElem?_set] at a b
    by_cases e : n = k
    · rw [if_pos e] at a b
      split at a
      · rw [if_pos (by rw [h.len]; assumption)] at b
        cases a; cases b; exact hx
      · cases a
    · rw [if_neg e] at a b; exact h.rep k y u a b
theorem RepC.ofL {l : List T} {vs : List Value} (h : RepL S w l vs) : RepC S w hd (l.map .t) vs :=
  ⟨by simpa using h.len, h.one, fun k y v a b => by
    rw [List.getElem?_map, Option.map_eq_some_iff] at a
    obtain ⟨z, hz, rfl⟩ := a
    exact .t _ _ (h.rep k z v hz b)⟩
theorem RepC.toS {l : List SV} {vs : Array Value} (h : RepC S w hd l vs.toList) : RepS S w hd (mkAgg l) (.agg vs) :=
  mkAgg_rep (by simpa using h.len) (fun k v hv => h.one v (by rw [List.mem_iff_getElem?]; exact ⟨k, by simpa using hv⟩)) (fun k y v a b => h.rep k y v a (by simpa using b))
theorem RepC.keep {S' : Nat → Prop} {w' : World} {hd' : List Hd} (hb : Stay S S' w w') (hp : Keeps some hd hd') {l : List SV} {vs : List Value} (h : RepC S w hd l vs) : RepC S' w' hd' l vs :=
  ⟨h.len, h.one, fun k y v a b => (h.rep k y v a b).keep hb hp⟩
/-- Is it one cell, or the parts of one? -/
def SV.storable : SV → Bool
  | .t x => x.storable
  | .pin _ _ => false
  | .pinS _ _ _ _ => false
  | _ => true
def SV.cells : SV → List SV
  | .t (.agg l) => l.map .t
  | .agg l => l
  | x => [x]
theorem RepS.toC {x : SV} {v : Value} (h : RepS S w hd x v) (hc : x.storable = true) : RepC S w hd x.cells v.cells.toList := by
  cases h with
  | t x v h =>
    have hl := h.toL hc
    have : SV.cells (.t x) = x.cells.map .t := by cases x <;> rfl
    rw [this]
    exact .ofL hl
  | agg l vs hl h1 hx => exact ⟨by simpa [SV.cells, Value.cells] using hl, fun v hv => by obtain ⟨i, hi, rfl⟩ := List.mem_iff_getElem.1 hv; exact h1 i _ (by simp [Value.cells]), fun k y v a b => hx k y v a (by simpa [Value.cells] using b)⟩
  | pin i b o hh => simp [SV.storable] at hc
  | pinS i a n cap o hh => simp [SV.storable] at hc
  | _ =>
    refine ⟨rfl, fun u hu => ?_, fun k y u h1 h2 => ?_⟩
    · simp [Value.cells] at hu; subst hu; rfl
    · cases k with
      | zero => simp [SV.cells, Value.cells] at h1 h2; subst h1 h2; constructor <;> assumption
      | succ k => simp [SV.cells] at h1
theorem fold_set (off : Nat) : ∀ (vs : List Value) (m : Nat) (cells : Array Value), off + m + vs.length ≤ cells.size →
    ((vs.zipIdx m).foldl (fun (cs : Array Value) (p : Value × Nat) => cs.setIfInBounds (off + p.2) p.1) cells).toList = cells.toList.take (off + m) ++ vs ++ cells.toList.drop (off + m + vs.length)
  | [], m, cells, _ => by simp
  | v :: t, m, cells, h => by
    simp only [List.zipIdx_cons, List.foldl_cons, List.length_cons] at h ⊢
    rw [fold_set off t (m + 1) _ (by simp; omega)]
    simp only [Array.toList_setIfInBounds]
    have e1 : (cells.toList.set (off + m) v).take (off + (m + 1)) = cells.toList.take (off + m) ++ [v] := by
      rw [show off + (m + 1) = (off + m) + 1 by omega, List.take_succ_eq_append_getElem (by simp; omega)]
      simp [List.take_set_of_le]
    have e2 : (cells.toList.set (off + m) v).drop (off + (m + 1) + t.length) = cells.toList.drop (off + m + (t.length + 1)) := by
      rw [List.drop_set_of_lt (by omega)]
      congr 1; omega
    rw [e1, e2]; simp
theorem fill_one {v : Value} {off size : Nat} {cells out : List SV} {vs : Array Value} (hc : RepC S w hd cells vs.toList) (hx : RepC S w hd out v.cells.toList) (hs : out.length = size) (hle : off + size ≤ cells.length) :
    (if v.cells.size ≠ size || off + v.cells.size > vs.size then true else false) = false ∧
    RepC S w hd (cells.take off ++ out ++ cells.drop (off + size)) (v.cells.zipIdx.foldl (fun cs (c, j) => cs.setIfInBounds (off + j) c) vs).toList := by
  have h1 : v.cells.size = size := by have := hx.len; simp at this; omega
  have h2 : vs.size = cells.length := by have := hc.len; simpa using this
  refine ⟨by simp [h1, h2]; omega, ?_⟩
  have e : (v.cells.zipIdx.foldl (fun cs (c, j) => cs.setIfInBounds (off + j) c) vs).toList = vs.toList.take off ++ v.cells.toList ++ vs.toList.drop (off + size) := by
    have := fold_set off v.cells.toList 0 vs (by simp [h1, h2]; omega)
    simp only [Nat.add_zero, Array.length_toList, h1] at this
    rw [← this, ← Array.foldl_toList]
    simp
  rw [e]
  exact ((hc.take off).append hx).append (hc.drop _)
theorem fillS_ok {place : Nat → Option (Nat × Nat)} : ∀ {parts : List (Nat × SV)} {pvs : List (Nat × Value)} {cells out : List SV} {vs : Array Value}, fillS place cells parts = some out → RepC S w hd cells vs.toList →
    parts.length = pvs.length → (∀ (k : Nat) (p : Nat × SV) (q : Nat × Value), parts[k]? = some p → pvs[k]? = some q → p.1 = q.1 ∧ RepS S w hd p.2 q.2) → ∃ us, Instr.fill place vs pvs = some us ∧ RepC S w hd out us.toList
  | [], pvs, cells, out, vs, h, hc, hl, _ => by
    simp [fillS] at h; subst h
    obtain rfl : pvs = [] := List.eq_nil_of_length_eq_zero (by simpa using hl.symm)
    exact ⟨vs, rfl, hc⟩
  | (i, x) :: rest, pvs, cells, out, vs, h, hc, hl, hp => by
    cases pvs with
    | nil => simp at hl
    | cons q pvs =>
      obtain ⟨j, v⟩ := q
      obtain ⟨e1, hx⟩ := hp 0 _ _ rfl rfl
      simp only at e1 hx
      subst e1
      have ih : ∀ {cells out : List SV} {vs : Array Value}, fillS place cells rest = some out → RepC S w hd cells vs.toList → ∃ us, Instr.fill place vs pvs = some us ∧ RepC S w hd out us.toList :=
        fun h hc => fillS_ok h hc (by simpa using hl) (fun k p q a b => hp (k + 1) p q (by simpa using a) (by simpa using b))
      cases hpl : place i with
      | none => simp [fillS, hpl] at h
      | some os =>
        obtain ⟨off, size⟩ := os
        have main : ∀ (o : List SV), x.storable = true → x.cells = o → o.length = size → off + size ≤ cells.length → fillS place (cells.take off ++ o ++ cells.drop (off + size)) rest = some out →
            ∃ us, Instr.fill place vs ((i, v) :: pvs) = some us ∧ RepC S w hd out us.toList := fun o hst ho h1 h2 h3 => by
          have hco := hx.toC hst
          rw [ho] at hco
          obtain ⟨g1, g2⟩ := fill_one hc hco h1 h2
          obtain ⟨us, hu, hr⟩ := ih h3 g2
          refine ⟨us, ?_, hr⟩
          simp only [Instr.fill, hpl]
          rw [if_neg (by simpa using g1)]
          exact hu
        have single : x.storable = true → x.cells = [x] → size = 1 ∧ off + 1 ≤ cells.length → fillS place (cells.set off x) rest = some out → ∃ us, Instr.fill place vs ((i, v) :: pvs) = some us ∧ RepC S w hd out us.toList := fun hst ho h1 h2 => by
          refine main [x] hst ho (by simp [h1.1]) (by omega) ?_
          rw [← h2, h1.1]
          congr 1
          rw [List.set_eq_take_append_cons_drop, if_pos (by omega)]
          simp
        simp only [fillS, hpl] at h
        split at h
        · split at h
          · rename_i l hcnd; exact main (l.map .t) rfl rfl (by simpa using hcnd.1) hcnd.2 h
          · cases h
        · split at h
          · rename_i hcnd; exact main _ rfl rfl hcnd.1 hcnd.2 h
          · cases h
        · cases h
        · cases h
        · cases h
        · cases h
        · rename_i n1 n2 n3 n4 n5 n6
          split at h
          · rename_i hcnd
            refine single ?_ ?_ hcnd h
            · cases x with
              | t y => cases y <;> first | rfl | (exact (n3 _ rfl).elim) | (exact (n4 rfl).elim)
              | pin i b => exact (n5 _ _ rfl).elim
              | pinS i a n cap => exact (n6 _ _ _ _ rfl).elim
              | _ => rfl
            · cases x with
              | t y => cases y <;> first | rfl | (exact (n1 _ rfl).elim)
              | agg l => exact (n2 _ rfl).elim
              | _ => rfl
          · cases h
end
end Go.Proofs.YtpgkpbfefnpagaaGreatDoor
namespace Go.Proofs.YtpgkpbfefnpagaaGreatDoor
open Go.RowKit

section
variable {P : Program} {C : Ctx} {st : St} {hd : List Hd} {a : Act} {w : World} {tt : Nat → Option TI}
theorem run_fieldAt {t : Nat} {i : TI} {fs : List (Nat × Nat)} (hi : TIok P t i) (hk : i.k = .struct fs) {f o s : Nat} (hf : fs[f]? = some (o, s)) (b off : Nat) :
    (Instr.fieldAt t (.pointer (some ⟨b, off, none⟩)) f).run P w = .ok (.pointer (some ⟨b, off + o, none⟩)) w := by
  have hs := hi.says
  rw [hk] at hs
  obtain ⟨fields, h1, h2, h3⟩ := hs
  have hlt : f < fields.size := by rw [h2]; exact (List.getElem?_eq_some_iff.1 hf).1
  obtain ⟨e1, e2, fi, e3, e4⟩ := h3 f fields[f] o s (Array.getElem?_eq_getElem hlt) hf
  unfold Instr.fieldAt
  rw [Sem.run_bind, run_underlying h1]
  simp only [Result.andThen_ok, Array.getElem?_eq_getElem hlt]
  simp [Instr.sureAddr, fieldPlace, sizeOf, typeInfo, e3, e4, e1, Addr.add_lit]
  omega
theorem run_indexArr {t : Nat} {i : TI} {len e : Nat} {ie : TI} (hi : TIok P t i) (hk : i.k = .array len e) (he : TIok P e ie) (b off : Nat) (k : IntKind) (n : Int) (h0 : 0 ≤ n) (hn : n < len) :
    (Instr.indexAt t (.pointer (some ⟨b, off, none⟩)) (.int k n)).run P w = .ok (.pointer (some ⟨b, off + n.toNat * ie.sz, none⟩)) w := by
  have hs := hi.says
  rw [hk] at hs
  simp only [TK.says] at hs
  unfold Instr.indexAt
  simp [asIntOf, run_underlying hs, h0, hn, he.sizeOf, Addr.add_lit, Instr.sureAddr]
theorem TIok.zeroC {t : Nat} {i : TI} {S : Nat → Prop} (h : TIok P t i) : ∃ z : Value, (zeroValue t).run P w = .ok z w ∧ z.cells.size = i.sz ∧ RepC S w hd i.zero z.cells.toList ∧ ((∃ cs, z = .agg cs ∧ i.k.isAgg = true) ∨ (z.oneCell' = true ∧ i.k.isAgg = false)) := by
  obtain ⟨inf, h1, _, _, z, h2, h3, h4, h5, h6⟩ := h.info
  refine ⟨z, by simp [zeroValue, typeInfo, h1, h2], h3, ⟨by simp; omega, fun v hv => ?_, fun k y v a b => (zm_rep (h5 k y v a (by simpa using b))).1⟩, h6⟩
  obtain ⟨k, hk⟩ := List.mem_iff_getElem?.1 hv
  have hk2 := (List.getElem?_eq_some_iff.1 hk).1
  simp at hk2
  exact (zm_rep (S := S) (w := w) (hd := hd) (h5 k i.zero[k] v (List.getElem?_eq_getElem (by omega)) (by simpa using hk))).2
theorem run_build_struct {t : Nat} {i : TI} {fs : List (Nat × Nat)} (hi : TIok P t i) (hk : i.k = .struct fs) {parts : List (Nat × SV)} {pvs : Array (Nat × Value)} {out : List SV} {S : Nat → Prop}
    (h : fillS (fun k => fs[k]?) i.zero parts = some out) (hl : parts.length = pvs.size) (hp : ∀ (k : Nat) (p : Nat × SV) (q : Nat × Value), parts[k]? = some p → pvs[k]? = some q → p.1 = q.1 ∧ RepS S w hd p.2 q.2) :
    ∃ u, (Instr.build t pvs).run P w = .ok u w ∧ RepS S w hd (mkAgg out) u := by
  have hs := hi.says
  rw [hk] at hs
  obtain ⟨fields, h1, h2, h3⟩ := hs
  obtain ⟨z, z1, z2, z3, _⟩ := hi.zeroC (S := S) (w := w) (hd := hd)
  obtain ⟨us, u1, u2⟩ := fillS_ok (pvs := pvs.toList) h z3 (by simpa using hl) (fun k p q a b => hp k p q a (by simpa using b))
  refine ⟨.agg us, ?_, u2.toS⟩
  have hpl : (fields.mapM (fun f => do pure (f.offset, ← sizeOf f.type) : Field → Sem (Nat × Nat))).run P w = .ok fs.toArray w := by
    have key : ∀ (l : List Field) (m : List (Nat × Nat)), l.length = m.length → (∀ (i : Nat) (f : Field) (o s : Nat), l[i]? = some f → m[i]? = some (o, s) → f.offset = o ∧ 0 < s ∧ ∃ fi, P.info? f.type = some fi ∧ fi.size = s) →
        (l.mapM (fun f => do pure (f.offset, ← sizeOf f.type) : Field → Sem (Nat × Nat))).run P w = .ok m w := by
      intro l
      induction l with
      | nil => intro m hm _; obtain rfl : m = [] := List.eq_nil_of_length_eq_zero (by simpa using hm.symm); rfl
      | cons f l ih =>
        intro m hm hh
        cases m with
        | nil => simp at hm
        | cons p m =>
          obtain ⟨o, s⟩ := p
          obtain ⟨e1, e2, fi, e3, e4⟩ := hh 0 f o s rfl rfl
          have hsz : (sizeOf f.type).run P w = .ok s w := by simp [sizeOf, typeInfo, e3, e4]
          rw [List.mapM_cons, Sem.run_bind, Sem.run_bind, hsz, Result.andThen_ok, Sem.run_pure, Result.andThen_ok, Sem.run_bind, ih m (by simpa using hm) (fun i f o s a b => hh (i + 1) f o s (by simpa using a) (by simpa using b)), e1]
          rfl
    rw [Array.mapM_eq_mapM_toList, Sem.run_map]
    rw [key fields.toList fs (by simpa using h2) (fun i f o s a b => h3 i f o s (by simpa using a) b)]
    rfl
  unfold Instr.build
  rw [Sem.run_bind, z1]
  simp only [Result.andThen_ok]
  rw [Sem.run_bind, run_underlying h1]
  simp only [Result.andThen_ok]
  rw [Sem.run_bind, hpl]
  simp only [Result.andThen_ok]
  have : (fun x : Nat => fs.toArray[x]?) = (fun k : Nat => fs[k]?) := by funext k; simp
  rw [this, u1]
  rfl
theorem run_build_array {t : Nat} {i : TI} {n e : Nat} {ie : TI} (hi : TIok P t i) (hk : i.k = .array n e) (he : TIok P e ie) {parts : List (Nat × SV)} {pvs : Array (Nat × Value)} {out : List SV} {S : Nat → Prop}
    (h : fillS (fun k => some (k * ie.sz, ie.sz)) i.zero parts = some out) (hl : parts.length = pvs.size) (hp : ∀ (k : Nat) (p : Nat × SV) (q : Nat × Value), parts[k]? = some p → pvs[k]? = some q → p.1 = q.1 ∧ RepS S w hd p.2 q.2) :
    ∃ u, (Instr.build t pvs).run P w = .ok u w ∧ RepS S w hd (mkAgg out) u := by
  have hs := hi.says
  rw [hk] at hs
  simp only [TK.says] at hs
  obtain ⟨z, z1, z2, z3, _⟩ := hi.zeroC (S := S) (w := w) (hd := hd)
  obtain ⟨us, u1, u2⟩ := fillS_ok (pvs := pvs.toList) h z3 (by simpa using hl) (fun k p q a b => hp k p q a (by simpa using b))
  refine ⟨.agg us, ?_, u2.toS⟩
  unfold Instr.build
  rw [Sem.run_bind, z1]
  simp only [Result.andThen_ok]
  rw [Sem.run_bind, run_underlying hs]
  simp only [Result.andThen_ok]
  rw [Sem.run_bind, he.sizeOf]
  simp only [Result.andThen_ok]
  rw [u1]
  rfl
theorem bytes_ok : ∀ {l : List T} {bs : List UInt8}, bytesOf l = some bs → flat l = l ∧ ∀ {S : Nat → Prop} {xs : Nat → Value}, (∀ (k : Nat) (y : T), (flat l)[k]? = some y → RepT S w y (xs k)) → ∀ k, k < l.length → ∃ n : Int, xs k = .int .u8 n ∧ bs[k]? = some (UInt8.ofNat n.toNat)
  | [], bs, h => by simp [bytesOf] at h; subst h; exact ⟨rfl, fun _ k hk => by simp at hk⟩
  | x :: r, bs, h => by
    unfold bytesOf at h
    split at h
    · rename_i h2; cases h2
    · rename_i n r' h2
      cases h2
      rw [Option.map_eq_some_iff] at h
      obtain ⟨b, hb, rfl⟩ := h
      obtain ⟨h1, h2⟩ := bytes_ok hb
      refine ⟨by simp only [flat, List.flatMap_cons, T.cells] at h1 ⊢; rw [h1]; rfl, fun {S xs} hx k hk => ?_⟩
      cases k with
      | zero =>
        have h3 := hx 0 (.int .u8 n) (by simp [flat, T.cells])
        refine ⟨n, ?_, rfl⟩
        generalize xs 0 = v at h3
        cases h3; rfl
      | succ k =>
        exact h2 (xs := fun k => xs (k + 1)) (fun k y hy => hx (k + 1) y (by simpa [flat, T.cells] using hy)) k (by simpa using hk)
    · cases h
theorem bytes_len : ∀ {l : List T} {bs : List UInt8}, bytesOf l = some bs → bs.length = l.length
  | [], bs, h => by simp [bytesOf] at h; subst h; rfl
  | x :: r, bs, h => by
    unfold bytesOf at h
    split at h
    · rename_i h2; cases h2
    · rename_i n r' h2
      cases h2
      rw [Option.map_eq_some_iff] at h
      obtain ⟨b, hb, rfl⟩ := h
      simp [bytes_len hb]
    · cases h
/-- A slice's cells, whatever holds it. -/
theorem lst_cells (hr : StR C st hd a w) {x : SV} {l : List T} {v : Value} (h : st.lst x = some l) (hx : RepS (vis C hd) w hd x v) : ∃ ad cap sz, ∃ xs : Nat → Value, v = .slice ad l.length cap ∧ l.length ≤ maxLen ∧ 0 < sz ∧ (∀ x ∈ l, x.cells.length = sz) ∧
    (l ≠ [] → ∃ b off, ad = some ⟨b, off, none⟩ ∧ ∀ k, k < l.length * sz → w.cell? ⟨b, off + k, none⟩ = some (xs k)) ∧
    (∀ k, k < l.length * sz → (xs k).oneCell' = true) ∧ ∀ (k : Nat) (y : T), (flat l)[k]? = some y → RepT (vis C hd) w y (xs k) := by
  have tree : ∀ {l : List T} {v : Value}, RepT (vis C hd) w (.list l) v → ∃ ad cap sz, ∃ xs : Nat → Value, v = .slice ad l.length cap ∧ l.length ≤ maxLen ∧ 0 < sz ∧ (∀ x ∈ l, x.cells.length = sz) ∧
    (l ≠ [] → ∃ b off, ad = some ⟨b, off, none⟩ ∧ ∀ k, k < l.length * sz → w.cell? ⟨b, off + k, none⟩ = some (xs k)) ∧
    (∀ k, k < l.length * sz → (xs k).oneCell' = true) ∧ ∀ (k : Nat) (y : T), (flat l)[k]? = some y → RepT (vis C hd) w y (xs k) := by
    intro l v h
    obtain ⟨ad, cap, sz, xs, e, hm, h0, hf, ha, h1, h2⟩ := h.listInv
    exact ⟨ad, cap, sz, xs, e, hm, h0, hf, fun hne => by obtain ⟨b, off, e, _, hc⟩ := ha hne; exact ⟨b, off, e, hc⟩, h1, h2⟩
  unfold St.lst at h
  split at h
  · cases h; exact tree hx.toT
  · cases h; cases hx
    exact ⟨none, 0, 1, fun _ => undef, rfl, Nat.zero_le _, Nat.one_pos, fun x hx => by simp at hx, fun hne => (hne rfl).elim, fun k hk => by simp at hk, fun k y hy => by simp [flat] at hy⟩
  · cases h; cases hx; exact tree ‹_›
  · split at h
    · rename_i e sz wr l ho
      cases h; cases hx
      rename_i ad n cap o hb
      have hob := hr.ob _ _ _ (obj_some ho (by simp)) hb
      obtain ⟨xs, h1, h2, h3⟩ := row_cells hob
      obtain ⟨e1, e2, e3, e4, _⟩ := hob
      subst e1
      exact ⟨ad, cap, sz, xs, rfl, e3, e2, e4, fun hne => by obtain ⟨b, e, hc⟩ := h1 hne; exact ⟨b, 0, e, fun k hk => by rw [Nat.zero_add]; exact hc k hk⟩, h2, h3⟩
    · cases h; cases hx
      rename_i ho _ _ _ _ hb
      have := hr.ob _ _ _ (obj_some ho (by simp)) hb
      obtain ⟨e1, _, this⟩ := this
      subst e1
      exact tree this
    · cases h
  · cases h
theorem ofBytes_eq : ∀ (l : List UInt8) (acc : ByteArray), (l.foldl (fun (s : ByteArray) (b : UInt8) => s.push b) acc) = ⟨(acc.data.toList ++ l).toArray⟩
  | [], acc => by simp
  | b :: t, acc => by
    rw [List.foldl_cons, ofBytes_eq t]
    simp [ByteArray.push]
theorem run_bytesT (ad : Addr) (ns : List Int) (cap : Nat) (h : ∀ (k : Nat) (n : Int), ns[k]? = some n → w.cell? (ad.add k) = some (.int .u8 n)) :
    (Conv.bytesToString (.slice (some ad) ns.length cap)).run P w = .ok (.string ⟨(ns.map fun n => UInt8.ofNat n.toNat).toArray⟩) w := by
  have hl := run_loadCells_list (P := P) w ad (ns.map (Value.int .u8)) (fun j v hj => by
    rw [List.getElem?_map, Option.map_eq_some_iff] at hj
    obtain ⟨n, hn, rfl⟩ := hj
    exact h j n hn)
  rw [List.length_map] at hl
  rw [run_bytesToString w ad ns.length cap ns hl]
  have : ns.foldl (fun s n => s.push (UInt8.ofNat n.toNat)) ByteArray.empty = (ns.map fun n => UInt8.ofNat n.toNat).foldl (fun (s : ByteArray) (b : UInt8) => s.push b) ByteArray.empty := by
    rw [List.foldl_map]
  rw [this, ofBytes_eq]
  rfl
end
end Go.Proofs.YtpgkpbfefnpagaaGreatDoor
namespace Go.Proofs.YtpgkpbfefnpagaaGreatDoor
open Go.RowKit

section
variable {P : Program} {C : Ctx} {st : St} {hd : List Hd} {a : Act} {w : World} {tt : Nat → Option TI}
theorem run_val {s : Sem Value} {v : Value} {w w' : World} (h : s.run P w = .ok v w') : (do pure (Next.value (← s)) : Sem Next).run P w = .ok (.value v) w' := by
  rw [Sem.run_bind, h]; rfl
theorem isNil_rep {S : Nat → Prop} {w : World} {hd : List Hd} {x : SV} {v : Value} {b : Bool} (h : isNilS x = some b) (hx : RepS S w hd x v) : ∃ ad n c, v = .slice ad n c ∧ b = ad.isNone := by
  unfold isNilS at h
  split at h
  · cases h; cases hx; exact ⟨_, _, _, rfl, rfl⟩
  · cases h; cases hx; rename_i h; cases h; exact ⟨_, _, _, rfl, rfl⟩
  · cases h; cases hx; rename_i h; cases h; exact ⟨_, _, _, rfl, rfl⟩
  · rename_i l
    split at h
    · cases h
    · rename_i hl
      cases h
      obtain ⟨ad, cap, sz, xs, e, _, _, _, ha, _⟩ := hx.toT.listInv
      obtain ⟨b, off, rfl, _⟩ := ha (fun q => hl (by rw [q]; rfl))
      exact ⟨_, _, _, e, rfl⟩
  · cases h
theorem nilQ_ok {S : Nat → Prop} {P : Program} {w : World} {hd : List Hd} {t : Nat} {i : TI} (ht : TIok P t i) {op : BinOp} {p r : SV} {x y : Operand} {u v : Value} (h : nilQ i op p = some r)
    (hp : RepS S w hd p u) (hq : RepS S w hd .nil v) : ∃ z, (do eqGuard op t x y u v; binOp op t u v : Sem Value).run P w = .ok z w ∧ RepS S w hd r z := by
  have hs := ht.says
  cases hq
  unfold nilQ at h
  split at h
  · rename_i e hk
    rw [hk] at hs; simp only [TK.says] at hs
    have key : ∀ b, isNilS p = some b → (Op.equal t u (.slice none 0 0)).run P w = .ok b w ∧ ∀ q, (eqGuard q t x y u (.slice none 0 0)).run P w = .ok () w := fun b hb => by
      obtain ⟨ad, n, c, rfl, rfl⟩ := isNil_rep hb hp
      refine ⟨?_, fun q => by cases q <;> simp [eqGuard]⟩
      rw [equal_one]; unfold Op.equalIn; rw [Sem.run_bind, run_underlying hs]
      cases ad <;> rfl
    split at h
    · rw [Option.map_eq_some_iff] at h
      obtain ⟨b, hb, rfl⟩ := h
      obtain ⟨k1, k2⟩ := key b hb
      refine ⟨.bool b, ?_, .t _ _ (.bool _)⟩
      rw [Sem.run_bind, k2, Result.andThen_ok]
      obtain ⟨ad, n, c, rfl, _⟩ := isNil_rep hb hp
      exact run_eql k1
    · rw [Option.map_eq_some_iff] at h
      obtain ⟨b, hb, rfl⟩ := h
      obtain ⟨k1, k2⟩ := key b hb
      refine ⟨.bool (!b), ?_, .t _ _ (.bool _)⟩
      rw [Sem.run_bind, k2, Result.andThen_ok]
      obtain ⟨ad, n, c, rfl, _⟩ := isNil_rep hb hp
      exact run_neq k1
    · cases h
  · cases h
theorem len_ok (hT : TTok P tt) (hr : StR C st hd a w) {t ty : Nat} {i : TI} (hi : tt t = some i) {x : SV} {n : Int} {v : Value} (h : st.len i x = some n) (hx : RepS (vis C hd) w hd x v) :
    (Builtin.len_ #[t] ty #[v]).run P w = .ok (.int .i64 n) w := by
  have hs := (hT t i hi).says
  unfold St.len at h
  split at h
  · rename_i e hk
    rw [hk] at hs; simp only [TK.says] at hs
    split at h
    · rename_i l hl
      cases h
      obtain ⟨ad, cap, rfl⟩ := lst_len hr hl hx
      simp [Builtin.len_, run_underlying hs, goInt]
    · split at h
      · cases h; cases hx; rename_i h; cases h
        simp [Builtin.len_, run_underlying hs, goInt]
      · cases h
  · rename_i hk
    rw [hk] at hs; simp only [TK.says] at hs
    split at h
    · cases h; cases hx; rename_i h; cases h
      simp [Builtin.len_, run_underlying hs, goInt]
    · cases h
  · rename_i kk k e hk
    rw [hk] at hs; simp only [TK.says] at hs
    obtain ⟨hs, _⟩ := hs
    split at h
    · split at h
      · rename_i j _ kk' l ho
        cases h; cases hx
        rename_i r hb
        obtain ⟨es, cl, e1, e2, _⟩ := hr.ob _ _ _ (obj_some ho (by simp)) hb
        simp [Builtin.len_, run_underlying hs, goInt, getObj, Sem.run, e1, e2]
      · cases h
    · cases h
  · rename_i m e hk
    rw [hk] at hs; simp only [TK.says] at hs
    cases h
    simp [Builtin.len_, run_underlying hs, goInt]
  · cases h
theorem mapGet_none : ∀ {l : List (T × T)} {k : T}, (∀ p ∈ l, p.1 ≠ k) → mapGet l k = none
  | [], _, _ => rfl
  | p :: r, k, h => by
    unfold mapGet
    rw [if_neg (h p List.mem_cons_self)]
    exact mapGet_none fun q hq => h q (List.mem_cons_of_mem _ hq)
theorem mapGet_some : ∀ {l : List (T × T)} {k : T} {j : Nat} {p : T × T}, l.Pairwise (fun p q => p.1 ≠ q.1) → l[j]? = some p → p.1 = k → mapGet l k = some p.2
  | [], k, j, p, _, h, _ => by simp at h
  | q :: r, k, 0, p, _, h, e => by
    simp at h; subst h
    unfold mapGet
    rw [if_pos e]
  | q :: r, k, j + 1, p, hd, h, e => by
    unfold mapGet
    have hp : r[j]? = some p := by simpa using h
    rw [if_neg (fun e2 => (List.pairwise_cons.1 hd).1 p (List.mem_of_getElem? hp) (e2.trans e.symm))]
    exact mapGet_some (List.pairwise_cons.1 hd).2 hp e
theorem zT_ok {S : Nat → Prop} {t : Nat} {i : TI} (h : TIok P t i) : ∃ z, (zeroValue t).run P w = .ok z w ∧ RepT S w i.zT z := by
  obtain ⟨z, z1, z2, z3, z4⟩ := h.zeroC (S := S) (w := w) (hd := [])
  refine ⟨z, z1, ?_⟩
  have hrep : ∀ (k : Nat) (y : SV) (v : Value), i.zero[k]? = some y → z.cells.toList[k]? = some v → RepT S w y.toT0 v := fun k y v h1 h2 => by
    have := z3.rep k y v h1 h2
    cases this with
    | t x v h => exact h
    | nil => exact .list [] none 0 1 (fun _ => undef) (Nat.zero_le _) Nat.one_pos (fun x hx => by simp at hx) (fun h => (h rfl).elim) (fun k hk => by simp at hk) (fun k y hy => by simp [flat] at hy) (Nat.le_refl _)
    | _ => exact .undef _
  rcases z4 with ⟨cs, rfl, hk⟩ | ⟨h1, hk⟩
  · rw [TI.zT, if_pos hk]
    refine .agg _ cs (by have := z3.len; simp [Value.cells] at this ⊢; omega) (fun k v hv => z3.one v (List.mem_iff_getElem?.2 ⟨k, by simpa [Value.cells] using hv⟩)) fun k y v a b => ?_
    rw [List.getElem?_map, Option.map_eq_some_iff] at a
    obtain ⟨q, hq, rfl⟩ := a
    exact hrep k q v hq (by simpa [Value.cells] using b)
  · have hz : z.cells = #[z] := by cases z <;> simp_all [Value.cells, Value.oneCell']
    have hl := z3.len
    rw [hz] at hl
    obtain ⟨q, hq⟩ : ∃ q, i.zero = [q] := by
      match hz0 : i.zero with
      | [q] => exact ⟨q, rfl⟩
      | [] => rw [hz0] at hl; simp at hl
      | q :: r :: m => rw [hz0] at hl; simp at hl
    have hr0 := hrep 0 q z (by rw [hq]; rfl) (by rw [hz]; rfl)
    simpa [TI.zT, hk, hq] using hr0
theorem lookup_ok (hT : TTok P tt) (hr : StR C st hd a w) {t : Nat} {i : TI} (hi : tt t = some i) {kk : KK} {kt e : Nat} {ie : TI} (hk : i.k = .map kk kt e) (he : tt e = some ie) {j : Nat} {es : List (T × T)} (ho : st.obj j = .map kk es) {key : T} (hkey : key.okKey kk = true) {m v : Value} (hm : RepS (vis C hd) w hd (.map j) m) (hv : RepT (vis C hd) w key v) (ok : Bool) :
    ∃ u, (Instr.lookup t m v ok).run P w = .ok u w ∧ RepT (vis C hd) w (lookR es key ie.zT ok) u := by
  have hs := (hT t i hi).says
  rw [hk] at hs; simp only [TK.says] at hs
  obtain ⟨hs, hkf⟩ := hs
  cases hm
  rename_i r hb
  obtain ⟨entries, cl, e1, e2, e3, e4, e5⟩ := hr.ob _ _ _ (obj_some ho (by simp)) hb
  have hval := okKey_val hkey hv
  subst hval
  obtain ⟨l, hl⟩ := hkf.lit key hkey
  have hall : ∀ x ∈ entries.toList, ∃ l, keyOf P kt x.key = some l := fun x hx => by
    obtain ⟨q, hq⟩ := List.mem_iff_getElem?.1 hx
    have hlt := (List.getElem?_eq_some_iff.1 hq).1
    have e6 : es[q]? = some es[q] := List.getElem?_eq_getElem (by simp at hlt; omega)
    obtain ⟨h1, _⟩ := e5 q _ x e6 (by simpa using hq)
    rw [h1]
    exact hkf.lit _ (e3 _ (List.getElem_mem _))
  obtain ⟨z, hz, hzr⟩ := zT_ok (S := vis C hd) (w := w) (hT e ie he)
  have hget : (getObj r).run P w = .ok (.map entries cl) w := by simp [getObj, Sem.run, e1]
  unfold Instr.lookup
  rw [Sem.run_bind, run_underlying hs, Result.andThen_ok]
  simp only []
  rw [Sem.run_bind, hget, Result.andThen_ok]
  simp only []
  rw [Sem.run_bind, Sem.run_pure, Result.andThen_ok, Sem.run_bind, hkf.keyed.check w _ hl, Result.andThen_ok, Sem.run_bind]
  rcases hkf.keyed.find w hl entries.toList hall with ⟨h1, h2⟩ | ⟨q, x, h1, h2, h3⟩
  · have hn : mapGet es key = none := mapGet_none fun p hp e => by
      obtain ⟨q, hq⟩ := List.mem_iff_getElem?.1 hp
      have hlt := (List.getElem?_eq_some_iff.1 hq).1
      have e6 : entries[q]? = some entries[q] := Array.getElem?_eq_getElem (by omega)
      obtain ⟨h3, _⟩ := e5 q p _ hq e6
      exact h2 entries[q] (by simp) (by rw [h3, e])
    rw [h1, Result.andThen_ok]
    simp only []
    rw [Sem.run_bind, hz, Result.andThen_ok]
    refine ⟨_, rfl, ?_⟩
    simp only [lookR, hn]
    cases ok
    · exact hzr
    · simp only [if_true]
      refine .tup _ _ rfl fun k y v a b => ?_
      match k, a, b with
      | 0, a, b => simp at a b; subst a b; exact hzr
      | 1, a, b => simp at a b; subst a b; exact .bool false
      | k + 2, a, b => simp at a
  · have hq : q < es.length := by have := (List.getElem?_eq_some_iff.1 h2).1; simp at this; omega
    have e6 : es[q]? = some es[q] := List.getElem?_eq_getElem hq
    obtain ⟨h4, h5⟩ := e5 q _ x e6 (by simpa using h2)
    have hk2 : es[q].1 = key := okKey_inj (e3 _ (List.getElem_mem hq)) hkey (by rw [← h4, h3])
    have hn : mapGet es key = some es[q].2 := mapGet_some e4 e6 hk2
    rw [h1, Result.andThen_ok]
    refine ⟨_, rfl, ?_⟩
    simp only [lookR, hn]
    cases ok
    · exact h5
    · simp only [if_true]
      refine .tup _ _ rfl fun k y v a b => ?_
      match k, a, b with
      | 0, a, b => simp at a b; subst a b; exact h5
      | 1, a, b => simp at a b; subst a b; exact .bool true
      | k + 2, a, b => simp at a
theorem part_ok {S : Nat → Prop} {e : Nat} {ie : TI} (he : TIok P e ie) {l : List T} {vs : Array Value} (hr : RepT S w (.agg l) (.agg vs)) {off : Nat} {y : T} (h : loadT ie (l.drop off) = some y) : ∃ v, (part e vs off).run P w = .ok v w ∧ RepT S w y v := by
  cases hr with
  | agg l vs hl h1 hx =>
    unfold loadT at h
    unfold part
    rw [Sem.run_bind, he.isAgg, Result.andThen_ok]
    cases hk : ie.k.isAgg
    · rw [hk] at h
      simp only [Bool.false_eq_true, if_false, List.head?_drop] at h
      have hlt := (List.getElem?_eq_some_iff.1 h).1
      have e1 : vs[off]? = some vs[off] := Array.getElem?_eq_getElem (by omega)
      refine ⟨vs[off], by simp [e1], hx off y _ h e1⟩
    · rw [hk] at h
      simp only [if_true] at h
      split at h
      · rename_i hle
        cases h
        refine ⟨_, by rw [if_pos rfl, Sem.run_bind, he.sizeOf]; rfl, .agg _ _ (by simp at hle ⊢; omega) (fun k v hv => ?_) (fun k y v a b => ?_)⟩
        · rw [Array.getElem?_extract] at hv
          split at hv
          · exact h1 _ v hv
          · cases hv
        · rw [Array.getElem?_extract] at b
          split at b
          · rw [List.getElem?_take] at a
            split at a
            · rw [List.getElem?_drop] at a
              exact hx _ y v a b
            · cases a
          · cases b
      · cases h
theorem evalOp_ok (hT : TTok P tt) (hr : StR C st hd a w) (o : Oper) {y : SV} (h : evalOp tt st o.op = some y) : ∃ v, (execOp a.eval o).run P w = .ok (.value v) w ∧ RepS (vis C hd) w hd y v := by
  obtain ⟨dst, op, ty, pos, after, guard⟩ := o
  simp only at h
  cases op <;> simp only [evalOp] at h
  case move x => cases h; exact ⟨_, rfl, hr.ev x⟩
  case assign x => cases h; exact ⟨_, rfl, hr.ev x⟩
  case nilCheck x =>
    split at h
    · rename_i l hx
      cases h
      have h1 := hr.ev x
      rw [hx] at h1
      generalize hv : a.eval x = v at h1
      have h2 := h1.toT
      cases h2
      exact ⟨_, by simp [execOp, hv], h1⟩
    · cases h
  case pick c x z =>
    split at h
    · rename_i t hc
      have h1 := hr.ev c
      rw [hc] at h1
      generalize hv : a.eval c = v at h1
      have h2 := h1.toT
      cases h2
      have hrun : (execOp a.eval ⟨dst, .pick c x z, ty, pos, after, guard⟩).run P w = .ok (.value (if t then a.eval x else a.eval z)) w := by
        simp [execOp, hv, asBool]
      refine ⟨_, hrun, ?_⟩
      split at h
      · rename_i p q hp hq
        cases h
        have h3 := hr.ev x
        have h4 := hr.ev z
        rw [hp] at h3; rw [hq] at h4
        cases t <;> assumption
      · cases h
        cases t
        · exact hr.ev z
        · exact hr.ev x
    · cases h
  case load t p =>
    split at h
    · rename_i i hi
      obtain ⟨u, h1, h2⟩ := load_ok hr (hT t i hi) h (hr.ev p)
      exact ⟨u, run_val h1, h2⟩
    · cases h
  case binOp op t x z yt =>
    split at h
    · rename_i i p q hi hp hq
      have h3 := hr.ev x
      have h4 := hr.ev z
      rw [hp] at h3; rw [hq] at h4
      split at h
      · rename_i r hb
        cases h
        obtain ⟨u, h1, h2⟩ := bin_ok (hT t i hi) hb h3.toT h4.toT
        exact ⟨u, run_val h1, .t _ _ h2⟩
      · rw [Option.map_eq_some_iff] at h
        obtain ⟨r, hb, rfl⟩ := h
        obtain ⟨u, h1, h2⟩ := beqA_ok (hT t i hi) hb h3.toT h4.toT
        exact ⟨u, run_val h1, .t _ _ h2⟩
    · rename_i i hi hq
      have h3 := hr.ev x
      have h4 := hr.ev z
      rw [hq] at h4
      obtain ⟨u, h1, h2⟩ := nilQ_ok (hT t i hi) h h3 h4
      exact ⟨u, run_val h1, h2⟩
    · cases h
  case unOp op t x =>
    cases op <;> simp only at h
    · split at h
      · rename_i k n hx
        cases h
        have h3 := hr.ev x
        rw [hx] at h3
        generalize hv : a.eval x = v at h3
        have h2 := h3.toT
        cases h2
        exact ⟨_, run_val (by rw [hv]; rfl), .t _ _ (.int _ _)⟩
      · cases h
    · cases h
    · split at h
      · rename_i b hx
        cases h
        have h3 := hr.ev x
        rw [hx] at h3
        generalize hv : a.eval x = v at h3
        have h2 := h3.toT
        cases h2
        exact ⟨_, run_val (by rw [hv]; rfl), .t _ _ (.bool _)⟩
      · cases h
    · cases h
  case fieldAddr t x f =>
    split at h
    · rename_i i hi
      split at h
      · rename_i fs hk
        split at h
        · rename_i p hp
          obtain ⟨b, off, hv, hy⟩ := plus_ok h (hr.ev x)
          exact ⟨_, run_val (by rw [hv]; exact run_fieldAt (hT t i hi) hk hp b off), hy⟩
        · cases h
      · cases h
    · cases h
  case indexAddr t x ix =>
    split at h
    · rename_i i k n hi hn
      have h4 := hr.ev ix
      rw [hn] at h4
      generalize hv : a.eval ix = v at h4
      have h5 := h4.toT
      cases h5
      split at h
      · rename_i e hk
        split at h
        · rename_i ie he
          obtain ⟨u, h1, h2⟩ := index_ok (k := k) hr (hT t i hi) hk (hT e ie he) h (hr.ev x)
          exact ⟨u, run_val (by rw [hv]; exact h1), h2⟩
        · cases h
      · rename_i len e hk
        split at h
        · rename_i ie he
          split at h
          · rename_i hc
            obtain ⟨b, off, hv2, hy⟩ := plus_ok h (hr.ev x)
            exact ⟨_, run_val (by rw [hv, hv2]; exact run_indexArr (hT t i hi) hk (hT e ie he) b off k n hc.1 hc.2), hy⟩
          · cases h
        · cases h
      · cases h
    · cases h
  case extract x k =>
    split at h
    · rename_i l hx
      rw [Option.map_eq_some_iff] at h
      obtain ⟨z, hz, rfl⟩ := h
      have h3 := hr.ev x
      rw [hx] at h3
      generalize hv : a.eval x = v at h3
      have h2 := h3.toT
      cases h2
      rename_i vs hl hx'
      have hk := (List.getElem?_eq_some_iff.1 hz).1
      have e1 : vs[k]? = some vs[k] := Array.getElem?_eq_getElem (by omega)
      exact ⟨_, run_val (by rw [hv]; simp [Instr.extract, e1]), .t _ _ (hx' k z _ hz e1)⟩
    · cases h
  case makeInterface t x =>
    split at h
    · rename_i i p hi hx
      split at h
      · cases h
      · rename_i hne
        cases h
        have h3 := hr.ev x
        rw [hx] at h3
        refine ⟨_, run_val (v := .iface t (a.eval x)) ?_, .t _ _ (.iface _ _ _ h3.toT)⟩
        have hs := (hT t i hi).says
        unfold Instr.makeInterface
        cases hk : i.k <;> simp only [hk, TK.says] at hs
        case iface => exact (hne hk).elim
        case struct => obtain ⟨f, h1, _⟩ := hs; simp [run_underlying h1]
        case plain => obtain ⟨d, h1, h2⟩ := hs; rw [Sem.run_bind, run_underlying h1]; cases d <;> simp_all
        case map => simp [run_underlying hs.1]
        all_goals simp [run_underlying hs]
    · cases h
  case convert s t x =>
    split at h
    · rename_i i j hi hj
      have hs1 := (hT s i hi).says
      have hs2 := (hT t j hj).says
      split at h
      · rename_i k hk
        rw [hk] at hs2; simp only [TK.says] at hs2
        split at h
        · rename_i k' n hx
          cases h
          have h3 := hr.ev x
          rw [hx] at h3
          generalize hv : a.eval x = v at h3
          have h2 := h3.toT
          cases h2
          have : ∃ d, P.underlying s = some d := by
            cases hk1 : i.k <;> simp only [hk1, TK.says] at hs1
            case struct => obtain ⟨f, h1, _⟩ := hs1; exact ⟨_, h1⟩
            case iface => obtain ⟨f, h1⟩ := hs1; exact ⟨_, h1⟩
            case plain => obtain ⟨d, h1, _⟩ := hs1; exact ⟨_, h1⟩
            case map => exact ⟨_, hs1.1⟩
            all_goals exact ⟨_, hs1⟩
          obtain ⟨d, hd⟩ := this
          refine ⟨_, run_val (v := .int k (k.wrap n)) ?_, .t _ _ (.int _ _)⟩
          rw [hv]
          unfold convert
          rw [Sem.run_bind, run_underlying hd, Result.andThen_ok, Sem.run_bind, run_underlying hs2, Result.andThen_ok]
          rfl
        · cases h
      · rename_i hk
        rw [hk] at hs2; simp only [TK.says] at hs2
        split at h
        · rename_i e hk1
          rw [hk1] at hs1; simp only [TK.says] at hs1
          split at h
          · rename_i ie he
            split at h
            · rename_i hke
              have hs3 := (hT e ie he).says
              rw [hke] at hs3; simp only [TK.says] at hs3
              split at h
              · rename_i l hl
                rw [Option.map_eq_some_iff] at h
                obtain ⟨bs, hbs, rfl⟩ := h
                have h3 := hr.ev x
                obtain ⟨hf, hb⟩ := bytes_ok hbs
                obtain ⟨ad, cap, sz, xs, hv, _, hsz, hall, hcell, _, hrep⟩ := lst_cells hr hl h3
                have hb2 := hb hrep
                obtain ⟨ns, hns, hns2⟩ : ∃ ns : List Int, ns.length = l.length ∧ ∀ k n, ns[k]? = some n → xs k = .int .u8 n := by
                  refine ⟨(List.range l.length).map fun k => match xs k with | .int _ n => n | _ => 0, by simp, fun k n hk => ?_⟩
                  rw [List.getElem?_map, Option.map_eq_some_iff] at hk
                  obtain ⟨q, hq, rfl⟩ := hk
                  have hq2 := List.getElem?_eq_some_iff.1 hq
                  obtain ⟨hlt, hq3⟩ := hq2
                  simp at hlt hq3
                  subst hq3
                  obtain ⟨n, hn, _⟩ := hb2 k hlt
                  rw [hn]
                have hbl : bs.length = l.length := bytes_len hbs
                have hbs2 : bs = ns.map fun n => UInt8.ofNat n.toNat := by
                  apply List.ext_getElem
                  · simp [hns, hbl]
                  · intro k h1 h2
                    obtain ⟨n, hn, hb3⟩ := hb2 k (by omega)
                    have h4 : ns[k]'(by simpa using h2) = n := by
                      have := hns2 k _ (List.getElem?_eq_getElem (by simpa using h2))
                      rw [hn] at this
                      injection this with _ e
                      exact e.symm
                    rw [List.getElem?_eq_getElem h1] at hb3
                    simp only [List.getElem_map, h4]
                    exact Option.some.inj hb3
                refine ⟨_, run_val (v := .string ⟨bs.toArray⟩) ?_, .t _ _ (.str _)⟩
                rw [hv]
                unfold convert
                rw [Sem.run_bind, run_underlying hs1, Result.andThen_ok, Sem.run_bind, run_underlying hs2, Result.andThen_ok]
                simp only []
                rw [Sem.run_bind, run_underlying hs3, Result.andThen_ok]
                simp only []
                by_cases hne : l = []
                · subst hne
                  obtain rfl : ns = [] := List.eq_nil_of_length_eq_zero (by simpa using hns)
                  subst hbs2
                  cases ad with
                  | none => rfl
                  | some ad => exact run_bytesT ad [] cap (fun k n h => by simp at h)
                · obtain ⟨b, off, rfl, hc⟩ := hcell hne
                  have hsz1 : sz = 1 := by
                    have h6 := flat_length hall
                    rw [hf] at h6
                    have : 0 < l.length := List.length_pos_iff.2 hne
                    exact Nat.eq_of_mul_eq_mul_left this (by omega)
                  subst hsz1
                  rw [← hns, hbs2]
                  refine run_bytesT ⟨b, off, none⟩ ns cap (fun k n hk => ?_)
                  rw [Addr.add_lit, hc k (by have := (List.getElem?_eq_some_iff.1 hk).1; omega), hns2 k n hk]
              · cases h
            · cases h
          · cases h
        · cases h
      · cases h
    · cases h
  case build t parts =>
    split at h
    · rename_i i hi
      have hp : ∀ (k : Nat) (p : Nat × SV) (q : Nat × Value), (parts.toList.map fun p => (p.1, st.ev p.2))[k]? = some p → (parts.map fun (i, x) => (i, a.eval x))[k]? = some q → p.1 = q.1 ∧ RepS (vis C hd) w hd p.2 q.2 := by
        intro k p q h1 h2
        rw [List.getElem?_map, Option.map_eq_some_iff] at h1
        rw [Array.getElem?_map, Option.map_eq_some_iff] at h2
        obtain ⟨z, hz, rfl⟩ := h1
        obtain ⟨z', hz', rfl⟩ := h2
        rw [Array.getElem?_toList] at hz
        have : z = z' := Option.some.inj (hz.symm.trans hz')
        subst this
        exact ⟨rfl, hr.ev _⟩
      split at h
      · rename_i fs hk
        rw [Option.map_eq_some_iff] at h
        obtain ⟨out, ho, rfl⟩ := h
        obtain ⟨u, h1, h2⟩ := run_build_struct (hT t i hi) hk ho (by simp) hp
        exact ⟨u, run_val h1, h2⟩
      · rename_i n e hk
        split at h
        · rename_i ie he
          rw [Option.map_eq_some_iff] at h
          obtain ⟨out, ho, rfl⟩ := h
          obtain ⟨u, h1, h2⟩ := run_build_array (hT t i hi) hk (hT e ie he) ho (by simp) hp
          exact ⟨u, run_val h1, h2⟩
        · cases h
      · cases h
    · cases h
  case lookup t m k ok =>
    split at h
    · rename_i i key hi hkey
      split at h
      · rename_i kk kt e hk
        split at h
        · rename_i ie j he hm
          split at h
          · rename_i kk' es ho
            split at h
            · rename_i hc
              obtain ⟨rfl, hc⟩ := hc
              cases h
              have h3 := hr.ev m
              have h4 := hr.ev k
              rw [hm] at h3; rw [hkey] at h4
              obtain ⟨u, h1, h2⟩ := lookup_ok hT hr hi hk he ho hc h3 h4.toT ok
              exact ⟨u, run_val h1, .t _ _ h2⟩
            · cases h
          · cases h
        · cases h
      · cases h
    · cases h
  case index t x ix =>
    split at h
    · rename_i i s k n hi hx hn
      have h3 := hr.ev x
      have h4 := hr.ev ix
      rw [hx] at h3; rw [hn] at h4
      generalize hv1 : a.eval x = v1 at h3
      generalize hv2 : a.eval ix = v2 at h4
      have h5 := h3.toT
      have h6 := h4.toT
      cases h5; cases h6
      split at h
      · rename_i hk
        have hs := (hT t i hi).says
        rw [hk] at hs; simp only [TK.says] at hs
        split at h
        · rename_i h0
          split at h
          · rename_i b hb
            cases h
            have hb2 : s[n.toNat]? = some b := by
              have hlt := (List.getElem?_eq_some_iff.1 hb).1
              have hlt2 : n.toNat < s.size := by simpa using hlt
              rw [getElem?_pos s n.toNat hlt2]
              rw [List.getElem?_eq_getElem hlt] at hb
              have hb3 : s.data[n.toNat]'(by simpa using hlt) = b := by simpa using hb
              exact congrArg some hb3
            refine ⟨_, run_val (v := .int .u8 b.toNat) ?_, .t _ _ (.int _ _)⟩
            rw [hv1, hv2]
            unfold Instr.index
            simp [asIntOf, run_underlying hs, h0, hb2]
          · cases h
        · cases h
      · cases h
    · rename_i i l k n hi hx hn
      have h3 := hr.ev x
      have h4 := hr.ev ix
      rw [hx] at h3; rw [hn] at h4
      generalize hv1 : a.eval x = v1 at h3
      generalize hv2 : a.eval ix = v2 at h4
      have h5 := h3.toT
      have h6 := h4.toT
      cases h6
      split at h
      · rename_i len e hk
        have hs := (hT t i hi).says
        rw [hk] at hs; simp only [TK.says] at hs
        split at h
        · rename_i ie he
          split at h
          · rename_i hc
            rw [Option.map_eq_some_iff] at h
            obtain ⟨q, hq, rfl⟩ := h
            obtain ⟨vs, rfl⟩ : ∃ vs, v1 = .agg vs := by cases h5; exact ⟨_, rfl⟩
            obtain ⟨u, h7, h8⟩ := part_ok (hT e ie he) h5 hq
            refine ⟨u, run_val ?_, .t _ _ h8⟩
            rw [hv1, hv2]
            unfold Instr.index
            simp [asIntOf, run_underlying hs, hc.1, hc.2, (hT e ie he).sizeOf, h7]
          · cases h
        · cases h
      · cases h
    · cases h
  case makeFunc fn first cap =>
    split at h
    · rename_i f hfirst
      cases h
      have : first = #[] := by cases first; simp at hfirst; subst hfirst; rfl
      subst this
      refine ⟨_, run_val (v := .func (.func f) #[] (cap.map a.eval)) (by simp [Instr.makeFunc]), mkFn_rep (by simp) fun k y v h1 h2 => ?_⟩
      rw [List.getElem?_map, Option.map_eq_some_iff] at h1
      rw [Array.getElem?_map, Option.map_eq_some_iff] at h2
      obtain ⟨z, hz, rfl⟩ := h1
      obtain ⟨z', hz', rfl⟩ := h2
      rw [Array.getElem?_toList] at hz
      have : z = z' := Option.some.inj (hz.symm.trans hz')
      subst this
      exact hr.ev _
    · cases h
  case call c =>
    obtain ⟨callee, args, ats⟩ := c
    simp only at h
    split at h
    · rename_i hc
      split at h
      · rename_i x t hx ht
        split at h
        · rename_i i hi
          rw [Option.map_eq_some_iff] at h
          obtain ⟨n, hn, rfl⟩ := h
          obtain rfl : args = #[x] := by cases args; simp at hx; subst hx; rfl
          obtain rfl : ats = #[t] := by cases ats; simp at ht; subst ht; rfl
          refine ⟨_, ?_, .t _ _ (.int .i64 n)⟩
          have := len_ok (ty := ty) hT hr hi hn (hr.ev x)
          simp [execOp, resolve, invoke, builtin, this]
        · cases h
      · cases h
    · rename_i hc
      split at h
      · rename_i x z hx
        split at h
        · rename_i p q hp hq
          rw [Option.map_eq_some_iff] at h
          obtain ⟨r, hb, rfl⟩ := h
          obtain rfl : args = #[x, z] := by cases args; simp at hx; subst hx; rfl
          have h3 := hr.ev x
          have h4 := hr.ev z
          rw [hp] at h3; rw [hq] at h4
          generalize hv1 : a.eval x = v1 at h3
          generalize hv2 : a.eval z = v2 at h4
          have h5 := h3.toT
          have h6 := h4.toT
          unfold T.max2 at hb
          split at hb
          · split at hb
            · rename_i e; subst e; cases hb; cases h5; cases h6
              exact ⟨_, by simp [execOp, resolve, invoke, builtin, Builtin.max_, Builtin.max2, hv1, hv2], .t _ _ (.int _ _)⟩
            · cases hb
          · cases hb
        · cases h
      · cases h
    · rename_i hc
      split at h
      · rename_i x z hx
        split at h
        · rename_i p q hp hq
          rw [Option.map_eq_some_iff] at h
          obtain ⟨r, hb, rfl⟩ := h
          obtain rfl : args = #[x, z] := by cases args; simp at hx; subst hx; rfl
          have h3 := hr.ev x
          have h4 := hr.ev z
          rw [hp] at h3; rw [hq] at h4
          generalize hv1 : a.eval x = v1 at h3
          generalize hv2 : a.eval z = v2 at h4
          have h5 := h3.toT
          have h6 := h4.toT
          unfold T.min2 at hb
          split at hb
          · split at hb
            · rename_i e; subst e; cases hb; cases h5; cases h6
              exact ⟨_, by simp [execOp, resolve, invoke, builtin, Builtin.min_, Builtin.min2, hv1, hv2], .t _ _ (.int _ _)⟩
            · cases hb
          · cases hb
        · cases h
      · cases h
    · cases h
  all_goals cases h
end
end Go.Proofs.YtpgkpbfefnpagaaGreatDoor
namespace Go.Proofs.YtpgkpbfefnpagaaGreatDoor
open Go.RowKit

/-- A datum of a cell; an own slice is no longer written from then on. -/
def frzC (heap : List Ob) : SV → Option (T × List Ob)
  | .t x => some (x, heap)
  | .nil => some (.list [], heap)
  | .lit l => some (.list l, heap)
  | .sref j => match (heap[j]?).getD .gone with
    | .row _ _ _ l => some (.list l, heap.set j (.froz l))
    | .froz l => some (.list l, heap)
    | _ => none
  | _ => none
def frzL (heap : List Ob) : List SV → Option (List T × List Ob)
  | [] => some ([], heap)
  | x :: r => match frzC heap x with
    | some (y, heap') => match frzL heap' r with
      | some (ys, heap'') => some (y :: ys, heap'')
      | none => none
    | none => none
def frz (heap : List Ob) : SV → Option (T × List Ob)
  | .agg l => match frzL heap l with
    | some (ys, heap') => some (.agg ys, heap')
    | none => none
  | x => frzC heap x

section
variable {P : Program} {C : Ctx} {st : St} {hd : List Hd} {a : Act} {w : World} {tt : Nat → Option TI}
theorem StR.set0 (h : StR C st hd a w) {w' : World} (j : Nat) (o : Ob) (g0 g : Hd) (hj : hd[j]? = some g0) (hb : Below C.w0.heap.size w w') (hblk : ∀ b, b < w.heap.size → g0.own ≠ some b → w'.heap[b]? = w.heap[b]?)
    (ho : ∀ b, g.own = some b → C.w0.heap.size ≤ b ∧ b < w'.heap.size ∧ (g0.own = some b ∨ w.heap.size ≤ b)) (hp : Keeps some hd (hd.set j g))
    (hr : ObR (vis C (hd.set j g)) C.w0.heap.size w' (hd.set j g) o g) : StR C { st with heap := st.heap.set j o } (hd.set j g) a w' := by
  have := h.set some j o g0 g hj hb hblk ho hp hr
  rw [map_ren_some] at this
  have e : st.heap.map (Ob.ren some) = st.heap := by
    conv => rhs; rw [← List.map_id st.heap]
    exact List.map_congr_left fun o _ => Ob.ren_some o
  rwa [e] at this
theorem Keeps.set_off {hd : List Hd} {j : Nat} {g : Hd} (hj : hd[j]? = some g) : Keeps some hd (hd.set j g.off) := by
  intro i k h e hi
  cases e
  rw [List.getElem?_set]
  by_cases e : j = i
  · subst e
    have hlt := (List.getElem?_eq_some_iff.1 hj).1
    rw [hj] at hi; cases hi
    exact ⟨g.off, by rw [if_pos rfl, if_pos hlt], .inr rfl⟩
  · exact ⟨h, by rw [if_neg e]; exact hi, .inl rfl⟩
theorem vis_off {hd : List Hd} {j : Nat} {g : Hd} (hg : g.off.own = none) (b : Nat) (h : vis C hd b) : vis C (hd.set j g.off) b := by
  refine ⟨h.1, fun x hx => ?_⟩
  rcases List.mem_or_eq_of_mem_set hx with hx | rfl
  · exact h.2 x hx
  · rw [hg]; simp
theorem vis_given (hr : StR C st hd a w) {j : Nat} {g : Hd} (hj : hd[j]? = some g) (hg : g.off.own = none) {b : Nat} (hb : g.own = some b) : vis C (hd.set j g.off) b := by
  refine ⟨hr.ext.seen (List.mem_of_getElem? hj) hb (hr.own g b (List.mem_of_getElem? hj) hb).1, fun x hx e => ?_⟩
  obtain ⟨i, hi⟩ := List.mem_iff_getElem?.1 hx
  rw [List.getElem?_set] at hi
  split at hi
  · split at hi
    · cases hi; rw [hg] at e; cases e
    · cases hi
  · rename_i hne
    exact hne (hr.dist j i g x b hj hi hb e)
theorem freezeRow (hr : StR C st hd a w) {j e sz : Nat} {wr : Bool} {l : List T} {ad : Option Addr} {n cap : Nat} {o : Option Nat} (hj : st.heap[j]? = some (.row e sz wr l)) (hh : hd[j]? = some (.sl ad n cap o)) :
    StR C { st with heap := st.heap.set j (.froz l) } (hd.set j (.sl ad n cap none)) a w ∧ RepT (vis C (hd.set j (.sl ad n cap none))) w (.list l) (.slice ad n cap) ∧ Stay (vis C hd) (vis C (hd.set j (.sl ad n cap none))) w w ∧ Keeps some hd (hd.set j (.sl ad n cap none)) := by
  have hob := hr.ob j _ _ hj hh
  have hst : Stay (vis C hd) (vis C (hd.set j (Hd.sl ad n cap o).off)) w w := ⟨Nat.le_refl _, fun b hb _ => ⟨rfl, vis_off rfl b hb⟩⟩
  have hk := Keeps.set_off hh
  have hrep : RepT (vis C (hd.set j (Hd.sl ad n cap o).off)) w (.list l) (.slice ad n cap) := by
    obtain ⟨xs, h1, h2, h3⟩ := row_cells hob
    obtain ⟨e1, e2, e3, e4, e5⟩ := hob
    subst e1
    rcases e5 with ⟨ys, f1, f2, f3⟩ | ⟨_, rfl, rfl, b, rfl, f⟩
    · have hcap : l.length ≤ cap := by
        rcases f1.2 with ⟨q, q2⟩ | ⟨g, cap', cur, q, _, _, q3, _⟩
        · omega
        · cases q; exact q3
      refine .list l ad cap sz xs e3 e2 e4 (fun hne => ?_) h2 (fun k y hy => (h3 k y hy).keep hst) hcap
      obtain ⟨b, rfl, hc⟩ := h1 hne
      exact ⟨b, 0, rfl, vis_given hr hh rfl (by simp [Hd.own, f2, Value.ownBlock]), fun k hk => by rw [Nat.zero_add]; exact hc k hk⟩
    · exact f.keep hst
  refine ⟨hr.set0 j _ _ _ hh (Below.refl _ _) (fun _ _ _ => rfl) (fun b hb => by simp [Hd.own] at hb) hk ?_, hrep, hst, hk⟩
  exact ⟨hob.1, rfl, hrep⟩
theorem frzC_ok (hr : StR C st hd a w) {x : SV} {v : Value} {y : T} {heap' : List Ob} (h : frzC st.heap x = some (y, heap')) (hx : RepS (vis C hd) w hd x v) :
    ∃ hd', StR C { st with heap := heap' } hd' a w ∧ RepT (vis C hd') w y v ∧ Stay (vis C hd) (vis C hd') w w ∧ Keeps some hd hd' := by
  unfold frzC at h
  split at h
  · cases h; exact ⟨hd, hr, hx.toT, Stay.refl _ _, Keeps.refl _⟩
  · cases h; cases hx
    exact ⟨hd, hr, .list [] none 0 1 (fun _ => undef) (Nat.zero_le _) Nat.one_pos (fun x hx => by simp at hx) (fun h => (h rfl).elim) (fun k hk => by simp at hk) (fun k y hy => by simp [flat] at hy) (Nat.le_refl _), Stay.refl _ _, Keeps.refl _⟩
  · cases h; cases hx
    exact ⟨hd, hr, ‹_›, Stay.refl _ _, Keeps.refl _⟩
  · rename_i j
    split at h
    · rename_i e sz wr l ho
      cases h; cases hx
      rename_i ad n cap o hb
      obtain ⟨h1, h2, h3, h4⟩ := freezeRow hr (obj_some (st := st) ho (by simp)) hb
      exact ⟨_, h1, h2, h3, h4⟩
    · rename_i l ho
      cases h; cases hx
      rename_i ad n cap o hb
      have := hr.ob _ _ _ (obj_some (st := st) ho (by simp)) hb
      exact ⟨hd, hr, this.2.2, Stay.refl _ _, Keeps.refl _⟩
    · cases h
  · cases h
theorem Keeps.trans {h1 h2 h3 : List Hd} (a : Keeps some h1 h2) (b : Keeps some h2 h3) : Keeps some h1 h3 := by
  intro i j h e hi
  cases e
  obtain ⟨h', e1, e2⟩ := a i i h rfl hi
  obtain ⟨h'', e3, e4⟩ := b i i h' rfl e1
  refine ⟨h'', e3, ?_⟩
  rcases e2 with rfl | rfl
  · exact e4
  · rcases e4 with rfl | rfl
    · exact .inr rfl
    · right; cases h <;> rfl
theorem Stay.trans {S S' S'' : Nat → Prop} {w w' w'' : World} (h : Stay S S' w w') (h' : Stay S' S'' w' w'') : Stay S S'' w w'' :=
  ⟨Nat.le_trans h.1 h'.1, fun b hb hlt => by
    have h1 := h.2 b hb hlt
    have h2 := h'.2 b h1.2 (by have := h.1; omega)
    exact ⟨h2.1.trans h1.1, h2.2⟩⟩
theorem frzL_ok : ∀ {l : List SV} {st : St} {hd : List Hd} (_ : StR C st hd a w) {vs : List Value} {ys : List T} {heap' : List Ob} (_ : frzL st.heap l = some (ys, heap')) (_ : RepC (vis C hd) w hd l vs),
    ∃ hd', StR C { st with heap := heap' } hd' a w ∧ RepL (vis C hd') w ys vs ∧ Stay (vis C hd) (vis C hd') w w ∧ Keeps some hd hd'
  | [], st, hd, hr, vs, ys, heap', h, hx => by
    simp [frzL] at h
    obtain ⟨rfl, rfl⟩ := h
    obtain rfl : vs = [] := List.eq_nil_of_length_eq_zero (by simpa using hx.len)
    exact ⟨hd, hr, RepL.nil _ _, Stay.refl _ _, Keeps.refl _⟩
  | x :: r, st, hd, hr, vs, ys, heap', h, hx => by
    cases vs with
    | nil => simpa using hx.len
    | cons v vs =>
      simp only [frzL] at h
      split at h
      · rename_i y h1 e1
        split at h
        · rename_i zs h2 e2
          cases h
          obtain ⟨hd1, r1, t1, s1, k1⟩ := frzC_ok hr e1 (hx.rep 0 x v rfl rfl)
          have hx1 : RepC (vis C hd1) w hd1 r vs := ⟨by simpa using hx.len, fun v hv => hx.one v (List.mem_cons_of_mem _ hv), fun k y v a b => (hx.rep (k + 1) y v (by simpa using a) (by simpa using b)).keep s1 k1⟩
          obtain ⟨hd2, r2, t2, s2, k2⟩ := frzL_ok (st := { st with heap := h1 }) r1 e2 hx1
          refine ⟨hd2, r2, ⟨by simp [t2.len], fun u hu => ?_, fun k z u a b => ?_⟩, s1.trans s2, k1.trans k2⟩
          · rcases List.mem_cons.1 hu with rfl | hu
            · exact hx.one _ List.mem_cons_self
            · exact t2.one u hu
          · cases k with
            | zero => simp at a b; subst a b; exact t1.keep s2
            | succ k => exact t2.rep k z u (by simpa using a) (by simpa using b)
        · cases h
      · cases h
theorem RepS.aggInv {S : Nat → Prop} {l : List SV} {v : Value} (h : RepS S w hd (.agg l) v) : ∃ vs, v = .agg vs ∧ RepC S w hd l vs.toList := by
  cases h with
  | agg l vs hl h1 hx => exact ⟨vs, rfl, by simpa using hl, fun v hv => by obtain ⟨k, hk⟩ := List.mem_iff_getElem?.1 hv; exact h1 k v (by simpa using hk), fun k y v a b => hx k y v a (by simpa using b)⟩
theorem frz_ok (hr : StR C st hd a w) {x : SV} {v : Value} {y : T} {heap' : List Ob} (h : frz st.heap x = some (y, heap')) (hx : RepS (vis C hd) w hd x v) :
    ∃ hd', StR C { st with heap := heap' } hd' a w ∧ RepT (vis C hd') w y v ∧ Stay (vis C hd) (vis C hd') w w ∧ Keeps some hd hd' := by
  unfold frz at h
  split at h
  · split at h
    · rename_i ys h1 e1
      cases h
      obtain ⟨vs, rfl, hc⟩ := hx.aggInv
      obtain ⟨hd', r1, t1, s1, k1⟩ := frzL_ok hr e1 hc
      exact ⟨hd', r1, t1.toAgg, s1, k1⟩
    · cases h
  · exact frzC_ok hr h hx
end
end Go.Proofs.YtpgkpbfefnpagaaGreatDoor
namespace Go.Proofs.YtpgkpbfefnpagaaGreatDoor
open Go.RowKit

section
variable {P : Program} {C : Ctx} {st : St} {hd : List Hd} {a : Act} {w : World} {tt : Nat → Option TI}
theorem stay_new {w' : World} (hb : Below w.heap.size w w') {g : Hd} (ho : ∀ b, g.own = some b → w.heap.size ≤ b) : Stay (vis C hd) (vis C (hd ++ [g])) w w' :=
  ⟨hb.size, fun b hS hlt => ⟨hb.block b hlt, hS.1, fun x hx => by
    rcases List.mem_append.1 hx with hx | hx
    · exact hS.2 x hx
    · simp at hx; subst hx; intro e; have := ho b e; omega⟩⟩
theorem keeps_new (hd : List Hd) (g : Hd) : Keeps some hd (hd ++ [g]) := fun i j x e hx => by
  cases e
  exact ⟨x, by rw [List.getElem?_append_left (List.getElem?_eq_some_iff.1 hx).1]; exact hx, .inl rfl⟩
theorem alloc_below (w : World) (o : Obj) : Below w.heap.size w (w.alloc o) := (Below.refl _ _).alloc (Nat.le_refl _) _
/-- A new variable. -/
theorem new_box (hr : StR C st hd a w) (e : Nat) {l : List SV} {vs : Array Value} (hc : RepC (vis C hd) w hd l vs.toList) :
    StR C { st with heap := st.heap ++ [.box l] } (hd ++ [.bx w.heap.size true]) a (w.alloc (.cells vs e)) := by
  have ho : ∀ b, (Hd.bx w.heap.size true).own = some b → w.heap.size ≤ b ∧ b < (w.alloc (.cells vs e)).heap.size := fun b hb => by simp [Hd.own] at hb; subst hb; simp
  refine hr.new (alloc_below w _) _ _ ho ?_
  have hc' := hc.keep (stay_new (C := C) (alloc_below w (.cells vs e)) (g := .bx w.heap.size true) fun b hb => (ho b hb).1) (keeps_new hd (.bx w.heap.size true))
  refine ⟨rfl, vs, e, heap_alloc_new w _, by simpa using hc.len, fun k v hv => hc.one v (List.mem_iff_getElem?.2 ⟨k, by simpa using hv⟩), fun k y v x1 x2 => hc'.rep k y v x1 (by simpa using x2)⟩
theorem TIok.zL {t : Nat} {i : TI} {S : Nat → Prop} (h : TIok P t i) : ∃ z : Value, (zeroValue t).run P w = .ok z w ∧ z.cells.size = i.sz ∧ RepL S w i.zT.cells z.cells.toList := by
  obtain ⟨z, z1, z2, z3, z4⟩ := h.zeroC (S := S) (w := w) (hd := [])
  refine ⟨z, z1, z2, ?_⟩
  have hrep : ∀ (k : Nat) (y : SV) (v : Value), i.zero[k]? = some y → z.cells.toList[k]? = some v → RepT S w y.toT0 v := fun k y v h1 h2 => by
    have := z3.rep k y v h1 h2
    cases this with
    | t x v h => exact h
    | nil => exact .list [] none 0 1 (fun _ => undef) (Nat.zero_le _) Nat.one_pos (fun x hx => by simp at hx) (fun h => (h rfl).elim) (fun k hk => by simp at hk) (fun k y hy => by simp [flat] at hy) (Nat.le_refl _)
    | _ => exact .undef _
  rcases z4 with ⟨cs, rfl, hk⟩ | ⟨h1, hk⟩
  · refine ⟨by simp [TI.zT, hk, T.cells]; have := z3.len; simpa using this, z3.one, fun k y v h1 h2 => ?_⟩
    simp only [TI.zT, hk, if_true, T.cells, List.getElem?_map, Option.map_eq_some_iff] at h1
    obtain ⟨q, hq, rfl⟩ := h1
    exact hrep k q v hq h2
  · have hz : z.cells = #[z] := by cases z <;> simp_all [Value.cells, Value.oneCell']
    have hl := z3.len
    rw [hz] at hl
    obtain ⟨q, hq⟩ : ∃ q, i.zero = [q] := by
      match hz0 : i.zero with
      | [q] => exact ⟨q, rfl⟩
      | [] => rw [hz0] at hl; simp at hl
      | q :: r :: m => rw [hz0] at hl; simp at hl
    have hr0 := hrep 0 q z (by rw [hq]; rfl) (by rw [hz]; rfl)
    have e : i.zT = q.toT0 := by simp [TI.zT, hk, hq]
    rw [e, hz]
    have hcell : q.toT0.cells = [q.toT0] := by
      generalize hx : q.toT0 = x at hr0
      cases x <;> first | rfl | (cases hr0; simp [Value.oneCell'] at h1)
    rw [hcell]
    refine ⟨rfl, fun v hv => by simp at hv; subst hv; exact h1, fun k y v h2 h3 => ?_⟩
    cases k with
    | zero => simp at h2 h3; subst h2 h3; exact hr0
    | succ k => simp at h2
theorem flat_replicate {x : T} {sz : Nat} (hx : x.cells.length = sz) : ∀ (n k : Nat), k < n * sz → (flat (List.replicate n x))[k]? = x.cells[k % sz]?
  | 0, k, h => by simp at h
  | n + 1, k, h => by
    simp only [List.replicate_succ, flat, List.flatMap_cons]
    by_cases hk : k < sz
    · rw [List.getElem?_append_left (by omega), Nat.mod_eq_of_lt hk]
    · rw [List.getElem?_append_right (by omega), hx]
      have := flat_replicate hx n (k - sz) (by rw [Nat.add_mul] at h; omega)
      rw [flat] at this
      rw [this]
      congr 1
      conv => rhs; rw [show k = (k - sz) + sz by omega, Nat.add_mod_right]
/-- 'make([]T, n)'. -/
theorem make_ok (hr : StR C st hd a w) {t e : Nat} {i ie : TI} (hi : TIok P t i) (hk : i.k = .slice e) (he : TIok P e ie) (k1 k2 : IntKind) (n : Nat) (hn : ie.by_ * n ≤ 281474976710656) (hm : n ≤ maxLen) :
    ∃ v w', (Instr.makeSlice t (.int k1 n) (.int k2 n)).run P w = .ok v w' ∧ ∃ hd', StR C { st with heap := st.heap ++ [.row e ie.sz true (List.replicate n ie.zT)] } hd' a w' ∧ RepS (vis C hd') w' hd' (.sref st.heap.length) v := by
  have hs := hi.says
  rw [hk] at hs; simp only [TK.says] at hs
  obtain ⟨inf, i1, i2, i3, z, i4, i5, i6, _⟩ := he.info
  obtain ⟨z', z1, z2, z3⟩ := he.zL (S := fun _ => False) (w := w)
  have hz' : z = z' := by
    have : (zeroValue e).run P w = .ok z w := by simp [zeroValue, typeInfo, i1, i4]
    rw [z1] at this; cases this; rfl
  subst hz'
  obtain ⟨w', h1, h2, h3⟩ := run_make_full (P := P) w C.w0.heap.size t e inf z ie.sz hs i1 i4 i2 k1 k2 n (by rw [i3]; exact hn) hm hr.below.size
  refine ⟨_, w', h1, _, hr.new ⟨h3.os, h3.tape, h3.output, h3.size, fun k hk => h3.block k hk (by simp)⟩ _ (.sl (some ⟨w.heap.size, 0, none⟩) n n (some w.heap.size)) (fun b hb => ?_) ?_, ?_⟩
  · simp [Hd.own] at hb; subst hb
    exact ⟨Nat.le_refl _, (h2.lt _ rfl).2⟩
  · have hcl : ie.zT.cells.length = ie.sz := by rw [← z3.len, ← z2]; simp
    have hall : ∀ x ∈ List.replicate n ie.zT, x.cells.length = ie.sz := fun x hx => by rw [List.eq_of_mem_replicate hx]; exact hcl
    refine ⟨by simp, he.pos, by simpa using hm, hall, .inl ⟨_, h2, rfl, ?_⟩⟩
    have hfl := flat_length hall
    rw [List.length_replicate] at hfl
    have hget : ∀ k, k < n * ie.sz → (madeCells z.cells (n * ie.sz)).toList[k]? = z.cells.toList[k % ie.sz]? := fun k hk => by
      have hlt : k % ie.sz < z.cells.size := by rw [z2]; exact Nat.mod_lt _ he.pos
      simp [madeCells, hk, z2]
      rw [getElem!_pos z.cells (k % ie.sz) hlt, Array.getElem?_eq_getElem hlt]
    refine ⟨by rw [hfl]; simp [size_madeCells], fun v hv => ?_, fun k y v hy hv => ?_⟩
    · obtain ⟨k, hk⟩ := List.mem_iff_getElem?.1 hv
      have hlt := (List.getElem?_eq_some_iff.1 hk).1
      simp [size_madeCells] at hlt
      rw [hget k hlt] at hk
      exact z3.one v (List.mem_of_getElem? hk)
    · have hlt := (List.getElem?_eq_some_iff.1 hy).1
      rw [hfl] at hlt
      rw [flat_replicate hcl n k hlt] at hy
      rw [hget k hlt] at hv
      exact (z3.rep _ y v hy hv).keep ⟨h3.size, fun b hb _ => hb.elim⟩
  · refine .sref _ _ _ _ (some w.heap.size) ?_
    rw [← hr.hl, List.getElem?_append_right (Nat.le_refl _), Nat.sub_self]; rfl
/-- A literal: its cells, in a new block. -/
theorem lit_new (hr : StR C st hd a w) {e sz : Nat} {l : List T} {vs : Array Value} (h0 : 0 < sz) (hm : l.length ≤ maxLen) (hf : ∀ x ∈ l, x.cells.length = sz) (hc : RepL (vis C hd) w (flat l) vs.toList) :
    StR C st hd a (w.alloc (.cells vs e)) ∧ RepS (vis C hd) (w.alloc (.cells vs e)) hd (.lit l) (.slice (some ⟨w.heap.size, 0, none⟩) l.length l.length) := by
  refine ⟨hr.grow (alloc_below w _), ?_⟩
  have hst : Stay (vis C hd) (vis C hd) w (w.alloc (.cells vs e)) := ⟨(alloc_below w _).size, fun b hb hlt => ⟨(alloc_below w _).block b hlt, hb⟩⟩
  have hc' := hc.keep hst
  have hfl := flat_length hf
  have hsz : vs.size = l.length * sz := by have := hc.len; rw [hfl] at this; simpa using this
  refine .lit l _ (.list l _ _ sz (fun k => vs.getD k undef) hm h0 hf (fun _ => ⟨w.heap.size, 0, rfl, ⟨hr.ext.fresh (Nat.le_refl _), fun h hh e => ?_⟩, fun k hk => ?_⟩) (fun k hk => ?_) (fun k y hy => ?_) (Nat.le_refl _)) fun _ => ⟨vs, e, heap_alloc_new w _⟩
  · have := (hr.own h _ hh e).2; omega
  · rw [Nat.zero_add, World.cell?_alloc_at _ _ _ _ rfl]
    simp [hsz, hk]
  · exact hc.one _ (List.mem_iff_getElem?.2 ⟨k, by simp [hsz, hk]⟩)
  · have hk := (List.getElem?_eq_some_iff.1 hy).1
    exact hc'.rep k y _ hy (by simp [show k < vs.size by omega])
end
end Go.Proofs.YtpgkpbfefnpagaaGreatDoor
namespace Go.Proofs.YtpgkpbfefnpagaaGreatDoor
open Go.RowKit

/-- An element of sz cells, n of them written. -/
def T.put (sz : Nat) (z : T) (off n : Nat) (y : T) : T := if off = 0 ∧ n = sz then y else match z with
  | .agg cs => .agg (cs.take off ++ y.cells ++ cs.drop (off + n))
  | _ => .undef
theorem T.put_cells {sz off n : Nat} {z y : T} (hz : z.cells.length = sz) (hy : y.cells.length = n) (h0 : 0 < n) (hle : off + n ≤ sz) : (T.put sz z off n y).cells = z.cells.take off ++ y.cells ++ z.cells.drop (off + n) := by
  unfold T.put
  split
  · rename_i h
    obtain ⟨rfl, rfl⟩ := h
    rw [List.drop_eq_nil_of_le (by omega)]; simp
  · rename_i h
    split
    · rfl
    · rename_i hz'
      have : sz = 1 := by
        rw [← hz]; cases z <;> first | rfl | (exact (hz' _ rfl).elim)
      omega
/-- A store. -/
def St.store (st : St) (i : TI) (p x : SV) : Option St := match p with
  | .bptr j off => match st.obj j with
    | .box l => if x.storable = true ∧ x.cells.length = i.sz ∧ off + i.sz ≤ l.length then some { st with heap := st.heap.set j (.box (l.take off ++ x.cells ++ l.drop (off + i.sz))) } else none
    | _ => none
  | .eptr j sz k off => match frz st.heap x with
    | some (y, heap') => match (heap'[j]?).getD .gone with
      | .row e sz' true l => if sz = sz' ∧ y.storable = true ∧ y.cells.length = i.sz ∧ off + i.sz ≤ sz then (match l[k]? with
        | some z => some { st with heap := heap'.set j (.row e sz true (l.set k (T.put sz z off i.sz y))) }
        | none => none) else none
      | _ => none
    | none => none
  | _ => none

section
variable {P : Program} {C : Ctx} {st : St} {hd : List Hd} {a : Act} {w : World} {tt : Nat → Option TI}
theorem run_storeVar_at {t : Nat} {i : TI} (ht : TIok P t i) {g off : Nat} {ty : TypeId} {cur : Array Value} (hg : w.heap[g]? = some (.cells cur ty (0, 0))) {v : Value} (hs : v.cells.size = i.sz) (hle : off + i.sz ≤ cur.size) (h1 : ∀ u ∈ v.cells.toList, u.oneCell' = true) :
    (Instr.storeAt t (.pointer (some ⟨g, off, none⟩)) v).run P w = .ok () (w.setRow g (cur.toList.take off ++ v.cells.toList ++ cur.toList.drop (off + i.sz)).toArray) := by
  have := run_storeCells_at P g off ty v.cells.toList 0 cur w hg (by simp; omega) h1
  simp only [Nat.add_zero, Array.length_toList, hs] at this
  unfold Instr.storeAt Instr.sureAddr storeVar
  simp [ht.sizeOf, hs, this]
theorem setRow_below {g : Nat} {cs : Array Value} {B : Nat} (hg : B ≤ g) : Below B w (w.setRow g cs) := ⟨rfl, rfl, rfl, by simp [World.setRow], fun k hk => setRow_other w g k cs (by omega)⟩
theorem keeps_same {hd : List Hd} {j : Nat} {g : Hd} (hj : hd[j]? = some g) : Keeps some hd (hd.set j g) := by
  intro i k h e hi
  cases e
  rw [List.getElem?_set]
  by_cases e : j = i
  · subst e
    have hlt := (List.getElem?_eq_some_iff.1 hj).1
    rw [hj] at hi; cases hi
    exact ⟨g, by rw [if_pos rfl, if_pos hlt], .inl rfl⟩
  · exact ⟨h, by rw [if_neg e]; exact hi, .inl rfl⟩
theorem set_same {hd : List Hd} {j : Nat} {g : Hd} (hj : hd[j]? = some g) : hd.set j g = hd := by
  apply List.ext_getElem?
  intro i
  rw [List.getElem?_set]
  by_cases e : j = i
  · subst e
    rw [if_pos rfl, if_pos (List.getElem?_eq_some_iff.1 hj).1, hj]
  · rw [if_neg e]
theorem stay_set {g : Nat} {cs : Array Value} (hg : ∃ h ∈ hd, h.own = some g) : Stay (vis C hd) (vis C hd) w (w.setRow g cs) :=
  ⟨by simp [World.setRow], fun b hb _ => ⟨setRow_other w g b cs (fun e => by subst e; obtain ⟨h, h1, h2⟩ := hg; exact hb.2 h h1 h2), hb⟩⟩
theorem store_box (hr : StR C st hd a w) {t : Nat} {i : TI} (ht : TIok P t i) {j off : Nat} {l : List SV} (ho : st.heap[j]? = some (.box l)) {x : SV} {v p : Value} (hx : RepS (vis C hd) w hd x v) (hp : RepS (vis C hd) w hd (.bptr j off) p)
    (h1 : x.storable = true) (h2 : x.cells.length = i.sz) (h3 : off + i.sz ≤ l.length) :
    ∃ w', (Instr.storeAt t p v).run P w = .ok () w' ∧ StR C { st with heap := st.heap.set j (.box (l.take off ++ x.cells ++ l.drop (off + i.sz))) } hd a w' := by
  cases hp
  rename_i b o hb
  obtain ⟨rfl, vs, ty, e1, e2, e3, e4⟩ := hr.ob j _ _ ho hb
  have hc := hx.toC h1
  have hvs : v.cells.size = i.sz := by have := hc.len; simp at this; omega
  refine ⟨_, run_storeVar_at ht e1 hvs (by omega) hc.one, ?_⟩
  have hob := hr.own _ b (List.mem_of_getElem? hb) rfl
  have hst := stay_set (C := C) (w := w) (cs := (vs.toList.take off ++ v.cells.toList ++ vs.toList.drop (off + i.sz)).toArray) (hd := hd) ⟨_, List.mem_of_getElem? hb, (rfl : (Hd.bx b true).own = some b)⟩
  have := hr.set0 (w' := w.setRow b (vs.toList.take off ++ v.cells.toList ++ vs.toList.drop (off + i.sz)).toArray) j (.box (l.take off ++ x.cells ++ l.drop (off + i.sz))) _ (.bx b true) hb (setRow_below hob.1)
    (fun k _ hne => setRow_other w b k _ (fun e => hne (by subst e; rfl))) (fun k hk => by simp [Hd.own] at hk; subst hk; exact ⟨hob.1, by simp [World.setRow]; exact hob.2, .inl rfl⟩) (keeps_same hb)
    (by
      rw [set_same hb]
      have hcur : RepC (vis C hd) w hd l vs.toList := ⟨by simpa using e2, fun u hu => by obtain ⟨k, hk⟩ := List.mem_iff_getElem?.1 hu; exact e3 k u (by simpa using hk), fun k y u a1 a2 => e4 k y u a1 (by simpa using a2)⟩
      have hn := (((hcur.take off).append hc).append (hcur.drop (off + i.sz))).keep hst (Keeps.refl hd)
      refine ⟨rfl, _, ty, setRow_heap w b vs _ ty _ e1, by have := hn.len; simpa using this, fun k u hk => hn.one u (List.mem_iff_getElem?.2 ⟨k, by simpa using hk⟩), fun k y u a1 a2 => hn.rep k y u a1 (by simpa using a2)⟩)
  rwa [set_same hb] at this
theorem list_seg {α : Type} {A Z B Y : List α} {a off n : Nat} (ha : A.length = a) (ho : off + n ≤ Z.length) : A ++ (Z.take off ++ Y ++ Z.drop (off + n)) ++ B = (A ++ Z ++ B).take (a + off) ++ Y ++ (A ++ Z ++ B).drop (a + off + n) := by
  have e1 : (A ++ Z ++ B).take (a + off) = A ++ Z.take off := by
    rw [List.append_assoc, List.take_append, List.take_of_length_le (by omega), show a + off - A.length = off by omega, List.take_append_of_le_length (by omega)]
  have e2 : (A ++ Z ++ B).drop (a + off + n) = Z.drop (off + n) ++ B := by
    rw [List.append_assoc, List.drop_append, List.drop_eq_nil_of_le (by omega), show a + off + n - A.length = off + n by omega, List.drop_append_of_le_length (by omega)]; rfl
  rw [e1, e2]; simp
theorem flat_set {sz : Nat} {l : List T} (hf : ∀ x ∈ l, x.cells.length = sz) {k off n : Nat} {z y : T} (hz : l[k]? = some z) (hy : y.cells.length = n) (h0 : 0 < n) (hle : off + n ≤ sz) :
    flat (l.set k (T.put sz z off n y)) = (flat l).take (k * sz + off) ++ y.cells ++ (flat l).drop (k * sz + off + n) ∧ ∀ x ∈ l.set k (T.put sz z off n y), x.cells.length = sz := by
  have hzl : z.cells.length = sz := hf z (List.mem_of_getElem? hz)
  have hpc := T.put_cells hzl hy h0 hle
  have hpl : (T.put sz z off n y).cells.length = sz := by rw [hpc]; simp; omega
  refine ⟨?_, fun x hx => ?_⟩
  · have hk := (List.getElem?_eq_some_iff.1 hz).1
    have hsplit : l = l.take k ++ z :: l.drop (k + 1) := by
      rw [← (List.getElem?_eq_some_iff.1 hz).2, ← List.drop_eq_getElem_cons hk, List.take_append_drop]
    have htk : (flat (l.take k)).length = k * sz := by
      rw [flat_length (fun x hx => hf x (List.mem_of_mem_take hx)), List.length_take, Nat.min_eq_left (by omega)]
    have e1 : flat l = flat (l.take k) ++ z.cells ++ flat (l.drop (k + 1)) := by
      conv => lhs; rw [hsplit]
      simp [flat]
    have e2 : flat (l.set k (T.put sz z off n y)) = flat (l.take k) ++ (T.put sz z off n y).cells ++ flat (l.drop (k + 1)) := by
      rw [List.set_eq_take_append_cons_drop, if_pos hk]
      simp [flat]
    rw [e2, e1, hpc]
    exact list_seg htk (by omega)
  · rcases List.mem_or_eq_of_mem_set hx with hx | rfl
    · exact hf x hx
    · exact hpl
theorem store_row (hr : StR C st hd a w) {t : Nat} {i : TI} (ht : TIok P t i) {j e sz k off : Nat} {l : List T} {z y : T} (ho : st.heap[j]? = some (.row e sz true l)) {v p : Value} (hx : RepT (vis C hd) w y v) (hp : RepS (vis C hd) w hd (.eptr j sz k off) p)
    (h1 : y.storable = true) (h2 : y.cells.length = i.sz) (h3 : off + i.sz ≤ sz) (hz : l[k]? = some z) :
    ∃ w', (Instr.storeAt t p v).run P w = .ok () w' ∧ StR C { st with heap := st.heap.set j (.row e sz true (l.set k (T.put sz z off i.sz y))) } hd a w' := by
  cases hp
  rename_i g n cap o hb
  obtain ⟨rfl, e2, e3, e4, e5⟩ := hr.ob j _ _ ho hb
  rcases e5 with ⟨xs, f1, f2, f3⟩ | ⟨f, _⟩
  · have hc := hx.toL h1
    have hk := (List.getElem?_eq_some_iff.1 hz).1
    rcases f1.2 with ⟨q, _⟩ | ⟨g', cap', cur, q, q1, q2, q3, q4, q5, q6⟩
    · cases q
    · cases q
      subst f2
      replace hb : hd[j]? = some (.sl (some ⟨g, 0, none⟩) l.length cap (some g)) := hb
      have hfl := flat_length e4
      have hkl : k * sz + off + i.sz ≤ l.length * sz := by
        have : (k + 1) * sz ≤ l.length * sz := Nat.mul_le_mul_right _ hk
        rw [Nat.add_mul] at this; omega
      have hcs : l.length * sz ≤ cur.size := by rw [q5]; exact Nat.mul_le_mul_right _ q3
      have hvs : v.cells.size = i.sz := by have := hc.len; simp at this; omega
      refine ⟨_, run_storeVar_at ht q2 hvs (by omega) hc.one, ?_⟩
      have hob := hr.own _ g (List.mem_of_getElem? hb) rfl
      have hst := stay_set (C := C) (w := w) (cs := (cur.toList.take (k * sz + off) ++ v.cells.toList ++ cur.toList.drop (k * sz + off + i.sz)).toArray) (hd := hd) ⟨_, List.mem_of_getElem? hb, (rfl : (Hd.sl (some ⟨g, 0, none⟩) l.length cap (some g)).own = some g)⟩
      obtain ⟨s1, s2⟩ := flat_set e4 hz h2 ht.pos h3
      have hx' : ((cur.toList.take (k * sz + off) ++ v.cells.toList ++ cur.toList.drop (k * sz + off + i.sz))).take (l.length * sz) = xs.take (k * sz + off) ++ v.cells.toList ++ xs.drop (k * sz + off + i.sz) := by
        have hvl : v.cells.toList.length = i.sz := by simpa using hvs
        have a1 : xs.take (k * sz + off) = cur.toList.take (k * sz + off) := by
          rw [← q6, List.take_take, Nat.min_eq_left (by omega)]
        have a2 : xs.drop (k * sz + off + i.sz) = (cur.toList.drop (k * sz + off + i.sz)).take (l.length * sz - (k * sz + off + i.sz)) := by
          rw [← q6, List.drop_take]
        rw [a1, a2, List.take_append, List.length_append, hvl, List.length_take, Nat.min_eq_left (by simp; omega), List.take_of_length_le (by simp; omega)]
      have := hr.set0 (w' := w.setRow g (cur.toList.take (k * sz + off) ++ v.cells.toList ++ cur.toList.drop (k * sz + off + i.sz)).toArray) j (.row e sz true (l.set k (T.put sz z off i.sz y))) _ (.sl (some ⟨g, 0, none⟩) l.length cap (some g)) hb (setRow_below hob.1)
        (fun b _ hne => setRow_other w g b _ (fun e => hne (by subst e; rfl))) (fun b hbo => by simp [Hd.own, Value.ownBlock] at hbo; subst hbo; exact ⟨hob.1, by simp [World.setRow]; exact hob.2, .inl rfl⟩) (keeps_same hb)
        (by
          rw [set_same hb]
          have hn := (((f3.take (k * sz + off)).append hc).append (f3.drop (k * sz + off + i.sz))).keep hst
          refine ⟨by simp, e2, by simpa using e3, s2, .inl ⟨xs.take (k * sz + off) ++ v.cells.toList ++ xs.drop (k * sz + off + i.sz), ⟨?_, .inr ⟨g, cap, _, rfl, q1, setRow_heap w g cur _ e _ q2, q3, q4, ?_, ?_⟩⟩, rfl, by rw [s1]; exact hn⟩⟩
          · have := hn.len; rw [← s1, flat_length s2] at this; simpa using this
          · simp; omega
          · simpa using hx')
      rwa [set_same hb] at this
  · cases f
theorem store_ok (hr : StR C st hd a w) {t : Nat} {i : TI} (ht : TIok P t i) {x q : SV} {v p : Value} {st' : St} (h : st.store i q x = some st') (hx : RepS (vis C hd) w hd x v) (hp : RepS (vis C hd) w hd q p) :
    ∃ w' hd', (Instr.storeAt t p v).run P w = .ok () w' ∧ StR C st' hd' a w' := by
  unfold St.store at h
  split at h
  · split at h
    · rename_i l ho
      split at h
      · rename_i hc
        cases h
        obtain ⟨w', h1, h2⟩ := store_box hr ht (obj_some ho (by simp)) hx hp hc.1 hc.2.1 hc.2.2
        exact ⟨w', hd, h1, h2⟩
      · cases h
    · cases h
  · split at h
    · rename_i y heap' hf
      obtain ⟨hd', r1, t1, s1, k1⟩ := frz_ok hr hf hx
      split at h
      · rename_i e sz' l ho
        split at h
        · rename_i hc
          obtain ⟨rfl, c1, c2, c3⟩ := hc
          split at h
          · rename_i z hz
            cases h
            obtain ⟨w', h1, h2⟩ := store_row r1 ht (obj_some (st := { st with heap := heap' }) ho (by simp)) t1 (hp.keep s1 k1) c1 c2 c3 hz
            exact ⟨w', hd', h1, h2⟩
          · cases h
        · cases h
      · cases h
    · cases h
  · cases h
end
end Go.Proofs.YtpgkpbfefnpagaaGreatDoor
namespace Go.Proofs.YtpgkpbfefnpagaaGreatDoor
open Go.RowKit

def scrub (j : Nat) : Nat → Option Nat := fun i => if i = j then none else some i
/-- 's = append(s, xs...)'. -/
def St.append (st : St) (e sz : Nat) (s : SV) (xs : List T) : Option (St × SV) := match s with
  | .nil => some ({ st with heap := st.heap ++ [.row e sz true xs] }, .sref st.heap.length)
  | .lit l => if l.all (fun x => x.cells.length == sz) then some ({ st with heap := st.heap ++ [.row e sz false (l ++ xs)] }, .sref st.heap.length) else none
  | .sref j => match st.obj j with
    | .row e' sz' wr l => if e' = e ∧ sz' = sz then some ({ nt := st.nt, tmps := st.tmps.map (fun p => (p.1, p.2.ren (scrub j))), heap := (st.heap.map (Ob.ren (scrub j))).set j (.row e sz (wr || !xs.isEmpty) (l ++ xs)) }, .sref j) else none
    | _ => none
  | .cut j m => match st.obj j with
    | .row e' sz' true l => if e' = e ∧ sz' = sz ∧ m ≤ l.length ∧ xs.isEmpty = false then some ({ nt := st.nt, tmps := st.tmps.map (fun p => (p.1, p.2.ren (scrub j))), heap := (st.heap.map (Ob.ren (scrub j))).set j (.row e sz true (l.take m ++ xs)) }, .sref j) else none
    | _ => none
  | _ => none
/-- How many elements there are in all. -/
def St.appLen (st : St) (s : SV) (xs : List T) : Nat := match s with
  | .cut _ m => m + xs.length
  | s => ((st.lst s).getD []).length + xs.length
/-- The first elements of an own row. -/
theorem ownsRow_take {w : World} {B e sz n cap m : Nat} {ad : Option Addr} {xs : List Value} (f1 : w.ownsRow B e sz (.slice ad n cap) n xs) (hl : xs.length = n * sz) (h2 : m ≤ n) : w.ownsRow B e sz (.slice ad m cap) m (xs.take (m * sz)) := by
  refine ⟨by rw [List.length_take, hl, Nat.min_eq_left (Nat.mul_le_mul_right _ h2)], ?_⟩
  rcases f1.2 with ⟨q, q2⟩ | ⟨g, cap', cur, q, r1, r2, r3, r4, r5, r6⟩
  · simp at q; obtain ⟨rfl, h0, rfl⟩ := q
    exact .inl ⟨by congr 1; omega, by omega⟩
  · cases q
    refine .inr ⟨g, cap, cur, rfl, r1, r2, by omega, by omega, r5, ?_⟩
    rw [← r6, List.take_take, Nat.min_eq_left (Nat.mul_le_mul_right _ h2)]
theorem flat_take {sz : Nat} {l : List T} (hf : ∀ x ∈ l, x.cells.length = sz) {m : Nat} (hm : m ≤ l.length) : flat (l.take m) = (flat l).take (m * sz) := by
  have e1 : flat l = flat (l.take m) ++ flat (l.drop m) := by rw [← flat_append, List.take_append_drop]
  have e3 : (flat (l.take m)).length = m * sz := by
    rw [flat_length (fun x hx => hf x (List.mem_of_mem_take hx)), List.length_take, Nat.min_eq_left hm]
  rw [e1, List.take_left' e3]

section
variable {P : Program} {C : Ctx} {st : St} {hd : List Hd} {a : Act} {w : World} {tt : Nat → Option TI}
theorem run_append_zero {t ty e : Nat} {inf : TypeInfo} (ht : P.underlying t = some (.slice e)) (hi : P.info? e = some inf) (b : Option Addr) (n c : Nat) (hc : n ≤ c) (ad : Option Addr) (c' : Nat) :
    (Builtin.append_ #[t, t] ty #[.slice b n c, .slice ad 0 c']).run P w = .ok (.slice b n c) w := by
  have hl : ∀ x : Addr, (loadCells x 0).run P w = .ok #[] w := fun x => by simpa using run_loadCells_list (P := P) w x [] (by simp)
  cases b <;> cases ad <;> simp [Builtin.append_, run_underlying ht, sizeOf, typeInfo, hi, Builtin.lenOf, Builtin.firstCells, hc, hl, storeCells]
/-- Append onto an own slice: the block stays, or is new. -/
theorem run_append_any (base : Nat) (t ty e : TypeId) (i : TypeInfo) (z : Value) (size bytes : Nat) (ht : P.underlying t = some (.slice e)) (hi : P.info? e = some i) (hz : i.zero = some z)
    (hsize : i.size = size) (hby : i.bytes = bytes) (hzs : z.cells.size = size) (hsz : 0 < size)
    (v : Value) (n : Nat) (xs : List Value) (hown : w.ownsRow base e size v n xs)
    (ad : Addr) (m c : Nat) (news : List Value) (hl : news.length = m * size) (hm : 0 < m) (hnews : ∀ j u, news[j]? = some u → w.cell? (ad.add j) = some u) (h1 : ∀ u ∈ news, u.oneCell' = true)
    (h63 : n + m ≤ maxLen) (hbytes : (n + m) * bytes ≤ 140737488355328) (hbase : base ≤ w.heap.size) :
    ∃ v' w', (Builtin.append_ #[t, t] ty #[v, .slice (some ad) m c]).run P w = .ok v' w' ∧ w'.ownsRow base e size v' (n + m) (xs ++ news) ∧ w.grownBy w' v.ownBlock ∧
      (v'.ownBlock = v.ownBlock ∨ v'.ownBlock = some w.heap.size) := by
  obtain ⟨v', w', hr, h2, h3, _⟩ := run_append_own (P := P) w base t ty e i z size bytes ht hi hz hsize hby hzs hsz v n xs hown ad m c news hl hnews h1 h63 hbytes hbase
  refine ⟨v', w', hr, h2, h3, ?_⟩
  have hsmall : n + m ≤ 9223372036854775807 := by simp only [maxLen] at h63; omega
  rcases hown.2 with ⟨rfl, rfl⟩ | ⟨g, cap, cur, rfl, hbg, hg, hnc, hcm, hcs, htake⟩
  · have hr' := run_append_nil (P := P) w t ty e i z ht hi hz ad m c news (by rw [hsize]; exact hl) hnews hm (by omega) (by rw [hby]; have hb := hbytes; simp only [Nat.zero_add] at hb; omega)
    rw [hr] at hr'
    cases hr'
    exact .inr rfl
  · by_cases hroom : n + m ≤ cap
    · have hr' := run_append_room (P := P) w t ty e i ht hi g n cap cur hg ad m c news (by rw [hsize]; exact hl) hnews h1 hroom (by rw [hsize, hl, hcs, ← Nat.add_mul]; exact Nat.mul_le_mul_right _ hroom)
      rw [hr] at hr'
      cases hr'
      exact .inl rfl
    · have holds : ∀ j u, xs[j]? = some u → w.cell? ((⟨g, 0, none⟩ : Addr).add j) = some u := hown.cells (g := g) rfl
      have hr' := run_append_grow (P := P) w t ty e i z ht hi hz ⟨g, 0, none⟩ n cap xs (by rw [hsize]; exact hown.1) holds ad m c news (by rw [hsize]; exact hl) hnews (by omega) (by omega) (growslice_fits (by omega) (by rw [hby]; exact hbytes))
      rw [hr] at hr'
      cases hr'
      exact .inr rfl
/-- Append onto a literal: always a new block. -/
theorem run_append_lit (base : Nat) (t ty e : TypeId) (i : TypeInfo) (z : Value) (size bytes : Nat) (ht : P.underlying t = some (.slice e)) (hi : P.info? e = some i) (hz : i.zero = some z)
    (hsize : i.size = size) (hby : i.bytes = bytes) (hzs : z.cells.size = size) (g n : Nat) (xs : List Value) (hx : xs.length = n * size) (hcell : ∀ j u, xs[j]? = some u → w.cell? ((⟨g, 0, none⟩ : Addr).add j) = some u)
    (ad : Addr) (m c : Nat) (news : List Value) (hl : news.length = m * size) (hm : 0 < m) (hnews : ∀ j u, news[j]? = some u → w.cell? (ad.add j) = some u)
    (h63 : n + m ≤ maxLen) (hbytes : (n + m) * bytes ≤ 140737488355328) (hbase : base ≤ w.heap.size) :
    ∃ v' w', (Builtin.append_ #[t, t] ty #[.slice (some ⟨g, 0, none⟩) n n, .slice (some ad) m c]).run P w = .ok v' w' ∧ w'.ownsRow base e size v' (n + m) (xs ++ news) ∧ w.grownBy w' none ∧ v'.ownBlock = some w.heap.size := by
  subst hsize
  have hsmall : n + m ≤ 9223372036854775807 := by simp only [maxLen] at h63; omega
  have hr := run_append_grow (P := P) w t ty e i z ht hi hz ⟨g, 0, none⟩ n n xs hx hcell ad m c news hl hnews (by omega) (by omega) (growslice_fits (by omega) (by rw [hby]; exact hbytes))
  have hge := grownCap_ge w (n + m) n e
  refine ⟨_, _, hr, ⟨by rw [List.length_append, hx, hl, Nat.add_mul], .inr ⟨w.heap.size, _, _, rfl, hbase, heap_alloc_new w.drew _, hge, grownCap_le_maxLen w (n + m) n e h63, ?_, ?_⟩⟩, ⟨rfl, rfl, rfl, by simp, fun k hk _ => Below.heap_alloc w.drew _ k hk⟩, rfl⟩
  · simp only [Array.size_append, List.size_toArray, size_zeroCells, hzs, hx, hl, ← Nat.add_mul]
    congr 1
    omega
  · simp only [Array.toList_append, List.append_assoc]
    rw [← List.append_assoc, show (n + m) * i.size = (xs ++ news).length by rw [List.length_append, hx, hl, Nat.add_mul]]
    exact List.take_left
theorem keeps_scrub {hd : List Hd} {j : Nat} {g : Hd} : Keeps (scrub j) hd (hd.set j g) := by
  intro i k h e hi
  unfold scrub at e
  split at e
  · cases e
  · rename_i hne
    cases e
    exact ⟨h, by rw [List.getElem?_set_ne (by omega)]; exact hi, .inl rfl⟩
theorem RepL.ofFun {S : Nat → Prop} {l : List T} {xs : Nat → Value} {n : Nat} (hn : l.length = n) (h1 : ∀ k, k < n → (xs k).oneCell' = true) (h2 : ∀ (k : Nat) (y : T), l[k]? = some y → RepT S w y (xs k)) : RepL S w l ((List.range n).map xs) := by
  refine ⟨by simp [hn], fun v hv => ?_, fun k y v a b => ?_⟩
  · obtain ⟨k, hk⟩ := List.mem_iff_getElem?.1 hv
    rw [List.getElem?_map, Option.map_eq_some_iff] at hk
    obtain ⟨q, hq, rfl⟩ := hk
    obtain ⟨h3, rfl⟩ := List.getElem?_eq_some_iff.1 hq
    simp at h3 ⊢
    exact h1 k h3
  · rw [List.getElem?_map, Option.map_eq_some_iff] at b
    obtain ⟨q, hq, rfl⟩ := b
    obtain ⟨h3, rfl⟩ := List.getElem?_eq_some_iff.1 hq
    simp at h3 ⊢
    exact h2 k y a
theorem append_ok (hr : StR C st hd a w) {t ty e : Nat} {i ie : TI} (hi : TIok P t i) (hk : i.k = .slice e) (he : TIok P e ie) {s x y : SV} {u v : Value} {xs : List T} {st' : St} (hs : RepS (vis C hd) w hd s u) (hx : RepS (vis C hd) w hd x v) (hxs : st.lst x = some xs)
    (hall : xs.all (fun x => x.cells.length == ie.sz) = true) (hb : st.appLen s xs * ie.by_ ≤ 140737488355328) (hm : st.appLen s xs ≤ maxLen) (h : st.append e ie.sz s xs = some (st', y)) :
    ∃ v' w' hd', (Builtin.append_ #[t, t] ty #[u, v]).run P w = .ok v' w' ∧ StR C st' hd' a w' ∧ RepS (vis C hd') w' hd' y v' := by
  have hsys := hi.says
  rw [hk] at hsys; simp only [TK.says] at hsys
  obtain ⟨inf, i1, i2, i3, z, i4, i5, i6, _⟩ := he.info
  have hall' : ∀ x ∈ xs, x.cells.length = ie.sz := fun x hx => by have := List.all_eq_true.1 hall x hx; simpa using this
  obtain ⟨adx, capx, szx, fx, rfl, hmx, hszx, hallx, hcellx, honex, hrepx⟩ := lst_cells hr hxs hx
  have hflx := flat_length hall'
  -- the new cells
  have news : xs ≠ [] → ∃ ad news, adx = some ad ∧ news.length = xs.length * ie.sz ∧ (∀ j u, news[j]? = some u → w.cell? (ad.add j) = some u) ∧ RepL (vis C hd) w (flat xs) news := fun hne => by
    obtain ⟨b, off, rfl, hc⟩ := hcellx hne
    have hz : szx = ie.sz := by
      cases xs with
      | nil => exact (hne rfl).elim
      | cons q r => rw [← hallx q List.mem_cons_self, hall' q List.mem_cons_self]
    subst hz
    refine ⟨⟨b, off, none⟩, (List.range (xs.length * ie.sz)).map fx, rfl, by simp, fun j u hj => ?_, RepL.ofFun hflx honex hrepx⟩
    rw [List.getElem?_map, Option.map_eq_some_iff] at hj
    obtain ⟨q, hq, rfl⟩ := hj
    obtain ⟨h3, rfl⟩ := List.getElem?_eq_some_iff.1 hq
    simp at h3 ⊢
    rw [Addr.add_lit]; exact hc j h3
  unfold St.append at h
  split at h
  · -- nil
    cases h
    cases hs
    have hal : st.appLen .nil xs = xs.length := by simp [St.appLen, St.lst]
    rw [hal] at hb hm
    by_cases hne : xs = []
    · subst hne
      refine ⟨_, w, _, run_append_zero hsys i1 none 0 0 (Nat.le_refl _) _ _, hr.new (Below.refl _ _) _ (.sl none 0 0 none) (fun b hb => by simp [Hd.own] at hb) ⟨rfl, he.pos, Nat.zero_le _, fun x hx => by simp at hx, .inl ⟨[], World.ownsRow_nil _ _ _ _, rfl, RepL.nil _ _⟩⟩, ?_⟩
      refine .sref _ _ _ _ none ?_
      rw [← hr.hl, List.getElem?_append_right (Nat.le_refl _), Nat.sub_self]; rfl
    · obtain ⟨ad, nw, rfl, n1, n2, n3⟩ := news hne
      have hpos : 0 < xs.length := List.length_pos_iff.2 hne
      obtain ⟨v', w', r1, r2, r3, r4⟩ := run_append_any (P := P) (w := w) C.w0.heap.size t ty e inf z ie.sz ie.by_ hsys i1 i4 i2 i3 i5 he.pos (.slice none 0 0) 0 [] (World.ownsRow_nil _ _ _ _) ad xs.length capx nw n1 hpos n2 n3.one (by simpa using hm) (by simpa using hb) hr.below.size
      have hbl : Below w.heap.size w w' := ⟨r3.os, r3.tape, r3.output, r3.size, fun k hk => r3.block k hk (by simp [Value.ownBlock])⟩
      simp only [Nat.zero_add, List.nil_append] at r2
      have r4' : v'.ownBlock = some w.heap.size := by
        rcases r4 with r4 | r4
        · rcases r2.2 with ⟨_, e2⟩ | ⟨g, cap, cur, rfl, _⟩
          · omega
          · cases r4
        · exact r4
      rcases r2.2 with ⟨_, e2⟩ | ⟨g, cap, cur, rfl, q⟩
      · omega
      · have hg : g = w.heap.size := by simpa [Value.ownBlock] using r4'
        subst hg
        refine ⟨_, w', _, r1, hr.new hbl _ (.sl (some ⟨w.heap.size, 0, none⟩) xs.length cap (some w.heap.size)) (fun b hb => by simp [Hd.own] at hb; subst hb; exact ⟨Nat.le_refl _, (r2.lt _ rfl).2⟩) ⟨rfl, he.pos, hm, hall', .inl ⟨nw, r2, rfl, n3.keep (stay_new hbl fun b hb => by simp [Hd.own] at hb; omega)⟩⟩, ?_⟩
        refine .sref _ _ _ _ (some w.heap.size) ?_
        rw [← hr.hl, List.getElem?_append_right (Nat.le_refl _), Nat.sub_self]; rfl
  · -- a literal
    rename_i l
    split at h
    · rename_i hl
      cases h
      cases hs
      rename_i b hrep _
      have hal : st.appLen (.lit l) xs = l.length + xs.length := by simp [St.appLen, St.lst]
      rw [hal] at hb hm
      have hl' : ∀ x ∈ l, x.cells.length = ie.sz := fun x hx => by have := List.all_eq_true.1 hl x hx; simpa using this
      have hlx : ∀ x ∈ l ++ xs, x.cells.length = ie.sz := fun x hx => by
        rcases List.mem_append.1 hx with hx | hx
        · exact hl' x hx
        · exact hall' x hx
      by_cases hne : xs = []
      · subst hne
        refine ⟨_, w, _, run_append_zero hsys i1 _ _ _ (Nat.le_refl _) _ _, hr.new (Below.refl _ _) _ (.sl (some ⟨b, 0, none⟩) l.length l.length none) (fun b hb => by simp [Hd.own] at hb) ?_, ?_⟩
        · refine ⟨by simp, he.pos, by simpa using hm, hlx, .inr ⟨rfl, rfl, rfl, b, rfl, ?_⟩⟩
          rw [List.append_nil]
          exact hrep.keep (stay_new (Below.refl _ _) fun b hb => by simp [Hd.own] at hb)
        · refine .sref _ _ _ _ none ?_
          rw [← hr.hl, List.getElem?_append_right (Nat.le_refl _), Nat.sub_self]; rfl
      · obtain ⟨ad, nw, rfl, n1, n2, n3⟩ := news hne
        have hpos : 0 < xs.length := List.length_pos_iff.2 hne
        obtain ⟨a', cap', sz', fl, ev, _, h0, hf, ha, h1l, hxl⟩ := hrep.listInv
        cases ev
        have hfll := flat_length hl'
        obtain ⟨olds, o1, o2, o3⟩ : ∃ olds : List Value, olds.length = l.length * ie.sz ∧ (∀ j u, olds[j]? = some u → w.cell? ((⟨b, 0, none⟩ : Addr).add j) = some u) ∧ RepL (vis C hd) w (flat l) olds := by
          by_cases hle : l = []
          · subst hle; exact ⟨[], by simp, fun j u hj => by simp at hj, RepL.nil _ _⟩
          · obtain ⟨b', off, e2, _, hc⟩ := ha hle
            cases e2
            have hz : sz' = ie.sz := by
              cases l with
              | nil => exact (hle rfl).elim
              | cons q r => rw [← hf q List.mem_cons_self, hl' q List.mem_cons_self]
            subst hz
            refine ⟨(List.range (l.length * ie.sz)).map fl, by simp, fun j u hj => ?_, RepL.ofFun hfll h1l hxl⟩
            rw [List.getElem?_map, Option.map_eq_some_iff] at hj
            obtain ⟨q, hq, rfl⟩ := hj
            obtain ⟨h3, rfl⟩ := List.getElem?_eq_some_iff.1 hq
            simp at h3 ⊢
            rw [Addr.add_lit]; exact hc j h3
        obtain ⟨v', w', r1, r2, r3, r4⟩ := run_append_lit (P := P) (w := w) C.w0.heap.size t ty e inf z ie.sz ie.by_ hsys i1 i4 i2 i3 i5 b l.length olds o1 o2 ad xs.length capx nw n1 hpos n2 hm hb hr.below.size
        have hbl : Below w.heap.size w w' := ⟨r3.os, r3.tape, r3.output, r3.size, fun k hk => r3.block k hk (by simp)⟩
        rcases r2.2 with ⟨_, e2⟩ | ⟨g, cap, cur, rfl, q⟩
        · omega
        · have hg : g = w.heap.size := by simpa [Value.ownBlock] using r4
          subst hg
          have hst := stay_new (C := C) (hd := hd) hbl (g := .sl (some ⟨w.heap.size, 0, none⟩) (l.length + xs.length) cap (some w.heap.size)) fun b hb => by simp [Hd.own] at hb; omega
          refine ⟨_, w', _, r1, hr.new hbl _ (.sl (some ⟨w.heap.size, 0, none⟩) (l.length + xs.length) cap (some w.heap.size)) (fun b hb => by simp [Hd.own] at hb; subst hb; exact ⟨Nat.le_refl _, (r2.lt _ rfl).2⟩) ⟨by simp, he.pos, by simpa using hm, hlx, .inl ⟨_, r2, rfl, by rw [flat_append]; exact (o3.keep hst).append (n3.keep hst)⟩⟩, ?_⟩
          refine .sref _ _ _ _ (some w.heap.size) ?_
          rw [← hr.hl, List.getElem?_append_right (Nat.le_refl _), Nat.sub_self]; rfl
    · cases h
  · -- an own slice
    rename_i j
    split at h
    · rename_i e' sz' wr l ho
      split at h
      · rename_i hee
        obtain ⟨rfl, rfl⟩ := hee
        cases h
        have hoj := obj_some ho (by simp)
        have hal : st.appLen (.sref j) xs = l.length + xs.length := by simp [St.appLen, St.lst, ho]
        rw [hal] at hb hm
        cases hs
        rename_i adr n cap o hh
        have hob := hr.ob j _ _ hoj hh
        obtain ⟨rfl, e2, e3, e4, e5⟩ := hob
        have hlx : ∀ x ∈ l ++ xs, x.cells.length = ie.sz := fun x hx => by
          rcases List.mem_append.1 hx with hx | hx
          · exact e4 x hx
          · exact hall' x hx
        have hset : ∀ {w' : World} {a' : Option Addr} {n' cap' : Nat} {o' : Option Nat}, RepS (vis C (hd.set j (.sl a' n' cap' o'))) w' (hd.set j (.sl a' n' cap' o')) (.sref j) (.slice a' n' cap') := fun {w' a' n' cap' o'} =>
          .sref _ _ _ _ o' (by rw [List.getElem?_set_self (List.getElem?_eq_some_iff.1 hh).1])
        by_cases hne : xs = []
        · subst hne
          have hlc : l.length ≤ cap := by
            rcases e5 with ⟨ys, f1, _, _⟩ | ⟨_, _, rfl, _⟩
            · rcases f1.2 with ⟨q, q2⟩ | ⟨g, cap', cur, q, _, _, q3, _⟩
              · omega
              · cases q; exact q3
            · exact Nat.le_refl _
          refine ⟨_, w, hd.set j (.sl adr l.length cap o), run_append_zero hsys i1 _ _ _ hlc _ _, ?_, hset⟩
          refine hr.set (scrub j) j _ _ _ hh (Below.refl _ _) (fun _ _ _ => rfl) (fun b hbo => ?_) keeps_scrub ?_
          · have := hr.own _ b (List.mem_of_getElem? hh) hbo
            exact ⟨this.1, this.2, .inl hbo⟩
          · rw [set_same hh]
            refine ⟨by simp, e2, by simpa using e3, hlx, ?_⟩
            simp only [List.append_nil, List.isEmpty_nil, Bool.not_true, Bool.or_false]
            exact e5
        · obtain ⟨ad, nw, rfl, n1, n2, n3⟩ := news hne
          have hpos : 0 < xs.length := List.length_pos_iff.2 hne
          rcases e5 with ⟨ys, f1, f2, f3⟩ | ⟨_, rfl, rfl, b, rfl, f⟩
          · obtain ⟨v', w', r1, r2, r3, r4⟩ := run_append_any (P := P) (w := w) C.w0.heap.size t ty _ inf z ie.sz ie.by_ hsys i1 i4 i2 i3 i5 he.pos _ l.length ys f1 ad xs.length capx nw n1 hpos n2 n3.one hm hb hr.below.size
            rcases r2.2 with ⟨_, q2⟩ | ⟨g, cap', cur, rfl, q⟩
            · omega
            · have hrow : ∀ k, (Value.slice adr l.length cap).ownBlock = some k → C.w0.heap.size ≤ k := fun k hk => (f1.lt k hk).1
              have hbl : Below C.w0.heap.size w w' := (Below.refl _ w).grown r3 hr.below.size hrow
              have hst : Stay (vis C hd) (vis C (hd.set j (.sl (some ⟨g, 0, none⟩) (l.length + xs.length) cap' (some g)))) w w' := by
                refine ⟨r3.size, fun b hb hlt => ⟨r3.block b hlt (fun e => ?_), hb.1, fun x hx => ?_⟩⟩
                · exact hb.2 _ (List.mem_of_getElem? hh) (by show o = some b; rw [f2]; exact e.symm)
                · rcases List.mem_or_eq_of_mem_set hx with hx | rfl
                  · exact hb.2 x hx
                  · intro e
                    simp only [Hd.own] at e
                    rcases r4 with r4 | r4
                    · exact hb.2 _ (List.mem_of_getElem? hh) (by show o = some b; rw [f2, ← r4]; exact e)
                    · rw [show (Value.slice (some ⟨g, 0, none⟩) (l.length + xs.length) cap').ownBlock = some g from rfl] at r4
                      rw [r4] at e; cases e; omega
              refine ⟨_, w', hd.set j (.sl (some ⟨g, 0, none⟩) (l.length + xs.length) cap' (some g)), r1, ?_, hset⟩
              refine hr.set (scrub j) j _ _ _ hh hbl (fun b hlt hno => r3.block b hlt (fun e => hno (by show o = some b; rw [f2]; exact e.symm))) (fun b hbo => ?_) keeps_scrub ?_
              · simp only [Hd.own] at hbo
                cases hbo
                have := r2.lt g rfl
                refine ⟨this.1, this.2, ?_⟩
                rcases r4 with r4 | r4
                · left; show o = some g; rw [f2, ← r4]; rfl
                · right; rw [show (Value.slice (some ⟨g, 0, none⟩) (l.length + xs.length) cap').ownBlock = some g from rfl] at r4; cases r4; exact Nat.le_refl _
              · exact ⟨by simp, e2, by simpa using hm, hlx, .inl ⟨_, r2, rfl, by rw [flat_append]; exact (f3.keep hst).append (n3.keep hst)⟩⟩
          · obtain ⟨a', cap', sz', fl, ev, _, h0, hf, ha, h1l, hxl⟩ := f.listInv
            cases ev
            have hfll := flat_length e4
            obtain ⟨olds, o1, o2, o3⟩ : ∃ olds : List Value, olds.length = l.length * ie.sz ∧ (∀ j u, olds[j]? = some u → w.cell? ((⟨b, 0, none⟩ : Addr).add j) = some u) ∧ RepL (vis C hd) w (flat l) olds := by
              by_cases hle : l = []
              · subst hle; exact ⟨[], by simp, fun j u hj => by simp at hj, RepL.nil _ _⟩
              · obtain ⟨b', off, e2, _, hc⟩ := ha hle
                cases e2
                have hz : sz' = ie.sz := by
                  cases l with
                  | nil => exact (hle rfl).elim
                  | cons q r => rw [← hf q List.mem_cons_self, e4 q List.mem_cons_self]
                subst hz
                refine ⟨(List.range (l.length * ie.sz)).map fl, by simp, fun j u hj => ?_, RepL.ofFun hfll h1l hxl⟩
                rw [List.getElem?_map, Option.map_eq_some_iff] at hj
                obtain ⟨q, hq, rfl⟩ := hj
                obtain ⟨h3, rfl⟩ := List.getElem?_eq_some_iff.1 hq
                simp at h3 ⊢
                rw [Addr.add_lit]; exact hc j h3
            obtain ⟨v', w', r1, r2, r3, r4⟩ := run_append_lit (P := P) (w := w) C.w0.heap.size t ty _ inf z ie.sz ie.by_ hsys i1 i4 i2 i3 i5 b l.length olds o1 o2 ad xs.length capx nw n1 hpos n2 hm hb hr.below.size
            have hbl : Below w.heap.size w w' := ⟨r3.os, r3.tape, r3.output, r3.size, fun k hk => r3.block k hk (by simp)⟩
            rcases r2.2 with ⟨_, q2⟩ | ⟨g, cap', cur, rfl, q⟩
            · omega
            · have hg : g = w.heap.size := by simpa [Value.ownBlock] using r4
              subst hg
              have hst : Stay (vis C hd) (vis C (hd.set j (.sl (some ⟨w.heap.size, 0, none⟩) (l.length + xs.length) cap' (some w.heap.size)))) w w' := by
                refine ⟨r3.size, fun b hb hlt => ⟨hbl.block b hlt, hb.1, fun x hx => ?_⟩⟩
                rcases List.mem_or_eq_of_mem_set hx with hx | rfl
                · exact hb.2 x hx
                · intro e; simp only [Hd.own] at e; cases e; omega
              refine ⟨_, w', hd.set j (.sl (some ⟨w.heap.size, 0, none⟩) (l.length + xs.length) cap' (some w.heap.size)), r1, ?_, hset⟩
              refine hr.set (scrub j) j _ _ _ hh (hbl.mono hr.below.size) (fun b hlt _ => hbl.block b hlt) (fun b hbo => ?_) keeps_scrub ?_
              · simp only [Hd.own] at hbo
                cases hbo
                have := r2.lt _ rfl
                exact ⟨this.1, this.2, .inr (Nat.le_refl _)⟩
              · exact ⟨by simp, e2, by simpa using hm, hlx, .inl ⟨_, r2, rfl, by rw [flat_append]; exact (o3.keep hst).append (n3.keep hst)⟩⟩
      · cases h
    · cases h
  · -- the first elements of an own slice
    rename_i j m
    split at h
    · rename_i e' sz' l ho
      split at h
      · rename_i hee
        obtain ⟨rfl, rfl, hml, hne0⟩ := hee
        cases h
        have hne : xs ≠ [] := by rintro rfl; simp at hne0
        have hoj := obj_some ho (by simp)
        have hal : st.appLen (.cut j m) xs = m + xs.length := rfl
        rw [hal] at hb hm
        cases hs
        rename_i adr n cap o hh hmn
        have hob := hr.ob j _ _ hoj hh
        obtain ⟨rfl, e2, e3, e4, e5⟩ := hob
        have e4' : ∀ x ∈ l.take m, x.cells.length = ie.sz := fun x hx => e4 x (List.mem_of_mem_take hx)
        have hlx : ∀ x ∈ l.take m ++ xs, x.cells.length = ie.sz := fun x hx => by
          rcases List.mem_append.1 hx with hx | hx
          · exact e4' x hx
          · exact hall' x hx
        have hset : ∀ {w' : World} {a' : Option Addr} {n' cap' : Nat} {o' : Option Nat}, RepS (vis C (hd.set j (.sl a' n' cap' o'))) w' (hd.set j (.sl a' n' cap' o')) (.sref j) (.slice a' n' cap') := fun {w' a' n' cap' o'} =>
          .sref _ _ _ _ o' (by rw [List.getElem?_set_self (List.getElem?_eq_some_iff.1 hh).1])
        obtain ⟨ad, nw, rfl, n1, n2, n3⟩ := news hne
        have hpos : 0 < xs.length := List.length_pos_iff.2 hne
        rcases e5 with ⟨ys, f0, f2, f30⟩ | ⟨q, _⟩
        · have hyl : ys.length = l.length * ie.sz := by rw [f30.len, flat_length e4]
          have f1 := ownsRow_take f0 hyl hml
          have f2' : (Value.slice adr m cap).ownBlock = (Value.slice adr l.length cap).ownBlock := by cases adr <;> rfl
          have f3 : RepL (vis C hd) w (flat (l.take m)) (ys.take (m * ie.sz)) := by rw [flat_take e4 hml]; exact f30.take _
          obtain ⟨v', w', r1, r2, r3, r4⟩ := run_append_any (P := P) (w := w) C.w0.heap.size t ty _ inf z ie.sz ie.by_ hsys i1 i4 i2 i3 i5 he.pos _ m _ f1 ad xs.length capx nw n1 hpos n2 n3.one hm hb hr.below.size
          rw [f2'] at r3 r4
          rcases r2.2 with ⟨_, q2⟩ | ⟨g, cap', cur, rfl, q⟩
          · omega
          · have hrow : ∀ k, (Value.slice adr l.length cap).ownBlock = some k → C.w0.heap.size ≤ k := fun k hk => (f0.lt k hk).1
            have hbl : Below C.w0.heap.size w w' := (Below.refl _ w).grown r3 hr.below.size hrow
            have hst : Stay (vis C hd) (vis C (hd.set j (.sl (some ⟨g, 0, none⟩) (m + xs.length) cap' (some g)))) w w' := by
              refine ⟨r3.size, fun b hb hlt => ⟨r3.block b hlt (fun e => ?_), hb.1, fun x hx => ?_⟩⟩
              · exact hb.2 _ (List.mem_of_getElem? hh) (by show o = some b; rw [f2]; exact e.symm)
              · rcases List.mem_or_eq_of_mem_set hx with hx | rfl
                · exact hb.2 x hx
                · intro e
                  simp only [Hd.own] at e
                  rcases r4 with r4 | r4
                  · exact hb.2 _ (List.mem_of_getElem? hh) (by show o = some b; rw [f2, ← r4]; exact e)
                  · rw [show (Value.slice (some ⟨g, 0, none⟩) (m + xs.length) cap').ownBlock = some g from rfl] at r4
                    rw [r4] at e; cases e; omega
            refine ⟨_, w', hd.set j (.sl (some ⟨g, 0, none⟩) (m + xs.length) cap' (some g)), r1, ?_, hset⟩
            refine hr.set (scrub j) j _ _ _ hh hbl (fun b hlt hno => r3.block b hlt (fun e => hno (by show o = some b; rw [f2]; exact e.symm))) (fun b hbo => ?_) keeps_scrub ?_
            · simp only [Hd.own] at hbo
              cases hbo
              have := r2.lt g rfl
              refine ⟨this.1, this.2, ?_⟩
              rcases r4 with r4 | r4
              · left; show o = some g; rw [f2, ← r4]; rfl
              · right; rw [show (Value.slice (some ⟨g, 0, none⟩) (m + xs.length) cap').ownBlock = some g from rfl] at r4; cases r4; exact Nat.le_refl _
            · exact ⟨by simp; omega, e2, by simp; omega, hlx, .inl ⟨_, r2, rfl, by rw [flat_append]; exact (f3.keep hst).append (n3.keep hst)⟩⟩
        · cases q
      · cases h
    · cases h
  · cases h
end
end Go.Proofs.YtpgkpbfefnpagaaGreatDoor
namespace Go.Proofs.YtpgkpbfefnpagaaGreatDoor
open Go.RowKit

section
variable {P : Program} {C : Ctx} {st : St} {hd : List Hd} {a : Act} {w : World} {tt : Nat → Option TI}
theorem map_new (hr : StR C st hd a w) (kk : KK) : StR C { st with heap := st.heap ++ [.map kk []] } (hd ++ [.mp w.heap.size]) a (w.alloc (.map #[] 0)) := by
  refine hr.new (alloc_below w _) _ _ (fun b hb => by simp [Hd.own] at hb; subst hb; simp) ?_
  exact ⟨#[], 0, heap_alloc_new w _, rfl, fun p hp => by simp at hp, List.Pairwise.nil, fun k y e h => by simp at h⟩
theorem mapSet_none : ∀ {l : List (T × T)} {k v : T}, (∀ p ∈ l, p.1 ≠ k) → mapSet l k v = l ++ [(k, v)]
  | [], _, _, _ => rfl
  | p :: r, k, v, h => by
    unfold mapSet
    rw [if_neg (h p List.mem_cons_self), mapSet_none fun q hq => h q (List.mem_cons_of_mem _ hq)]; rfl
theorem mapSet_some : ∀ {l : List (T × T)} {k v : T} {j : Nat} {p : T × T}, l.Pairwise (fun p q => p.1 ≠ q.1) → l[j]? = some p → p.1 = k → mapSet l k v = l.set j (k, v)
  | [], k, v, j, p, _, h, _ => by simp at h
  | q :: r, k, v, 0, p, _, h, e => by
    simp at h; subst h
    unfold mapSet
    rw [if_pos e]; rfl
  | q :: r, k, v, j + 1, p, hd, h, e => by
    unfold mapSet
    have hp : r[j]? = some p := by simpa using h
    rw [if_neg (fun e2 => (List.pairwise_cons.1 hd).1 p (List.mem_of_getElem? hp) (e2.trans e.symm)), mapSet_some (List.pairwise_cons.1 hd).2 hp e]; rfl
theorem setObj_run {r : Nat} {o o' : Obj} (h : w.heap[r]? = some o) (hn : ∀ c t f, o ≠ .cells c t f) : (setObj r o').run P w = .ok () { w with heap := w.heap.setIfInBounds r o' } := by
  unfold setObj
  cases o <;> simp only [Sem.run, h]
  exact (hn _ _ _ rfl).elim
theorem mapUpdate_ok (hT : TTok P tt) (hr : StR C st hd a w) {t : Nat} {i : TI} (hi : tt t = some i) {kk : KK} {kt e : Nat} (hk : i.k = .map kk kt e) {j : Nat} {es : List (T × T)} (ho : st.heap[j]? = some (.map kk es)) {key y : T} (hkey : key.okKey kk = true) {m v u : Value}
    (hm : RepS (vis C hd) w hd (.map j) m) (hv : RepT (vis C hd) w key v) (hu : RepT (vis C hd) w y u) :
    ∃ w', (Instr.mapUpdate t m v u).run P w = .ok () w' ∧ StR C { st with heap := st.heap.set j (.map kk (mapSet es key y)) } hd a w' := by
  have hs := (hT t i hi).says
  rw [hk] at hs; simp only [TK.says] at hs
  obtain ⟨hs, hkf⟩ := hs
  cases hm
  rename_i r hb
  obtain ⟨entries, cl, e1, e2, e3, e4, e5⟩ := hr.ob _ _ _ ho hb
  have hval := okKey_val hkey hv
  subst hval
  obtain ⟨l, hl⟩ := hkf.lit key hkey
  have hall : ∀ x ∈ entries.toList, ∃ l, keyOf P kt x.key = some l := fun x hx => by
    obtain ⟨q, hq⟩ := List.mem_iff_getElem?.1 hx
    have hlt := (List.getElem?_eq_some_iff.1 hq).1
    have e6 : es[q]? = some es[q] := List.getElem?_eq_getElem (by simp at hlt; omega)
    obtain ⟨h1, _⟩ := e5 q _ x e6 (by simpa using hq)
    rw [h1]
    exact hkf.lit _ (e3 _ (List.getElem_mem _))
  have hget : (getObj r).run P w = .ok (.map entries cl) w := by simp [getObj, Sem.run, e1]
  have hown := hr.own _ r (List.mem_of_getElem? hb) rfl
  -- the world behind it
  have fin : ∀ (entries' : Array MapEntry) (cl' : Nat), entries'.size = (mapSet es key y).length → (∀ p ∈ mapSet es key y, p.1.okKey kk = true) → (mapSet es key y).Pairwise (fun p q => p.1 ≠ q.1) →
      (∀ (k : Nat) (q : T × T) (x : MapEntry), (mapSet es key y)[k]? = some q → entries'[k]? = some x → x.key = q.1.val ∧ RepT (vis C hd) w q.2 x.val) →
      StR C { st with heap := st.heap.set j (.map kk (mapSet es key y)) } hd a { w with heap := w.heap.setIfInBounds r (.map entries' cl') } := fun entries' cl' h1 h2 h3 h4 => by
    have hst : Stay (vis C hd) (vis C hd) w { w with heap := w.heap.setIfInBounds r (.map entries' cl') } := ⟨by simp, fun b hb' _ => ⟨by
      rw [Array.getElem?_setIfInBounds, if_neg]
      intro e; subst e; exact hb'.2 _ (List.mem_of_getElem? hb) rfl, hb'⟩⟩
    have := hr.set0 (w' := { w with heap := w.heap.setIfInBounds r (.map entries' cl') }) j (.map kk (mapSet es key y)) _ (.mp r) hb ⟨rfl, rfl, rfl, by simp, fun k hk => by rw [Array.getElem?_setIfInBounds, if_neg (by omega)]⟩
      (fun b _ hne => by rw [Array.getElem?_setIfInBounds, if_neg]; intro e; subst e; exact hne rfl) (fun b hbo => by simp [Hd.own] at hbo; subst hbo; exact ⟨hown.1, by simp; exact hown.2, .inl rfl⟩) (keeps_same hb)
      (by
        rw [set_same hb]
        exact ⟨entries', cl', by rw [Array.getElem?_setIfInBounds, if_pos rfl, if_pos hown.2], h1, h2, h3, fun k q x a1 a2 => ⟨(h4 k q x a1 a2).1, (h4 k q x a1 a2).2.keep hst⟩⟩)
    rwa [set_same hb] at this
  unfold Instr.mapUpdate
  rcases hkf.keyed.find w hl entries.toList hall with ⟨h1, h2⟩ | ⟨q, x, h1, h2, h3⟩
  · have hno : ∀ p ∈ es, p.1 ≠ key := fun p hp e => by
      obtain ⟨q, hq⟩ := List.mem_iff_getElem?.1 hp
      have hlt := (List.getElem?_eq_some_iff.1 hq).1
      have e6 : entries[q]? = some entries[q] := Array.getElem?_eq_getElem (by omega)
      obtain ⟨h3, _⟩ := e5 q p _ hq e6
      exact h2 entries[q] (by simp) (by rw [h3, e])
    have hms := mapSet_none (v := y) hno
    refine ⟨_, ?_, fin (entries.push { key := key.val, val := u, born := cl }) (cl + 1) (by simp [hms, e2]) (fun p hp => ?_) ?_ (fun k q x a1 a2 => ?_)⟩
    · rw [Sem.run_bind, run_underlying hs, Result.andThen_ok]
      simp only []
      rw [Sem.run_bind, hget, Result.andThen_ok]
      simp only []
      rw [Sem.run_bind, hkf.keyed.check w _ hl, Result.andThen_ok, Sem.run_bind, h1, Result.andThen_ok]
      simp only []
      exact setObj_run e1 (fun _ _ _ e => by cases e)
    · rw [hms] at hp
      rcases List.mem_append.1 hp with hp | hp
      · exact e3 p hp
      · simp at hp; subst hp; exact hkey
    · rw [hms, List.pairwise_append]
      exact ⟨e4, List.pairwise_singleton _ _, fun p hp q hq => by simp at hq; subst hq; exact hno p hp⟩
    · rw [hms] at a1
      by_cases hk : k < es.length
      · rw [List.getElem?_append_left hk] at a1
        rw [Array.getElem?_push_lt (by omega)] at a2
        exact e5 k q x a1 (by rw [Array.getElem?_eq_getElem (by omega)]; exact a2)
      · rw [List.getElem?_append_right (by omega)] at a1
        have : k = es.length := by
          have := (List.getElem?_eq_some_iff.1 a1).1
          simp at this; omega
        subst this
        rw [← e2] at a2
        simp at a1 a2
        subst a1 a2
        exact ⟨rfl, hu⟩
  · have hq : q < es.length := by have := (List.getElem?_eq_some_iff.1 h2).1; simp at this; omega
    have e6 : es[q]? = some es[q] := List.getElem?_eq_getElem hq
    have h2' : entries[q]? = some x := by simpa using h2
    obtain ⟨h4, h5⟩ := e5 q _ x e6 h2'
    have hk2 : es[q].1 = key := okKey_inj (e3 _ (List.getElem_mem hq)) hkey (by rw [← h4, h3])
    have hms := mapSet_some (v := y) e4 e6 hk2
    refine ⟨_, ?_, fin (entries.modify q fun e => { e with key := key.val, val := u }) cl (by simp [hms, e2]) (fun p hp => ?_) ?_ (fun k p z a1 a2 => ?_)⟩
    · rw [Sem.run_bind, run_underlying hs, Result.andThen_ok]
      simp only []
      rw [Sem.run_bind, hget, Result.andThen_ok]
      simp only []
      rw [Sem.run_bind, hkf.keyed.check w _ hl, Result.andThen_ok, Sem.run_bind, h1, Result.andThen_ok]
      simp only []
      rw [Sem.run_bind, h2']
      simp only [Option.map_some, Option.getD_some]
      rw [h3, hkf.keyed.stays w hl, Result.andThen_ok]
      exact setObj_run e1 (fun _ _ _ e => by cases e)
    · rw [hms] at hp
      rcases List.mem_or_eq_of_mem_set hp with hp | rfl
      · exact e3 p hp
      · exact hkey
    · rw [hms]
      rw [List.pairwise_iff_getElem] at e4 ⊢
      intro i' j' hi' hj' hij
      simp only [List.length_set] at hi' hj'
      have key1 : ∀ n (hn : n < es.length), ((es.set q (key, y))[n]'(by simpa using hn)).1 = es[n].1 := fun n hn => by
        rw [List.getElem_set]
        split
        · rename_i e; subst e; exact hk2.symm
        · rfl
      rw [key1 i' hi', key1 j' hj']
      exact e4 i' j' hi' hj' hij
    · rw [hms, List.getElem?_set] at a1
      rw [Array.getElem?_modify] at a2
      by_cases e : q = k
      · subst e
        rw [if_pos rfl, if_pos hq] at a1
        rw [if_pos rfl, h2'] at a2
        cases a1; cases a2
        exact ⟨rfl, hu⟩
      · rw [if_neg e] at a1
        rw [if_neg e] at a2
        exact e5 k p z a1 a2
end

/-- A part of a slice; of an own one, cut off behind. -/
def St.slice (st : St) (isz : Nat) (x : SV) (lo hi : Option Nat) : Option (St × SV) := match x with
  | .nil => if lo.getD 0 = 0 ∧ hi.getD 0 = 0 then some (st, .nil) else none
  | .sref j => match st.obj j with
    | .row e sz true l => if sz = isz ∧ lo.getD 0 = 0 ∧ hi.getD l.length ≤ l.length then
        some ({ nt := st.nt, tmps := st.tmps.map (fun p => (p.1, p.2.ren (scrub j))), heap := (st.heap.map (Ob.ren (scrub j))).set j (.row e sz true (l.take (hi.getD l.length))) }, .sref j) else none
    | .froz l => if lo.getD 0 ≤ hi.getD l.length ∧ hi.getD l.length ≤ l.length ∧ l.all (fun x => x.cells.length == isz) = true then some (st, .t (.list ((l.take (hi.getD l.length)).drop (lo.getD 0)))) else none
    | _ => none
  | .t (.list l) => if lo.getD 0 ≤ hi.getD l.length ∧ hi.getD l.length ≤ l.length ∧ l.all (fun x => x.cells.length == isz) = true then some (st, .t (.list ((l.take (hi.getD l.length)).drop (lo.getD 0)))) else none
  | .lit l => if lo.getD 0 ≤ hi.getD l.length ∧ hi.getD l.length ≤ l.length ∧ l.all (fun x => x.cells.length == isz) = true then some (st, .t (.list ((l.take (hi.getD l.length)).drop (lo.getD 0)))) else none
  | _ => none
def St.bd (st : St) : Option Operand → Option (Option Nat)
  | none => some none
  | some x => match st.ev x with
    | .t (.int _ n) => if 0 ≤ n then some (some n.toNat) else none
    | _ => none
section
variable {P : Program} {C : Ctx} {st : St} {hd : List Hd} {a : Act} {w : World} {tt : Nat → Option TI}
theorem bd_ok (hr : StR C st hd a w) {x : Option Operand} {b : Option Nat} (h : st.bd x = some b) : (x = none ∧ b = none) ∨ ∃ y k n, x = some y ∧ b = some n ∧ a.eval y = .int k (n : Int) := by
  cases x with
  | none => simp [St.bd] at h; subst h; exact .inl ⟨rfl, rfl⟩
  | some y =>
    right
    simp only [St.bd] at h
    split at h
    · rename_i k n hy
      split at h
      · rename_i h0
        cases h
        have h3 := hr.ev y
        rw [hy] at h3
        generalize hv : a.eval y = v at h3
        have h4 := h3.toT
        cases h4
        exact ⟨y, k, n.toNat, rfl, rfl, by rw [hv, Int.toNat_of_nonneg h0]⟩
      · cases h
    · cases h
theorem run_sliceBounds (isS : Bool) (len cap : Nat) {lo hi : Option Value} {bl bh : Option Nat} (hl : (lo = none ∧ bl = none) ∨ ∃ k n, lo = some (.int k (n : Nat)) ∧ bl = some n) (hh : (hi = none ∧ bh = none) ∨ ∃ k n, hi = some (.int k (n : Nat)) ∧ bh = some n)
    (h1 : bl.getD 0 ≤ bh.getD len) (h2 : bh.getD len ≤ cap) : (Instr.sliceBounds isS len cap lo hi none).run P w = .ok (bl.getD 0, bh.getD len, cap) w := by
  rcases hl with ⟨rfl, rfl⟩ | ⟨k, n, rfl, rfl⟩ <;> rcases hh with ⟨rfl, rfl⟩ | ⟨k', m, rfl, rfl⟩ <;> simp only [Option.getD_none, Option.getD_some] at h1 h2 ⊢
  · simp [Instr.sliceBounds]
  · simp [Instr.sliceBounds, Instr.sliceBound, asIntOf, h2]
  · simp [Instr.sliceBounds, Instr.sliceBound, asIntOf, h1]
  · simp [Instr.sliceBounds, Instr.sliceBound, asIntOf, h1, h2]
theorem slice_tree {isz : Nat} (hr : StR C st hd a w) {l : List T} {ad : Option Addr} {n cap : Nat} (h : RepT (vis C hd) w (.list l) (.slice ad n cap)) {o m : Nat} (h1 : o ≤ m) (h2 : m ≤ l.length) (hf : ∀ x ∈ l, x.cells.length = isz) (h0 : 0 < isz) :
    RepT (vis C hd) w (.list ((l.take m).drop o)) (.slice (if cap = o then ad else ad.map (·.add (o * isz))) (m - o) (cap - o)) := by
  have hcap := h.listCap
  obtain ⟨a', cap', sz, xs, e, hm, hz, hf', ha, h1', hx⟩ := h.listInv
  cases e
  have hlen : ((l.take m).drop o).length = m - o := by simp; omega
  have hf2 : ∀ x ∈ (l.take m).drop o, x.cells.length = isz := fun x hx => hf x (List.mem_of_mem_take (List.mem_of_mem_drop hx))
  by_cases hne : m = o
  · subst hne
    have hnil : (l.take m).drop m = [] := by rw [List.drop_eq_nil_of_le (by simp; omega)]
    rw [hnil, Nat.sub_self]
    exact .list [] _ _ 1 (fun _ => undef) (Nat.zero_le _) Nat.one_pos (fun x hx => by simp at hx) (fun h => (h rfl).elim) (fun k hk => by simp at hk) (fun k y hy => by simp [flat] at hy) (Nat.zero_le _)
  · have hlne : l ≠ [] := by intro e; subst e; simp at h2; omega
    have hse : sz = isz := by
      cases l with
      | nil => exact (hlne rfl).elim
      | cons q r => rw [← hf' q List.mem_cons_self, hf q List.mem_cons_self]
    subst hse
    obtain ⟨b, off, rfl, hS, hc⟩ := ha hlne
    rw [if_neg (by omega)]
    simp only [Option.map_some, Addr.add_lit]
    rw [← hlen]
    have hflat : ∀ k y, (flat ((l.take m).drop o))[k]? = some y → (flat l)[o * sz + k]? = some y := fun k y hy => by
      have e1 : l = l.take o ++ ((l.take m).drop o ++ l.drop m) := by
        rw [← List.append_assoc]
        conv => lhs; rw [← List.take_append_drop m l]
        congr 1
        conv => lhs; rw [← List.take_append_drop o (l.take m)]
        rw [List.take_take, Nat.min_eq_left h1]
      have e2 : flat l = flat (l.take o) ++ (flat ((l.take m).drop o) ++ flat (l.drop m)) := by
        conv => lhs; rw [e1]
        rw [flat_append, flat_append]
      have e3 : (flat (l.take o)).length = o * sz := by
        rw [flat_length (fun x hx => hf x (List.mem_of_mem_take hx)), List.length_take, Nat.min_eq_left (by omega)]
      rw [e2, List.getElem?_append_right (by omega), e3, show o * sz + k - o * sz = k by omega, List.getElem?_append_left (List.getElem?_eq_some_iff.1 hy).1]
      exact hy
    have hin : ∀ k, k < ((l.take m).drop o).length * sz → o * sz + k < l.length * sz := fun k hk => by
      rw [hlen] at hk
      have : (o + (m - o)) * sz ≤ l.length * sz := Nat.mul_le_mul_right _ (by omega)
      rw [Nat.add_mul] at this; omega
    refine .list _ _ _ sz (fun k => xs (o * sz + k)) (by rw [hlen]; omega) hz hf2 (fun _ => ⟨b, off + o * sz, rfl, hS, fun k hk => ?_⟩) (fun k hk => h1' _ (hin k hk)) (fun k y hy => hx _ y (hflat k y hy)) (by rw [hlen]; omega)
    rw [Nat.add_assoc]; exact hc _ (hin k hk)
theorem slice_ok (hr : StR C st hd a w) {t e : Nat} {i ie : TI} (hi : TIok P t i) (hk : i.k = .slice e) (he : TIok P e ie) {x y : SV} {v : Value} {lo hi' : Option Value} {bl bh : Option Nat} (hl : (lo = none ∧ bl = none) ∨ ∃ k n, lo = some (.int k (n : Nat)) ∧ bl = some n) (hh : (hi' = none ∧ bh = none) ∨ ∃ k n, hi' = some (.int k (n : Nat)) ∧ bh = some n)
    {st' : St} (h : st.slice ie.sz x bl bh = some (st', y)) (hx : RepS (vis C hd) w hd x v) :
    ∃ u hd', (Instr.sliceAt t v lo hi' none).run P w = .ok u w ∧ StR C st' hd' a w ∧ RepS (vis C hd') w hd' y u := by
  have hs := hi.says
  rw [hk] at hs; simp only [TK.says] at hs
  have run : ∀ (ad : Option Addr) (n cap : Nat), bl.getD 0 ≤ bh.getD n → bh.getD n ≤ cap → (Instr.sliceAt t (.slice ad n cap) lo hi' none).run P w = .ok (.slice (if cap = bl.getD 0 then ad else ad.map (·.add (bl.getD 0 * ie.sz))) (bh.getD n - bl.getD 0) (cap - bl.getD 0)) w := fun ad n cap h1 h2 => by
    unfold Instr.sliceAt
    rw [Sem.run_bind, run_underlying hs, Result.andThen_ok]
    simp only []
    unfold Instr.slice
    rw [Sem.run_bind, run_underlying hs, Result.andThen_ok]
    simp only []
    rw [Sem.run_bind, run_sliceBounds true n cap hl hh h1 h2, Result.andThen_ok]
    simp only []
    rw [Sem.run_bind, he.sizeOf]; rfl
  have tree : ∀ {l : List T} {v : Value}, RepT (vis C hd) w (.list l) v → (bl.getD 0 ≤ bh.getD l.length ∧ bh.getD l.length ≤ l.length ∧ l.all (fun x => x.cells.length == ie.sz) = true) → st' = st → y = .t (.list ((l.take (bh.getD l.length)).drop (bl.getD 0))) →
      ∃ u hd', (Instr.sliceAt t v lo hi' none).run P w = .ok u w ∧ StR C st' hd' a w ∧ RepS (vis C hd') w hd' y u := fun {l v} hrep hc e1 e2 => by
    subst e1 e2
    obtain ⟨a', cap', sz, xs, e, hm, hz, hf', ha, h1', hx'⟩ := hrep.listInv
    subst e
    have hcap := hrep.listCap
    refine ⟨_, hd, run a' l.length cap' hc.1 (by omega), hr, .t _ _ (slice_tree hr hrep hc.1 hc.2.1 (fun x hx => by have := List.all_eq_true.1 hc.2.2 x hx; simpa using this) he.pos)⟩
  unfold St.slice at h
  split at h
  · split at h
    · rename_i hc
      cases h; cases hx
      have hb : bh.getD 0 = 0 := hc.2
      refine ⟨_, hd, run none 0 0 (by omega) (by omega), hr, ?_⟩
      rw [hc.1, hb]
      exact .nil
    · cases h
  · rename_i j
    split at h
    · rename_i e' sz l ho
      split at h
      · rename_i hc
        obtain ⟨rfl, h1, h2⟩ := hc
        cases h; cases hx
        rename_i ad n cap o hh0
        have hoj := obj_some ho (by simp)
        have hob := hr.ob j _ _ hoj hh0
        obtain ⟨rfl, q2, q3, q4, q5⟩ := hob
        rcases q5 with ⟨xs, f1, f2, f3⟩ | ⟨q, _⟩
        · have hlc : l.length ≤ cap := by
            rcases f1.2 with ⟨q, q2⟩ | ⟨g, cap', cur, q, _, _, q3, _⟩
            · omega
            · cases q; exact q3
          have hrun := run ad l.length cap (by omega) (by omega)
          rw [h1] at hrun
          have hval : (Value.slice (if cap = 0 then ad else ad.map (·.add (0 * ie.sz))) (bh.getD l.length - 0) (cap - 0)) = .slice ad (bh.getD l.length) cap := by
            have : (ad.map fun x => x.add (0 * ie.sz)) = ad := by cases ad <;> simp [Addr.add]
            rw [this]; simp
          rw [hval] at hrun
          refine ⟨_, hd.set j (.sl ad (bh.getD l.length) cap o), hrun, ?_, .sref _ _ _ _ o (by rw [List.getElem?_set_self (List.getElem?_eq_some_iff.1 hh0).1])⟩
          have hown := fun b (hbo : o = some b) => hr.own _ b (List.mem_of_getElem? hh0) hbo
          have hst : Stay (vis C hd) (vis C (hd.set j (.sl ad (bh.getD l.length) cap o))) w w := ⟨Nat.le_refl _, fun b hb _ => ⟨rfl, hb.1, fun x hx => by
            rcases List.mem_or_eq_of_mem_set hx with hx | rfl
            · exact hb.2 x hx
            · have := hb.2 _ (List.mem_of_getElem? hh0); exact this⟩⟩
          refine hr.set (scrub j) j _ _ _ hh0 (Below.refl _ _) (fun _ _ _ => rfl) (fun b hbo => ?_) keeps_scrub ?_
          · have := hown b hbo
            exact ⟨this.1, this.2, .inl hbo⟩
          · have hlen : (l.take (bh.getD l.length)).length = bh.getD l.length := by simp; omega
            have hfl := flat_length q4
            have hft : flat (l.take (bh.getD l.length)) = (flat l).take (bh.getD l.length * ie.sz) := by
              have e1 : flat l = flat (l.take (bh.getD l.length)) ++ flat (l.drop (bh.getD l.length)) := by rw [← flat_append, List.take_append_drop]
              have e3 : (flat (l.take (bh.getD l.length))).length = bh.getD l.length * ie.sz := by
                rw [flat_length (fun x hx => q4 x (List.mem_of_mem_take hx)), hlen]
              rw [e1, List.take_left' e3]
            refine ⟨hlen.symm, q2, by rw [hlen]; omega, fun x hx => q4 x (List.mem_of_mem_take hx), .inl ⟨xs.take (bh.getD l.length * ie.sz), ⟨?_, ?_⟩, by rw [f2]; cases ad <;> rfl, by rw [hft]; exact (f3.take _).keep hst⟩⟩
            · rw [List.length_take, f3.len, hfl, Nat.min_eq_left (Nat.mul_le_mul_right _ h2)]
            · rcases f1.2 with ⟨q, q2⟩ | ⟨g, cap', cur, q, r1, r2, r3, r4, r5, r6⟩
              · simp at q; obtain ⟨rfl, h0, rfl⟩ := q
                exact .inl ⟨by congr 1; omega, by omega⟩
              · cases q
                refine .inr ⟨g, cap, cur, rfl, r1, r2, by omega, r4, r5, ?_⟩
                rw [← r6, List.take_take, Nat.min_eq_left (Nat.mul_le_mul_right _ h2)]
        · cases q
      · cases h
    · rename_i l ho
      split at h
      · rename_i hc
        cases h; cases hx
        rename_i ad n cap o hh0
        have hob := hr.ob j _ _ (obj_some ho (by simp)) hh0
        exact tree hob.2.2 hc rfl rfl
      · cases h
    · cases h
  · split at h
    · rename_i hc; cases h; exact tree hx.toT hc rfl rfl
    · cases h
  · split at h
    · rename_i hc; cases h; cases hx; exact tree ‹_› hc rfl rfl
    · cases h
  · cases h
end
/-- A map's entry, written. -/
noncomputable def St.mapUp (st : St) (kk : KK) (m k x : SV) : Option St := match m, k, x with
  | .map j, .t key, .t y => match st.obj j with
    | .map kk' es => if kk' = kk ∧ key.okKey kk = true then some { st with heap := st.heap.set j (.map kk (mapSet es key y)) } else none
    | _ => none
  | _, _, _ => none
/-- A part of a text. -/
def strSlice (x : SV) (lo hi : Option Nat) : Option SV := match x with
  | .t (.str s) => if lo.getD 0 ≤ hi.getD s.size ∧ hi.getD s.size ≤ s.size then some (.t (.str (s.extract (lo.getD 0) (hi.getD s.size)))) else none
  | _ => none
section
variable {P : Program} {C : Ctx} {st : St} {hd : List Hd} {a : Act} {w : World} {tt : Nat → Option TI}
theorem mapUp_ok (hT : TTok P tt) (hr : StR C st hd a w) {t : Nat} {i : TI} (hi : tt t = some i) {kk : KK} {kt e : Nat} (hk : i.k = .map kk kt e) {m k x : SV} {st' : St} (h : st.mapUp kk m k x = some st') {vm vk vx : Value}
    (hm : RepS (vis C hd) w hd m vm) (hv : RepS (vis C hd) w hd k vk) (hu : RepS (vis C hd) w hd x vx) : ∃ w', (Instr.mapUpdate t vm vk vx).run P w = .ok () w' ∧ StR C st' hd a w' := by
  unfold St.mapUp at h
  split at h
  · split at h
    · rename_i ho
      split at h
      · rename_i hc
        obtain ⟨rfl, hc⟩ := hc
        cases h
        exact mapUpdate_ok hT hr hi hk (obj_some ho (by simp)) hc hm hv.toT hu.toT
      · cases h
    · cases h
  · cases h
theorem mapUp_nt {kk : KK} {m k x : SV} {st' : St} (h : st.mapUp kk m k x = some st') : st'.nt = st.nt := by
  unfold St.mapUp at h
  split at h
  · split at h
    · split at h
      · cases h; rfl
      · cases h
    · cases h
  · cases h
theorem slice_nt {isz : Nat} {x y : SV} {lo hi : Option Nat} {st' : St} (h : st.slice isz x lo hi = some (st', y)) : st'.nt = st.nt := by
  unfold St.slice at h
  split at h
  · split at h
    · cases h; rfl
    · cases h
  · split at h
    · split at h
      · cases h; rfl
      · cases h
    · split at h
      · cases h; rfl
      · cases h
    · cases h
  · split at h
    · cases h; rfl
    · cases h
  · split at h
    · cases h; rfl
    · cases h
  · cases h
theorem strSlice_ok {t : Nat} {i : TI} (hi : TIok P t i) (hk : i.k = .str) {x y : SV} {v : Value} {lo hi' : Option Value} {bl bh : Option Nat} (hl : (lo = none ∧ bl = none) ∨ ∃ k n, lo = some (.int k (n : Nat)) ∧ bl = some n) (hh : (hi' = none ∧ bh = none) ∨ ∃ k n, hi' = some (.int k (n : Nat)) ∧ bh = some n)
    (h : strSlice x bl bh = some y) (hx : RepS (vis C hd) w hd x v) : ∃ u, (Instr.sliceAt t v lo hi' none).run P w = .ok u w ∧ RepS (vis C hd) w hd y u := by
  have hs := hi.says
  rw [hk] at hs; simp only [TK.says] at hs
  unfold strSlice at h
  split at h
  · rename_i s
    split at h
    · rename_i hc
      cases h
      have h4 := hx.toT
      cases h4
      refine ⟨.string (s.extract (bl.getD 0) (bh.getD s.size)), ?_, .t _ _ (.str _)⟩
      unfold Instr.sliceAt
      rw [Sem.run_bind, run_underlying hs, Result.andThen_ok]
      simp only []
      unfold Instr.slice
      rw [Sem.run_bind, run_underlying hs, Result.andThen_ok]
      simp [run_sliceBounds false s.size s.size hl hh hc.1 hc.2]
    · cases h
  · cases h
end
end Go.Proofs.YtpgkpbfefnpagaaGreatDoor
namespace Go.Proofs.YtpgkpbfefnpagaaGreatDoor
open Go.RowKit

def zipFrz (heap : List Ob) : List SV → Option (List T × List Ob)
  | [] => some ([], heap)
  | x :: r => match frz heap x with
    | some (y, heap') => match zipFrz heap' r with
      | some (ys, heap'') => some (y :: ys, heap'')
      | none => none
    | none => none
def idxOk : Nat → List (Nat × Operand) → Bool
  | _, [] => true
  | k, p :: r => p.1 == k && idxOk (k + 1) r
/-- A literal slice. -/
def St.litS (st : St) (ie : TI) (len : Nat) (parts : List (Nat × Operand)) : Option (St × SV) :=
  if idxOk 0 parts = true ∧ parts.length = len ∧ len ≤ 1000 ∧ len * ie.sz ≤ 16777216 then match zipFrz st.heap (parts.map fun p => st.ev p.2) with
    | some (ys, heap') => if ys.all (fun y => y.storable && y.cells.length == ie.sz) then some ({ st with heap := heap' }, .lit ys) else none
    | none => none
  else none
/-- One operation. -/
noncomputable def stepOp1 (tt : Nat → Option TI) (st : St) (o : Oper) : Option St := match o.op with
  | .alloc e => match tt e with
    | some i => some (({ st with heap := st.heap ++ [Ob.box i.zero] } : St).put o.dst (.bptr st.heap.length 0))
    | none => none
  | .box _ x => if (st.ev x).storable = true then some (({ st with heap := st.heap ++ [Ob.box (st.ev x).cells] } : St).put o.dst (.bptr st.heap.length 0)) else none
  | .buildSlice t len parts => match tt t with
    | some i => match i.k with
      | .slice e => match tt e with
        | some ie => (st.litS ie len parts.toList).map fun p => p.1.put o.dst p.2
        | none => none
      | _ => none
    | none => none
  | .makeSlice t l c => match tt t, st.ev l, st.ev c with
    | some i, .t (.int _ n), .t (.int _ m) => match i.k with
      | .slice e => match tt e with
        | some ie => if n = m ∧ 0 ≤ n ∧ ie.by_ * n.toNat ≤ 140737488355328 ∧ n.toNat ≤ 9223372036854775807 then some (({ st with heap := st.heap ++ [Ob.row e ie.sz true (List.replicate n.toNat ie.zT)] } : St).put o.dst (.sref st.heap.length)) else none
        | none => none
      | _ => none
    | _, _, _ => none
  | .store t p x => match tt t with
    | some i => (st.store i (st.ev p) (st.ev x)).map fun s => s.put o.dst (.t .undef)
    | none => none
  | .makeMap t none => match tt t with
    | some i => match i.k with
      | .map kk _ _ => some (({ st with heap := st.heap ++ [Ob.map kk []] } : St).put o.dst (.map st.heap.length))
      | _ => none
    | none => none
  | .mapUpdate t m k x => match tt t with
    | some i => match i.k with
      | .map kk _ _ => (st.mapUp kk (st.ev m) (st.ev k) (st.ev x)).map fun s => s.put o.dst (.t .undef)
      | _ => none
    | none => none
  | .insert t m k x => match tt t with
    | some i => match i.k with
      | .map kk _ _ => (st.mapUp kk (st.ev m) (st.ev k) (st.ev x)).map fun s => s.put o.dst (.t .undef)
      | _ => none
    | none => none
  | .slice t x lo hi none => match tt t, st.bd lo, st.bd hi with
    | some i, some bl, some bh => match i.k with
      | .slice e => match tt e with
        | some ie => (st.slice ie.sz (st.ev x) bl bh).map fun p => p.1.put o.dst p.2
        | none => none
      | .str => (strSlice (st.ev x) bl bh).map fun y => st.put o.dst y
      | _ => none
    | _, _, _ => none
  | .call c => match c.callee with
    | .builtin .append => match c.args.toList, c.argTypes.toList with
      | [s, x], [t, t'] => if t = t' then match tt t with
          | some i => match i.k with
            | .slice e => match tt e with
              | some ie => match st.lst (st.ev x) with
                | some xs => if xs.all (fun x => x.cells.length == ie.sz) = true ∧ st.appLen (st.ev s) xs * ie.by_ ≤ 140737488355328 ∧ st.appLen (st.ev s) xs ≤ 9223372036854775807 then (st.append e ie.sz (st.ev s) xs).map fun p => p.1.put o.dst p.2 else none
                | none => none
              | none => none
            | _ => none
          | none => none
        else none
      | _, _ => none
    | _ => none
  | _ => none
noncomputable def stepOp0 (tt : Nat → Option TI) (st : St) (o : Oper) : Option St := match evalOp tt st o.op with
  | some x => some (st.put o.dst x)
  | none => stepOp1 tt st o
def dstOk (n : Nat) : Option Nat → Bool
  | none => true
  | some d => decide (d < n)
noncomputable def stepOp (tt : Nat → Option TI) (ops : Array Oper) (st : St) (o : Oper) : Option St :=
  if dstOk st.nt o.dst = true then match o.guard with
    | none => stepOp0 tt st o
    | some (j, want) => match (ops[j]?).bind (·.dst) with
      | some d => match st.get d with
        | .t (.bool b) => if b = want then stepOp0 tt st o else some (st.put o.dst (.t .undef))
        | _ => none
      | none => none
  else none

section
variable {P : Program} {C : Ctx} {st : St} {hd : List Hd} {a : Act} {w : World} {tt : Nat → Option TI}
theorem dst_lt {n : Nat} {d : Option Nat} (h : dstOk n d = true) : ∀ t, d = some t → t < n := fun t e => by subst e; simpa [dstOk] using h
theorem zipFrz_ok : ∀ {l : List SV} {st : St} {hd : List Hd} (_ : StR C st hd a w) {vs : List Value} {ys : List T} {heap' : List Ob} (_ : zipFrz st.heap l = some (ys, heap')) (_ : vs.length = l.length) (_ : ∀ (k : Nat) (x : SV) (v : Value), l[k]? = some x → vs[k]? = some v → RepS (vis C hd) w hd x v),
    ∃ hd', StR C { st with heap := heap' } hd' a w ∧ ys.length = vs.length ∧ (∀ (k : Nat) (y : T) (v : Value), ys[k]? = some y → vs[k]? = some v → RepT (vis C hd') w y v) ∧ Stay (vis C hd) (vis C hd') w w ∧ Keeps some hd hd'
  | [], st, hd, hr, vs, ys, heap', h, hl, hx => by
    simp [zipFrz] at h
    obtain ⟨rfl, rfl⟩ := h
    obtain rfl : vs = [] := List.eq_nil_of_length_eq_zero (by simpa using hl)
    exact ⟨hd, hr, rfl, fun k y v h => by simp at h, Stay.refl _ _, Keeps.refl _⟩
  | x :: r, st, hd, hr, vs, ys, heap', h, hl, hx => by
    cases vs with
    | nil => simp at hl
    | cons v vs =>
      simp only [zipFrz] at h
      split at h
      · rename_i y h1 e1
        split at h
        · rename_i zs h2 e2
          cases h
          obtain ⟨hd1, r1, t1, s1, k1⟩ := frz_ok hr e1 (hx 0 x v rfl rfl)
          obtain ⟨hd2, r2, l2, t2, s2, k2⟩ := zipFrz_ok (st := { st with heap := h1 }) r1 e2 (by simpa using hl) (fun k y v a b => (hx (k + 1) y v (by simpa using a) (by simpa using b)).keep s1 k1)
          refine ⟨hd2, r2, by simp [l2], fun k z u a b => ?_, s1.trans s2, k1.trans k2⟩
          cases k with
          | zero => simp at a b; subst a b; exact t1.keep s2
          | succ k => exact t2 k z u (by simpa using a) (by simpa using b)
        · cases h
      · cases h
theorem fill_lit {size : Nat} (h0 : 0 < size) : ∀ (k : Nat) (vs : List (Nat × Value)) (cells : Array Value), (∀ (j : Nat) (p : Nat × Value), vs[j]? = some p → p.1 = k + j ∧ p.2.cells.size = size) → (k + vs.length) * size = cells.size →
    Instr.fill (fun i => some (i * size, size)) cells vs = some (cells.toList.take (k * size) ++ vs.flatMap (fun p => p.2.cells.toList)).toArray
  | k, [], cells, _, hs => by
    simp only [Instr.fill, List.flatMap_nil, List.append_nil]
    rw [List.take_of_length_le (by simp at hs ⊢; omega)]
  | k, (i, v) :: vs, cells, hp, hs => by
    obtain ⟨e1, e2⟩ := hp 0 (i, v) rfl
    simp only [Nat.add_zero] at e1 e2
    subst e1
    simp only [Instr.fill]
    have hle : i * size + size ≤ cells.size := by
      rw [← hs, ← Nat.succ_mul]; exact Nat.mul_le_mul_right _ (by simp)
    rw [if_neg (by simp [e2]; omega)]
    have hf := fold_set (i * size) v.cells.toList 0 cells (by simp; omega)
    simp only [Nat.add_zero, Array.length_toList, e2] at hf
    have hf2 : (v.cells.zipIdx.foldl (fun cs (c, j) => cs.setIfInBounds (i * size + j) c) cells).toList = cells.toList.take (i * size) ++ v.cells.toList ++ cells.toList.drop (i * size + size) := by
      rw [← hf, ← Array.foldl_toList]; simp
    have hsz : (v.cells.zipIdx.foldl (fun cs (c, j) => cs.setIfInBounds (i * size + j) c) cells).size = cells.size := by
      rw [← Array.length_toList, hf2]; simp; omega
    rw [fill_lit h0 (i + 1) vs _ (fun j p hj => by have := hp (j + 1) p (by simpa using hj); omega) (by rw [hsz, ← hs]; congr 1; simp; omega), hf2]
    rw [List.flatMap_cons, ← List.append_assoc]
    rw [List.take_left' (by simp [e2]; rw [Nat.min_eq_left (by omega), Nat.add_mul]; omega)]
theorem idxOk_spec : ∀ {l : List (Nat × Operand)} {k : Nat}, idxOk k l = true → ∀ (j : Nat) (p : Nat × Operand), l[j]? = some p → p.1 = k + j
  | [], k, _, j, p, hj => by simp at hj
  | q :: r, k, h, 0, p, hj => by
    simp only [idxOk, Bool.and_eq_true, beq_iff_eq] at h
    simp at hj; subst hj; exact h.1
  | q :: r, k, h, j + 1, p, hj => by
    simp only [idxOk, Bool.and_eq_true, beq_iff_eq] at h
    have := idxOk_spec h.2 j p (by simpa using hj)
    omega
theorem litS_ok (hr : StR C st hd a w) {t e : Nat} {i ie : TI} (hi : TIok P t i) (hk : i.k = .slice e) (he : TIok P e ie) {len : Nat} {parts : Array (Nat × Operand)} {st' : St} {y : SV} (h : st.litS ie len parts.toList = some (st', y)) :
    ∃ v w' hd', (Instr.buildSlice t len (parts.map fun (i, x) => (i, a.eval x))).run P w = .ok v w' ∧ StR C st' hd' a w' ∧ RepS (vis C hd') w' hd' y v := by
  have hs := hi.says
  rw [hk] at hs; simp only [TK.says] at hs
  unfold St.litS at h
  split at h
  · rename_i hc
    obtain ⟨h1, h2, h3, h4⟩ := hc
    split at h
    · rename_i ys heap' hz
      split at h
      · rename_i hall
        cases h
        rw [List.all_eq_true] at hall
        have hlen : parts.size = len := by simpa using h2
        obtain ⟨hd', r1, l1, t1, s1, k1⟩ := zipFrz_ok (vs := parts.toList.map fun p => a.eval p.2) hr hz (by simp) (fun k x v a1 a2 => by
          rw [List.getElem?_map, Option.map_eq_some_iff] at a1 a2
          obtain ⟨p, hp, rfl⟩ := a1
          obtain ⟨q, hq, rfl⟩ := a2
          rw [hp] at hq; cases hq
          exact hr.ev _)
        simp at l1
        have hyl : ys.length = len := by omega
        have hf : ∀ x ∈ ys, x.cells.length = ie.sz := fun x hx => by have := hall x hx; simp at this; exact this.2
        -- each part's cells
        have hparts : ∀ k, k < len → ∃ p y, parts[k]? = some p ∧ p.1 = k ∧ ys[k]? = some y ∧ RepL (vis C hd') w y.cells (a.eval p.2).cells.toList := fun k hk => by
          have e1 : parts.toList[k]? = some parts.toList[k] := List.getElem?_eq_getElem (by simpa [hlen] using hk)
          have e2 : ys[k]? = some ys[k] := List.getElem?_eq_getElem (by omega)
          refine ⟨_, _, by rw [← Array.getElem?_toList]; exact e1, by have := idxOk_spec h1 k _ e1; omega, e2, ?_⟩
          have := t1 k _ _ e2 (by rw [List.getElem?_map, e1]; rfl)
          have hst := hall _ (List.getElem_mem (by omega : k < ys.length))
          simp at hst
          exact this.toL hst.1
        obtain ⟨z, z1, z2, _⟩ := he.zL (S := fun _ => False) (w := w)
        -- the cells, all together
        have hfl : RepL (vis C hd') w (flat ys) ((parts.toList.map fun p => (p.1, a.eval p.2)).flatMap fun p => p.2.cells.toList) := by
          have key : ∀ (l : List T) (m : List (Nat × Value)), l.length = m.length → (∀ (k : Nat) (y : T) (p : Nat × Value), l[k]? = some y → m[k]? = some p → RepL (vis C hd') w y.cells p.2.cells.toList) → RepL (vis C hd') w (flat l) (m.flatMap fun p => p.2.cells.toList) := by
            intro l
            induction l with
            | nil => intro m hm _; obtain rfl : m = [] := List.eq_nil_of_length_eq_zero (by simpa using hm.symm); exact RepL.nil _ _
            | cons y l ih =>
              intro m hm hh
              cases m with
              | nil => simp at hm
              | cons p m =>
                simp only [flat, List.flatMap_cons]
                exact (hh 0 y p rfl rfl).append (ih m (by simpa using hm) fun k y p a b => hh (k + 1) y p (by simpa using a) (by simpa using b))
          refine key ys _ (by simp; omega) fun k y p a1 a2 => ?_
          have hk := (List.getElem?_eq_some_iff.1 a1).1
          obtain ⟨q, y', e1, e2, e3, e4⟩ := hparts k (by omega)
          rw [a1] at e3; cases e3
          rw [List.getElem?_map, Array.getElem?_toList, e1] at a2
          simp at a2; subst a2
          exact e4
        have hfill : ∀ cells : Array Value, cells.size = len * ie.sz → Instr.fill (fun i => some (i * ie.sz, ie.sz)) cells (parts.toList.map fun p => (p.1, a.eval p.2)) = some ((parts.toList.map fun p => (p.1, a.eval p.2)).flatMap fun p => p.2.cells.toList).toArray := fun cells hcs => by
          have := fill_lit he.pos 0 (parts.toList.map fun p => (p.1, a.eval p.2)) cells (fun j p hj => by
            rw [List.getElem?_map, Option.map_eq_some_iff] at hj
            obtain ⟨q, hq, rfl⟩ := hj
            have hk := (List.getElem?_eq_some_iff.1 hq).1
            simp at hk
            obtain ⟨p', y', e1, e2, e3, e4⟩ := hparts j (by omega)
            rw [Array.getElem?_toList, e1] at hq
            cases hq
            refine ⟨by simpa using e2, ?_⟩
            have := e4.len
            rw [hf y' (List.mem_of_getElem? e3)] at this
            simpa using this) (by simp [hcs, hlen])
          simpa using this
        have hlw := lit_new (e := e) (vs := ((parts.toList.map fun p => (p.1, a.eval p.2)).flatMap fun p => p.2.cells.toList).toArray) r1 he.pos (l := ys) (by simp only [maxLen]; omega) hf (by simpa using hfl)
        refine ⟨_, _, hd', ?_, hlw⟩
        unfold Instr.buildSlice
        rw [Sem.run_bind, run_underlying hs, Result.andThen_ok]
        simp only []
        rw [Sem.run_bind, he.sizeOf, Result.andThen_ok]
        rw [if_neg (by omega)]
        have hmap : (parts.map fun (i, x) => (i, a.eval x)).toList = parts.toList.map fun p => (p.1, a.eval p.2) := by simp
        by_cases h0 : len * ie.sz = 0
        · rw [if_pos h0, Sem.run_bind, Sem.run_pure, Result.andThen_ok, hmap, hfill _ (by simp)]
          simp only []
          rw [Sem.run_bind]
          simp [newRow, hyl]
        · rw [if_neg h0, Sem.run_bind, z1, Result.andThen_ok, Sem.run_bind, Sem.run_pure, Result.andThen_ok, hmap, hfill _ (by simp)]
          simp only []
          rw [Sem.run_bind]
          simp [newRow, hyl]
      · cases h
    · cases h
  · cases h
end
end Go.Proofs.YtpgkpbfefnpagaaGreatDoor
namespace Go.Proofs.YtpgkpbfefnpagaaGreatDoor
open Go.RowKit

section
variable {P : Program} {C : Ctx} {st : St} {hd : List Hd} {a : Act} {w : World} {tt : Nat → Option TI}
theorem StR.put' (h : StR C st hd a w) {d : Option Nat} {n : Nat} (hn : n = st.nt) (hd' : dstOk n d = true) {x : SV} {v : Value} (hx : RepS (vis C hd) w hd x v) : StR C (st.put d x) hd (a.put d v) w :=
  h.put (fun t e => by subst hn; exact dst_lt hd' t e) hx
def Stepped (P : Program) (C : Ctx) (a : Act) (o : Oper) (st' : St) (w : World) : Prop :=
  ∃ n w', (execOp a.eval o).run P w = .ok n w' ∧ ∃ v, (n = .value v ∨ (n = .skip ∧ v = undef)) ∧ ∃ hd', StR C st' hd' (a.put o.dst v) w'
theorem append_nt {s y : SV} {e sz : Nat} {xs : List T} {st' : St} (h : st.append e sz s xs = some (st', y)) : st'.nt = st.nt := by
  unfold St.append at h
  split at h
  · cases h; rfl
  · split at h
    · cases h; rfl
    · cases h
  · split at h
    · split at h
      · cases h; rfl
      · cases h
    · cases h
  · split at h
    · split at h
      · cases h; rfl
      · cases h
    · cases h
  · cases h
theorem litS_nt {ie : TI} {len : Nat} {parts : List (Nat × Operand)} {st' : St} {y : SV} (h : st.litS ie len parts = some (st', y)) : st'.nt = st.nt := by
  unfold St.litS at h
  split at h
  · split at h
    · split at h
      · cases h; rfl
      · cases h
    · cases h
  · cases h
theorem store_nt {i : TI} {p x : SV} {st' : St} (h : st.store i p x = some st') : st'.nt = st.nt := by
  unfold St.store at h
  split at h
  · split at h
    · split at h
      · cases h; rfl
      · cases h
    · cases h
  · split at h
    · split at h
      · split at h
        · split at h
          · cases h; rfl
          · cases h
        · cases h
      · cases h
    · cases h
  · cases h
theorem stepOp1_ok (hT : TTok P tt) (hr : StR C st hd a w) (o : Oper) (hdst : dstOk st.nt o.dst = true) {st' : St} (h : stepOp1 tt st o = some st') : Stepped P C a o st' w := by
  obtain ⟨dst, op, ty, pos, after, guard⟩ := o
  simp only at hdst
  cases op <;> simp only [stepOp1] at h
  case alloc e =>
    split at h
    · rename_i i hi
      cases h
      obtain ⟨z, z1, z2, z3, _⟩ := (hT e i hi).zeroC (S := vis C hd) (w := w) (hd := hd)
      have hn := new_box hr e z3
      refine ⟨_, w.alloc (.cells z.cells e), run_val (v := .pointer (some ⟨w.heap.size, 0, none⟩)) ?_, _, .inl rfl, _, hn.put' rfl hdst ?_⟩
      · simp [Instr.alloc, z1, newVar, newRow]
      · refine .bptr _ 0 _ true ?_
        rw [← hr.hl, List.getElem?_append_right (Nat.le_refl _), Nat.sub_self]; rfl
    · cases h
  case box e x =>
    split at h
    · rename_i hst
      cases h
      have hn := new_box hr e ((hr.ev x).toC hst)
      refine ⟨_, w.alloc (.cells (a.eval x).cells e), run_val (v := .pointer (some ⟨w.heap.size, 0, none⟩)) ?_, _, .inl rfl, _, hn.put' rfl hdst ?_⟩
      · simp [Instr.box, newVar, newRow]
      · refine .bptr _ 0 _ true ?_
        rw [← hr.hl, List.getElem?_append_right (Nat.le_refl _), Nat.sub_self]; rfl
    · cases h
  case buildSlice t len parts =>
    split at h
    · rename_i i hi
      split at h
      · rename_i e hk
        split at h
        · rename_i ie he
          rw [Option.map_eq_some_iff] at h
          obtain ⟨p, hp, rfl⟩ := h
          obtain ⟨v, w', hd', h1, h2, h3⟩ := litS_ok hr (hT t i hi) hk (hT e ie he) hp
          exact ⟨_, w', run_val h1, v, .inl rfl, hd', h2.put' (litS_nt hp).symm hdst h3⟩
        · cases h
      · cases h
    · cases h
  case makeSlice t l c =>
    split at h
    · rename_i i k1 n k2 m hi hn hm
      split at h
      · rename_i e hk
        split at h
        · rename_i ie he
          split at h
          · rename_i hc
            obtain ⟨rfl, c1, c2, c3⟩ := hc
            cases h
            have h3 := hr.ev l
            have h4 := hr.ev c
            rw [hn] at h3; rw [hm] at h4
            generalize hv1 : a.eval l = v1 at h3
            generalize hv2 : a.eval c = v2 at h4
            have h5 := h3.toT
            have h6 := h4.toT
            cases h5; cases h6
            obtain ⟨q, rfl⟩ := Int.eq_ofNat_of_zero_le c1
            simp only [Int.toNat_natCast] at c2 c3 ⊢
            obtain ⟨v, w', h1, hd', h2, h3⟩ := make_ok hr (hT t i hi) hk (hT e ie he) k1 k2 q (by omega) (by simp only [maxLen]; omega)
            exact ⟨_, w', run_val (by rw [hv1, hv2]; exact h1), v, .inl rfl, hd', h2.put' rfl hdst h3⟩
          · cases h
        · cases h
      · cases h
    · cases h
  case store t p x =>
    split at h
    · rename_i i hi
      rw [Option.map_eq_some_iff] at h
      obtain ⟨s, hs, rfl⟩ := h
      obtain ⟨w', hd', h1, h2⟩ := store_ok hr (hT t i hi) hs (hr.ev x) (hr.ev p)
      refine ⟨.skip, w', ?_, undef, .inr ⟨rfl, rfl⟩, hd', h2.put' (store_nt hs).symm hdst (.t _ _ (.undef _))⟩
      show (do Instr.storeAt t (a.eval p) (a.eval x); pure Next.skip : Sem Next).run P w = _
      rw [Sem.run_bind, h1]; rfl
    · cases h
  case makeMap t r =>
    cases r
    · simp only at h
      split at h
      · rename_i i hi
        split at h
        · cases h
          refine ⟨_, w.alloc (.map #[] 0), run_val (v := .map (some w.heap.size)) ?_, _, .inl rfl, _, (map_new hr _).put' rfl hdst ?_⟩
          · rfl
          · refine .map _ _ ?_
            rw [← hr.hl, List.getElem?_append_right (Nat.le_refl _), Nat.sub_self]; rfl
        · cases h
      · cases h
    · cases h
  case mapUpdate t m k x =>
    split at h
    · rename_i i hi
      split at h
      · rename_i hk
        rw [Option.map_eq_some_iff] at h
        obtain ⟨s, hs, rfl⟩ := h
        obtain ⟨w', h1, h2⟩ := mapUp_ok hT hr hi hk hs (hr.ev m) (hr.ev k) (hr.ev x)
        refine ⟨.skip, w', ?_, undef, .inr ⟨rfl, rfl⟩, hd, h2.put' (mapUp_nt hs).symm hdst (.t _ _ (.undef _))⟩
        show (do Instr.mapUpdate t (a.eval m) (a.eval k) (a.eval x); pure Next.skip : Sem Next).run P w = _
        rw [Sem.run_bind, h1]; rfl
      · cases h
    · cases h
  case insert t m k x =>
    split at h
    · rename_i i hi
      split at h
      · rename_i hk
        rw [Option.map_eq_some_iff] at h
        obtain ⟨s, hs, rfl⟩ := h
        obtain ⟨w', h1, h2⟩ := mapUp_ok hT hr hi hk hs (hr.ev m) (hr.ev k) (hr.ev x)
        refine ⟨.skip, w', ?_, undef, .inr ⟨rfl, rfl⟩, hd, h2.put' (mapUp_nt hs).symm hdst (.t _ _ (.undef _))⟩
        show (do Instr.mapUpdate t (a.eval m) (a.eval k) (a.eval x); pure Next.skip : Sem Next).run P w = _
        rw [Sem.run_bind, h1]; rfl
      · cases h
    · cases h
  case slice t x lo hi mx =>
    cases mx
    · simp only at h
      have hb : ∀ {o : Option Operand} {b : Option Nat}, st.bd o = some b → (o.map a.eval = none ∧ b = none) ∨ ∃ k n, o.map a.eval = some (.int k (n : Nat)) ∧ b = some n := fun h => by
        rcases bd_ok hr h with ⟨rfl, rfl⟩ | ⟨y, k, n, rfl, rfl, e⟩
        · exact .inl ⟨rfl, rfl⟩
        · exact .inr ⟨k, n, by rw [Option.map_some, e], rfl⟩
      split at h
      · rename_i i bl bh hi' hl hh
        split at h
        · rename_i e hk
          split at h
          · rename_i ie he
            rw [Option.map_eq_some_iff] at h
            obtain ⟨p, hp, rfl⟩ := h
            obtain ⟨u, hd', h1, h2, h3⟩ := slice_ok hr (hT t i hi') hk (hT e ie he) (hb hl) (hb hh) hp (hr.ev x)
            exact ⟨_, w, run_val h1, u, .inl rfl, hd', h2.put' (slice_nt hp).symm hdst h3⟩
          · cases h
        · rename_i hk
          rw [Option.map_eq_some_iff] at h
          obtain ⟨y, hp, rfl⟩ := h
          obtain ⟨u, h1, h3⟩ := strSlice_ok (hT t i hi') hk (hb hl) (hb hh) hp (hr.ev x)
          exact ⟨_, w, run_val h1, u, .inl rfl, hd, hr.put' rfl hdst h3⟩
        · cases h
      · cases h
    · cases h
  case call c =>
    obtain ⟨callee, args, ats⟩ := c
    simp only at h
    split at h
    · split at h
      · rename_i s x t t' hx ht
        split at h
        · rename_i htt
          subst htt
          split at h
          · rename_i i hi
            split at h
            · rename_i e hk
              split at h
              · rename_i ie he
                split at h
                · rename_i xs hxs
                  split at h
                  · rename_i hc
                    rw [Option.map_eq_some_iff] at h
                    obtain ⟨p, hp, rfl⟩ := h
                    obtain rfl : args = #[s, x] := by cases args; simp at hx; subst hx; rfl
                    obtain rfl : ats = #[t, t] := by cases ats; simp at ht; subst ht; rfl
                    obtain ⟨v, w', hd', h1, h2, h3⟩ := append_ok (ty := ty) hr (hT t i hi) hk (hT e ie he) (hr.ev s) (hr.ev x) hxs hc.1 hc.2.1 (by simp only [maxLen]; omega) hp
                    refine ⟨.value v, w', ?_, v, .inl rfl, hd', h2.put' (append_nt hp).symm hdst h3⟩
                    simp [execOp, resolve, invoke, builtin, h1]
                  · cases h
                · cases h
              · cases h
            · cases h
          · cases h
        · cases h
      · cases h
    · cases h
  all_goals cases h
end

/-- Code and lists of operations, begun in a state. -/
def Lift (C : Ctx) (Q : Exit → St → Prop) : Exit → Act → World → Prop := fun e a w => ∃ st hd, Q e st ∧ StR C st hd a w
def SW (P : Program) (G : World → Prop) (c : Code) (Q : Exit → St → Prop) (st : St) : Prop := ∀ C hd a w, G C.w0 → StR C st hd a w → c.wp P (Lift C Q) a w
def SL (P : Program) (G : World → Prop) (ops : Array Oper) (l : List Oper) (Q : Exit → St → Prop) (st : St) : Prop := ∀ C hd a w, G C.w0 → StR C st hd a w → wpList P ops (Lift C Q) l a w
/-- As far as it goes without a call. -/
noncomputable def runOps (tt : Nat → Option TI) (ops : Array Oper) : List Oper → St → St × List Oper
  | [], st => (st, [])
  | o :: r, st => match stepOp tt ops st o with
    | some st' => runOps tt ops r st'
    | none => (st, o :: r)
def SThen (K : St → Prop) (Q : Exit → St → Prop) : Exit → St → Prop
  | .normal, st => K st
  | e, st => Q e st
def SIn (id : Nat) (Q : Exit → St → Prop) : Exit → St → Prop
  | .exit id', st => if id' = id then Q .normal st else Q (.exit id') st
  | e, st => Q e st

section
variable {P : Program} {G : World → Prop} {tt : Nat → Option TI} {Q : Exit → St → Prop} {st : St}
theorem SL_nil {ops : Array Oper} (h : Q .normal st) : SL P G ops [] Q st := fun _ hd _ _ _ hr => ⟨st, hd, h, hr⟩
theorem SW_region {id : Nat} {l : List Oper} (h : SL P G l.toArray l Q st) : SW P G (.region id l.toArray false) Q st := fun C hd a w hG hr => wp_region_lit (h C hd a w hG hr)
theorem SW_skip (h : Q .normal st) : SW P G .skip Q st := fun _ hd _ _ _ hr => wp_skip ⟨st, hd, h, hr⟩
theorem SW_exit {id : Nat} (h : Q (.exit id) st) : SW P G (.exit id) Q st := fun _ hd _ _ _ hr => wp_exit ⟨st, hd, h, hr⟩
theorem SW_ret (h : Q .ret st) : SW P G .ret Q st := fun _ hd _ _ _ hr => wp_ret ⟨st, hd, h, hr⟩
theorem SW_seq {x y : Code} (h : SW P G x (SThen (SW P G y Q) Q) st) : SW P G (.seq x y) Q st := fun C hd a w hG hr => by
  refine wp_seq (wp_mono (h C hd a w hG hr) fun e a' w' hq => ?_)
  obtain ⟨st', hd', h1, h2⟩ := hq
  cases e with
  | normal => exact h1 C hd' a' w' hG h2
  | _ => exact ⟨st', hd', h1, h2⟩
theorem SW_block {id : Nat} {c : Code} (h : SW P G c (SIn id Q) st) : SW P G (.block id c) Q st := fun C hd a w hG hr => by
  refine wp_block (wp_mono (h C hd a w hG hr) fun e a' w' hq => ?_)
  obtain ⟨st', hd', h1, h2⟩ := hq
  cases e with
  | exit id' =>
    simp only [SIn] at h1
    simp only [Exit.inBlock]
    split
    · rename_i e; rw [if_pos e] at h1; exact ⟨st', hd', h1, h2⟩
    · rename_i e; rw [if_neg e] at h1; exact ⟨st', hd', h1, h2⟩
  | _ => exact ⟨st', hd', h1, h2⟩
theorem SW_cond {c : Operand} {x y : Code} {b : Bool} (hc : st.ev c = .t (.bool b)) (h1 : b = true → SW P G x Q st) (h2 : b = false → SW P G y Q st) : SW P G (.cond c x y) Q st := fun C hd a w hG hr => by
  have h3 := hr.ev c
  rw [hc] at h3
  generalize hv : a.eval c = v at h3
  have h4 := h3.toT
  cases h4
  exact wp_cond_split hv (fun e => h1 e C hd a w hG hr) (fun e => h2 e C hd a w hG hr)
/-- A weaker state. -/
def Norm (st st' : St) : Prop := ∀ C hd a w, StR C st hd a w → ∃ hd', StR C st' hd' a w
theorem SW_norm {c : Code} {st' : St} (hn : Norm st st') (h : SW P G c Q st') : SW P G c Q st := fun C hd a w hG hr => by
  obtain ⟨hd', hr'⟩ := hn C hd a w hr
  exact h C hd' a w hG hr'
theorem SW_loop {c : Code} (I : Nat → St → Prop) (n : Nat) (h0 : ∃ st', Norm st st' ∧ I n st') (h : ∀ n s, I n s → SW P G c (SThen (fun s' => ∃ n' s'', n' < n ∧ Norm s' s'' ∧ I n' s'') Q) s) : SW P G (.loop c) Q st := fun C hd a w hG hr => by
  obtain ⟨st', hn, hI⟩ := h0
  obtain ⟨hd', hr'⟩ := hn C hd a w hr
  refine wp_loop_ghost (fun n a w => ∃ s hd, I n s ∧ StR C s hd a w) n ⟨st', hd', hI, hr'⟩ fun n a w hq => ?_
  obtain ⟨s, hd1, hI1, hr1⟩ := hq
  refine wp_mono (h n s hI1 C hd1 a w hG hr1) fun e a' w' hq => ?_
  obtain ⟨s', hd2, h1, h2⟩ := hq
  cases e with
  | normal =>
    obtain ⟨n', s'', h3, h4, h5⟩ := h1
    obtain ⟨hd3, h6⟩ := h4 C hd2 a' w' h2
    exact ⟨n', h3, s'', hd3, h5, h6⟩
  | _ => exact ⟨s', hd2, h1, h2⟩
end
end Go.Proofs.YtpgkpbfefnpagaaGreatDoor
