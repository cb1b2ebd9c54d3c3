/- Plain laws of digits side by side: letters packed and unpacked, words of numbers, tracks of words. No program in sight; no conditions. -/
import Derived.Test.YtgglhdbhemcijaaDoorPlainD
namespace Go.Proofs.YtgglhdbhemcijaaDoor

def pack (k : Int) (d : List Int) : Int := d.foldl (fun l x => l * k + x) 0
def unpack (k : Int) : Nat → Int → List Int
  | 0, _ => []
  | t + 1, l => unpack k t (l / k) ++ [l % k]

def manyErr (base t : Int) : Int := if radix base = 0 ∨ t < 0 ∨ 5 < t then 1 else if 36 < powW (radix base) t.toNat then 3 else 0
def manyOf (base t : Int) : Int := if manyErr base t = 0 then powW (radix base) t.toNat else 0
def packErr (base : Int) (d : List Int) : Int :=
  if manyErr base d.length ≠ 0 then manyErr base d.length else if d.all (fun x => decide (0 ≤ x ∧ x < radix base)) then 0 else 1
def packOf (base : Int) (d : List Int) : Int := if packErr base d = 0 then pack (radix base) d else 0
def unpackErr (base t l : Int) : Int := if manyErr base t ≠ 0 then manyErr base t else if l < 0 ∨ manyOf base t ≤ l then 1 else 0
def unpackOf (base t l : Int) : List Int := if unpackErr base t l = 0 then unpack (radix base) t.toNat l else []

theorem many_cases (base t : Int) : manyErr base t = 0 ∨ manyErr base t = 1 ∨ manyErr base t = 3 := by
  unfold manyErr; split <;> (try split) <;> simp
theorem many_ok {base t : Int} (h : manyErr base t = 0) : radix base ≠ 0 ∧ 0 ≤ t ∧ t ≤ 5 ∧ powW (radix base) t.toNat ≤ 36 ∧ manyOf base t = powW (radix base) t.toNat := by
  have h' := h
  unfold manyErr at h
  split at h
  · simp at h
  · split at h
    · simp at h
    · refine ⟨by omega, by omega, by omega, by omega, by simp [manyOf, h']⟩
theorem radix_two {b : Int} (h : radix b ≠ 0) : 2 ≤ radix b ∧ radix b ≤ 6 := by
  rcases radix_pos h with ⟨_, h2⟩ | ⟨h1, h2, h3⟩ <;> omega

theorem pack_snoc (k : Int) (d : List Int) (x : Int) : pack k (d ++ [x]) = pack k d * k + x := by simp [pack, List.foldl_append]
theorem unpack_length (k : Int) : ∀ (t : Nat) (l : Int), (unpack k t l).length = t
  | 0, _ => rfl
  | t + 1, l => by simp [unpack, unpack_length k t]
theorem unpack_ok {k : Int} (hk : 2 ≤ k) : ∀ (t : Nat) (l : Int), ∀ x ∈ unpack k t l, 0 ≤ x ∧ x < k
  | 0, _, x, hx => by simp [unpack] at hx
  | t + 1, l, x, hx => by
    rcases List.mem_append.1 hx with hx | hx
    · exact unpack_ok hk t _ x hx
    · obtain rfl : x = l % k := by simpa using hx
      exact ⟨Int.emod_nonneg _ (by omega), Int.emod_lt_of_pos _ (by omega)⟩
theorem powW_succ (k : Int) (n : Nat) : powW k (n + 1) = powW k n * k := rfl
theorem pack_unpack {k : Int} (hk : 2 ≤ k) : ∀ (t : Nat) (l : Int), 0 ≤ l → l < powW k t → pack k (unpack k t l) = l
  | 0, l, h0, h1 => by simp [powW] at h1; simp [unpack, pack]; omega
  | t + 1, l, h0, h1 => by
    rw [powW_succ] at h1
    have h2 : l / k < powW k t := Int.ediv_lt_of_lt_mul (by omega) h1
    rw [unpack, pack_snoc, pack_unpack hk t _ (Int.ediv_nonneg h0 (by omega)) h2]
    exact Int.ediv_mul_add_emod l k
theorem pack_bd {k : Int} (hk : 2 ≤ k) (d : List Int) (hd : ∀ x ∈ d, 0 ≤ x ∧ x < k) : 0 ≤ pack k d ∧ pack k d < powW k d.length := by
  have key : ∀ (n : Nat) (d : List Int), d.length = n → (∀ x ∈ d, 0 ≤ x ∧ x < k) → 0 ≤ pack k d ∧ pack k d < powW k n := by
    intro n
    induction n with
    | zero => intro d h _; rw [List.eq_nil_of_length_eq_zero h]; simp [pack, powW]
    | succ n ih =>
      intro d h hd
      have hne : d ≠ [] := by rintro rfl; simp at h
      obtain ⟨e, x, rfl⟩ : ∃ e x, d = e ++ [x] := ⟨d.dropLast, d.getLast hne, (List.dropLast_concat_getLast hne).symm⟩
      have h1 := ih e (by simpa using h) (fun y hy => hd y (by simp [hy]))
      have h2 := hd x (by simp)
      rw [pack_snoc, powW_succ]
      have : (pack k e + 1) * k ≤ powW k n * k := Int.mul_le_mul_of_nonneg_right (by omega) (by omega)
      rw [Int.add_mul] at this
      have : 0 ≤ pack k e * k := Int.mul_nonneg h1.1 (by omega)
      omega
  exact key d.length d rfl hd
theorem unpack_pack {k : Int} (hk : 2 ≤ k) (d : List Int) (hd : ∀ x ∈ d, 0 ≤ x ∧ x < k) : unpack k d.length (pack k d) = d := by
  have key : ∀ (n : Nat) (d : List Int), d.length = n → (∀ x ∈ d, 0 ≤ x ∧ x < k) → unpack k n (pack k d) = d := by
    intro n
    induction n with
    | zero => intro d h _; rw [List.eq_nil_of_length_eq_zero h]; rfl
    | succ n ih =>
      intro d h hd
      have hne : d ≠ [] := by rintro rfl; simp at h
      obtain ⟨e, x, rfl⟩ : ∃ e x, d = e ++ [x] := ⟨d.dropLast, d.getLast hne, (List.dropLast_concat_getLast hne).symm⟩
      have h1 := ih e (by simpa using h) (fun y hy => hd y (by simp [hy]))
      have h2 := hd x (by simp)
      rw [unpack, pack_snoc]
      have e1 : (pack k e * k + x) / k = pack k e := by
        rw [Int.add_comm, Int.add_mul_ediv_right _ _ (by omega), Int.ediv_eq_zero_of_lt h2.1 h2.2]; omega
      have e2 : (pack k e * k + x) % k = x := by
        rw [Int.add_comm, Int.add_mul_emod_self_right, Int.emod_eq_of_lt h2.1 h2.2]
      rw [e1, e2, h1]
  exact key d.length d rfl hd

/-- The letters of rows of digits that end together. -/
def pad (long : Nat) (d : List Int) : List Int := List.replicate (long - d.length) 0 ++ d
def column (long : Nat) (rows : List (List Int)) (i : Nat) : List Int := rows.map fun d => (pad long d).getD i 0
def wordRows (k : Int) (long : Nat) (rows : List (List Int)) : List Int := (List.range long).map fun i => pack k (column long rows i)
def longest (rows : List (List Int)) : Nat := rows.foldl (fun m d => max m d.length) 0
/-- The tracks of a word. -/
def trackOf (k : Int) (tracks : Nat) (w : List Int) (t : Nat) : List Int := w.map fun l => (unpack k tracks l).getD t 0
def splitErr (base tracks : Int) (w : List Int) : Int :=
  if manyErr base tracks ≠ 0 then manyErr base tracks else if 60 < w.length then 3
  else if w.all (fun l => decide (0 ≤ l ∧ l < manyOf base tracks)) then 0 else 1
def splitOf (base tracks : Int) (w : List Int) : List (List Int) :=
  if splitErr base tracks w = 0 then (List.range tracks.toNat).map (trackOf (radix base) tracks.toNat w) else []

theorem longest_ge {rows : List (List Int)} {d : List Int} (h : d ∈ rows) : d.length ≤ longest rows := by
  unfold longest
  have key : ∀ (rows : List (List Int)) (m : Nat), m ≤ rows.foldl (fun m d => max m d.length) m ∧ ∀ d ∈ rows, d.length ≤ rows.foldl (fun m d => max m d.length) m := by
    intro rows
    induction rows with
    | nil => intro m; simp
    | cons e t ih =>
      intro m
      have h := ih (max m e.length)
      simp only [List.foldl_cons]
      refine ⟨by omega, ?_⟩
      intro d hd
      rcases List.mem_cons.1 hd with rfl | hd
      · omega
      · exact h.2 d hd
  exact (key rows 0).2 d h
theorem longest_mem (rows : List (List Int)) : longest rows = 0 ∨ ∃ d ∈ rows, d.length = longest rows := by
  unfold longest
  have key : ∀ (rows : List (List Int)) (m : Nat), rows.foldl (fun m d => max m d.length) m = m ∨ ∃ d ∈ rows, d.length = rows.foldl (fun m d => max m d.length) m := by
    intro rows
    induction rows with
    | nil => intro m; simp
    | cons e t ih =>
      intro m
      simp only [List.foldl_cons]
      rcases ih (max m e.length) with h | ⟨d, hd, h⟩
      · by_cases c : e.length ≤ m
        · left; rw [h]; omega
        · right; exact ⟨e, List.mem_cons_self, by rw [h]; omega⟩
      · right; exact ⟨d, List.mem_cons_of_mem _ hd, h⟩
  exact key rows 0
theorem longest_snoc (rows : List (List Int)) (d : List Int) : longest (rows ++ [d]) = max (longest rows) d.length := by simp [longest, List.foldl_append]

theorem pad_length {long : Nat} {d : List Int} (h : d.length ≤ long) : (pad long d).length = long := by simp [pad]; omega
theorem pad_ok {b : Int} (hb : radix b ≠ 0) {long : Nat} {d : List Int} (h : okDigits b d) : okDigits b (pad long d) := by
  intro x hx
  have := radix_two hb
  rcases List.mem_append.1 hx with hx | hx
  · have := List.eq_of_mem_replicate hx; subst this; omega
  · exact h x hx
theorem wv_replicate (b : Int) (d : List Int) : ∀ j, wv b (List.replicate j 0 ++ d) = wv b d
  | 0 => rfl
  | j + 1 => by
    rw [List.replicate_succ, List.cons_append]
    show 0 * _ + wv b (List.replicate j 0 ++ d) = _
    rw [wv_replicate b d j]; omega
theorem pad_val (b : Int) (long : Nat) (d : List Int) : wv b (pad long d) = wv b d := wv_replicate b d _
theorem noTwo_zero {d : List Int} (h : noTwo d = true) : noTwo (0 :: d) = true := by
  cases d with
  | nil => rfl
  | cons y t => simp [noTwo, h]
theorem noTwo_pad {d : List Int} (h : noTwo d = true) : ∀ j, noTwo (List.replicate j 0 ++ d) = true
  | 0 => h
  | j + 1 => by rw [List.replicate_succ, List.cons_append]; exact noTwo_zero (noTwo_pad h j)
theorem pad_right {b : Int} {long : Nat} {d : List Int} (h : rightOf b d = true) : rightOf b (pad long d) = true := by
  unfold rightOf at *
  simp only [Bool.or_eq_true] at *
  exact h.imp id fun h => noTwo_pad h _

theorem column_ok {b : Int} (hb : radix b ≠ 0) {long : Nat} {rows : List (List Int)} (h : ∀ d ∈ rows, okDigits b d) (i : Nat) : ∀ x ∈ column long rows i, 0 ≤ x ∧ x < radix b := by
  intro x hx
  have := radix_two hb
  obtain ⟨d, hd, rfl⟩ := List.mem_map.1 hx
  rw [List.getD_eq_getElem?_getD]
  rcases h' : (pad long d)[i]? with _ | y
  · simp; omega
  · simpa using pad_ok hb (h d hd) y (List.mem_of_getElem? h')

/-- Side by side, and each track again. -/
theorem trackOf_wordRows {b : Int} (hb : radix b ≠ 0) {rows : List (List Int)} (h : ∀ d ∈ rows, okDigits b d) (t : Nat) (ht : t < rows.length) :
    trackOf (radix b) rows.length (wordRows (radix b) (longest rows) rows) t = pad (longest rows) rows[t] := by
  have hlen := pad_length (longest_ge (List.getElem_mem ht))
  apply List.ext_getElem
  · simp [trackOf, wordRows, hlen]
  · intro i h1 h2
    have e : (column (longest rows) rows i).length = rows.length := by simp [column]
    simp only [trackOf, wordRows, List.getElem_map, List.getElem_range]
    have := unpack_pack (radix_two hb).1 _ (column_ok hb (long := longest rows) h i)
    rw [e] at this
    rw [this, List.getD_eq_getElem?_getD]
    simp [column, ht, List.getElem?_eq_getElem h2]
theorem wordRows_letters {b : Int} (hb : radix b ≠ 0) {rows : List (List Int)} (h : ∀ d ∈ rows, okDigits b d) (long : Nat) :
    ∀ l ∈ wordRows (radix b) long rows, 0 ≤ l ∧ l < powW (radix b) rows.length := by
  intro l hl
  obtain ⟨i, _, rfl⟩ := List.mem_map.1 hl
  have := pack_bd (radix_two hb).1 _ (column_ok hb (long := long) h i)
  simpa [column] using this
theorem pack_zero {k : Int} (hk : 2 ≤ k) (d : List Int) (hd : ∀ x ∈ d, 0 ≤ x ∧ x < k) (h : pack k d = 0) : ∀ x ∈ d, x = 0 := by
  have e := unpack_pack hk d hd
  rw [h] at e
  intro x hx
  rw [← e] at hx
  have key : ∀ (n : Nat) (x : Int), x ∈ unpack k n 0 → x = 0 := by
    intro n
    induction n with
    | zero => intro x hx; simp [unpack] at hx
    | succ n ih =>
      intro x hx
      simp only [unpack, Int.zero_ediv, Int.zero_emod, List.mem_append, List.mem_singleton] at hx
      rcases hx with hx | hx
      · exact ih x hx
      · exact hx
  exact key _ x hx
theorem wordRows_lead {b : Int} (hb : radix b ≠ 0) {rows : List (List Int)} (h : ∀ d ∈ rows, okDigits b d) (hl : ∀ d ∈ rows, noLead d) :
    ∀ (h0 : 0 < (wordRows (radix b) (longest rows) rows).length), (wordRows (radix b) (longest rows) rows)[0] ≠ 0 := by
  intro h0 hz
  have hlong : 0 < longest rows := by simpa [wordRows] using h0
  rcases longest_mem rows with h1 | ⟨d, hd, h1⟩
  · omega
  · simp only [wordRows, List.getElem_map, List.getElem_range] at hz
    have := pack_zero (radix_two hb).1 _ (column_ok hb h 0) hz
    have h2 := this ((pad (longest rows) d).getD 0 0) (List.mem_map.2 ⟨d, hd, rfl⟩)
    have e : pad (longest rows) d = d := by simp [pad, h1]
    rw [e] at h2
    have h3 := hl d hd
    cases d with
    | nil => simp at h1; omega
    | cons x t => simp at h2; exact h3 (by simp [h2])
/-- One digit of a letter. -/
def digitAt (k : Int) (t : Nat) (l : Int) (i : Nat) : Int := (unpack k t l).getD i 0

/-- The first fault of rows. -/
def firstErr (f : List Int → Int) : List (List Int) → Int
  | [] => 0
  | r :: t => if f r ≠ 0 then f r else firstErr f t
def numsErr (base tracks : Int) (w : List Int) : Int := if splitErr base tracks w ≠ 0 then splitErr base tracks w else firstErr (valErr base) (splitOf base tracks w)
def numsOf (base tracks : Int) (w : List Int) : List Int := if numsErr base tracks w = 0 then (splitOf base tracks w).map (valOf base) else []
def rightWErr (base tracks : Int) (w : List Int) : Int := if splitErr base tracks w ≠ 0 then splitErr base tracks w else firstErr (digitsFault base) (splitOf base tracks w)
def rightWRes (base tracks : Int) (w : List Int) : Bool := decide (rightWErr base tracks w = 0) && (splitOf base tracks w).all (rightRes base)
theorem firstErr_zero {f : List Int → Int} : ∀ {l : List (List Int)}, firstErr f l = 0 ↔ ∀ r ∈ l, f r = 0
  | [] => by simp [firstErr]
  | r :: t => by
    unfold firstErr
    by_cases h : f r = 0
    · rw [if_neg (by omega), firstErr_zero]; simp [h]
    · rw [if_pos h]; simp [h]
theorem firstErr_at {f : List Int → Int} {l : List (List Int)} {k : Nat} (hk : k < l.length) (h : ∀ i (hi : i < l.length), i < k → f l[i] = 0) (he : f l[k] ≠ 0) : firstErr f l = f l[k] := by
  induction l generalizing k with
  | nil => simp at hk
  | cons r t ih =>
    cases k with
    | zero => simp [firstErr] at he ⊢; intro h; exact absurd h he
    | succ k =>
      have h0 : f r = 0 := h 0 (by simp) (by omega)
      unfold firstErr
      rw [if_neg (by omega)]
      exact ih (by simpa using hk) (fun i hi hik => h (i + 1) (by simp; omega) (by omega)) he
end Go.Proofs.YtgglhdbhemcijaaDoor
