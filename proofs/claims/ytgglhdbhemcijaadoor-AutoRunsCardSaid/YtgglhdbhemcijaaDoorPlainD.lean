/- Plain laws of numbers as digits: weights, values, and that right digits without a leading zero are told by what they count. No program in sight; no conditions. -/
namespace Go.Proofs.YtgglhdbhemcijaaDoor

theorem getD_lt {α : Type} {l : List α} {i : Nat} {d : α} (h : i < l.length) : l.getD i d = l[i] := by simp [h]

def radix (b : Int) : Int := if b = 1 then 2 else if 2 ≤ b ∧ b ≤ 6 then b else 0
def digitsFault (base : Int) (d : List Int) : Int :=
  if radix base = 0 then 1 else if 60 < d.length then 3 else if d.all (fun x => decide (0 ≤ x ∧ x < radix base)) then 0 else 1

/-- What places count. -/
def fibW : Nat → Int
  | 0 => 1
  | 1 => 2
  | n + 2 => fibW (n + 1) + fibW n
def powW (k : Int) : Nat → Int
  | 0 => 1
  | n + 1 => powW k n * k
def W (base : Int) (n : Nat) : Int := if base = 1 then fibW n else powW base n

/-- What digits count. -/
def wv (base : Int) : List Int → Int
  | [] => 0
  | x :: t => x * W base t.length + wv base t

def noTwo : List Int → Bool
  | x :: y :: t => !(decide (x = 1) && decide (y = 1)) && noTwo (y :: t)
  | _ => true
def rightOf (base : Int) (d : List Int) : Bool := !(decide (base = 1)) || noTwo d

def okDigits (base : Int) (d : List Int) : Prop := ∀ x ∈ d, 0 ≤ x ∧ x < radix base

/-- How the program adds digits up. -/
def valStep (base : Int) (s : Int × Int) (x : Int) : Int × Int :=
  if base = 1 then (s.1 + s.2 + x, s.1 + x) else (s.1 * base + x, s.2)
def valFold (base : Int) (l : List Int) : Int × Int := l.foldl (valStep base) (0, 0)

theorem radix_pos {b : Int} (h : radix b ≠ 0) : b = 1 ∧ radix b = 2 ∨ 2 ≤ b ∧ b ≤ 6 ∧ radix b = b := by
  unfold radix at *; split <;> (try split) <;> simp_all

theorem fibW_pos : ∀ n, 1 ≤ fibW n ∧ fibW n ≤ fibW (n + 1)
  | 0 => by decide
  | 1 => by decide
  | n + 2 => by
    have h1 := fibW_pos (n + 1); have h2 := fibW_pos n
    have e : fibW (n + 1 + 1) = fibW (n + 1) + fibW n := rfl
    show 1 ≤ fibW (n + 1) + fibW n ∧ fibW (n + 1) + fibW n ≤ fibW (n + 1 + 1) + fibW (n + 1)
    omega
theorem powW_pos {k : Int} (hk : 2 ≤ k) : ∀ n, 1 ≤ powW k n
  | 0 => by simp [powW]
  | n + 1 => by
    have h := powW_pos hk n
    show 1 ≤ powW k n * k
    have : powW k n * 2 ≤ powW k n * k := Int.mul_le_mul_of_nonneg_left hk (by omega)
    omega
theorem W_pos {b : Int} (h : radix b ≠ 0) (n : Nat) : 1 ≤ W b n := by
  unfold W
  rcases radix_pos h with ⟨h1, _⟩ | ⟨h1, _, _⟩
  · rw [if_pos h1]; exact (fibW_pos n).1
  · rw [if_neg (by omega)]; exact powW_pos h1 n
theorem W_mono {b : Int} (h : radix b ≠ 0) (n : Nat) : W b n ≤ W b (n + 1) := by
  unfold W
  rcases radix_pos h with ⟨h1, _⟩ | ⟨h1, _, _⟩
  · rw [if_pos h1, if_pos h1]; exact (fibW_pos n).2
  · rw [if_neg (by omega), if_neg (by omega)]
    show powW b n ≤ powW b n * b
    have := powW_pos h1 n
    have : powW b n * 1 ≤ powW b n * b := Int.mul_le_mul_of_nonneg_left (by omega) (by omega)
    omega
theorem W_le {b : Int} (h : radix b ≠ 0) {m n : Nat} (hmn : m ≤ n) : W b m ≤ W b n := by
  induction n with
  | zero => obtain rfl : m = 0 := by omega
            exact Int.le_refl _
  | succ n ih =>
    by_cases e : m = n + 1
    · subst e; exact Int.le_refl _
    · exact Int.le_trans (ih (by omega)) (W_mono h n)

theorem noTwo_tail {x : Int} {t : List Int} (h : noTwo (x :: t) = true) : noTwo t = true := by
  cases t with
  | nil => rfl
  | cons y t => simp [noTwo] at h; exact h.2
theorem right_tail {b x : Int} {t : List Int} (h : rightOf b (x :: t) = true) : rightOf b t = true := by
  unfold rightOf at *
  simp only [Bool.or_eq_true] at *
  exact h.imp id noTwo_tail
theorem ok_tail {b x : Int} {t : List Int} (h : okDigits b (x :: t)) : okDigits b t := fun y hy => h y (List.mem_cons_of_mem _ hy)
theorem ok_head {b x : Int} {t : List Int} (h : okDigits b (x :: t)) : 0 ≤ x ∧ x < radix b := h x List.mem_cons_self

theorem wv_nonneg {b : Int} (h : radix b ≠ 0) : ∀ {d : List Int}, okDigits b d → 0 ≤ wv b d
  | [], _ => Int.le_refl _
  | x :: t, hd => by
    have h1 := wv_nonneg h (ok_tail hd)
    have h2 := ok_head hd
    have h3 := W_pos h t.length
    show 0 ≤ x * W b t.length + wv b t
    have : 0 ≤ x * W b t.length := Int.mul_nonneg h2.1 (by omega)
    omega

/-- Right digits count less than the next place. -/
theorem wv_lt {b : Int} (h : radix b ≠ 0) : ∀ (n : Nat) {d : List Int}, d.length = n → okDigits b d → rightOf b d = true → wv b d < W b n := by
  intro n
  induction n using Nat.strongRecOn with
  | _ n ih =>
    intro d hn hd hr
    cases d with
    | nil => subst hn; have := W_pos h 0; simp [wv]; omega
    | cons x t =>
      have hlen : t.length + 1 = n := by simpa using hn
      have h1 := ih t.length (by omega) rfl (ok_tail hd) (right_tail hr)
      have h2 := ok_head hd
      have h3 := W_pos h t.length
      show x * W b t.length + wv b t < W b n
      rcases radix_pos h with ⟨hb, hk⟩ | ⟨hb, hb6, hk⟩
      · rw [hk] at h2
        have hx : x = 0 ∨ x = 1 := by omega
        rcases hx with rfl | rfl
        · have := W_mono h t.length
          rw [hlen] at this
          omega
        · cases t with
          | nil => subst hb; subst hlen; simp [wv, W, fibW]
          | cons y t' =>
            have hy := ok_head (ok_tail hd)
            rw [hk] at hy
            have hy0 : y = 0 := by
              unfold rightOf at hr
              subst hb
              simp [noTwo] at hr
              have := hr.1
              omega
            subst hy0
            have hlen' : t'.length + 2 = n := by simpa using hn
            have h4 := ih t'.length (by omega) rfl (ok_tail (ok_tail hd)) (right_tail (right_tail hr))
            have e : W b n = W b (t'.length + 1) + W b t'.length := by subst hb; subst hlen'; simp [W, fibW]
            rw [e]
            show 1 * W b (t'.length + 1) + (0 * W b t'.length + wv b t') < _
            omega
      · rw [hk] at h2
        have e : W b n = W b t.length * b := by subst hlen; simp [W, show ¬ b = 1 by omega, powW]
        rw [e]
        have : (x + 1) * W b t.length ≤ b * W b t.length := Int.mul_le_mul_of_nonneg_right (by omega) (by omega)
        rw [Int.add_mul, Int.mul_comm b] at this
        omega

/-- Equally many right digits that count the same are the same. -/
theorem wv_inj {b : Int} (h : radix b ≠ 0) : ∀ {d e : List Int}, d.length = e.length → okDigits b d → okDigits b e → rightOf b d = true → rightOf b e = true → wv b d = wv b e → d = e
  | [], [], _, _, _, _, _, _ => rfl
  | x :: t, y :: u, hl, hd, he, rd, re, hv => by
    have hl' : t.length = u.length := by simpa using hl
    have a1 := wv_lt h t.length rfl (ok_tail hd) (right_tail rd)
    have a2 := wv_lt h u.length rfl (ok_tail he) (right_tail re)
    have b1 := wv_nonneg h (ok_tail hd)
    have b2 := wv_nonneg h (ok_tail he)
    have c1 := W_pos h t.length
    have hv' : x * W b t.length + wv b t = y * W b u.length + wv b u := hv
    rw [← hl'] at hv' a2
    have hxy : x = y := by
      rcases Int.lt_trichotomy x y with g | g | g
      · have : (x + 1) * W b t.length ≤ y * W b t.length := Int.mul_le_mul_of_nonneg_right (by omega) (by omega)
        rw [Int.add_mul] at this
        omega
      · exact g
      · have : (y + 1) * W b t.length ≤ x * W b t.length := Int.mul_le_mul_of_nonneg_right (by omega) (by omega)
        rw [Int.add_mul] at this
        omega
    subst hxy
    rw [wv_inj h hl' (ok_tail hd) (ok_tail he) (right_tail rd) (right_tail re) (by omega)]
  | [], _ :: _, hl, _, _, _, _, _ => by simp at hl
  | _ :: _, [], hl, _, _, _, _, _ => by simp at hl

/-- No 0 ahead. -/
def noLead (d : List Int) : Prop := d.head? ≠ some 0

theorem wv_ge {b : Int} (h : radix b ≠ 0) {x : Int} {t : List Int} (hd : okDigits b (x :: t)) (hl : noLead (x :: t)) : W b t.length ≤ wv b (x :: t) := by
  have h1 := wv_nonneg h (ok_tail hd)
  have h2 := ok_head hd
  have h3 := W_pos h t.length
  have h4 : x ≠ 0 := fun e => hl (by simp [e])
  show _ ≤ x * W b t.length + wv b t
  have : 1 * W b t.length ≤ x * W b t.length := Int.mul_le_mul_of_nonneg_right (by omega) (by omega)
  omega

theorem wv_len {b : Int} (h : radix b ≠ 0) {d e : List Int} (hd : okDigits b d) (he : okDigits b e) (rd : rightOf b d = true)
    (le : noLead e) (hv : wv b e ≤ wv b d) : e.length ≤ d.length := by
  cases e with
  | nil => simp
  | cons y u =>
    have g := wv_ge h he le
    have a := wv_lt h d.length rfl hd rd
    rcases Nat.lt_or_ge d.length (y :: u).length with c | c
    · have c' : d.length ≤ u.length := by simp at c; omega
      have := W_le h c'
      omega
    · exact c

/-- EACH NUMBER IS WRITTEN IN ONE WAY. -/
theorem wv_unique {b : Int} (h : radix b ≠ 0) {d e : List Int} (hd : okDigits b d) (he : okDigits b e) (rd : rightOf b d = true) (re : rightOf b e = true)
    (ld : noLead d) (le : noLead e) (hv : wv b d = wv b e) : d = e :=
  wv_inj h (Nat.le_antisymm (wv_len h he hd re ld (by omega)) (wv_len h hd he rd le (by omega))) hd he rd re hv

/-- The program's way of adding up. -/
theorem fold_base {b : Int} (hb : b ≠ 1) : ∀ (l : List Int) (v low : Int), l.foldl (valStep b) (v, low) = (v * powW b l.length + wv b l, low)
  | [], v, low => by simp [powW, wv]
  | x :: t, v, low => by
    rw [List.foldl_cons]
    have e : valStep b (v, low) x = (v * b + x, low) := by simp [valStep, hb]
    rw [e, fold_base hb t]
    have e1 : wv b (x :: t) = x * powW b t.length + wv b t := by simp [wv, W, hb]
    rw [e1, List.length_cons, powW]
    congr 1
    rw [Int.add_mul, Int.mul_assoc, Int.mul_comm b (powW b t.length)]
    omega
def fibA : Nat → Int
  | 0 => 1
  | n + 1 => fibW n
def fibB : Nat → Int
  | 0 => 0
  | n + 1 => fibA n
theorem fibAB : ∀ n, fibA n + fibB n = fibW n
  | 0 => rfl
  | 1 => rfl
  | n + 2 => by show fibW (n + 1) + fibW n = _; rfl
theorem fold_fib : ∀ (l : List Int) (v low : Int), (l.foldl (valStep 1) (v, low)).1 = v * fibA l.length + low * fibB l.length + wv 1 l
  | [], v, low => by simp [fibA, fibB, wv]
  | x :: t, v, low => by
    rw [List.foldl_cons]
    have e : valStep 1 (v, low) x = (v + low + x, v + x) := by simp [valStep]
    rw [e, fold_fib t]
    have e1 : wv 1 (x :: t) = x * fibW t.length + wv 1 t := by simp [wv, W]
    have e2 : fibA (x :: t).length = fibW t.length := rfl
    have e3 : fibB (x :: t).length = fibA t.length := rfl
    rw [e1, e2, e3, ← fibAB t.length]
    simp only [Int.add_mul, Int.mul_add]
    omega
theorem valFold_eq {b : Int} (l : List Int) : (valFold b l).1 = wv b l := by
  unfold valFold
  by_cases hb : b = 1
  · subst hb; rw [fold_fib]; simp
  · rw [fold_base hb]; simp
theorem valFold_snoc {b : Int} (l : List Int) (x : Int) : valFold b (l ++ [x]) = valStep b (valFold b l) x := by simp [valFold, List.foldl_append]

/-- What stands in the slots while digits are added. -/
theorem valFold_bd {b : Int} (h : radix b ≠ 0) (l : List Int) (hd : okDigits b l) : 0 ≤ (valFold b l).2 ∧ (valFold b l).2 ≤ (valFold b l).1 := by
  have key : ∀ (l : List Int) (s : Int × Int), okDigits b l → 0 ≤ s.2 ∧ s.2 ≤ s.1 → 0 ≤ (l.foldl (valStep b) s).2 ∧ (l.foldl (valStep b) s).2 ≤ (l.foldl (valStep b) s).1 := by
    intro l
    induction l with
    | nil => intro s _ hs; exact hs
    | cons x t ih =>
      intro s hd hs
      rw [List.foldl_cons]
      refine ih _ (ok_tail hd) ?_
      have hx := ok_head hd
      unfold valStep
      rcases radix_pos h with ⟨hb, hk⟩ | ⟨hb, hb6, hk⟩
      · rw [if_pos hb]; dsimp only; omega
      · rw [if_neg (by omega)]; dsimp only
        have : s.1 * 1 ≤ s.1 * b := Int.mul_le_mul_of_nonneg_left (by omega) (by omega)
        omega
  exact key l (0, 0) hd ⟨Int.le_refl _, Int.le_refl _⟩
theorem valStep_ge {b : Int} (h : radix b ≠ 0) {s : Int × Int} {x : Int} (hx : 0 ≤ x) (hs : 0 ≤ s.2 ∧ s.2 ≤ s.1) : s.1 ≤ (valStep b s x).1 := by
  unfold valStep
  rcases radix_pos h with ⟨hb, hk⟩ | ⟨hb, hb6, hk⟩
  · rw [if_pos hb]; dsimp only; omega
  · rw [if_neg (by omega)]; dsimp only
    have : s.1 * 1 ≤ s.1 * b := Int.mul_le_mul_of_nonneg_left (by omega) (by omega)
    omega
/-- A beginning counts no more than all. -/
theorem wv_take_le {b : Int} (h : radix b ≠ 0) (l t : List Int) (hd : okDigits b (l ++ t)) : wv b l ≤ wv b (l ++ t) := by
  induction t generalizing l with
  | nil => simp
  | cons x t ih =>
    have e : l ++ x :: t = (l ++ [x]) ++ t := by simp
    rw [e] at hd ⊢
    refine Int.le_trans ?_ (ih _ hd)
    rw [← valFold_eq, ← valFold_eq, valFold_snoc]
    have hl : okDigits b l := fun y hy => hd y (by simp [hy])
    exact valStep_ge h (hd x (by simp)).1 (valFold_bd h l hl)

/-- The number that digits count, and the fault. -/
def valErr (base : Int) (d : List Int) : Int := if digitsFault base d ≠ 0 then digitsFault base d else if 1099511627776 < wv base d then 3 else 0
def valOf (base : Int) (d : List Int) : Int := if valErr base d = 0 then wv base d else 0

theorem fault_zero {base : Int} {d : List Int} : digitsFault base d = 0 ↔ radix base ≠ 0 ∧ d.length ≤ 60 ∧ okDigits base d := by
  unfold digitsFault okDigits
  by_cases h0 : radix base = 0
  · simp [h0]
  · rw [if_neg h0]
    by_cases h1 : 60 < d.length
    · rw [if_pos h1]; simp; omega
    · rw [if_neg h1]
      by_cases h2 : d.all (fun x => decide (0 ≤ x ∧ x < radix base)) = true
      · rw [if_pos h2]; simp only [true_iff]; refine ⟨h0, by omega, ?_⟩
        intro x hx; simpa using List.all_eq_true.1 h2 x hx
      · rw [if_neg h2]; simp only [Int.reduceEq, false_iff, not_and]; intro _ _ h; apply h2; rw [List.all_eq_true]; intro x hx; simpa using h x hx
theorem fault_cases (base : Int) (d : List Int) : digitsFault base d = 0 ∨ digitsFault base d = 1 ∨ digitsFault base d = 3 := by
  unfold digitsFault; split <;> (try split) <;> (try split) <;> simp

/-- The digits of a number: right, no 0 ahead, and they count it. -/
structure IsOf (base n : Int) (d : List Int) : Prop where
  ok : okDigits base d
  right : rightOf base d = true
  lead : noLead d
  val : wv base d = n
theorem IsOf.unique {b n : Int} (h : radix b ≠ 0) {d e : List Int} (hd : IsOf b n d) (he : IsOf b n e) : d = e :=
  wv_unique h hd.ok he.ok hd.right he.right hd.lead he.lead (hd.val.trans he.val.symm)

theorem powW_two_le {k : Int} (hk : 2 ≤ k) : ∀ n, powW 2 n ≤ powW k n
  | 0 => Int.le_refl _
  | n + 1 => by
    have h := powW_two_le hk n
    have p := powW_pos (k := 2) (by omega) n
    show powW 2 n * 2 ≤ powW k n * k
    exact Int.le_trans (Int.mul_le_mul_of_nonneg_right h (by omega)) (Int.mul_le_mul_of_nonneg_left hk (by omega))
theorem W_big {b : Int} (h : radix b ≠ 0) {n : Nat} (hn : 58 ≤ n) : 1099511627776 < W b n := by
  refine Int.lt_of_lt_of_le ?_ (W_le h hn)
  unfold W
  rcases radix_pos h with ⟨hb, _⟩ | ⟨hb, _, _⟩
  · rw [if_pos hb]; decide +kernel
  · rw [if_neg (by omega)]
    exact Int.lt_of_lt_of_le (by decide +kernel) (powW_two_le hb 58)
theorem IsOf.len {b n : Int} (h : radix b ≠ 0) {d : List Int} (hd : IsOf b n d) (hn : n ≤ 1099511627776) : d.length ≤ 58 := by
  cases d with
  | nil => simp
  | cons x t =>
    have g := wv_ge h hd.ok hd.lead
    rw [hd.val] at g
    rcases Nat.lt_or_ge t.length 58 with c | c
    · simp; omega
    · have := W_big h c; omega
theorem IsOf.fault {b n : Int} (h : radix b ≠ 0) {d : List Int} (hd : IsOf b n d) (hn : n ≤ 1099511627776) : digitsFault b d = 0 :=
  fault_zero.2 ⟨h, by have := hd.len h hn; omega, hd.ok⟩
theorem IsOf.valErr {b n : Int} (h : radix b ≠ 0) {d : List Int} (hd : IsOf b n d) (hn : n ≤ 1099511627776) : valErr b d = 0 := by
  unfold Go.Proofs.YtgglhdbhemcijaaDoor.valErr; rw [hd.fault h hn, hd.val]; simp; omega
theorem IsOf.valOf {b n : Int} (h : radix b ≠ 0) {d : List Int} (hd : IsOf b n d) (hn : n ≤ 1099511627776) : valOf b d = n := by
  unfold Go.Proofs.YtgglhdbhemcijaaDoor.valOf; rw [hd.valErr h hn, hd.val]; simp
/-- Right: no two 1s of Fib side by side. -/
theorem noTwo_iff : ∀ (d : List Int), noTwo d = true ↔ ∀ j, ¬ (d[j]? = some (1 : Int) ∧ d[j + 1]? = some (1 : Int))
  | [] => by simp [noTwo]
  | [x] => by simp [noTwo]
  | x :: y :: t => by
    have ih := noTwo_iff (y :: t)
    simp only [noTwo, Bool.and_eq_true, ih]
    constructor
    · rintro ⟨h1, h2⟩ j
      cases j with
      | zero => simp at h1 ⊢; omega
      | succ j => simpa using h2 j
    · intro h
      refine ⟨by have := h 0; simp at this ⊢; omega, fun j => by simpa using h (j + 1)⟩
theorem wv_zeros (b : Int) : ∀ j, wv b (List.replicate j 0) = 0
  | 0 => rfl
  | j + 1 => by show 0 * _ + wv b (List.replicate j 0) = 0; rw [wv_zeros b j]; omega
theorem wv_mid (b x : Int) (t : List Int) : ∀ l : List Int, wv b (l ++ x :: t) = wv b (l ++ 0 :: t) + x * W b t.length
  | [] => by show x * _ + wv b t = 0 * _ + wv b t + _; omega
  | y :: l => by
    show y * W b (l ++ x :: t).length + wv b (l ++ x :: t) = y * W b (l ++ 0 :: t).length + wv b (l ++ 0 :: t) + _
    rw [wv_mid b x t l]
    simp only [List.length_append, List.length_cons]
    omega
theorem noTwo_snoc : ∀ (l : List Int) (x : Int), noTwo l = true → (x = 1 → l.getLast? ≠ some 1) → noTwo (l ++ [x]) = true
  | [], x, _, _ => by simp [noTwo]
  | [y], x, _, h => by
    simp only [List.cons_append, List.nil_append, noTwo, Bool.and_true, Bool.not_eq_true', Bool.and_eq_false_imp, decide_eq_true_eq, decide_eq_false_iff_not]
    intro hy hx
    exact h hx (by simp [hy])
  | y :: z :: t, x, hn, h => by
    have h2 := noTwo_snoc (z :: t) x (noTwo_tail hn) (fun e => by simpa using h e)
    simp only [List.cons_append, noTwo, Bool.and_eq_true] at hn h2 ⊢
    exact ⟨hn.1, h2⟩
/-- What stands between rounds while a number is written in Fib, the greatest places first. -/
structure Greedy (n : Int) (j : Nat) (r : Int) (l : List Int) : Prop where
  r0 : 0 ≤ r
  rlt : r < fibW j
  val : wv 1 (l ++ List.replicate j 0) + r = n
  ok : okDigits 1 l
  right : noTwo l = true
  lead : noLead l
  last : l.getLast? = some 1 → ∀ i, j = i + 1 → r < fibW i
  len : l.length + j ≤ 64
theorem Greedy.start {n : Int} {m : Nat} (h0 : 0 ≤ n) (h : n < fibW m) (hm : m ≤ 63) : Greedy n (m + 1) n [] :=
  ⟨h0, Int.lt_of_lt_of_le h (fibW_pos m).2, by rw [List.nil_append, wv_zeros]; omega, by simp [okDigits], rfl, by simp [noLead], by simp, by simp; omega⟩
theorem fibW_gap : ∀ (j : Nat) (r : Int), r < fibW (j + 1) → fibW j ≤ r → r - fibW j < fibW j ∧ ∀ i, j = i + 1 → r - fibW j < fibW i
  | 0, r, h, _ => by simp [fibW] at h ⊢; omega
  | j + 1, r, h, _ => by
    have e : fibW (j + 1 + 1) = fibW (j + 1) + fibW j := rfl
    have := (fibW_pos j).2
    refine ⟨by omega, fun i hi => ?_⟩
    obtain rfl : j = i := by omega
    omega
theorem Greedy.one {n : Int} {j : Nat} {r : Int} {l : List Int} (h : Greedy n (j + 1) r l) (hr : fibW j ≤ r) : Greedy n j (r - fibW j) (l ++ [1]) := by
  have g := fibW_gap j r h.rlt hr
  refine ⟨by omega, g.1, ?_, ?_, ?_, ?_, fun _ => g.2, by have := h.len; simp; omega⟩
  · have hv := h.val
    rw [List.replicate_succ] at hv
    have := wv_mid 1 1 (List.replicate j 0) l
    rw [List.append_assoc, List.singleton_append, this]
    simp [W]
    omega
  · intro x hx
    rcases List.mem_append.1 hx with hx | hx
    · exact h.ok x hx
    · obtain rfl : x = 1 := by simpa using hx
      simp [radix]
  · refine noTwo_snoc l 1 h.right fun _ hl => ?_
    have := h.last hl j rfl
    omega
  · have := h.lead
    unfold noLead at *
    cases l <;> simp_all
theorem Greedy.zero {n : Int} {j : Nat} {r : Int} {l : List Int} (h : Greedy n (j + 1) r l) (hr : r < fibW j) (hl : l ≠ []) : Greedy n j r (l ++ [0]) := by
  refine ⟨h.r0, hr, ?_, ?_, ?_, ?_, by simp, by have := h.len; simp; omega⟩
  · have hv := h.val
    rw [List.replicate_succ] at hv
    rw [List.append_assoc, List.singleton_append]
    exact hv
  · intro x hx
    rcases List.mem_append.1 hx with hx | hx
    · exact h.ok x hx
    · obtain rfl : x = 0 := by simpa using hx
      simp [radix]
  · exact noTwo_snoc l 0 h.right (fun e => by simp at e)
  · have := h.lead
    unfold noLead at *
    cases l <;> simp_all
theorem Greedy.none {n : Int} {j : Nat} {r : Int} (h : Greedy n (j + 1) r []) (hr : r < fibW j) : Greedy n j r [] := by
  refine ⟨h.r0, hr, ?_, h.ok, h.right, h.lead, by simp, by have := h.len; simp at this ⊢; omega⟩
  have hv := h.val
  rw [List.nil_append, wv_zeros] at hv ⊢
  exact hv
theorem Greedy.done {n r : Int} {l : List Int} (h : Greedy n 0 r l) : IsOf 1 n l := by
  have h1 := h.rlt
  have h2 := h.r0
  have h3 := h.val
  simp [fibW] at h1
  simp at h3
  exact ⟨h.ok, by simp [rightOf, h.right], h.lead, by omega⟩
theorem fibW_small {m : Nat} {n : Int} (h : fibW m ≤ n) (hn : n ≤ 1099511627776) : m ≤ 57 := by
  rcases Nat.lt_or_ge m 58 with c | c
  · omega
  · have := W_big (b := 1) (by simp [radix]) c
    simp [W] at this
    omega

def rightRes (base : Int) (d : List Int) : Bool := decide (digitsFault base d = 0 ∧ rightOf base d = true)
end Go.Proofs.YtgglhdbhemcijaaDoor
