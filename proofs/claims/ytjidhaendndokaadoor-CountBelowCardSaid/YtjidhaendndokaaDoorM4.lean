/- Plain laws, data behind worlds, and contracts of functions, for the last text. No conditions. -/
import Derived.Test.YtjidhaendndokaaDoorM3
import Derived.Test.YtjidhaendndokaaDoorChecked
import Derived.StillTailTactics
set_option linter.unusedSimpArgs false
set_option linter.unusedVariables false
set_option linter.unnecessarySimpa false
set_option linter.unusedSectionVars false
namespace Go.Proofs.YtjidhaendndokaaDoor

open Classical in
/-- Is a number taken? -/
noncomputable def tookN (a : GAuto) (j : Nat) : Int := if ∃ d, IsOf a.base (j : Int) d ∧ endOf a.ends (runFrom a.next 0 d) = true then 1 else 0
/-- How many numbers below are. -/
noncomputable def belowN (a : GAuto) (z : Int) : Int := psum (tookN a) z.toNat
theorem tookN_is {a : GAuto} (hr : radix a.base ≠ 0) {j : Nat} {d : List Int} (h : IsOf a.base (j : Int) d) : tookN a j = if endOf a.ends (runFrom a.next 0 d) = true then 1 else 0 := by
  unfold tookN
  by_cases e : endOf a.ends (runFrom a.next 0 d) = true
  · rw [if_pos ⟨d, h, e⟩, if_pos e]
  · rw [if_neg (fun ⟨d', h', e'⟩ => e (by rw [h.unique hr h']; exact e')), if_neg e]
theorem belowN_step {a : GAuto} {z : Int} (h : 0 ≤ z) : belowN a (z + 1) = belowN a z + tookN a z.toNat := by
  unfold belowN
  rw [show (z + 1).toNat = z.toNat + 1 by omega]; rfl
theorem tookN_bd (a : GAuto) (j : Nat) : 0 ≤ tookN a j ∧ tookN a j ≤ 1 := by unfold tookN; split <;> omega
theorem belowN_bd (a : GAuto) {z : Int} (h : 0 ≤ z) : 0 ≤ belowN a z ∧ belowN a z ≤ z := by
  have key : ∀ n : Nat, 0 ≤ psum (tookN a) n ∧ psum (tookN a) n ≤ (n : Int) := fun n => by
    induction n with
    | zero => exact ⟨Int.le_refl _, Int.le_refl _⟩
    | succ n ih =>
      have := tookN_bd a n
      show 0 ≤ psum (tookN a) n + tookN a n ∧ psum (tookN a) n + tookN a n ≤ _
      omega
  have := key z.toNat
  unfold belowN
  omega
/-- Right rests behind a last digit. -/
def restN (a : GAuto) (r : Nat) : Nat → Int → Int → Int
  | 0, s, _ => if endOf a.ends s = true then 1 else 0
  | n + 1, s, last => sumI (fun x : Nat => if a.base = 1 ∧ last = 1 ∧ ((x : Nat) : Int) = 1 then 0 else restN a r n (nx a.next s x) ((x : Nat) : Int)) (List.range r)
/-- How many numbers they are. -/
def wdN (b : Int) (left : Nat) (last : Int) : Int := if b = 1 ∧ last = 1 then (match left with | 0 => 1 | k + 1 => W b k) else W b left
/-- Where the rests behind the first letters end. -/
def edgeN (b : Int) (left : Nat) (last : Int) (x : Nat) : Int :=
  if b = 1 then (if x = 0 then 0 else if x = 1 ∨ last = 1 then W b left else W b (left + 1)) else (x : Int) * W b left
theorem edge_zero (b : Int) (left : Nat) (last : Int) : edgeN b left last 0 = 0 := by
  unfold edgeN
  split
  · rfl
  · show (0 : Int) * _ = 0; omega
theorem edge_at {b : Int} {left : Nat} {last : Int} {x r : Nat} (hr : radix b = (r : Int)) (hx : x < r) : edgeN b left last x = (x : Int) * W b left := by
  unfold edgeN
  split
  · rename_i h
    subst h
    have h2 : (r : Int) = 2 := by rw [← hr]; rfl
    have : x = 0 ∨ x = 1 := by omega
    rcases this with rfl | rfl
    · rw [if_pos rfl]; show (0 : Int) = 0 * _; omega
    · rw [if_neg (by omega), if_pos (.inl rfl)]; show _ = (1 : Int) * _; omega
  · rfl
theorem edge_step {b : Int} {left : Nat} {last : Int} {x r : Nat} (hr : radix b = (r : Int)) (hx : x < r) (hok : ¬ (b = 1 ∧ last = 1 ∧ ((x : Nat) : Int) = 1)) : edgeN b left last (x + 1) = edgeN b left last x + wdN b left (x : Int) := by
  rw [edge_at hr hx]
  unfold edgeN wdN
  by_cases h : b = 1
  · subst h
    have h2 : (r : Int) = 2 := by rw [← hr]; rfl
    have : x = 0 ∨ x = 1 := by omega
    rcases this with rfl | rfl
    · rw [if_pos rfl, if_neg (by omega), if_pos (.inl rfl), if_neg (by decide)]; show W 1 left = (0 : Int) * _ + _; omega
    · have hl : ¬ last = 1 := fun q => hok ⟨rfl, q, rfl⟩
      rw [if_pos rfl, if_neg (by omega), if_neg (by omega), if_pos ⟨rfl, rfl⟩]
      show W 1 (left + 1) = (1 : Int) * W 1 left + _
      cases left with
      | zero => rfl
      | succ k =>
        show fibW (k + 1) + fibW k = 1 * W 1 (k + 1) + W 1 k
        have e1 : W 1 (k + 1) = fibW (k + 1) := rfl
        have e2 : W 1 k = fibW k := rfl
        omega
  · rw [if_neg h, if_neg (fun q => h q.1)]
    rw [Int.natCast_add, Int.add_mul]
    show _ + (1 : Int) * _ = _
    omega
theorem edge_skip {b : Int} {left : Nat} {last : Int} {x : Nat} (h : b = 1 ∧ last = 1 ∧ ((x : Nat) : Int) = 1) : edgeN b left last (x + 1) = edgeN b left last x := by
  obtain ⟨rfl, rfl, h3⟩ := h
  obtain rfl : x = 1 := by omega
  unfold edgeN
  rw [if_pos rfl, if_neg (by omega), if_pos (.inr rfl), if_pos rfl, if_neg (by omega), if_pos (.inl rfl)]
theorem edge_all {b : Int} {left : Nat} {last : Int} {r : Nat} (hr : radix b = (r : Int)) (h0 : radix b ≠ 0) : edgeN b left last r = wdN b (left + 1) last := by
  unfold edgeN wdN
  by_cases h : b = 1
  · subst h
    have h2 : (r : Int) = 2 := by rw [← hr]; rfl
    obtain rfl : r = 2 := by omega
    rw [if_pos rfl, if_neg (by omega)]
    by_cases hl : last = 1
    · rw [if_pos (.inr hl), if_pos ⟨rfl, hl⟩]
    · rw [if_neg (by omega), if_neg (fun q => hl q.2)]
  · rw [if_neg h, if_neg (fun q => h q.1)]
    rcases radix_pos h0 with ⟨q, _⟩ | ⟨_, _, q⟩
    · exact absurd q h
    · rw [← hr, q]
      unfold W
      rw [if_neg h, if_neg h, Int.mul_comm]; rfl
theorem wv_last (b : Int) : ∀ (P : List Int) (x : Int) (n : Nat), wv b ((P ++ [x]) ++ List.replicate n 0) = wv b (P ++ List.replicate (n + 1) 0) + x * W b n
  | [], x, n => by
    show x * W b (List.replicate n (0 : Int)).length + wv b (List.replicate n 0) = 0 * W b (List.replicate n (0 : Int)).length + wv b (List.replicate n 0) + _
    rw [List.length_replicate]; omega
  | p :: P, x, n => by
    show p * W b ((P ++ [x]) ++ List.replicate n 0).length + wv b ((P ++ [x]) ++ List.replicate n 0) = p * W b (P ++ List.replicate (n + 1) 0).length + wv b (P ++ List.replicate (n + 1) 0) + _
    rw [wv_last b P x n, show ((P ++ [x]) ++ List.replicate n (0 : Int)).length = (P ++ List.replicate (n + 1) (0 : Int)).length by simp]
    omega
theorem right_snoc {b x last : Int} {P : List Int} (h : rightOf b P = true) (hl : P.getLast? = some last) (hok : ¬ (b = 1 ∧ last = 1 ∧ x = 1)) : rightOf b (P ++ [x]) = true := by
  unfold rightOf at *
  by_cases hb : b = 1
  · simp only [hb, decide_true, Bool.not_true, Bool.false_or] at h ⊢
    rw [noTwo_iff] at h ⊢
    rintro j ⟨h1, h2⟩
    have hj := (List.getElem?_eq_some_iff.1 h2).1
    rw [List.length_append, List.length_singleton] at hj
    by_cases e : j + 1 < P.length
    · rw [List.getElem?_append_left (by omega)] at h1 h2
      exact h j ⟨h1, h2⟩
    · have e1 : j + 1 = P.length := by omega
      rw [List.getElem?_append_left (by omega)] at h1
      rw [e1, List.getElem?_append_right (by omega), Nat.sub_self] at h2
      rw [List.getLast?_eq_getElem?, show P.length - 1 = j by omega, h1] at hl
      cases h2
      cases hl
      exact hok ⟨hb, rfl, rfl⟩
  · simp [hb]
section
variable {a : GAuto} {r : Nat} (h0 : radix a.base ≠ 0) (hr : radix a.base = (r : Int))
include h0 hr
/-- Digits that may stand ahead. -/
structure Ahead (b : Int) (P : List Int) (last : Int) : Prop where
  ok : okDigits b P
  right : rightOf b P = true
  lead : noLead P
  last : P.getLast? = some last
omit h0 in
theorem Ahead.snoc {P : List Int} {last : Int} (h : Ahead a.base P last) {x : Nat} (hx : x < r) (hok : ¬ (a.base = 1 ∧ last = 1 ∧ ((x : Nat) : Int) = 1)) : Ahead a.base (P ++ [(x : Int)]) (x : Int) := by
  refine ⟨fun y hy => ?_, right_snoc h.right h.last hok, ?_, by simp⟩
  · rcases List.mem_append.1 hy with hy | hy
    · exact h.ok y hy
    · rw [List.mem_singleton.1 hy, hr]; omega
  · have hl := h.lead
    have hla := h.last
    cases P with
    | nil => cases hla
    | cons p P => exact hl
omit h0 in
theorem Ahead.one {x : Nat} (hx : x < r) (h1 : 0 < x) : Ahead a.base [(x : Int)] (x : Int) := by
  refine ⟨fun y hy => ?_, by simp [rightOf, noTwo], ?_, rfl⟩
  · rw [List.mem_singleton.1 hy, hr]; omega
  · unfold noLead; simp; omega
/-- The rests behind digits are the numbers from these digits on. -/
theorem rest_sum : ∀ (left : Nat) (P : List Int) (last : Int), Ahead a.base P last →
    restN a r left (runFrom a.next 0 P) last = belowN a (wv a.base (P ++ List.replicate left 0) + wdN a.base left last) - belowN a (wv a.base (P ++ List.replicate left 0))
  | 0, P, last, h => by
    have hn := wv_nonneg h0 h.ok
    rw [List.replicate_zero, List.append_nil]
    have hw : wdN a.base 0 last = 1 := by
      unfold wdN
      split
      · rfl
      · unfold W; split <;> rfl
    rw [hw, belowN_step hn, tookN_is h0 (d := P) ⟨h.ok, h.right, h.lead, by omega⟩]
    show (if endOf a.ends (runFrom a.next 0 P) = true then (1 : Int) else 0) = _
    omega
  | left + 1, P, last, h => by
    have hp : ∀ X : Nat, X ≤ r → sumI (fun x : Nat => if a.base = 1 ∧ last = 1 ∧ ((x : Nat) : Int) = 1 then 0 else restN a r left (nx a.next (runFrom a.next 0 P) x) ((x : Nat) : Int)) (List.range X) = belowN a (wv a.base (P ++ List.replicate (left + 1) 0) + edgeN a.base left last X) - belowN a (wv a.base (P ++ List.replicate (left + 1) 0)) := fun X => by
      induction X with
      | zero => intro _; rw [edge_zero, Int.add_zero]; show (0 : Int) = _; omega
      | succ x ih =>
        intro hX
        rw [List.range_succ, sumI_app, ih (by omega)]
        show _ + ((if a.base = 1 ∧ last = 1 ∧ ((x : Nat) : Int) = 1 then (0 : Int) else restN a r left (nx a.next (runFrom a.next 0 P) x) ((x : Nat) : Int)) + 0) = _
        by_cases e : a.base = 1 ∧ last = 1 ∧ ((x : Nat) : Int) = 1
        · rw [if_pos e, edge_skip e]; omega
        · have hs := rest_sum left (P ++ [(x : Int)]) (x : Int) (h.snoc hr (by omega) e)
          have er : runFrom a.next 0 (P ++ [(x : Int)]) = nx a.next (runFrom a.next 0 P) x := by rw [runFrom_append]; rfl
          rw [er, wv_last, ← edge_at (left := left) (last := last) hr (by omega), Int.add_assoc, ← edge_step hr (by omega) e] at hs
          rw [if_neg e, hs]; omega
    rw [← edge_all hr h0]
    exact hp r (Nat.le_refl _)
/-- One letter more behind digits. -/
theorem rest_at {P : List Int} {last : Int} (h : Ahead a.base P last) (left : Nat) {x : Nat} (hx : x < r) (hok : ¬ (a.base = 1 ∧ last = 1 ∧ ((x : Nat) : Int) = 1)) :
    belowN a (wv a.base (P ++ List.replicate (left + 1) 0) + edgeN a.base left last (x + 1)) = belowN a (wv a.base (P ++ List.replicate (left + 1) 0) + edgeN a.base left last x) + restN a r left (nx a.next (runFrom a.next 0 P) x) (x : Int) := by
  have hs := rest_sum h0 hr left (P ++ [(x : Int)]) (x : Int) (h.snoc hr hx hok)
  have er : runFrom a.next 0 (P ++ [(x : Int)]) = nx a.next (runFrom a.next 0 P) x := by rw [runFrom_append]; rfl
  rw [er, wv_last, ← edge_at (left := left) (last := last) hr hx, Int.add_assoc, ← edge_step hr hx hok] at hs
  omega
/-- One first letter more. -/
theorem rest_one (left : Nat) {x : Nat} (hx : x < r) (h1 : 0 < x) :
    belowN a (edgeN a.base left 0 (x + 1)) = belowN a (edgeN a.base left 0 x) + restN a r left (nx a.next 0 x) (x : Int) := by
  have hs := rest_sum h0 hr left [(x : Int)] (x : Int) (Ahead.one hr hx h1)
  have er : runFrom a.next 0 [(x : Int)] = nx a.next 0 x := rfl
  have ew : wv a.base ([(x : Int)] ++ List.replicate left 0) = edgeN a.base left 0 x := by
    have := wv_last a.base [] (x : Int) left
    rw [List.nil_append, List.nil_append] at this
    rw [this, wv_zeros, edge_at hr hx]; omega
  rw [er, ew, ← edge_step (last := 0) hr hx (fun q => absurd q.2.1 (by decide))] at hs
  omega
omit hr in
theorem wd_bd (left : Nat) (last : Int) : 1 ≤ wdN a.base left last ∧ wdN a.base left last ≤ W a.base left := by
  have h1 := W_pos h0 left
  unfold wdN
  split
  · cases left with
    | zero => exact ⟨Int.le_refl _, h1⟩
    | succ k => exact ⟨W_pos h0 k, W_le h0 (by omega)⟩
  · exact ⟨h1, Int.le_refl _⟩
omit hr h0 in
theorem rest_nonneg : ∀ (left : Nat) (s last : Int), 0 ≤ restN a r left s last
  | 0, s, last => by unfold restN; split <;> omega
  | left + 1, s, last => by
    have key : ∀ l : List Nat, 0 ≤ sumI (fun x : Nat => if a.base = 1 ∧ last = 1 ∧ ((x : Nat) : Int) = 1 then 0 else restN a r left (nx a.next s x) ((x : Nat) : Int)) l := fun l => by
      induction l with
      | nil => exact Int.le_refl _
      | cons x l ih =>
        have := rest_nonneg left (nx a.next s x) (x : Int)
        show 0 ≤ (if a.base = 1 ∧ last = 1 ∧ ((x : Nat) : Int) = 1 then (0 : Int) else restN a r left (nx a.next s x) ((x : Nat) : Int)) + sumI _ l
        split <;> omega
    exact key _
/-- The sum over the first letters. -/
def restS (a : GAuto) (r left : Nat) (s last : Int) (X : Nat) : Int := sumI (fun x : Nat => if a.base = 1 ∧ last = 1 ∧ ((x : Nat) : Int) = 1 then 0 else restN a r left (nx a.next s x) ((x : Nat) : Int)) (List.range X)
omit hr h0 in
theorem restS_zero {left : Nat} {s last : Int} : restS a r left s last 0 = 0 := rfl
omit hr h0 in
theorem restS_all {left : Nat} {s last : Int} : restS a r left s last r = restN a r (left + 1) s last := rfl
omit hr h0 in
theorem restS_step {left : Nat} {s last : Int} {x : Nat} (h : ¬ (a.base = 1 ∧ last = 1 ∧ ((x : Nat) : Int) = 1)) : restS a r left s last (x + 1) = restS a r left s last x + restN a r left (nx a.next s x) (x : Int) := by
  unfold restS
  rw [List.range_succ, sumI_app]
  show _ + ((if a.base = 1 ∧ last = 1 ∧ ((x : Nat) : Int) = 1 then (0 : Int) else restN a r left (nx a.next s x) ((x : Nat) : Int)) + 0) = _
  rw [if_neg h]; omega
omit hr h0 in
theorem restS_skip {left : Nat} {s last : Int} {x : Nat} (h : a.base = 1 ∧ last = 1 ∧ ((x : Nat) : Int) = 1) : restS a r left s last (x + 1) = restS a r left s last x := by
  unfold restS
  rw [List.range_succ, sumI_app]
  show _ + ((if a.base = 1 ∧ last = 1 ∧ ((x : Nat) : Int) = 1 then (0 : Int) else restN a r left (nx a.next s x) ((x : Nat) : Int)) + 0) = _
  rw [if_pos h]; omega
theorem rest_bd : ∀ (left : Nat) (s last : Int), restN a r left s last ≤ wdN a.base left last
  | 0, s, last => by
    have := (wd_bd h0 0 last).1
    unfold restN; split <;> omega
  | left + 1, s, last => by
    rw [← edge_all hr h0, ← restS_all]
    have key : ∀ X, X ≤ r → restS a r left s last X ≤ edgeN a.base left last X := fun X => by
      induction X with
      | zero => intro _; rw [edge_zero, restS_zero]; omega
      | succ x ih =>
        intro hX
        have := ih (by omega)
        by_cases e : a.base = 1 ∧ last = 1 ∧ ((x : Nat) : Int) = 1
        · rw [restS_skip e, edge_skip e]; exact this
        · have := rest_bd left (nx a.next s x) (x : Int)
          rw [restS_step e, edge_step hr (by omega) e]; omega
    exact key r (Nat.le_refl _)
omit hr h0 in
theorem restS_mono {left : Nat} {s last : Int} {X Y : Nat} (h : X ≤ Y) : restS a r left s last X ≤ restS a r left s last Y := by
  induction Y with
  | zero => obtain rfl : X = 0 := by omega
            exact Int.le_refl _
  | succ y ih =>
    by_cases e : X = y + 1
    · subst e; exact Int.le_refl _
    · have h1 := ih (by omega)
      by_cases e : a.base = 1 ∧ last = 1 ∧ ((y : Nat) : Int) = 1
      · rw [restS_skip e]; exact h1
      · have := rest_nonneg (a := a) (r := r) left (nx a.next s y) (y : Int)
        rw [restS_step e]; omega
theorem restS_bd {left : Nat} {s last : Int} {X : Nat} (hX : X ≤ r) : 0 ≤ restS a r left s last X ∧ restS a r left s last X ≤ W a.base (left + 1) := by
  have h1 := restS_mono (a := a) (r := r) (left := left) (s := s) (last := last) (Nat.zero_le X)
  have h2 := restS_mono (a := a) (r := r) (left := left) (s := s) (last := last) hX
  rw [restS_all] at h2
  rw [restS_zero] at h1
  have h3 := rest_bd h0 hr (left + 1) s last
  have h4 := (wd_bd h0 (left + 1) last).2
  omega
/-- Where the sum over the numbers below stands: at a place of the limit's digits, so many letters on. -/
def posN (b : Int) (lim : List Int) (i : Nat) (last : Int) (x : Nat) : Int :=
  if i = 0 then edgeN b (lim.length - 1) 0 (max x 1) else wv b (lim.take i ++ List.replicate (lim.length - i) 0) + edgeN b (lim.length - 1 - i) last x
end
section
variable {a : GAuto} {r : Nat} (h0 : radix a.base ≠ 0) (hr : radix a.base = (r : Int)) {lim : List Int} {n : Int} (hl : IsOf a.base n lim)
include h0 hr hl
omit h0 hr in
theorem ahead_take {i : Nat} (hi : 0 < i) (hin : i ≤ lim.length) : Ahead a.base (lim.take i) (lim.getD (i - 1) 0) := by
  refine ⟨fun y hy => hl.ok y (List.mem_of_mem_take hy), ?_, ?_, ?_⟩
  · have := hl.right
    unfold rightOf at this ⊢
    by_cases hb : a.base = 1
    · simp only [hb, decide_true, Bool.not_true, Bool.false_or] at this ⊢
      rw [noTwo_iff] at this ⊢
      rintro j ⟨h1, h2⟩
      have hj := (List.getElem?_eq_some_iff.1 h2).1
      rw [List.length_take] at hj
      rw [List.getElem?_take_of_lt (by omega)] at h1 h2
      exact this j ⟨h1, h2⟩
    · simp [hb]
  · have := hl.lead
    unfold noLead at this ⊢
    cases lim with
    | nil => simp at hin; omega
    | cons x t =>
      obtain ⟨k, rfl⟩ : ∃ k, i = k + 1 := ⟨i - 1, by omega⟩
      exact this
  · rw [List.getLast?_eq_getElem?, List.length_take, Nat.min_eq_left hin, List.getElem?_take_of_lt (by omega), getD_lt (by omega)]
    exact List.getElem?_eq_getElem _
omit h0 hr hl in
theorem pos_start (hlen : 0 < lim.length) : posN a.base lim 0 0 0 = W a.base (lim.length - 1) := by
  unfold posN edgeN
  rw [if_pos rfl]
  split
  · rfl
  · show (1 : Int) * _ = _; omega
omit h0 hr hl in
theorem pos_take {i : Nat} (hi : i < lim.length) (b : Int) : wv b (lim.take (i + 1) ++ List.replicate (lim.length - (i + 1)) 0) = wv b (lim.take i ++ List.replicate (lim.length - i) 0) + lim.getD i 0 * W b (lim.length - 1 - i) := by
  rw [List.take_succ_eq_append_getElem hi, getD_lt hi]
  have := wv_last b (lim.take i) lim[i] (lim.length - (i + 1))
  rw [this, show lim.length - (i + 1) + 1 = lim.length - i by omega, show lim.length - (i + 1) = lim.length - 1 - i by omega]
theorem pos_end {i d : Nat} {last : Int} (hi : i < lim.length) (hd : lim.getD i 0 = (d : Int)) : posN a.base lim i last d = wv a.base (lim.take (i + 1) ++ List.replicate (lim.length - (i + 1)) 0) := by
  have hdr : d < r := by
    have := hl.ok lim[i] (List.getElem_mem hi)
    rw [getD_lt hi] at hd
    rw [hd, hr] at this; omega
  rw [pos_take hi, hd]
  unfold posN
  by_cases e : i = 0
  · subst e
    have hd0 : 0 < d := by
      have := hl.lead
      unfold noLead at this
      rw [getD_lt hi] at hd
      rw [List.head?_eq_getElem?, List.getElem?_eq_getElem hi, hd] at this
      have : ¬ (d : Int) = 0 := fun q => this (by rw [q])
      omega
    rw [if_pos rfl, Nat.max_eq_left (by omega), edge_at hr hdr, List.take_zero, List.nil_append, wv_zeros, Nat.sub_zero]
    omega
  · rw [if_neg e, edge_at hr hdr]
theorem pos_next {i x : Nat} {last : Int} (hi : i < lim.length) (hla : 0 < i → last = lim.getD (i - 1) 0) (hl0 : i = 0 → last = 0) (hx : x < r) (hsk : ¬ (i = 0 ∧ x = 0)) (hok : ¬ (a.base = 1 ∧ last = 1 ∧ ((x : Nat) : Int) = 1)) :
    belowN a (posN a.base lim i last (x + 1)) = belowN a (posN a.base lim i last x) + restN a r (lim.length - 1 - i) (nx a.next (runFrom a.next 0 (lim.take i)) x) (x : Int) := by
  unfold posN
  by_cases e : i = 0
  · subst e
    rw [if_pos rfl, if_pos rfl, Nat.max_eq_left (by omega), Nat.max_eq_left (by omega)]
    exact rest_one h0 hr (lim.length - 1) hx (by omega)
  · rw [if_neg e, if_neg e]
    have := rest_at h0 hr (ahead_take hl (i := i) (by omega) (by omega)) (lim.length - 1 - i) hx (by rw [← hla (by omega)]; exact hok)
    rw [show lim.length - 1 - i + 1 = lim.length - i by omega, ← hla (by omega)] at this
    exact this
omit h0 hr hl in
theorem pos_skip {i x : Nat} {last : Int} (h : (i = 0 ∧ x = 0) ∨ (0 < i ∧ a.base = 1 ∧ last = 1 ∧ ((x : Nat) : Int) = 1)) : posN a.base lim i last (x + 1) = posN a.base lim i last x := by
  unfold posN
  rcases h with ⟨rfl, rfl⟩ | ⟨h1, h2⟩
  · rfl
  · rw [if_neg (by omega), if_neg (by omega), edge_skip h2]
end
section
variable {a : GAuto} {r : Nat} (h0 : radix a.base ≠ 0) (hr : radix a.base = (r : Int)) {lim : List Int} {n : Int} (hl : IsOf a.base n lim)
include h0 hl
theorem lim_le : ∀ k i : Nat, i + k = lim.length → wv a.base (lim.take i ++ List.replicate (lim.length - i) 0) ≤ n
  | 0, i, e => by
    obtain rfl : i = lim.length := by omega
    rw [List.take_length, Nat.sub_self, List.replicate_zero, List.append_nil, hl.val]; exact Int.le_refl _
  | k + 1, i, e => by
    have ih := lim_le k (i + 1) (by omega)
    have hi : i < lim.length := by omega
    rw [pos_take hi] at ih
    have h1 := hl.ok _ (List.getElem_mem hi)
    rw [getD_lt hi] at ih
    have h2 : 0 ≤ lim[i] * W a.base (lim.length - 1 - i) := Int.mul_nonneg h1.1 (by have := W_pos h0 (lim.length - 1 - i); omega)
    omega
include hr
theorem pos_le {i x d : Nat} {last : Int} (hi : i < lim.length) (hd : lim.getD i 0 = (d : Int)) (hx : x < d) : 0 ≤ posN a.base lim i last (x + 1) ∧ posN a.base lim i last (x + 1) ≤ n := by
  have hb := hl.ok _ (List.getElem_mem hi)
  rw [getD_lt hi] at hd
  rw [hd, hr] at hb
  have hL := lim_le h0 hl (lim.length - (i + 1)) (i + 1) (by omega)
  rw [pos_take hi, getD_lt hi, hd] at hL
  have hW := W_pos h0 (lim.length - 1 - i)
  have hm : ((x + 1 : Nat) : Int) * W a.base (lim.length - 1 - i) ≤ (d : Int) * W a.base (lim.length - 1 - i) := Int.mul_le_mul_of_nonneg_right (by omega) (by omega)
  have hp : 0 ≤ ((x + 1 : Nat) : Int) * W a.base (lim.length - 1 - i) := Int.mul_nonneg (by omega) (by omega)
  have hw0 : 0 ≤ wv a.base (lim.take i ++ List.replicate (lim.length - i) 0) := wv_nonneg h0 fun y hy => by
    rcases List.mem_append.1 hy with hy | hy
    · exact hl.ok y (List.mem_of_mem_take hy)
    · rw [(List.mem_replicate.1 hy).2, hr]; omega
  unfold posN
  by_cases e : i = 0
  · subst e
    rw [if_pos rfl, Nat.max_eq_left (by omega), edge_at hr (by omega)]
    rw [Nat.sub_zero] at hm hp hL
    rw [Nat.sub_zero, List.take_zero, List.nil_append, wv_zeros] at hL
    omega
  · rw [if_neg e, edge_at hr (by omega)]
    omega
end
section
variable {a : GAuto} {r : Nat} (h0 : radix a.base ≠ 0) (hr : radix a.base = (r : Int))
include h0 hr
/-- The sum over the shorter numbers: by first letters. -/
theorem long_start (left : Nat) : edgeN a.base left 0 (max 0 1) = W a.base left := by
  show edgeN a.base left 0 1 = _
  unfold edgeN
  split
  · rfl
  · show (1 : Int) * _ = _; omega
theorem long_end (left : Nat) (h1 : 1 ≤ r) : edgeN a.base left 0 (max r 1) = W a.base (left + 1) := by
  rw [Nat.max_eq_left h1, edge_all hr h0]
  unfold wdN
  rw [if_neg (fun q => absurd q.2 (by decide))]
theorem long_next (left : Nat) {x : Nat} (hx : x < r) (h1 : 0 < x) : belowN a (edgeN a.base left 0 (max (x + 1) 1)) = belowN a (edgeN a.base left 0 (max x 1)) + restN a r left (nx a.next 0 x) (x : Int) := by
  rw [Nat.max_eq_left (by omega), Nat.max_eq_left (by omega)]
  exact rest_one h0 hr left hx h1
theorem long_first : belowN a (W a.base 0) = if endOf a.ends 0 = true then 1 else 0 := by
  have e : W a.base 0 = 0 + 1 := by unfold W; split <;> rfl
  have et : tookN a (Int.toNat 0) = if endOf a.ends 0 = true then 1 else 0 := tookN_is h0 (j := 0) (d := []) ⟨by simp [okDigits], by simp [rightOf, noTwo], by simp [noLead], rfl⟩
  rw [e, belowN_step (Int.le_refl _), et]
  show psum _ 0 + (if endOf a.ends 0 = true then (1 : Int) else 0) = _
  show 0 + _ = _
  omega
theorem edge_le {left : Nat} {last : Int} : ∀ {X : Nat}, X ≤ r → edgeN a.base left last X ≤ W a.base (left + 1) := by
  have mono : ∀ {X Y : Nat}, X ≤ Y → Y ≤ r → edgeN a.base left last X ≤ edgeN a.base left last Y := fun {X Y} h hY => by
    induction Y with
    | zero => obtain rfl : X = 0 := by omega
              exact Int.le_refl _
    | succ y ih =>
      by_cases e : X = y + 1
      · subst e; exact Int.le_refl _
      · have h1 := ih (by omega) (by omega)
        by_cases e : a.base = 1 ∧ last = 1 ∧ ((y : Nat) : Int) = 1
        · rw [edge_skip e]; exact h1
        · have := (wd_bd h0 left (y : Int)).1
          rw [edge_step hr (by omega) e]; omega
  intro X hX
  have h1 := mono hX (Nat.le_refl r)
  rw [edge_all hr h0] at h1
  exact Int.le_trans h1 (wd_bd h0 (left + 1) last).2
end
end Go.Proofs.YtjidhaendndokaaDoor
namespace Go.Proofs.YtjidhaendndokaaDoor
open Go.RowKit

def keyB (left : Nat) (s last : Int) : T := .agg [.int .i64 ((left : Nat) : Int), .int .i64 s, .int .i64 last]
/-- What stands there is right. -/
def MemOk (a : GAuto) (r : Nat) (es : List (T × T)) : Prop := ∀ (left : Nat) (s last : Int) (v : T), mapGet es (keyB left s last) = some v → v = .int .i64 (restN a r left s last)
theorem memOk_nil {a : GAuto} {r : Nat} : MemOk a r [] := fun left s last v h => by cases h
open Classical in
theorem mapGet_setB (es : List (T × T)) (k v k' : T) : mapGet (mapSet es k v) k' = if k = k' then some v else mapGet es k' := by
  induction es with
  | nil => unfold mapSet mapGet; rfl
  | cons q es ih =>
    unfold mapSet
    by_cases h : q.1 = k
    · rw [if_pos h]
      by_cases h2 : k = k'
      · rw [if_pos h2]; unfold mapGet; exact if_pos h2
      · rw [if_neg h2]; unfold mapGet; rw [if_neg h2]; exact (if_neg (by rw [h]; exact h2)).symm
    · rw [if_neg h]
      by_cases h2 : k = k'
      · rw [if_pos h2] at ih ⊢
        unfold mapGet
        rw [if_neg (by rw [← h2]; exact h)]; exact ih
      · rw [if_neg h2] at ih ⊢
        by_cases h3 : q.1 = k'
        · unfold mapGet; rw [if_pos h3]; exact (if_pos h3).symm
        · unfold mapGet; rw [if_neg h3, ih]; exact (if_neg h3).symm
theorem MemOk.set {a : GAuto} {r : Nat} {es : List (T × T)} (h : MemOk a r es) (left : Nat) (s last : Int) : MemOk a r (mapSet es (keyB left s last) (.int .i64 (restN a r left s last))) := fun left' s' last' v hv => by
  rw [mapGet_setB] at hv
  by_cases e : keyB left s last = keyB left' s' last'
  · rw [if_pos e] at hv
    cases hv
    unfold keyB at e
    simp only [T.agg.injEq, List.cons.injEq, T.int.injEq, true_and, and_true] at e
    obtain ⟨e1, e2, e3⟩ := e
    obtain rfl : left = left' := by omega
    subst e2; subst e3; rfl
  · rw [if_neg e] at hv
    exact h left' s' last' v hv
open Classical in
/-- The memory behind a call. -/
noncomputable def memG (a : GAuto) (r : Nat) : Nat → Int → Int → List (T × T) → List (T × T)
  | 0, _, _, es => es
  | n + 1, s, last, es => if (mapGet es (keyB (n + 1) s last)).isSome = true then es else
    mapSet ((List.range r).foldl (fun es x => if a.base = 1 ∧ last = 1 ∧ ((x : Nat) : Int) = 1 then es else memG a r n (nx a.next s x) ((x : Nat) : Int) es) es) (keyB (n + 1) s last) (.int .i64 (restN a r (n + 1) s last))
open Classical in
noncomputable def memS (a : GAuto) (r n : Nat) (s last : Int) (es : List (T × T)) (X : Nat) : List (T × T) := (List.range X).foldl (fun es x => if a.base = 1 ∧ last = 1 ∧ ((x : Nat) : Int) = 1 then es else memG a r n (nx a.next s x) ((x : Nat) : Int) es) es
section
variable {a : GAuto} {r n : Nat} {s last : Int} {es : List (T × T)}
theorem memS_zero : memS a r n s last es 0 = es := rfl
theorem memS_step {x : Nat} (h : ¬ (a.base = 1 ∧ last = 1 ∧ ((x : Nat) : Int) = 1)) : memS a r n s last es (x + 1) = memG a r n (nx a.next s x) (x : Int) (memS a r n s last es x) := by
  unfold memS
  rw [List.range_succ, List.foldl_append, List.foldl_cons, List.foldl_nil, if_neg h]
theorem memS_skip {x : Nat} (h : a.base = 1 ∧ last = 1 ∧ ((x : Nat) : Int) = 1) : memS a r n s last es (x + 1) = memS a r n s last es x := by
  unfold memS
  rw [List.range_succ, List.foldl_append, List.foldl_cons, List.foldl_nil, if_pos h]
theorem memG_old {v : T} (h : mapGet es (keyB (n + 1) s last) = some v) : memG a r (n + 1) s last es = es := by
  unfold memG; rw [if_pos (by rw [h]; rfl)]
theorem memG_new (h : mapGet es (keyB (n + 1) s last) = none) : memG a r (n + 1) s last es = mapSet (memS a r n s last es r) (keyB (n + 1) s last) (.int .i64 (restN a r (n + 1) s last)) := by
  unfold memG; rw [if_neg (by rw [h]; decide)]; rfl
end
theorem memG_ok {a : GAuto} {r : Nat} : ∀ (n : Nat) (s last : Int) (es : List (T × T)), MemOk a r es → MemOk a r (memG a r n s last es)
  | 0, _, _, _, h => h
  | n + 1, s, last, es, h => by
    cases hg : mapGet es (keyB (n + 1) s last) with
    | some v => rw [memG_old hg]; exact h
    | none =>
      rw [memG_new hg]
      refine MemOk.set ?_ _ _ _
      have key : ∀ X, MemOk a r (memS a r n s last es X) := fun X => by
        induction X with
        | zero => exact h
        | succ x ih =>
          by_cases e : a.base = 1 ∧ last = 1 ∧ ((x : Nat) : Int) = 1
          · rw [memS_skip e]; exact ih
          · rw [memS_step e]; exact memG_ok n _ _ _ ih
      exact key r
theorem memS_ok {a : GAuto} {r n : Nat} {s last : Int} {es : List (T × T)} (h : MemOk a r es) (X : Nat) : MemOk a r (memS a r n s last es X) := by
  induction X with
  | zero => exact h
  | succ x ih =>
    by_cases e : a.base = 1 ∧ last = 1 ∧ ((x : Nat) : Int) = 1
    · rw [memS_skip e]; exact ih
    · rw [memS_step e]; exact memG_ok n _ _ _ ih
end Go.Proofs.YtjidhaendndokaaDoor
namespace Go.Proofs.YtjidhaendndokaaDoor
open Go.RowKit

def tt0 : Nat → Option TI
  | 1 => some ⟨.plain, 1, 8, [.t .undef], false⟩
  | 2 => some ⟨.int .i64, 1, 8, [.t (.int .i64 0)], false⟩
  | 3 => some ⟨.int .i64, 1, 8, [.t (.int .i64 0)], false⟩
  | 4 => some ⟨.bool, 1, 1, [.t (.bool false)], false⟩
  | 5 => some ⟨.int .u8, 1, 1, [.t (.int .u8 0)], false⟩
  | 6 => some ⟨.int .u8, 1, 1, [.t (.int .u8 0)], false⟩
  | 7 => some ⟨.struct [(0, 1), (1, 1), (2, 1), (3, 1)], 4, 24, [.t (.int .i64 0), .t (.int .i64 0), .t (.bool false), .t (.int .u8 0)], false⟩
  | _ => none
def tt1 : Nat → Option TI
  | 8 => some ⟨.struct [(0, 1), (1, 1), (2, 1), (3, 1)], 4, 24, [.t (.int .i64 0), .t (.int .i64 0), .t (.bool false), .t (.int .u8 0)], false⟩
  | 9 => some ⟨.str, 1, 16, [.t (.str ByteArray.empty)], false⟩
  | 10 => some ⟨.str, 1, 16, [.t (.str ByteArray.empty)], false⟩
  | 11 => some ⟨.str, 1, 16, [.t (.str ByteArray.empty)], false⟩
  | 12 => some ⟨.int .u64, 1, 8, [.t (.int .u64 0)], false⟩
  | 13 => some ⟨.struct [(0, 1), (1, 1)], 2, 24, [.t (.str ByteArray.empty), .t (.int .u64 0)], false⟩
  | 14 => some ⟨.struct [(0, 1), (1, 1)], 2, 24, [.t (.str ByteArray.empty), .t (.int .u64 0)], false⟩
  | 15 => some ⟨.plain, 1, 8, [.t .undef], false⟩
  | _ => none
def tt2 : Nat → Option TI
  | 16 => some ⟨.plain, 1, 8, [.t .undef], false⟩
  | 17 => some ⟨.plain, 1, 8, [.t .undef], false⟩
  | 18 => some ⟨.struct [(0, 1)], 1, 8, [.t .undef], false⟩
  | 19 => some ⟨.struct [(0, 1)], 1, 8, [.t .undef], false⟩
  | 20 => some ⟨.iface, 1, 16, [.t .nilI], false⟩
  | 21 => some ⟨.int .i32, 1, 4, [.t (.int .i32 0)], false⟩
  | 22 => some ⟨.slice 38, 1, 24, [.nil], false⟩
  | 23 => some ⟨.slice 4, 1, 24, [.nil], false⟩
  | _ => none
def tt3 : Nat → Option TI
  | 24 => some ⟨.struct [(0, 1), (1, 1), (2, 1), (3, 1)], 4, 64, [.t (.int .i64 0), .t (.int .i64 0), .nil, .nil], false⟩
  | 25 => some ⟨.struct [(0, 1), (1, 1), (2, 1), (3, 1)], 4, 64, [.t (.int .i64 0), .t (.int .i64 0), .nil, .nil], false⟩
  | 26 => some ⟨.int .i64, 1, 8, [.t (.int .i64 0)], false⟩
  | 27 => some ⟨.plain, 1, 8, [.t .undef], false⟩
  | 28 => some ⟨.plain, 1, 8, [.t .undef], false⟩
  | 29 => some ⟨.iface, 1, 16, [.t .nilI], false⟩
  | 30 => some ⟨.iface, 1, 16, [.t .nilI], false⟩
  | _ => none
def tt4 : Nat → Option TI
  | 32 => some ⟨.plain, 1, 8, [.t .undef], false⟩
  | 33 => some ⟨.plain, 1, 8, [.t .undef], false⟩
  | 34 => some ⟨.plain, 1, 8, [.t .undef], false⟩
  | 35 => some ⟨.plain, 1, 8, [.t .undef], false⟩
  | 37 => some ⟨.plain, 1, 8, [.t .undef], false⟩
  | 38 => some ⟨.slice 3, 1, 24, [.nil], false⟩
  | _ => none
def tt5 : Nat → Option TI
  | 40 => some ⟨.plain, 1, 8, [.t .undef], false⟩
  | 41 => some ⟨.plain, 1, 8, [.t .undef], false⟩
  | 43 => some ⟨.plain, 1, 8, [.t .undef], false⟩
  | 44 => some ⟨.plain, 1, 8, [.t .undef], false⟩
  | 46 => some ⟨.plain, 1, 8, [.t .undef], false⟩
  | 47 => some ⟨.plain, 1, 8, [.t .undef], false⟩
  | _ => none
def tt6 : Nat → Option TI
  | 48 => some ⟨.plain, 1, 8, [.t .undef], false⟩
  | 49 => some ⟨.plain, 1, 8, [.t .undef], false⟩
  | 50 => some ⟨.plain, 1, 8, [.t .undef], false⟩
  | 52 => some ⟨.plain, 1, 8, [.t .undef], false⟩
  | 53 => some ⟨.slice 23, 1, 24, [.nil], false⟩
  | 55 => some ⟨.plain, 1, 8, [.t .undef], false⟩
  | _ => none
def tt7 : Nat → Option TI
  | 56 => some ⟨.plain, 1, 8, [.t .undef], false⟩
  | 57 => some ⟨.plain, 1, 8, [.t .undef], false⟩
  | 58 => some ⟨.plain, 1, 8, [.t .undef], false⟩
  | 59 => some ⟨.plain, 1, 8, [.t .undef], false⟩
  | 60 => some ⟨.plain, 1, 8, [.t .undef], false⟩
  | 61 => some ⟨.plain, 1, 8, [.t .undef], false⟩
  | 62 => some ⟨.plain, 1, 8, [.t .undef], false⟩
  | 63 => some ⟨.plain, 1, 8, [.t .undef], false⟩
  | _ => none
def tt8 : Nat → Option TI
  | 64 => some ⟨.plain, 1, 8, [.t .undef], false⟩
  | 65 => some ⟨.plain, 1, 8, [.t .undef], false⟩
  | 66 => some ⟨.map (.ints 3) 69 3, 1, 8, [.t .undef], false⟩
  | 67 => some ⟨.plain, 1, 8, [.t .undef], false⟩
  | 68 => some ⟨.struct [(0, 1), (1, 1), (2, 1)], 3, 24, [.t (.int .i64 0), .t (.int .i64 0), .t (.int .i64 0)], true⟩
  | 69 => some ⟨.struct [(0, 1), (1, 1), (2, 1)], 3, 24, [.t (.int .i64 0), .t (.int .i64 0), .t (.int .i64 0)], true⟩
  | 71 => some ⟨.plain, 1, 8, [.t .undef], false⟩
  | _ => none
def tt9 : Nat → Option TI
  | 72 => some ⟨.plain, 1, 8, [.t .undef], false⟩
  | 73 => some ⟨.plain, 1, 8, [.t .undef], false⟩
  | 74 => some ⟨.plain, 1, 8, [.t .undef], false⟩
  | 75 => some ⟨.plain, 1, 8, [.t .undef], false⟩
  | 76 => some ⟨.plain, 1, 8, [.t .undef], false⟩
  | 77 => some ⟨.plain, 1, 8, [.t .undef], false⟩
  | 78 => some ⟨.plain, 1, 8, [.t .undef], false⟩
  | 79 => some ⟨.plain, 1, 8, [.t .undef], false⟩
  | _ => none
def tt10 : Nat → Option TI
  | 80 => some ⟨.plain, 1, 8, [.t .undef], false⟩
  | 81 => some ⟨.plain, 1, 8, [.t .undef], false⟩
  | 82 => some ⟨.array 64 3, 64, 512, [.t (.int .i64 0), .t (.int .i64 0), .t (.int .i64 0), .t (.int .i64 0), .t (.int .i64 0), .t (.int .i64 0), .t (.int .i64 0), .t (.int .i64 0), .t (.int .i64 0), .t (.int .i64 0), .t (.int .i64 0), .t (.int .i64 0), .t (.int .i64 0), .t (.int .i64 0), .t (.int .i64 0), .t (.int .i64 0), .t (.int .i64 0), .t (.int .i64 0), .t (.int .i64 0), .t (.int .i64 0), .t (.int .i64 0), .t (.int .i64 0), .t (.int .i64 0), .t (.int .i64 0), .t (.int .i64 0), .t (.int .i64 0), .t (.int .i64 0), .t (.int .i64 0), .t (.int .i64 0), .t (.int .i64 0), .t (.int .i64 0), .t (.int .i64 0), .t (.int .i64 0), .t (.int .i64 0), .t (.int .i64 0), .t (.int .i64 0), .t (.int .i64 0), .t (.int .i64 0), .t (.int .i64 0), .t (.int .i64 0), .t (.int .i64 0), .t (.int .i64 0), .t (.int .i64 0), .t (.int .i64 0), .t (.int .i64 0), .t (.int .i64 0), .t (.int .i64 0), .t (.int .i64 0), .t (.int .i64 0), .t (.int .i64 0), .t (.int .i64 0), .t (.int .i64 0), .t (.int .i64 0), .t (.int .i64 0), .t (.int .i64 0), .t (.int .i64 0), .t (.int .i64 0), .t (.int .i64 0), .t (.int .i64 0), .t (.int .i64 0), .t (.int .i64 0), .t (.int .i64 0), .t (.int .i64 0), .t (.int .i64 0)], false⟩
  | 84 => some ⟨.int .u64, 1, 8, [.t (.int .u64 0)], false⟩
  | 85 => some ⟨.struct [(0, 1), (1, 1), (2, 1)], 3, 24, [.t .undef, .t .undef, .t (.int .u64 0)], false⟩
  | 86 => some ⟨.struct [(0, 1), (1, 1), (2, 1)], 3, 24, [.t .undef, .t .undef, .t (.int .u64 0)], false⟩
  | 87 => some ⟨.plain, 1, 8, [.t .undef], false⟩
  | _ => none
def tt11 : Nat → Option TI
  | 88 => some ⟨.iface, 1, 16, [.t .nilI], false⟩
  | 89 => some ⟨.iface, 1, 16, [.t .nilI], false⟩
  | 90 => some ⟨.plain, 1, 8, [.t .undef], false⟩
  | 91 => some ⟨.int .u8, 1, 1, [.t (.int .u8 0)], false⟩
  | 92 => some ⟨.plain, 1, 8, [.t .undef], false⟩
  | 93 => some ⟨.plain, 1, 8, [.t .undef], false⟩
  | 94 => some ⟨.plain, 1, 8, [.t .undef], false⟩
  | 95 => some ⟨.plain, 1, 8, [.t .undef], false⟩
  | _ => none
def tt12 : Nat → Option TI
  | 96 => some ⟨.plain, 1, 8, [.t .undef], false⟩
  | 97 => some ⟨.plain, 1, 8, [.t .undef], false⟩
  | 98 => some ⟨.struct [(0, 1)], 1, 8, [.t .undef], false⟩
  | 99 => some ⟨.struct [(0, 1)], 1, 8, [.t .undef], false⟩
  | 100 => some ⟨.plain, 1, 8, [.t .undef], false⟩
  | 101 => some ⟨.plain, 1, 8, [.t .undef], false⟩
  | 102 => some ⟨.plain, 1, 8, [.t .undef], false⟩
  | 103 => some ⟨.plain, 1, 8, [.t .undef], false⟩
  | _ => none
def tt13 : Nat → Option TI
  | 104 => some ⟨.iface, 1, 16, [.t .nilI], false⟩
  | 106 => some ⟨.plain, 1, 8, [.t .undef], false⟩
  | 107 => some ⟨.iface, 1, 16, [.t .nilI], false⟩
  | 108 => some ⟨.plain, 1, 8, [.t .undef], false⟩
  | 109 => some ⟨.iface, 1, 16, [.t .nilI], false⟩
  | 110 => some ⟨.slice 30, 1, 24, [.nil], false⟩
  | 111 => some ⟨.plain, 1, 8, [.t .undef], false⟩
  | _ => none
def tt14 : Nat → Option TI
  | 112 => some ⟨.plain, 1, 8, [.t .undef], false⟩
  | 113 => some ⟨.struct [(0, 1), (1, 1), (2, 1), (3, 1)], 4, 40, [.t .undef, .t .undef, .t .undef, .t (.str ByteArray.empty)], false⟩
  | 114 => some ⟨.struct [(0, 1), (1, 1), (2, 1), (3, 1)], 4, 40, [.t .undef, .t .undef, .t .undef, .t (.str ByteArray.empty)], false⟩
  | 118 => some ⟨.plain, 1, 8, [.t .undef], false⟩
  | 119 => some ⟨.plain, 1, 8, [.t .undef], false⟩
  | _ => none
def tt15 : Nat → Option TI
  | 120 => some ⟨.int .u32, 1, 4, [.t (.int .u32 0)], false⟩
  | 121 => some ⟨.int .u8, 1, 1, [.t (.int .u8 0)], false⟩
  | 122 => some ⟨.plain, 1, 8, [.t .undef], false⟩
  | 123 => some ⟨.plain, 1, 8, [.t .undef], false⟩
  | 124 => some ⟨.int .i32, 1, 4, [.t (.int .i32 0)], false⟩
  | 125 => some ⟨.int .i32, 1, 4, [.t (.int .i32 0)], false⟩
  | 126 => some ⟨.struct [(0, 1), (1, 1), (2, 1), (3, 1), (4, 1), (5, 1), (6, 1), (7, 1), (8, 1), (9, 1), (10, 1)], 11, 48, [.t (.int .u64 0), .t (.int .u64 0), .t (.int .u32 0), .t (.int .u8 0), .t (.int .u8 0), .t (.int .u8 0), .t (.int .u8 0), .t .undef, .t .undef, .t (.int .i32 0), .t (.int .i32 0)], false⟩
  | 127 => some ⟨.struct [(0, 1), (1, 1), (2, 1), (3, 1), (4, 1), (5, 1), (6, 1), (7, 1), (8, 1), (9, 1), (10, 1)], 11, 48, [.t (.int .u64 0), .t (.int .u64 0), .t (.int .u32 0), .t (.int .u8 0), .t (.int .u8 0), .t (.int .u8 0), .t (.int .u8 0), .t .undef, .t .undef, .t (.int .i32 0), .t (.int .i32 0)], false⟩
  | _ => none
def tt16 : Nat → Option TI
  | 128 => some ⟨.plain, 1, 8, [.t .undef], false⟩
  | 129 => some ⟨.plain, 1, 8, [.t .undef], false⟩
  | 130 => some ⟨.struct [(0, 1), (1, 1)], 2, 24, [.t (.str ByteArray.empty), .t (.int .u8 0)], false⟩
  | 131 => some ⟨.struct [(0, 1), (1, 1)], 2, 24, [.t (.str ByteArray.empty), .t (.int .u8 0)], false⟩
  | 132 => some ⟨.plain, 1, 8, [.t .undef], false⟩
  | 133 => some ⟨.plain, 1, 8, [.t .undef], false⟩
  | 134 => some ⟨.int .u16, 1, 2, [.t (.int .u16 0)], false⟩
  | 135 => some ⟨.struct [(0, 1), (1, 1), (2, 1), (3, 1), (4, 1)], 5, 16, [.t (.int .i32 0), .t (.int .u16 0), .t (.int .u16 0), .t (.int .u32 0), .t (.int .u32 0)], false⟩
  | _ => none
def tt17 : Nat → Option TI
  | 136 => some ⟨.struct [(0, 1), (1, 1), (2, 1), (3, 1), (4, 1)], 5, 16, [.t (.int .i32 0), .t (.int .u16 0), .t (.int .u16 0), .t (.int .u32 0), .t (.int .u32 0)], false⟩
  | 137 => some ⟨.slice 140, 1, 24, [.nil], false⟩
  | 138 => some ⟨.int .i32, 1, 4, [.t (.int .i32 0)], false⟩
  | 139 => some ⟨.struct [(0, 1), (1, 1), (2, 1), (3, 1)], 4, 16, [.t (.int .i32 0), .t (.int .i32 0), .t (.int .i32 0), .t (.int .i32 0)], false⟩
  | 140 => some ⟨.struct [(0, 1), (1, 1), (2, 1), (3, 1)], 4, 16, [.t (.int .i32 0), .t (.int .i32 0), .t (.int .i32 0), .t (.int .i32 0)], false⟩
  | 141 => some ⟨.plain, 1, 8, [.t .undef], false⟩
  | _ => none
def tts0 (n : Nat) : Nat → Option TI
  | 0 => tt0 n
  | 1 => tt1 n
  | 2 => tt2 n
  | 3 => tt3 n
  | 4 => tt4 n
  | 5 => tt5 n
  | 6 => tt6 n
  | 7 => tt7 n
  | _ => none
def tts1 (n : Nat) : Nat → Option TI
  | 8 => tt8 n
  | 9 => tt9 n
  | 10 => tt10 n
  | 11 => tt11 n
  | 12 => tt12 n
  | 13 => tt13 n
  | 14 => tt14 n
  | 15 => tt15 n
  | _ => none
def tts2 (n : Nat) : Nat → Option TI
  | 16 => tt16 n
  | 17 => tt17 n
  | _ => none
def tt (n : Nat) : Option TI := match n / 64 with
  | 0 => tts0 n (n / 8)
  | 1 => tts1 n (n / 8)
  | 2 => tts2 n (n / 8)
  | _ => none
set_option maxRecDepth 100000
theorem laid : laidOutB Tryd.prog = true := by kernel_rfl
theorem small : Tryd.prog.types.size + 2 ≤ 10000 := of_decide_eq_true (by kernel_rfl)
theorem tt0_ok : TTok Tryd.prog tt0 := by
  intro t i h
  unfold tt0 at h
  split at h <;> first
    | (cases h; exact chkTI_ok laid small (by kernel_rfl))
    | cases h
theorem tt1_ok : TTok Tryd.prog tt1 := by
  intro t i h
  unfold tt1 at h
  split at h <;> first
    | (cases h; exact chkTI_ok laid small (by kernel_rfl))
    | cases h
theorem tt2_ok : TTok Tryd.prog tt2 := by
  intro t i h
  unfold tt2 at h
  split at h <;> first
    | (cases h; exact chkTI_ok laid small (by kernel_rfl))
    | cases h
theorem tt3_ok : TTok Tryd.prog tt3 := by
  intro t i h
  unfold tt3 at h
  split at h <;> first
    | (cases h; exact chkTI_ok laid small (by kernel_rfl))
    | cases h
theorem tt4_ok : TTok Tryd.prog tt4 := by
  intro t i h
  unfold tt4 at h
  split at h <;> first
    | (cases h; exact chkTI_ok laid small (by kernel_rfl))
    | cases h
theorem tt5_ok : TTok Tryd.prog tt5 := by
  intro t i h
  unfold tt5 at h
  split at h <;> first
    | (cases h; exact chkTI_ok laid small (by kernel_rfl))
    | cases h
theorem tt6_ok : TTok Tryd.prog tt6 := by
  intro t i h
  unfold tt6 at h
  split at h <;> first
    | (cases h; exact chkTI_ok laid small (by kernel_rfl))
    | cases h
theorem tt7_ok : TTok Tryd.prog tt7 := by
  intro t i h
  unfold tt7 at h
  split at h <;> first
    | (cases h; exact chkTI_ok laid small (by kernel_rfl))
    | cases h
theorem tt8_ok : TTok Tryd.prog tt8 := by
  intro t i h
  unfold tt8 at h
  split at h <;> first
    | (cases h; exact chkTI_ok laid small (by kernel_rfl))
    | cases h
theorem tt9_ok : TTok Tryd.prog tt9 := by
  intro t i h
  unfold tt9 at h
  split at h <;> first
    | (cases h; exact chkTI_ok laid small (by kernel_rfl))
    | cases h
theorem tt10_ok : TTok Tryd.prog tt10 := by
  intro t i h
  unfold tt10 at h
  split at h <;> first
    | (cases h; exact chkTI_ok laid small (by kernel_rfl))
    | cases h
theorem tt11_ok : TTok Tryd.prog tt11 := by
  intro t i h
  unfold tt11 at h
  split at h <;> first
    | (cases h; exact chkTI_ok laid small (by kernel_rfl))
    | cases h
theorem tt12_ok : TTok Tryd.prog tt12 := by
  intro t i h
  unfold tt12 at h
  split at h <;> first
    | (cases h; exact chkTI_ok laid small (by kernel_rfl))
    | cases h
theorem tt13_ok : TTok Tryd.prog tt13 := by
  intro t i h
  unfold tt13 at h
  split at h <;> first
    | (cases h; exact chkTI_ok laid small (by kernel_rfl))
    | cases h
theorem tt14_ok : TTok Tryd.prog tt14 := by
  intro t i h
  unfold tt14 at h
  split at h <;> first
    | (cases h; exact chkTI_ok laid small (by kernel_rfl))
    | cases h
theorem tt15_ok : TTok Tryd.prog tt15 := by
  intro t i h
  unfold tt15 at h
  split at h <;> first
    | (cases h; exact chkTI_ok laid small (by kernel_rfl))
    | cases h
theorem tt16_ok : TTok Tryd.prog tt16 := by
  intro t i h
  unfold tt16 at h
  split at h <;> first
    | (cases h; exact chkTI_ok laid small (by kernel_rfl))
    | cases h
theorem tt17_ok : TTok Tryd.prog tt17 := by
  intro t i h
  unfold tt17 at h
  split at h <;> first
    | (cases h; exact chkTI_ok laid small (by kernel_rfl))
    | cases h
theorem tts0_ok (k : Nat) : TTok Tryd.prog (fun n => tts0 n k) := by
  intro t i h
  unfold tts0 at h
  split at h <;> first
    | exact tt0_ok _ _ h
    | exact tt1_ok _ _ h
    | exact tt2_ok _ _ h
    | exact tt3_ok _ _ h
    | exact tt4_ok _ _ h
    | exact tt5_ok _ _ h
    | exact tt6_ok _ _ h
    | exact tt7_ok _ _ h
    | cases h
theorem tts1_ok (k : Nat) : TTok Tryd.prog (fun n => tts1 n k) := by
  intro t i h
  unfold tts1 at h
  split at h <;> first
    | exact tt8_ok _ _ h
    | exact tt9_ok _ _ h
    | exact tt10_ok _ _ h
    | exact tt11_ok _ _ h
    | exact tt12_ok _ _ h
    | exact tt13_ok _ _ h
    | exact tt14_ok _ _ h
    | exact tt15_ok _ _ h
    | cases h
theorem tts2_ok (k : Nat) : TTok Tryd.prog (fun n => tts2 n k) := by
  intro t i h
  unfold tts2 at h
  split at h <;> first
    | exact tt16_ok _ _ h
    | exact tt17_ok _ _ h
    | cases h
theorem tt_ok : TTok Tryd.prog tt := by
  intro t i h
  unfold tt at h
  split at h <;> first
    | exact tts0_ok _ _ _ h
    | exact tts1_ok _ _ _ h
    | exact tts2_ok _ _ _ h
    | cases h
end Go.Proofs.YtjidhaendndokaaDoor
namespace Go.Proofs.YtjidhaendndokaaDoor
open Go.RowKit

attribute [go_sem] nLe nNle nLt nNlt nEq nNe iLe iNle iLt iNlt iEq iNe
attribute [go_sem] runOps stepOp stepOp0 stepOp1 evalOp dstOk St.ev.eq_1 St.ev.eq_2 St.ev.eq_3 St.ev.eq_4 ofConst St.get
attribute [go_sem] St.put look T.bin isConst mkFn allT St.len St.lst St.obj St.load loadT loadS
attribute [go_sem] mkAgg TK.isAgg St.index treeIndex SV.plus T.cells T.max2 T.min2 fillS SV.storable T.storable SV.cells
attribute [go_sem] St.litS idxOk zipFrz frz frzC frzL St.append St.appLen scrub St.bd SV.ren renL
attribute [go_sem] Ob.ren St.store T.put TI.zT SV.toT0 List.length_replicate List.getElem?_replicate Nat.one_mul Nat.mul_one List.isEmpty_cons List.isEmpty_nil or_self
attribute [go_sem] true_or or_true false_or or_false and_self decide_eq_true_eq if_true if_false ite_true ite_false Option.getD_some Option.getD_none
attribute [go_sem] Option.map_some Option.map_none Option.bind_some Option.bind_none decide_true decide_false Bool.true_and Bool.and_true Bool.false_and Bool.and_false Bool.not_true Bool.not_false
attribute [go_sem] beq_self_eq_true List.getElem?_cons_zero List.getElem?_cons_succ List.map_cons List.map_nil List.cons_append List.nil_append List.length_cons List.length_nil List.toList_toArray true_and and_true
attribute [go_sem] false_and and_false List.all_cons List.all_nil List.drop_zero List.drop_succ_cons List.take_succ_cons List.take_zero List.head?_cons List.set_cons_zero List.set_cons_succ Bool.or_true
attribute [go_sem] Bool.true_or Bool.or_false Bool.false_or ne_eq not_true_eq_false not_false_eq_true Nat.zero_add List.getElem?_toArray tInt tNat tInts tBools
attribute [go_sem] tIntss wrap_i64 List.getElem?_map List.length_map Int.toNat_natCast List.all_map stepX stepX0 evalX St.callR findCo
attribute [go_sem] St.litQ St.sliceQ St.rdL St.rd St.trL St.tr T.flatData flatAll lookR St.mapUp St.slice strSlice
attribute [go_sem] T.okKey T.inR bytesOf eq_self stepI quietOp St.ownAll St.own setSlot true_implies implies_true false_implies
attribute [go_sem] keepL reach addNew refsL SV.refs Ob.refs List.append_nil List.mem_cons List.not_mem_nil List.getElem?_nil posIn St.resL
attribute [go_sem] St.res1 St.gc St.head
theorem gb_a (l : List Int) (k : Nat) (h : k < l.length) : l[k]? = some l[k]! := get_bang l k h
theorem gb_b (l : List Bool) (k : Nat) (h : k < l.length) : l[k]? = some l[k]! := get_bang l k h
theorem gb_c (l : List (List Int)) (k : Nat) (h : k < l.length) : l[k]? = some l[k]! := get_bang l k h
theorem gb_d (l : List Nat) (k : Nat) (h : k < l.length) : l[k]? = some l[k]! := get_bang l k h
theorem gb_e (l : List T) (k : Nat) (h : k < l.length) : l[k]? = some l[k]! := get_bang l k h
theorem gb_f (l : List (List (List Int))) (k : Nat) (h : k < l.length) : l[k]? = some l[k]! := get_bang l k h
theorem gb_g (l : List (List Bool)) (k : Nat) (h : k < l.length) : l[k]? = some l[k]! := get_bang l k h
theorem gb_h (l : List (List Nat)) (k : Nat) (h : k < l.length) : l[k]? = some l[k]! := get_bang l k h
theorem gb_i (l : List (List (List (List Int)))) (k : Nat) (h : k < l.length) : l[k]? = some l[k]! := get_bang l k h
theorem gb_j (l : List (Int × Int)) (k : Nat) (h : k < l.length) : l[k]? = some l[k]! := get_bang l k h
theorem gb_k (l : List (Nat × Nat)) (k : Nat) (h : k < l.length) : l[k]? = some l[k]! := get_bang l k h
theorem gb_l (l : List UInt8) (k : Nat) (h : k < l.length) : l[k]? = some l[k]! := get_bang l k h
theorem gb_m (l : List (List T)) (k : Nat) (h : k < l.length) : l[k]? = some l[k]! := get_bang l k h
theorem gb_n (l : List String) (k : Nat) (h : k < l.length) : l[k]? = some l[k]! := get_bang l k h
theorem gb_o (l : List (Int × Int × Int)) (k : Nat) (h : k < l.length) : l[k]? = some l[k]! := get_bang l k h
theorem gb_p (l : List (T × T)) (k : Nat) (h : k < l.length) : l[k]? = some l[k]! := get_bang l k h
theorem gb_q (l : List (List (Int × Int))) (k : Nat) (h : k < l.length) : l[k]? = some l[k]! := get_bang l k h
theorem gb_r (l : List (Nat × Nat × Nat)) (k : Nat) (h : k < l.length) : l[k]? = some l[k]! := get_bang l k h
theorem gb_s (l : List (List UInt8)) (k : Nat) (h : k < l.length) : l[k]? = some l[k]! := get_bang l k h
theorem gb_t (l : List (List (T × T))) (k : Nat) (h : k < l.length) : l[k]? = some l[k]! := get_bang l k h
theorem gb_u (l : List (List (Int × Int))) (k : Nat) (h : k < l.length) : l[k]? = some l[k]! := get_bang l k h
attribute [go_sem] gb_a gb_b gb_c gb_d gb_e gb_f gb_g gb_h gb_i gb_j gb_k gb_l gb_m gb_n gb_o gb_p gb_q gb_r gb_s gb_t gb_u
attribute [go_sem] T.beqA eqIs SV.gd Option.some.injEq
attribute [go_sem] St.sliceA T.isCell stepA allocAt List.lookup
attribute [go_sem] St.res tt tts0 tts1 tts2 tt0 tt1 tt2 tt3 tt4 tt5 tt6 tt7 tt8 tt9 tt10 tt11 tt12 tt13 tt14 tt15 tt16 tt17
theorem w1 : type_of% @SW_seq := @SW_seq
theorem w2 : type_of% @SW_block := @SW_block
theorem w3 : type_of% @SThen_n := @SThen_n
theorem w4 : type_of% @SThen_r := @SThen_r
theorem w5 : type_of% @SThen_e := @SThen_e
theorem w6 : type_of% @SIn_n := @SIn_n
theorem w7 : type_of% @SIn_r := @SIn_r
theorem w8 : type_of% @SIn_eq := @SIn_eq
theorem w9 : type_of% @SW_skip := @SW_skip
theorem wa : type_of% @SW_exit := @SW_exit
theorem wb : type_of% @SW_ret := @SW_ret
theorem wc : type_of% @SPost_r := @SPost_r
theorem wd : type_of% @SIn_ne := @SIn_ne
theorem we : type_of% @SW_true := @SW_true
theorem wf : type_of% @SW_false := @SW_false
theorem wg : type_of% @runX_nil := @runX_nil
theorem wh : type_of% @runI_nil := @runI_nil
theorem wi : type_of% @runX_cons := @runX_cons
theorem wj : type_of% @runI_cons := @runI_cons
end Go.Proofs.YtjidhaendndokaaDoor
namespace Go.Proofs.YtjidhaendndokaaDoor
open Go.RowKit

def tErr (e : Int) : T := if e = 0 then .nilI else .iface 26 (.int .i64 e)
theorem tErr0 : tErr 0 = .nilI := rfl
def tAuto (a : GAuto) : T := .agg [tInt a.base, tInt a.tracks, tIntss a.next, tBools a.ends]
def I64s (l : List Int) : Prop := ∀ x ∈ l, I64 x
structure I64A (a : GAuto) : Prop where
  base : I64 a.base
  tracks : I64 a.tracks
  next : ∀ r ∈ a.next, I64s r
section
variable {P : Program} {G : World → Prop}
theorem enter_of {f : Nat} {fn : Func} {c : Code} (hf : P.funcs[f]? = some fn) (hb : fn.body = some c) (hn : (fn.name == "runtime.NumGoroutine") = false) (vs : Array Value) (w : World) : (callFunc f vs).run P w = .ok (.enter f vs) w := by
  unfold callFunc
  rw [Sem.run_bind, run_program, Result.andThen_ok]
  simp only [hf, hn, hb, Option.isNone_some, Bool.false_eq_true, if_false]
  rfl
theorem snd2 {f : Nat} {fn : Func} {c : Code} {x y r : T} (hf : P.funcs[f]? = some fn) (hb : fn.body = some c) (hn : (fn.name == "runtime.NumGoroutine") = false)
    (h : ∀ (S : Nat → Prop) (w : World) (v u : Value), G w → (∀ b, S b → b < w.heap.size) → RepT S w x v → RepT S w y u → ∃ V, Calls P f #[v, u] w (fun e w' => e = .returned V ∧ Below w.heap.size w w') ∧ ∀ S w, RepT S w r V) : Snd P G f [x, y] r := by
  refine ⟨enter_of hf hb hn, fun S w vs hG hs hr => ?_⟩
  obtain ⟨l⟩ := vs
  match l, hs with
  | [v0, v1], _ =>
    obtain ⟨V, h1, h2⟩ := h (fun b => S b ∧ b < w.heap.size) w v0 v1 hG (fun b hb => hb.2) ((hr 0 _ v0 rfl rfl).keep ⟨Nat.le_refl _, fun b hb hlt => ⟨rfl, hb, hlt⟩⟩) ((hr 1 _ v1 rfl rfl).keep ⟨Nat.le_refl _, fun b hb hlt => ⟨rfl, hb, hlt⟩⟩)
    exact h1.mono fun e w' hq => ⟨V, hq.1, h2 _ _, hq.2⟩
end
theorem intInv {S : Nat → Prop} {w : World} {n : Int} {v : Value} (h : RepT S w (tInt n) v) : v = .int .i64 n := by cases h; rfl
theorem bang_get {α : Type} [Inhabited α] {l : List α} {i : Nat} {x : α} (h : l[i]! = x) (hi : i < l.length) : l[i]? = some x := by rw [← h, getElem!_pos l i hi]; exact List.getElem?_eq_getElem hi
theorem bang_mem {α : Type} [Inhabited α] {l : List α} {i : Nat} {x : α} (h : l[i]! = x) (hi : i < l.length) : x ∈ l := List.mem_of_getElem? (bang_get h hi)
theorem bang_D {α : Type} [Inhabited α] {l : List α} {i : Nat} {x d : α} (h : l[i]! = x) (hi : i < l.length) : l.getD i d = x := by rw [getD_lt hi, ← h, getElem!_pos l i hi]
theorem bang_at {α : Type} [Inhabited α] {l : List α} {i : Nat} {x : α} (h : l[i]! = x) (hi : i < l.length) : l[i] = x := by rw [← h, getElem!_pos l i hi]
theorem take_next {α : Type} [Inhabited α] {l : List α} {i : Nat} {x : α} (h : l[i]! = x) (hi : i < l.length) : l.take (i + 1) = l.take i ++ [x] := by
  rw [List.take_succ_eq_append_getElem hi, bang_at h hi]
theorem nextOf_bang {next : List (List Int)} {s l u : Int} {row : List Int} (hrow : next[s.toNat]! = row) (hs : s.toNat < next.length) (hu : row[l.toNat]! = u) (hl : l.toNat < row.length) : nextOf next s l = u := by
  unfold nextOf; rw [bang_D hrow hs, bang_D hu hl]
theorem runFrom_take (next : List (List Int)) {w : List Int} {i : Nat} {x : Int} (hx : w[i]! = x) (hi : i < w.length) (s : Int) : runFrom next s (w.take (i + 1)) = nextOf next (runFrom next s (w.take i)) x := by
  rw [take_next hx hi, runFrom_append]; rfl
section
variable {G : World → Prop} (hG : Lasting G)
include hG
theorem Radix_snd (base : Int) : Snd Tryd.prog G 34 [tInt base] (tInt (radix base)) := by
  have htb : Tab.ok Tryd.prog G [] := Tab.nil
  refine snd_of_body (n := 12) (tm := [(0, .t (tInt base))]) (rs := [.tmp 2]) tt_ok Tryd.func34 rfl rfl rfl rfl rfl ?_
  unfold radix
  by_cases h1 : base = 1
  · repeat' (first | (with_reducible first | apply w1 | apply w2 | apply w3 | apply w4 | apply w5 | apply w6 | apply w7 | apply w8 | apply w9 | apply wa | apply wb | apply wc) | ((with_reducible apply wd); focus decide) | ((with_reducible apply we); focus exact rfl) | ((with_reducible apply wf); focus exact rfl) | ((first | (with_reducible apply SW_run tt_ok hG htb) | ((with_reducible apply SW_draw rfl tt_ok hG htb); (focus kernel_rfl); focus simp only [List.range, List.range.loop, List.size_toArray, List.length_cons, List.length_nil, Nat.reduceAdd])); focus ((repeat' (first | (with_reducible first | exact wg | exact wh) | ((with_reducible first | apply wi | apply wj); focus (simp (discharger := omega) only [go_sem, h1, simprocAttr]; with_reducible rfl)))); done)))
    exact (by simp (discharger := omega) only [go_sem, h1, simprocAttr])
  · by_cases h2 : 2 ≤ base
    · by_cases h3 : base ≤ 6
      · repeat' (first | (with_reducible first | apply w1 | apply w2 | apply w3 | apply w4 | apply w5 | apply w6 | apply w7 | apply w8 | apply w9 | apply wa | apply wb | apply wc) | ((with_reducible apply wd); focus decide) | ((with_reducible apply we); focus exact rfl) | ((with_reducible apply wf); focus exact rfl) | ((first | (with_reducible apply SW_run tt_ok hG htb) | ((with_reducible apply SW_draw rfl tt_ok hG htb); (focus kernel_rfl); focus simp only [List.range, List.range.loop, List.size_toArray, List.length_cons, List.length_nil, Nat.reduceAdd])); focus ((repeat' (first | (with_reducible first | exact wg | exact wh) | ((with_reducible first | apply wi | apply wj); focus (simp (discharger := omega) only [go_sem, simprocAttr]; with_reducible rfl)))); done)))
        exact (by simp (discharger := omega) only [go_sem, simprocAttr])
      · repeat' (first | (with_reducible first | apply w1 | apply w2 | apply w3 | apply w4 | apply w5 | apply w6 | apply w7 | apply w8 | apply w9 | apply wa | apply wb | apply wc) | ((with_reducible apply wd); focus decide) | ((with_reducible apply we); focus exact rfl) | ((with_reducible apply wf); focus exact rfl) | ((first | (with_reducible apply SW_run tt_ok hG htb) | ((with_reducible apply SW_draw rfl tt_ok hG htb); (focus kernel_rfl); focus simp only [List.range, List.range.loop, List.size_toArray, List.length_cons, List.length_nil, Nat.reduceAdd])); focus ((repeat' (first | (with_reducible first | exact wg | exact wh) | ((with_reducible first | apply wi | apply wj); focus (simp (discharger := omega) only [go_sem, simprocAttr]; with_reducible rfl)))); done)))
        exact (by simp (discharger := omega) only [go_sem, simprocAttr])
    · repeat' (first | (with_reducible first | apply w1 | apply w2 | apply w3 | apply w4 | apply w5 | apply w6 | apply w7 | apply w8 | apply w9 | apply wa | apply wb | apply wc) | ((with_reducible apply wd); focus decide) | ((with_reducible apply we); focus exact rfl) | ((with_reducible apply wf); focus exact rfl) | ((first | (with_reducible apply SW_run tt_ok hG htb) | ((with_reducible apply SW_draw rfl tt_ok hG htb); (focus kernel_rfl); focus simp only [List.range, List.range.loop, List.size_toArray, List.length_cons, List.length_nil, Nat.reduceAdd])); focus ((repeat' (first | (with_reducible first | exact wg | exact wh) | ((with_reducible first | apply wi | apply wj); focus (simp (discharger := omega) only [go_sem, simprocAttr]; with_reducible rfl)))); done)))
      exact (by simp (discharger := omega) only [go_sem, simprocAttr])
set_option maxHeartbeats 4000000 in
theorem Many_snd (base t : Int) : Snd Tryd.prog G 33 [tInt base, tInt t] (.tup [tInt (manyOf base t), tErr (manyErr base t)]) := by
  have htb := Tab.cons (Radix_snd hG base) Tab.nil
  refine snd_of_body (n := 32) (tm := [(0, .t (tInt base)), (1, .t (tInt t))]) (rs := [.tmp 4, .tmp 5]) tt_ok Tryd.func33 rfl rfl rfl rfl rfl ?_
  unfold manyOf manyErr
  generalize hk : radix base = k at htb ⊢
  by_cases h1 : k = 0
  · subst h1
    repeat' (first | (with_reducible first | apply w1 | apply w2 | apply w3 | apply w4 | apply w5 | apply w6 | apply w7 | apply w8 | apply w9 | apply wa | apply wb | apply wc) | ((with_reducible apply wd); focus decide) | ((with_reducible apply we); focus exact rfl) | ((with_reducible apply wf); focus exact rfl) | ((first | (with_reducible apply SW_run tt_ok hG htb) | ((with_reducible apply SW_draw rfl tt_ok hG htb); (focus kernel_rfl); focus simp only [List.range, List.range.loop, List.size_toArray, List.length_cons, List.length_nil, Nat.reduceAdd])); focus ((repeat' (first | (with_reducible first | exact wg | exact wh) | ((with_reducible first | apply wi | apply wj); focus (simp (discharger := omega) only [go_sem, simprocAttr]; with_reducible rfl)))); done)))
    exact (by simp (discharger := omega) only [go_sem, tErr, simprocAttr])
  · by_cases h2 : t < 0
    · repeat' (first | (with_reducible first | apply w1 | apply w2 | apply w3 | apply w4 | apply w5 | apply w6 | apply w7 | apply w8 | apply w9 | apply wa | apply wb | apply wc) | ((with_reducible apply wd); focus decide) | ((with_reducible apply we); focus exact rfl) | ((with_reducible apply wf); focus exact rfl) | ((first | (with_reducible apply SW_run tt_ok hG htb) | ((with_reducible apply SW_draw rfl tt_ok hG htb); (focus kernel_rfl); focus simp only [List.range, List.range.loop, List.size_toArray, List.length_cons, List.length_nil, Nat.reduceAdd])); focus ((repeat' (first | (with_reducible first | exact wg | exact wh) | ((with_reducible first | apply wi | apply wj); focus (simp (discharger := omega) only [go_sem, simprocAttr]; with_reducible rfl)))); done)))
      exact (by simp (discharger := omega) only [go_sem, tErr, simprocAttr])
    · by_cases h3 : 5 < t
      · repeat' (first | (with_reducible first | apply w1 | apply w2 | apply w3 | apply w4 | apply w5 | apply w6 | apply w7 | apply w8 | apply w9 | apply wa | apply wb | apply wc) | ((with_reducible apply wd); focus decide) | ((with_reducible apply we); focus exact rfl) | ((with_reducible apply wf); focus exact rfl) | ((first | (with_reducible apply SW_run tt_ok hG htb) | ((with_reducible apply SW_draw rfl tt_ok hG htb); (focus kernel_rfl); focus simp only [List.range, List.range.loop, List.size_toArray, List.length_cons, List.length_nil, Nat.reduceAdd])); focus ((repeat' (first | (with_reducible first | exact wg | exact wh) | ((with_reducible first | apply wi | apply wj); focus (simp (discharger := omega) only [go_sem, simprocAttr]; with_reducible rfl)))); done)))
        exact (by simp (discharger := omega) only [go_sem, tErr, simprocAttr])
      · obtain ⟨r2, r6⟩ := radix_two (b := base) (by omega)
        rw [hk] at r2 r6
        obtain ⟨t, rfl⟩ := Int.eq_ofNat_of_zero_le (show 0 ≤ t by omega)
        rw [show (if k = 0 ∨ (t : Int) < 0 ∨ 5 < (t : Int) then (1 : Int) else if 36 < powW k (t : Int).toNat then 3 else 0) = if 36 < powW k t then 3 else 0 by rw [if_neg (by omega)]; rfl]
        repeat' (first | (with_reducible first | apply w1 | apply w2 | apply w3 | apply w4 | apply w5 | apply w6 | apply w7 | apply w8 | apply w9 | apply wa | apply wb | apply wc) | ((with_reducible apply wd); focus decide) | ((with_reducible apply we); focus exact rfl) | ((with_reducible apply wf); focus exact rfl) | ((first | (with_reducible apply SW_run tt_ok hG htb) | ((with_reducible apply SW_draw rfl tt_ok hG htb); (focus kernel_rfl); focus simp only [List.range, List.range.loop, List.size_toArray, List.length_cons, List.length_nil, Nat.reduceAdd])); focus ((repeat' (first | (with_reducible first | exact wg | exact wh) | ((with_reducible first | apply wi | apply wj); focus (simp (discharger := omega) only [go_sem, simprocAttr]; with_reducible rfl)))); done)))
        refine SW_loop (fun m s => ∃ i : Nat, m = t - i ∧ s = ⟨32, [(6, .t (tInt k)), (7, .t (tInt (powW k i))), (21, .t (tInt t)), (22, .t (tInt i))], []⟩ ∧ i ≤ t) t ⟨_, Norm.headS (own := []) (keep := [6, 7, 21, 22]) (by refine ⟨?_, ?_⟩; (simp (discharger := omega) only [go_sem, simprocAttr]; with_reducible rfl); refine ⟨?_, ?_, ?_, ?_⟩ <;> (simp only [go_sem, simprocAttr]; with_reducible rfl)), 0, rfl, rfl, Nat.zero_le _⟩ ?_
        rintro m s ⟨i, rfl, rfl, hi⟩
        have hb := powW_bd r2 r6 (j := i) (by omega)
        by_cases hlt : i < t
        · have hb1 : 1 ≤ powW k i * k ∧ powW k i * k ≤ 7776 := powW_bd r2 r6 (j := i + 1) (by omega)
          repeat' (first | (with_reducible first | apply w1 | apply w2 | apply w3 | apply w4 | apply w5 | apply w6 | apply w7 | apply w8 | apply w9 | apply wa | apply wb | apply wc) | ((with_reducible apply wd); focus decide) | ((with_reducible apply we); focus exact rfl) | ((with_reducible apply wf); focus exact rfl) | ((first | (with_reducible apply SW_run tt_ok hG htb) | ((with_reducible apply SW_draw rfl tt_ok hG htb); (focus kernel_rfl); focus simp only [List.range, List.range.loop, List.size_toArray, List.length_cons, List.length_nil, Nat.reduceAdd])); focus ((repeat' (first | (with_reducible first | exact wg | exact wh) | ((with_reducible first | apply wi | apply wj); focus (simp (discharger := omega) only [go_sem, simprocAttr]; with_reducible rfl)))); done)))
          exact ⟨t - (i + 1), _, by omega, Norm.headS (own := []) (keep := [6, 7, 21, 22]) (by refine ⟨?_, ?_⟩; (simp (discharger := omega) only [go_sem, simprocAttr]; with_reducible rfl); refine ⟨?_, ?_, ?_, ?_⟩ <;> (simp only [go_sem, simprocAttr]; with_reducible rfl)), i + 1, rfl, rfl, by omega⟩
        · obtain rfl : i = t := by omega
          by_cases h36 : 36 < powW k i
          · repeat' (first | (with_reducible first | apply w1 | apply w2 | apply w3 | apply w4 | apply w5 | apply w6 | apply w7 | apply w8 | apply w9 | apply wa | apply wb | apply wc) | ((with_reducible apply wd); focus decide) | ((with_reducible apply we); focus exact rfl) | ((with_reducible apply wf); focus exact rfl) | ((first | (with_reducible apply SW_run tt_ok hG htb) | ((with_reducible apply SW_draw rfl tt_ok hG htb); (focus kernel_rfl); focus simp only [List.range, List.range.loop, List.size_toArray, List.length_cons, List.length_nil, Nat.reduceAdd])); focus ((repeat' (first | (with_reducible first | exact wg | exact wh) | ((with_reducible first | apply wi | apply wj); focus (simp (discharger := omega) only [go_sem, simprocAttr]; with_reducible rfl)))); done)))
            exact (by simp (discharger := omega) only [go_sem, tErr, simprocAttr])
          · repeat' (first | (with_reducible first | apply w1 | apply w2 | apply w3 | apply w4 | apply w5 | apply w6 | apply w7 | apply w8 | apply w9 | apply wa | apply wb | apply wc) | ((with_reducible apply wd); focus decide) | ((with_reducible apply we); focus exact rfl) | ((with_reducible apply wf); focus exact rfl) | ((first | (with_reducible apply SW_run tt_ok hG htb) | ((with_reducible apply SW_draw rfl tt_ok hG htb); (focus kernel_rfl); focus simp only [List.range, List.range.loop, List.size_toArray, List.length_cons, List.length_nil, Nat.reduceAdd])); focus ((repeat' (first | (with_reducible first | exact wg | exact wh) | ((with_reducible first | apply wi | apply wj); focus (simp (discharger := omega) only [go_sem, simprocAttr]; with_reducible rfl)))); done)))
            exact (by simp (discharger := omega) only [go_sem, tErr, simprocAttr])
set_option maxHeartbeats 4000000 in
theorem Check_snd (a : GAuto) : Snd Tryd.prog G 22 [tAuto a] (tErr (autoFault a)) := by
  have htb := Tab.cons (Many_snd hG a.base a.tracks) Tab.nil
  refine snd_of_body (n := 72) (tm := [(0, .t (tAuto a))]) (rs := [.tmp 2]) tt_ok Tryd.func22 rfl rfl rfl rfl rfl ?_
  unfold autoFault
  by_cases h0 : manyErr a.base a.tracks = 0
  · rw [if_neg (by omega)]
    rw [h0] at htb
    have h36 := (many_ok h0).2.2.2.1
    rw [← (many_ok h0).2.2.2.2] at h36
    generalize hmo : manyOf a.base a.tracks = mo at *
    by_cases h1 : a.next.length = 0
    · repeat' (first | (with_reducible first | apply w1 | apply w2 | apply w3 | apply w4 | apply w5 | apply w6 | apply w7 | apply w8 | apply w9 | apply wa | apply wb | apply wc) | ((with_reducible apply wd); focus decide) | ((with_reducible apply we); focus exact rfl) | ((with_reducible apply wf); focus exact rfl) | ((first | (with_reducible apply SW_run tt_ok hG htb) | ((with_reducible apply SW_draw rfl tt_ok hG htb); (focus kernel_rfl); focus simp only [List.range, List.range.loop, List.size_toArray, List.length_cons, List.length_nil, Nat.reduceAdd])); focus ((repeat' (first | (with_reducible first | exact wg | exact wh) | ((with_reducible first | apply wi | apply wj); focus (simp (discharger := omega) only [go_sem, tAuto, tErr, simprocAttr]; with_reducible rfl)))); done)))
      exact (by simp (discharger := omega) only [go_sem, tErr, simprocAttr])
    · by_cases h2 : 80 < a.next.length
      · repeat' (first | (with_reducible first | apply w1 | apply w2 | apply w3 | apply w4 | apply w5 | apply w6 | apply w7 | apply w8 | apply w9 | apply wa | apply wb | apply wc) | ((with_reducible apply wd); focus decide) | ((with_reducible apply we); focus exact rfl) | ((with_reducible apply wf); focus exact rfl) | ((first | (with_reducible apply SW_run tt_ok hG htb) | ((with_reducible apply SW_draw rfl tt_ok hG htb); (focus kernel_rfl); focus simp only [List.range, List.range.loop, List.size_toArray, List.length_cons, List.length_nil, Nat.reduceAdd])); focus ((repeat' (first | (with_reducible first | exact wg | exact wh) | ((with_reducible first | apply wi | apply wj); focus (simp (discharger := omega) only [go_sem, tAuto, tErr, simprocAttr]; with_reducible rfl)))); done)))
        exact (by simp (discharger := omega) only [go_sem, tErr, simprocAttr])
      · by_cases h3 : a.ends.length = a.next.length
        · rw [if_neg h1, if_neg h2, if_neg (by omega)]
          repeat' (first | (with_reducible first | apply w1 | apply w2 | apply w3 | apply w4 | apply w5 | apply w6 | apply w7 | apply w8 | apply w9 | apply wa | apply wb | apply wc) | ((with_reducible apply wd); focus decide) | ((with_reducible apply we); focus exact rfl) | ((with_reducible apply wf); focus exact rfl) | ((first | (with_reducible apply SW_run tt_ok hG htb) | ((with_reducible apply SW_draw rfl tt_ok hG htb); (focus kernel_rfl); focus simp only [List.range, List.range.loop, List.size_toArray, List.length_cons, List.length_nil, Nat.reduceAdd])); focus ((repeat' (first | (with_reducible first | exact wg | exact wh) | ((with_reducible first | apply wi | apply wj); focus (simp (discharger := omega) only [go_sem, tAuto, tErr, h3, simprocAttr]; with_reducible rfl)))); done)))
          refine SW_loop (fun m s => ∃ i : Nat, m = a.next.length - i ∧ s = ⟨72, [(1, .bptr 0 0), (3, .t (tInt mo)), (43, .t (tIntss a.next)), (44, .t (tInt a.next.length)), (45, .t (tInt i))], [.box [.t (tInt a.base), .t (tInt a.tracks), .t (tIntss a.next), .t (tBools a.ends)]]⟩ ∧ i ≤ a.next.length ∧ ∀ j (hj : j < a.next.length), j < i → (a.next[j].length : Int) = mo ∧ ∀ s ∈ a.next[j], 0 ≤ s ∧ s < (a.next.length : Int)) a.next.length
            ⟨_, Norm.headS (own := []) (keep := [1, 3, 43, 44, 45]) (by refine ⟨?_, ?_⟩; (simp (discharger := omega) only [go_sem, simprocAttr]; with_reducible rfl); refine ⟨?_, ?_, ?_, ?_⟩ <;> (simp only [go_sem, simprocAttr]; with_reducible rfl)), 0, rfl, rfl, Nat.zero_le _, fun j hj h => by omega⟩ ?_
          rintro m s ⟨i, rfl, rfl, hi, hA⟩
          by_cases hlt : i < a.next.length
          · obtain ⟨row, hrow⟩ : ∃ row, a.next[i]! = row := ⟨_, rfl⟩
            have hat := bang_at hrow hlt
            obtain ⟨f1, f2⟩ := rowsFault_at hlt hA
            rw [hat] at f1 f2
            by_cases hrl : (row.length : Int) = mo
            · repeat' (first | (with_reducible first | apply w1 | apply w2 | apply w3 | apply w4 | apply w5 | apply w6 | apply w7 | apply w8 | apply w9 | apply wa | apply wb | apply wc) | ((with_reducible apply wd); focus decide) | ((with_reducible apply we); focus exact rfl) | ((with_reducible apply wf); focus exact rfl) | ((first | (with_reducible apply SW_run tt_ok hG htb) | ((with_reducible apply SW_draw rfl tt_ok hG htb); (focus kernel_rfl); focus simp only [List.range, List.range.loop, List.size_toArray, List.length_cons, List.length_nil, Nat.reduceAdd])); focus ((repeat' (first | (with_reducible first | exact wg | exact wh) | ((with_reducible first | apply wi | apply wj); focus (simp (discharger := omega) only [go_sem, hrow, simprocAttr]; with_reducible rfl)))); done)))
              refine SW_loop (fun m s => ∃ l : Nat, m = row.length - l ∧ s = ⟨72, [(1, .bptr 0 0), (3, .t (tInt mo)), (43, .t (tIntss a.next)), (44, .t (tInt a.next.length)), (45, .t (tInt i)), (54, .t (tInts row)), (55, .t (tInt row.length)), (56, .t (tInt l))], [.box [.t (tInt a.base), .t (tInt a.tracks), .t (tIntss a.next), .t (tBools a.ends)]]⟩ ∧ l ≤ row.length ∧ ∀ x ∈ row.take l, 0 ≤ x ∧ x < (a.next.length : Int)) row.length
                ⟨_, Norm.headS (own := []) (keep := [1, 3, 43, 44, 45, 54, 55, 56]) (by refine ⟨?_, ?_⟩; (simp (discharger := omega) only [go_sem, simprocAttr]; with_reducible rfl); refine ⟨?_, ?_, ?_, ?_⟩ <;> (simp only [go_sem, simprocAttr]; with_reducible rfl)), 0, rfl, rfl, Nat.zero_le _, fun x hx => by simp at hx⟩ ?_
              rintro m s ⟨l, rfl, rfl, hl, hB⟩
              by_cases hlt2 : l < row.length
              · obtain ⟨x, hx⟩ : ∃ x, row[l]! = x := ⟨_, rfl⟩
                have htk := take_next hx hlt2
                have hxm := bang_mem hx hlt2
                by_cases hx0 : 0 ≤ x
                · by_cases hxm2 : x < (a.next.length : Int)
                  · repeat' (first | (with_reducible first | apply w1 | apply w2 | apply w3 | apply w4 | apply w5 | apply w6 | apply w7 | apply w8 | apply w9 | apply wa | apply wb | apply wc) | ((with_reducible apply wd); focus decide) | ((with_reducible apply we); focus exact rfl) | ((with_reducible apply wf); focus exact rfl) | ((first | (with_reducible apply SW_run tt_ok hG htb) | ((with_reducible apply SW_draw rfl tt_ok hG htb); (focus kernel_rfl); focus simp only [List.range, List.range.loop, List.size_toArray, List.length_cons, List.length_nil, Nat.reduceAdd])); focus ((repeat' (first | (with_reducible first | exact wg | exact wh) | ((with_reducible first | apply wi | apply wj); focus (simp (discharger := omega) only [go_sem, hx, simprocAttr]; with_reducible rfl)))); done)))
                    exact ⟨row.length - (l + 1), _, by omega, Norm.headS (own := []) (keep := [1, 3, 43, 44, 45, 54, 55, 56]) (by refine ⟨?_, ?_⟩; (simp (discharger := omega) only [go_sem, simprocAttr]; with_reducible rfl); refine ⟨?_, ?_, ?_, ?_⟩ <;> (simp only [go_sem, simprocAttr]; with_reducible rfl)), l + 1, rfl, rfl, by omega, fun y hy => by
                      rw [htk] at hy
                      rcases List.mem_append.1 hy with h | h
                      · exact hB y h
                      · simp at h; subst h; exact ⟨hx0, hxm2⟩⟩
                  · rw [f2 hrl ⟨x, hxm, by omega⟩]
                    repeat' (first | (with_reducible first | apply w1 | apply w2 | apply w3 | apply w4 | apply w5 | apply w6 | apply w7 | apply w8 | apply w9 | apply wa | apply wb | apply wc) | ((with_reducible apply wd); focus decide) | ((with_reducible apply we); focus exact rfl) | ((with_reducible apply wf); focus exact rfl) | ((first | (with_reducible apply SW_run tt_ok hG htb) | ((with_reducible apply SW_draw rfl tt_ok hG htb); (focus kernel_rfl); focus simp only [List.range, List.range.loop, List.size_toArray, List.length_cons, List.length_nil, Nat.reduceAdd])); focus ((repeat' (first | (with_reducible first | exact wg | exact wh) | ((with_reducible first | apply wi | apply wj); focus (simp (discharger := omega) only [go_sem, hx, simprocAttr]; with_reducible rfl)))); done)))
                    exact (by simp (discharger := omega) only [go_sem, tErr, simprocAttr])
                · rw [f2 hrl ⟨x, hxm, by omega⟩]
                  repeat' (first | (with_reducible first | apply w1 | apply w2 | apply w3 | apply w4 | apply w5 | apply w6 | apply w7 | apply w8 | apply w9 | apply wa | apply wb | apply wc) | ((with_reducible apply wd); focus decide) | ((with_reducible apply we); focus exact rfl) | ((with_reducible apply wf); focus exact rfl) | ((first | (with_reducible apply SW_run tt_ok hG htb) | ((with_reducible apply SW_draw rfl tt_ok hG htb); (focus kernel_rfl); focus simp only [List.range, List.range.loop, List.size_toArray, List.length_cons, List.length_nil, Nat.reduceAdd])); focus ((repeat' (first | (with_reducible first | exact wg | exact wh) | ((with_reducible first | apply wi | apply wj); focus (simp (discharger := omega) only [go_sem, hx, simprocAttr]; with_reducible rfl)))); done)))
                  exact (by simp (discharger := omega) only [go_sem, tErr, simprocAttr])
              · obtain rfl : l = row.length := by omega
                rw [List.take_length] at hB
                repeat' (first | (with_reducible first | apply w1 | apply w2 | apply w3 | apply w4 | apply w5 | apply w6 | apply w7 | apply w8 | apply w9 | apply wa | apply wb | apply wc) | ((with_reducible apply wd); focus decide) | ((with_reducible apply we); focus exact rfl) | ((with_reducible apply wf); focus exact rfl) | ((first | (with_reducible apply SW_run tt_ok hG htb) | ((with_reducible apply SW_draw rfl tt_ok hG htb); (focus kernel_rfl); focus simp only [List.range, List.range.loop, List.size_toArray, List.length_cons, List.length_nil, Nat.reduceAdd])); focus ((repeat' (first | (with_reducible first | exact wg | exact wh) | ((with_reducible first | apply wi | apply wj); focus (simp (discharger := omega) only [go_sem, simprocAttr]; with_reducible rfl)))); done)))
                exact ⟨a.next.length - (i + 1), _, by omega, Norm.headS (own := []) (keep := [1, 3, 43, 44, 45]) (by refine ⟨?_, ?_⟩; (simp (discharger := omega) only [go_sem, simprocAttr]; with_reducible rfl); refine ⟨?_, ?_, ?_, ?_⟩ <;> (simp only [go_sem, simprocAttr]; with_reducible rfl)), i + 1, rfl, rfl, by omega, fun j hj h => by
                  by_cases e : j = i
                  · subst e; rw [hat]; exact ⟨hrl, hB⟩
                  · exact hA j hj (by omega)⟩
            · rw [f1 hrl]
              repeat' (first | (with_reducible first | apply w1 | apply w2 | apply w3 | apply w4 | apply w5 | apply w6 | apply w7 | apply w8 | apply w9 | apply wa | apply wb | apply wc) | ((with_reducible apply wd); focus decide) | ((with_reducible apply we); focus exact rfl) | ((with_reducible apply wf); focus exact rfl) | ((first | (with_reducible apply SW_run tt_ok hG htb) | ((with_reducible apply SW_draw rfl tt_ok hG htb); (focus kernel_rfl); focus simp only [List.range, List.range.loop, List.size_toArray, List.length_cons, List.length_nil, Nat.reduceAdd])); focus ((repeat' (first | (with_reducible first | exact wg | exact wh) | ((with_reducible first | apply wi | apply wj); focus (simp (discharger := omega) only [go_sem, hrow, simprocAttr]; with_reducible rfl)))); done)))
              exact (by simp (discharger := omega) only [go_sem, tErr, simprocAttr])
          · obtain rfl : i = a.next.length := by omega
            rw [rowsFault_zero.2 fun r hr => by obtain ⟨j, hj, rfl⟩ := List.mem_iff_getElem.1 hr; exact hA j hj hj]
            repeat' (first | (with_reducible first | apply w1 | apply w2 | apply w3 | apply w4 | apply w5 | apply w6 | apply w7 | apply w8 | apply w9 | apply wa | apply wb | apply wc) | ((with_reducible apply wd); focus decide) | ((with_reducible apply we); focus exact rfl) | ((with_reducible apply wf); focus exact rfl) | ((first | (with_reducible apply SW_run tt_ok hG htb) | ((with_reducible apply SW_draw rfl tt_ok hG htb); (focus kernel_rfl); focus simp only [List.range, List.range.loop, List.size_toArray, List.length_cons, List.length_nil, Nat.reduceAdd])); focus ((repeat' (first | (with_reducible first | exact wg | exact wh) | ((with_reducible first | apply wi | apply wj); focus (simp (discharger := omega) only [go_sem, simprocAttr]; with_reducible rfl)))); done)))
            exact (by simp (discharger := omega) only [go_sem, tErr, simprocAttr])
        · repeat' (first | (with_reducible first | apply w1 | apply w2 | apply w3 | apply w4 | apply w5 | apply w6 | apply w7 | apply w8 | apply w9 | apply wa | apply wb | apply wc) | ((with_reducible apply wd); focus decide) | ((with_reducible apply we); focus exact rfl) | ((with_reducible apply wf); focus exact rfl) | ((first | (with_reducible apply SW_run tt_ok hG htb) | ((with_reducible apply SW_draw rfl tt_ok hG htb); (focus kernel_rfl); focus simp only [List.range, List.range.loop, List.size_toArray, List.length_cons, List.length_nil, Nat.reduceAdd])); focus ((repeat' (first | (with_reducible first | exact wg | exact wh) | ((with_reducible first | apply wi | apply wj); focus (simp (discharger := omega) only [go_sem, tAuto, tErr, h3, simprocAttr]; with_reducible rfl)))); done)))
          exact (by simp (discharger := omega) only [go_sem, tErr, h3, simprocAttr])
  · generalize manyErr a.base a.tracks = e at *
    repeat' (first | (with_reducible first | apply w1 | apply w2 | apply w3 | apply w4 | apply w5 | apply w6 | apply w7 | apply w8 | apply w9 | apply wa | apply wb | apply wc) | ((with_reducible apply wd); focus decide) | ((with_reducible apply we); focus exact rfl) | ((with_reducible apply wf); focus exact rfl) | ((first | (with_reducible apply SW_run tt_ok hG htb) | ((with_reducible apply SW_draw rfl tt_ok hG htb); (focus kernel_rfl); focus simp only [List.range, List.range.loop, List.size_toArray, List.length_cons, List.length_nil, Nat.reduceAdd])); focus ((repeat' (first | (with_reducible first | exact wg | exact wh) | ((with_reducible first | apply wi | apply wj); focus (simp (discharger := omega) only [go_sem, tAuto, tErr, h0, simprocAttr]; with_reducible rfl)))); done)))
    exact (by simp (discharger := omega) only [go_sem, tErr, h0, simprocAttr])
end
end Go.Proofs.YtjidhaendndokaaDoor
namespace Go.Proofs.YtjidhaendndokaaDoor
open Go.RowKit

def autoP (a : GAuto) : T := .ptr [.int .i64 a.base, .int .i64 a.tracks, tIntss a.next, tBools a.ends]
end Go.Proofs.YtjidhaendndokaaDoor
namespace Go.Proofs.YtjidhaendndokaaDoor
open Go.RowKit

def blCap (a : GAuto) : List SV := [.t (autoP a), .bptr 0 0, .bptr 1 0]
def blObs (a : GAuto) (es : List (T × T)) : List Ob := [.box [.map 2], .box [.fn 32 (blCap a)], .map (.ints 3) es]
def BlC (G : World → Prop) (a : GAuto) (r left : Nat) (s last : Int) : Prop := ∀ es, MemOk a r es →
  SndG Tryd.prog G 32 (.t (keyB left s last) :: blCap a) (blObs a es) [] (.t (tInt (restN a r left s last))) (blObs a (memG a r left s last es))
theorem bl_ren (a : GAuto) (es : List (T × T)) : (blObs a es).map (Ob.ren (upto (blObs a es).length)) = blObs a es := rfl
theorem bl_xren (a : GAuto) (k : T) : ((SV.t k) :: blCap a).map (SV.ren (upto 3)) = (SV.t k) :: blCap a := rfl
theorem bl_pins {a : GAuto} {es es' : List (T × T)} (i : Nat) (l : List SV) (h : (blObs a es)[i]? = some (.box l)) : i ∈ [0, 1] ∧ ∃ l', (blObs a es')[i]? = some (.box l') := by
  match i, h with
  | 0, h => exact ⟨by simp, _, rfl⟩
  | 1, h => exact ⟨by simp, _, rfl⟩
  | 2, h => cases h
theorem bl_pins2 {a : GAuto} {es : List (T × T)} : ∀ i ∈ [0, 1], ∃ l, (blObs a es)[i]? = some (.box l) := fun i hi => by
  simp only [List.mem_cons, List.not_mem_nil, or_false] at hi
  rcases hi with rfl | rfl <;> exact ⟨_, rfl⟩
theorem two_pinsB {s' : St} {bs : Nat → Nat} (h0 : look s'.tmps 67 = some (.pin 0 (bs 0))) (h1 : look s'.tmps 68 = some (.pin 1 (bs 1))) : ∀ i ∈ [0, 1], look s'.tmps (67 + i) = some (.pin i (bs i)) := fun i hi => by
  simp only [List.mem_cons, List.not_mem_nil, or_false] at hi
  rcases hi with rfl | rfl
  · exact h0
  · exact h1
section
variable {G : World → Prop} (hG : Lasting G)
include hG
set_option maxHeartbeats 16000000 in
set_option maxRecDepth 100000 in
theorem bl_all {a : GAuto} {r m : Nat} (g : Good a r m) (hf : radix a.base ≠ 0) (hr : radix a.base = (r : Int)) : ∀ (left : Nat), left ≤ 100 → W a.base left ≤ 1099511627776 → ∀ (s last : Int), 0 ≤ s → s < (m : Int) → 0 ≤ last → last < (r : Int) → BlC G a r left s last := by
  intro left
  induction left with
  | zero =>
    intro _ _ s last s0 sm l0 lr es hes
    have hmE := g.ends
    obtain ⟨b, hb⟩ : ∃ b, a.ends[s.toNat]! = b := ⟨_, rfl⟩
    have hb2 : endOf a.ends s = b := by unfold endOf; exact bang_D hb (by omega)
    have e1 : restN a r 0 s last = if b = true then 1 else 0 := by show (if endOf a.ends s = true then (1 : Int) else 0) = _; rw [hb2]
    have e2 : memG a r 0 s last es = es := rfl
    rw [e1, e2]
    refine sndG_of_body tt_ok Tryd.func32 rfl rfl (n := 67) rfl (rs := [.tmp 5]) rfl (Nat.le_refl _) [0, 1] bl_pins bl_pins2 fun bs => ?_
    show SW Tryd.prog G _ _ ⟨67, [(0, .t (keyB 0 s last)), (1, .t (autoP a)), (2, .bptr 0 0), (3, .bptr 1 0), (67, .pin 0 (bs 0)), (68, .pin 1 (bs 1))], [.box [.map 2], .box [.fn 32 (blCap a)], .map (.ints 3) es]⟩
    unfold keyB blCap
    have htb : Tab.ok Tryd.prog G [] := Tab.nil
    cases b with
    | true =>
      repeat' (first | (with_reducible first | apply w1 | apply w2 | apply w3 | apply w4 | apply w5 | apply w6 | apply w7 | apply w8 | apply w9 | apply wa | apply wb | apply wc) | ((with_reducible apply wd); focus decide) | ((with_reducible apply we); focus exact rfl) | ((with_reducible apply wf); focus exact rfl) | ((first | (with_reducible apply SW_run tt_ok hG htb) | ((with_reducible apply SW_draw rfl tt_ok hG htb); (focus kernel_rfl); focus simp only [List.range, List.range.loop, List.size_toArray, List.length_cons, List.length_nil, Nat.reduceAdd])); focus ((repeat' (first | (with_reducible first | exact wg | exact wh) | ((with_reducible first | apply wi | apply wj); focus (simp (discharger := omega) only [go_sem, hb, autoP, simprocAttr]; with_reducible rfl)))); done)))
      refine SPostG_norm (Norm.headP [0, 1, 2] rfl (own := []) (keep := [67, 68, 5]) (by refine ⟨?_, ?_⟩; (simp (discharger := omega) only [go_sem, simprocAttr]; with_reducible rfl); refine ⟨?_, ?_, ?_, ?_⟩ <;> (simp only [go_sem, simprocAttr]; with_reducible rfl))) ?_
      exact SPostG_r (Norm.refl _) rfl rfl (two_pinsB rfl rfl)
    | false =>
      repeat' (first | (with_reducible first | apply w1 | apply w2 | apply w3 | apply w4 | apply w5 | apply w6 | apply w7 | apply w8 | apply w9 | apply wa | apply wb | apply wc) | ((with_reducible apply wd); focus decide) | ((with_reducible apply we); focus exact rfl) | ((with_reducible apply wf); focus exact rfl) | ((first | (with_reducible apply SW_run tt_ok hG htb) | ((with_reducible apply SW_draw rfl tt_ok hG htb); (focus kernel_rfl); focus simp only [List.range, List.range.loop, List.size_toArray, List.length_cons, List.length_nil, Nat.reduceAdd])); focus ((repeat' (first | (with_reducible first | exact wg | exact wh) | ((with_reducible first | apply wi | apply wj); focus (simp (discharger := omega) only [go_sem, hb, autoP, simprocAttr]; with_reducible rfl)))); done)))
      refine SPostG_norm (Norm.headP [0, 1, 2] rfl (own := []) (keep := [67, 68, 5]) (by refine ⟨?_, ?_⟩; (simp (discharger := omega) only [go_sem, simprocAttr]; with_reducible rfl); refine ⟨?_, ?_, ?_, ?_⟩ <;> (simp only [go_sem, simprocAttr]; with_reducible rfl))) ?_
      exact SPostG_r (Norm.refl _) rfl rfl (two_pinsB rfl rfl)
  | succ left ih =>
    intro h100 hW s last s0 sm l0 lr es hes
    have hWl : W a.base left ≤ 1099511627776 := Int.le_trans (W_mono hf left) hW
    have ih := ih (by omega) hWl
    refine sndG_of_body tt_ok Tryd.func32 rfl rfl (n := 67) rfl (rs := [.tmp 5]) rfl (Nat.le_refl _) [0, 1] bl_pins bl_pins2 fun bs => ?_
    show SW Tryd.prog G _ _ ⟨67, [(0, .t (keyB (left + 1) s last)), (1, .t (autoP a)), (2, .bptr 0 0), (3, .bptr 1 0), (67, .pin 0 (bs 0)), (68, .pin 1 (bs 1))], [.box [.map 2], .box [.fn 32 (blCap a)], .map (.ints 3) es]⟩
    have hkey : keyB (left + 1) s last = .agg [.int .i64 ((left + 1 : Nat) : Int), .int .i64 s, .int .i64 last] := rfl
    have hmem := memS_ok hes (n := left) (s := s) (last := last)
    have hV := restS_all (a := a) (r := r) (left := left) (s := s) (last := last)
    have hM := fun h => memG_new (a := a) (r := r) (n := left) (s := s) (last := last) (es := es) h
    have hMo := fun v h => memG_old (a := a) (r := r) (n := left) (s := s) (last := last) (es := es) (v := v) h
    have hes1 := hes (left + 1) s last
    rw [← hV] at hes1 hM ⊢
    rw [hkey] at hM hMo hes1 ⊢
    obtain ⟨K, hK⟩ : ∃ K : Int, ((left + 1 : Nat) : Int) = K := ⟨_, rfl⟩
    rw [hK] at hM hMo hes1 ⊢
    have hK0 : ¬ K = 0 := by omega
    have hK1 : K - 1 = ((left : Nat) : Int) := by omega
    have hm80 := g.m80
    have hn36 := g.n36
    have b1 := eq_true (show K ≤ 9223372036854775807 by omega)
    have b2 := eq_true (show s ≤ 9223372036854775807 by omega)
    have b3 := eq_true (show last ≤ 9223372036854775807 by omega)
    unfold blCap
    have htb : Tab.ok Tryd.prog G [] := Tab.nil
    cases hget : mapGet es (.agg [.int .i64 K, .int .i64 s, .int .i64 last]) with
    | some v =>
      obtain rfl := hes1 v hget
      rw [hMo _ hget]
      repeat' (first | (with_reducible first | apply w1 | apply w2 | apply w3 | apply w4 | apply w5 | apply w6 | apply w7 | apply w8 | apply w9 | apply wa | apply wb | apply wc) | ((with_reducible apply wd); focus decide) | ((with_reducible apply we); focus exact rfl) | ((with_reducible apply wf); focus exact rfl) | ((first | (with_reducible apply SW_run tt_ok hG htb) | ((with_reducible apply SW_draw rfl tt_ok hG htb); (focus kernel_rfl); focus simp only [List.range, List.range.loop, List.size_toArray, List.length_cons, List.length_nil, Nat.reduceAdd])); focus ((repeat' (first | (with_reducible first | exact wg | exact wh) | ((with_reducible first | apply wi | apply wj); focus (simp (discharger := omega) only [go_sem, hK0, hget, autoP, b1, b2, b3, simprocAttr]; with_reducible rfl)))); done)))
      refine SPostG_norm (Norm.headP [0, 1, 2] rfl (own := []) (keep := [67, 68, 5]) (by refine ⟨?_, ?_⟩; (simp (discharger := omega) only [go_sem, simprocAttr]; with_reducible rfl); refine ⟨?_, ?_, ?_, ?_⟩ <;> (simp only [go_sem, simprocAttr]; with_reducible rfl))) ?_
      exact SPostG_r (Norm.refl _) rfl rfl (two_pinsB rfl rfl)
    | none =>
      rw [hM hget]
      clear hM hMo hes1
      have hmE := g.ends
      have hnl := g.rows.len
      obtain ⟨row, hrow⟩ : ∃ row, a.next[s.toNat]! = row := ⟨_, rfl⟩
      have hrl := g.rows.row row (bang_mem hrow (by omega))
      have hro : rowOf a.next s = row := by unfold rowOf; exact bang_D hrow (by omega)
      repeat' (first | (with_reducible first | apply w1 | apply w2 | apply w3 | apply w4 | apply w5 | apply w6 | apply w7 | apply w8 | apply w9 | apply wa | apply wb | apply wc) | ((with_reducible apply wd); focus decide) | ((with_reducible apply we); focus exact rfl) | ((with_reducible apply wf); focus exact rfl) | ((first | (with_reducible apply SW_run tt_ok hG htb) | ((with_reducible apply SW_draw rfl tt_ok hG htb); (focus kernel_rfl); focus simp only [List.range, List.range.loop, List.size_toArray, List.length_cons, List.length_nil, Nat.reduceAdd])); focus ((repeat' (first | (with_reducible first | exact wg | exact wh) | ((with_reducible first | apply wi | apply wj); focus (simp (discharger := omega) only [go_sem, hK0, hget, hrow, autoP, b1, b2, b3, simprocAttr]; with_reducible rfl)))); done)))
      refine SW_loop (fun mm st => ∃ (x : Nat) (es' : List (T × T)), mm = r - x ∧ st = ⟨67, [(67, .pin 0 (bs 0)), (68, .pin 1 (bs 1)), (1, .t (autoP a)), (2, .bptr 0 0), (3, .bptr 1 0), (4, .bptr 3 0), (8, .t (tInt (restS a r left s last x))), (33, .t (tInts row)), (34, .t (tInt r)), (35, .t (tNat x))], [.box [.map 2], .box [.fn 32 [.t (autoP a), .bptr 0 0, .bptr 1 0]], .map (.ints 3) es', .box [.t (tInt K), .t (tInt s), .t (tInt last)]]⟩ ∧ x ≤ r ∧ memS a r left s last es x = es') r
        ⟨_, Norm.headP [0, 1, 2, 3] rfl (own := []) (keep := [67, 68, 1, 2, 3, 4, 8, 33, 34, 35]) (by refine ⟨?_, ?_⟩; (simp (discharger := omega) only [go_sem, simprocAttr]; with_reducible rfl); refine ⟨?_, ?_, ?_, ?_⟩ <;> (simp only [go_sem, simprocAttr]; with_reducible rfl)), 0, es, rfl, by rw [restS_zero, ← hrl]; rfl, Nat.zero_le _, memS_zero⟩ ?_
      rintro mm st ⟨x, es', rfl, rfl, hx, hes'⟩
      have hbd := restS_bd hf hr (left := left) (s := s) (last := last) hx
      by_cases hxr : x < r
      · obtain ⟨t, ht⟩ : ∃ t, row[x]! = t := ⟨_, rfl⟩
        have hnx : nx a.next s x = t := by unfold nx; rw [hro]; exact bang_D ht (by omega)
        have htb2 := nx_ok g.rows ⟨s0, sm⟩ hxr
        rw [hnx] at htb2
        have hbd2 := restS_bd hf hr (left := left) (s := s) (last := last) (X := x + 1) (by omega)
        by_cases hsk : a.base = 1 ∧ last = 1 ∧ ((x : Nat) : Int) = 1
        · have q1 := restS_skip (a := a) (r := r) (left := left) (s := s) hsk
          have q2 := memS_skip (a := a) (r := r) (n := left) (s := s) (es := es) hsk
          rw [hes'] at q2
          have p1 := eq_true hsk.1
          have p2 := eq_true hsk.2.1
          have p3 := eq_true hsk.2.2
          obtain ⟨v, hv⟩ : ∃ v, restS a r left s last x = v := ⟨_, rfl⟩
          rw [hv] at q1 ⊢
          repeat' (first | (with_reducible first | apply w1 | apply w2 | apply w3 | apply w4 | apply w5 | apply w6 | apply w7 | apply w8 | apply w9 | apply wa | apply wb | apply wc) | ((with_reducible apply wd); focus decide) | ((with_reducible apply we); focus exact rfl) | ((with_reducible apply wf); focus exact rfl) | ((first | (with_reducible apply SW_run tt_ok hG htb) | ((with_reducible apply SW_draw rfl tt_ok hG htb); (focus kernel_rfl); focus simp only [List.range, List.range.loop, List.size_toArray, List.length_cons, List.length_nil, Nat.reduceAdd])); focus ((repeat' (first | (with_reducible first | exact wg | exact wh) | ((with_reducible first | apply wi | apply wj); focus (simp (discharger := omega) only [go_sem, ht, p1, p2, p3, autoP, simprocAttr]; with_reducible rfl)))); done)))
          exact ⟨r - (x + 1), _, by omega, Norm.headP [0, 1, 2, 3] rfl (own := []) (keep := [67, 68, 1, 2, 3, 4, 8, 33, 34, 35]) (by refine ⟨?_, ?_⟩; (simp (discharger := omega) only [go_sem, simprocAttr]; with_reducible rfl); refine ⟨?_, ?_, ?_, ?_⟩ <;> (simp only [go_sem, simprocAttr]; with_reducible rfl)), x + 1, es', rfl, by rw [q1]; rfl, by omega, q2⟩
        have q1 := restS_step (a := a) (r := r) (left := left) (s := s) hsk
        have q2 := memS_step (a := a) (r := r) (n := left) (s := s) (es := es) hsk
        rw [hnx] at q1 q2
        rw [hes'] at q2
        have hcall := ih t ((x : Nat) : Int) htb2.1 htb2.2 (by omega) (by omega) es' (by rw [← hes']; exact hmem x)
        rw [← q2] at hcall
        obtain ⟨v, hv⟩ : ∃ v, restS a r left s last x = v := ⟨_, rfl⟩
        obtain ⟨v2, hv2⟩ : ∃ v2, restN a r left t ((x : Nat) : Int) = v2 := ⟨_, rfl⟩
        obtain ⟨es2, hes2⟩ : ∃ es2, memS a r left s last es (x + 1) = es2 := ⟨_, rfl⟩
        obtain ⟨v3, hv3⟩ : ∃ v3, restS a r left s last (x + 1) = v3 := ⟨_, rfl⟩
        rw [hv, hv2] at q1
        rw [hv2, hes2] at hcall
        rw [hv3] at hbd2 q1
        rw [hv] at hbd ⊢
        have hadd : v + v2 = v3 := q1.symm
        unfold keyB at hcall
        by_cases p1 : a.base = 1
        rotate_left
        · repeat' (first | (with_reducible first | refine SW_seq ?_ | refine SW_block ?_ | refine SThen_n ?_ | refine SThen_r ?_ | refine SThen_e ?_ | refine SIn_n ?_ | refine SIn_r ?_ | refine SIn_eq ?_ | refine SW_skip ?_ | refine SW_exit ?_ | refine SW_ret ?_ | refine SPost_r ?_) | ((with_reducible refine SIn_ne ?_ ?_); focus decide) | ((with_reducible refine SW_true ?_ ?_); focus exact rfl) | ((with_reducible refine SW_false ?_ ?_); focus exact rfl) | ((with_reducible apply SW_run tt_ok hG htb); focus ((repeat' (first | (with_reducible exact runX_nil) | ((with_reducible apply runX_cons); focus (simp (discharger := omega) only [go_sem, ht, p1, autoP, simprocAttr]; with_reducible rfl)))); done)))
          refine SW_norm (Norm.headP [0, 1, 2, 3] rfl (own := []) (keep := [67, 68, 1, 2, 3, 4, 8, 9, 10, 33, 34, 35]) (by refine ⟨?_, ?_⟩; (simp (discharger := omega) only [go_sem, simprocAttr]; with_reducible rfl); refine ⟨?_, ?_, ?_, ?_⟩ <;> (simp only [go_sem, simprocAttr]; with_reducible rfl))) ?_
          refine SW_runG tt_ok hG htb 8 rfl (by simp only [List.take_succ_cons, List.take_zero]; rfl) (by simp only [List.drop_succ_cons, List.drop_zero, Nat.reduceAdd]; rfl) (by (repeat' (first | (with_reducible exact runX_nil) | ((with_reducible apply runX_cons); focus (simp (discharger := omega) only [go_sem, hK1, hK0, simprocAttr]; with_reducible rfl))))) rfl rfl (g := 32) (cap := blCap a) (obs := blObs a es') (ks := []) (obs' := blObs a es2) (rst := ?zra) (r := .t (tInt v2)) (s2 := ?zsa) (s3 := ?zua) ?q1a ?q2a ?q3a ?q4a ?q5a ?q6a ?q7a ?q8a ?q9a ?q10a
          case q1a => rfl
          case q2a => rfl
          case q3a => rfl
          case q4a => rfl
          case q5a => exact hcall
          case q6a => exact bl_ren a es'
          case q7a => exact bl_xren a _
          case q8a =>
            simp only [go_sem, St.back, blObs, blCap, List.map_cons, List.map_nil, SV.ren, Ob.ren, renL, pastG, lateG, List.length_cons, List.length_nil, List.take_succ_cons, List.take_zero, List.drop_succ_cons, List.drop_zero, List.getElem?_cons_zero, List.getElem?_cons_succ, List.getElem?_nil]
            rfl
          case q9a => (repeat' (first | (with_reducible exact runX_nil) | ((with_reducible apply runX_cons); focus (simp (discharger := omega) only [go_sem, hadd, simprocAttr]; with_reducible rfl))))
          repeat' (first | (with_reducible first | apply w1 | apply w2 | apply w3 | apply w4 | apply w5 | apply w6 | apply w7 | apply w8 | apply w9 | apply wa | apply wb | apply wc) | ((with_reducible apply wd); focus decide) | ((with_reducible apply we); focus exact rfl) | ((with_reducible apply wf); focus exact rfl) | ((first | (with_reducible apply SW_run tt_ok hG htb) | ((with_reducible apply SW_draw rfl tt_ok hG htb); (focus kernel_rfl); focus simp only [List.range, List.range.loop, List.size_toArray, List.length_cons, List.length_nil, Nat.reduceAdd])); focus ((repeat' (first | (with_reducible first | exact wg | exact wh) | ((with_reducible first | apply wi | apply wj); focus (simp (discharger := omega) only [go_sem, simprocAttr]; with_reducible rfl)))); done)))
          exact ⟨r - (x + 1), _, by omega, Norm.headP [0, 1, 2, 3] rfl (own := []) (keep := [67, 68, 1, 2, 3, 4, 8, 33, 34, 35]) (by refine ⟨?_, ?_⟩; (simp (discharger := omega) only [go_sem, simprocAttr]; with_reducible rfl); refine ⟨?_, ?_, ?_, ?_⟩ <;> (simp only [go_sem, simprocAttr]; with_reducible rfl)), x + 1, es2, rfl, by rw [hv3]; rfl, by omega, hes2⟩
        have p1t := eq_true p1
        by_cases p2 : last = 1
        rotate_left
        · repeat' (first | (with_reducible first | refine SW_seq ?_ | refine SW_block ?_ | refine SThen_n ?_ | refine SThen_r ?_ | refine SThen_e ?_ | refine SIn_n ?_ | refine SIn_r ?_ | refine SIn_eq ?_ | refine SW_skip ?_ | refine SW_exit ?_ | refine SW_ret ?_ | refine SPost_r ?_) | ((with_reducible refine SIn_ne ?_ ?_); focus decide) | ((with_reducible refine SW_true ?_ ?_); focus exact rfl) | ((with_reducible refine SW_false ?_ ?_); focus exact rfl) | ((with_reducible apply SW_run tt_ok hG htb); focus ((repeat' (first | (with_reducible exact runX_nil) | ((with_reducible apply runX_cons); focus (simp (discharger := omega) only [go_sem, ht, p1t, p2, autoP, simprocAttr]; with_reducible rfl)))); done)))
          refine SW_norm (Norm.headP [0, 1, 2, 3] rfl (own := []) (keep := [67, 68, 1, 2, 3, 4, 8, 9, 10, 33, 34, 35]) (by refine ⟨?_, ?_⟩; (simp (discharger := omega) only [go_sem, simprocAttr]; with_reducible rfl); refine ⟨?_, ?_, ?_, ?_⟩ <;> (simp only [go_sem, simprocAttr]; with_reducible rfl))) ?_
          refine SW_runG tt_ok hG htb 8 rfl (by simp only [List.take_succ_cons, List.take_zero]; rfl) (by simp only [List.drop_succ_cons, List.drop_zero, Nat.reduceAdd]; rfl) (by (repeat' (first | (with_reducible exact runX_nil) | ((with_reducible apply runX_cons); focus (simp (discharger := omega) only [go_sem, hK1, hK0, simprocAttr]; with_reducible rfl))))) rfl rfl (g := 32) (cap := blCap a) (obs := blObs a es') (ks := []) (obs' := blObs a es2) (rst := ?zrb) (r := .t (tInt v2)) (s2 := ?zsb) (s3 := ?zub) ?q1b ?q2b ?q3b ?q4b ?q5b ?q6b ?q7b ?q8b ?q9b ?q10b
          case q1b => rfl
          case q2b => rfl
          case q3b => rfl
          case q4b => rfl
          case q5b => exact hcall
          case q6b => exact bl_ren a es'
          case q7b => exact bl_xren a _
          case q8b =>
            simp only [go_sem, St.back, blObs, blCap, List.map_cons, List.map_nil, SV.ren, Ob.ren, renL, pastG, lateG, List.length_cons, List.length_nil, List.take_succ_cons, List.take_zero, List.drop_succ_cons, List.drop_zero, List.getElem?_cons_zero, List.getElem?_cons_succ, List.getElem?_nil]
            rfl
          case q9b => (repeat' (first | (with_reducible exact runX_nil) | ((with_reducible apply runX_cons); focus (simp (discharger := omega) only [go_sem, hadd, simprocAttr]; with_reducible rfl))))
          repeat' (first | (with_reducible first | apply w1 | apply w2 | apply w3 | apply w4 | apply w5 | apply w6 | apply w7 | apply w8 | apply w9 | apply wa | apply wb | apply wc) | ((with_reducible apply wd); focus decide) | ((with_reducible apply we); focus exact rfl) | ((with_reducible apply wf); focus exact rfl) | ((first | (with_reducible apply SW_run tt_ok hG htb) | ((with_reducible apply SW_draw rfl tt_ok hG htb); (focus kernel_rfl); focus simp only [List.range, List.range.loop, List.size_toArray, List.length_cons, List.length_nil, Nat.reduceAdd])); focus ((repeat' (first | (with_reducible first | exact wg | exact wh) | ((with_reducible first | apply wi | apply wj); focus (simp (discharger := omega) only [go_sem, simprocAttr]; with_reducible rfl)))); done)))
          exact ⟨r - (x + 1), _, by omega, Norm.headP [0, 1, 2, 3] rfl (own := []) (keep := [67, 68, 1, 2, 3, 4, 8, 33, 34, 35]) (by refine ⟨?_, ?_⟩; (simp (discharger := omega) only [go_sem, simprocAttr]; with_reducible rfl); refine ⟨?_, ?_, ?_, ?_⟩ <;> (simp only [go_sem, simprocAttr]; with_reducible rfl)), x + 1, es2, rfl, by rw [hv3]; rfl, by omega, hes2⟩
        have p3 : ¬ ((x : Nat) : Int) = 1 := fun q => hsk ⟨p1, p2, q⟩
        have p2t := eq_true p2
        repeat' (first | (with_reducible first | refine SW_seq ?_ | refine SW_block ?_ | refine SThen_n ?_ | refine SThen_r ?_ | refine SThen_e ?_ | refine SIn_n ?_ | refine SIn_r ?_ | refine SIn_eq ?_ | refine SW_skip ?_ | refine SW_exit ?_ | refine SW_ret ?_ | refine SPost_r ?_) | ((with_reducible refine SIn_ne ?_ ?_); focus decide) | ((with_reducible refine SW_true ?_ ?_); focus exact rfl) | ((with_reducible refine SW_false ?_ ?_); focus exact rfl) | ((with_reducible apply SW_run tt_ok hG htb); focus ((repeat' (first | (with_reducible exact runX_nil) | ((with_reducible apply runX_cons); focus (simp (discharger := omega) only [go_sem, ht, p1t, p2t, p3, autoP, simprocAttr]; with_reducible rfl)))); done)))
        refine SW_norm (Norm.headP [0, 1, 2, 3] rfl (own := []) (keep := [67, 68, 1, 2, 3, 4, 8, 9, 10, 33, 34, 35]) (by refine ⟨?_, ?_⟩; (simp (discharger := omega) only [go_sem, simprocAttr]; with_reducible rfl); refine ⟨?_, ?_, ?_, ?_⟩ <;> (simp only [go_sem, simprocAttr]; with_reducible rfl))) ?_
        refine SW_runG tt_ok hG htb 8 rfl (by simp only [List.take_succ_cons, List.take_zero]; rfl) (by simp only [List.drop_succ_cons, List.drop_zero, Nat.reduceAdd]; rfl) (by (repeat' (first | (with_reducible exact runX_nil) | ((with_reducible apply runX_cons); focus (simp (discharger := omega) only [go_sem, hK1, hK0, simprocAttr]; with_reducible rfl))))) rfl rfl (g := 32) (cap := blCap a) (obs := blObs a es') (ks := []) (obs' := blObs a es2) (rst := ?zrc) (r := .t (tInt v2)) (s2 := ?zsc) (s3 := ?zuc) ?q1c ?q2c ?q3c ?q4c ?q5c ?q6c ?q7c ?q8c ?q9c ?q10c
        case q1c => rfl
        case q2c => rfl
        case q3c => rfl
        case q4c => rfl
        case q5c => exact hcall
        case q6c => exact bl_ren a es'
        case q7c => exact bl_xren a _
        case q8c =>
          simp only [go_sem, St.back, blObs, blCap, List.map_cons, List.map_nil, SV.ren, Ob.ren, renL, pastG, lateG, List.length_cons, List.length_nil, List.take_succ_cons, List.take_zero, List.drop_succ_cons, List.drop_zero, List.getElem?_cons_zero, List.getElem?_cons_succ, List.getElem?_nil]
          rfl
        case q9c => (repeat' (first | (with_reducible exact runX_nil) | ((with_reducible apply runX_cons); focus (simp (discharger := omega) only [go_sem, hadd, simprocAttr]; with_reducible rfl))))
        repeat' (first | (with_reducible first | apply w1 | apply w2 | apply w3 | apply w4 | apply w5 | apply w6 | apply w7 | apply w8 | apply w9 | apply wa | apply wb | apply wc) | ((with_reducible apply wd); focus decide) | ((with_reducible apply we); focus exact rfl) | ((with_reducible apply wf); focus exact rfl) | ((first | (with_reducible apply SW_run tt_ok hG htb) | ((with_reducible apply SW_draw rfl tt_ok hG htb); (focus kernel_rfl); focus simp only [List.range, List.range.loop, List.size_toArray, List.length_cons, List.length_nil, Nat.reduceAdd])); focus ((repeat' (first | (with_reducible first | exact wg | exact wh) | ((with_reducible first | apply wi | apply wj); focus (simp (discharger := omega) only [go_sem, simprocAttr]; with_reducible rfl)))); done)))
        exact ⟨r - (x + 1), _, by omega, Norm.headP [0, 1, 2, 3] rfl (own := []) (keep := [67, 68, 1, 2, 3, 4, 8, 33, 34, 35]) (by refine ⟨?_, ?_⟩; (simp (discharger := omega) only [go_sem, simprocAttr]; with_reducible rfl); refine ⟨?_, ?_, ?_, ?_⟩ <;> (simp only [go_sem, simprocAttr]; with_reducible rfl)), x + 1, es2, rfl, by rw [hv3]; rfl, by omega, hes2⟩
      · obtain rfl : x = r := by omega
        rw [hes']
        obtain ⟨v, hv⟩ : ∃ v, restS a x left s last x = v := ⟨_, rfl⟩
        rw [hv]
        clear hmem hbd hes' hes
        repeat' (first | (with_reducible first | apply w1 | apply w2 | apply w3 | apply w4 | apply w5 | apply w6 | apply w7 | apply w8 | apply w9 | apply wa | apply wb | apply wc) | ((with_reducible apply wd); focus decide) | ((with_reducible apply we); focus exact rfl) | ((with_reducible apply wf); focus exact rfl) | ((first | (with_reducible apply SW_run tt_ok hG htb) | ((with_reducible apply SW_draw rfl tt_ok hG htb); (focus kernel_rfl); focus simp only [List.range, List.range.loop, List.size_toArray, List.length_cons, List.length_nil, Nat.reduceAdd])); focus ((repeat' (first | (with_reducible first | exact wg | exact wh) | ((with_reducible first | apply wi | apply wj); focus (simp (discharger := omega) only [go_sem, b1, b2, b3, simprocAttr]; with_reducible rfl)))); done)))
        refine SPostG_norm (Norm.headP [0, 1, 2] rfl (own := []) (keep := [67, 68, 5]) (by refine ⟨?_, ?_⟩; (simp (discharger := omega) only [go_sem, simprocAttr]; with_reducible rfl); refine ⟨?_, ?_, ?_, ?_⟩ <;> (simp only [go_sem, simprocAttr]; with_reducible rfl))) ?_
        exact SPostG_r (Norm.refl _) rfl rfl (two_pinsB rfl rfl)
end
end Go.Proofs.YtjidhaendndokaaDoor
namespace Go.Proofs.YtjidhaendndokaaDoor
open Go.RowKit

set_option maxHeartbeats 4000000 in
theorem Radix_calls (base : Int) (w : World) :
    Calls Tryd.prog 34 #[.int .i64 base] w (RetS (.int .i64 (radix base)) w) := by
  by_cases h1 : base = 1
  · subst h1
    go_enter Tryd.func34, Tryd.ntmps34
    go_wp2
    go_ret
    exact RetS.mk rfl
  · have hr := Lib.hid (show radix base = if 2 ≤ base ∧ base ≤ 6 then base else 0 by simp [radix, h1])
    have h1' : (base == 1) = false := by simp [h1]
    clear h1
    by_cases h2 : 2 ≤ base
    · by_cases h3 : base ≤ 6
      · have hr' := Lib.hid (show radix base = base by rw [hr.out, if_pos ⟨h2, h3⟩])
        go_enter Tryd.func34, Tryd.ntmps34
        go_wp2
        go_ret
        exact RetS.mk (by rw [hr'.out]; rfl)
      · have hr' := Lib.hid (show radix base = 0 by rw [hr.out, if_neg (by omega)])
        go_enter Tryd.func34, Tryd.ntmps34
        go_wp2
        go_ret
        exact RetS.mk (by rw [hr'.out]; rfl)
    · have hr' := Lib.hid (show radix base = 0 by rw [hr.out, if_neg (by omega)])
      go_enter Tryd.func34, Tryd.ntmps34
      go_wp2
      go_ret
      exact RetS.mk (by rw [hr'.out]; rfl)

end Go.Proofs.YtjidhaendndokaaDoor
namespace Go.Proofs.YtjidhaendndokaaDoor
open Go.RowKit

end Go.Proofs.YtjidhaendndokaaDoor
namespace Go.Proofs.YtjidhaendndokaaDoor
open Go.RowKit


end Go.Proofs.YtjidhaendndokaaDoor
namespace Go.Proofs.YtjidhaendndokaaDoor
open Go.RowKit

end Go.Proofs.YtjidhaendndokaaDoor
namespace Go.Proofs.YtjidhaendndokaaDoor
open Go.RowKit

end Go.Proofs.YtjidhaendndokaaDoor
namespace Go.Proofs.YtjidhaendndokaaDoor
open Go.RowKit

end Go.Proofs.YtjidhaendndokaaDoor
namespace Go.Proofs.YtjidhaendndokaaDoor
open Go.RowKit

def okNum (n : Int) : Bool := decide (0 ≤ n ∧ n ≤ 1099511627776)
def wordErr (base : Int) (nums : List Int) : Int := if manyErr base nums.length ≠ 0 then manyErr base nums.length else if nums.all okNum then 0 else 1
theorem pad_at (long : Nat) (d : List Int) (i : Nat) (hd : d.length ≤ long) (hi : i < long) :
    (pad long d).getD i 0 = if h : long ≤ i + d.length then d[i + d.length - long]'(by omega) else 0 := by
  unfold pad
  rw [List.getD_eq_getElem?_getD, List.getElem?_append]
  by_cases h : long ≤ i + d.length
  · rw [dif_pos h, if_neg (by simp; omega)]
    have : i - (List.replicate (long - d.length) (0 : Int)).length = i + d.length - long := by simp; omega
    rw [this, List.getElem?_eq_getElem (by omega)]; rfl
  · rw [dif_neg h, if_pos (by simp; omega)]
    rw [List.getElem?_replicate, if_pos (by omega)]; rfl

end Go.Proofs.YtjidhaendndokaaDoor
namespace Go.Proofs.YtjidhaendndokaaDoor
open Go.RowKit


end Go.Proofs.YtjidhaendndokaaDoor
namespace Go.Proofs.YtjidhaendndokaaDoor
open Go.RowKit

/-- Rows under way: each is owned, no two share. -/
structure RowsOwn (w : World) (B : Nat) (xs : List Value) (L : Nat → List Int) : Prop where
  own : ∀ i (h : i < xs.length), w.ownsRow (B + 1) 3 1 xs[i] (L i).length ((L i).map (Value.int .i64))
  apart : ∀ i j (h1 : i < xs.length) (h2 : j < xs.length), i ≠ j → ∀ b, xs[i].ownBlock = some b → xs[j].ownBlock ≠ some b
theorem RowsOwn.congr {w : World} {B : Nat} {xs : List Value} {L L' : Nat → List Int} (h : RowsOwn w B xs L) (hL : ∀ i, i < xs.length → L i = L' i) : RowsOwn w B xs L' :=
  ⟨fun i hi => by rw [← hL i hi]; exact h.own i hi, h.apart⟩
theorem RowsOwn.keep {w w' : World} {B : Nat} {xs : List Value} {L : Nat → List Int} (h : RowsOwn w B xs L) (hb : ∀ k, B < k → k < w.heap.size → w'.heap[k]? = w.heap[k]?) : RowsOwn w' B xs L := by
  refine ⟨fun i hi => ?_, h.apart⟩
  have ho := h.own i hi
  refine ⟨ho.1, ?_⟩
  rcases ho.2 with hn | ⟨g, cap, cur, hv, hB, hg, rest⟩
  · exact .inl hn
  · exact .inr ⟨g, cap, cur, hv, hB, by rw [hb g (by omega) (block_lt hg)]; exact hg, rest⟩
theorem RowsOwn.append {w w' : World} {B : Nat} {xs : List Value} {L : Nat → List Int} (h : RowsOwn w B xs L) (q : Nat) (hq : q < xs.length) (v' : Value) (x : Int)
    (hown : w'.ownsRow (B + 1) 3 1 v' ((L q).length + 1) ((L q).map (Value.int .i64) ++ [.int .i64 x])) (hgrow : w.grownBy w' xs[q].ownBlock)
    (hwhere : v'.ownBlock = xs[q].ownBlock ∨ v'.ownBlock = some (w.heap.size + 1)) :
    RowsOwn w' B (xs.set q v') (fun i => if i = q then L q ++ [x] else L i) := by
  have hlt : ∀ i (hi : i < xs.length) b, xs[i].ownBlock = some b → b < w.heap.size := fun i hi b hb => ((h.own i hi).lt b hb).2
  refine ⟨fun i hi => ?_, fun i j h1 h2 hij b => ?_⟩
  · by_cases e : i = q
    · subst e
      rw [List.getElem_set_self, if_pos rfl]
      simpa using hown
    · rw [List.getElem_set_ne (Ne.symm e), if_neg e]
      have hi' : i < xs.length := by simpa using hi
      refine (h.own i hi').kept hgrow ?_
      cases hb : xs[i].ownBlock with
      | none => exact .inl rfl
      | some b => exact .inr fun e' => h.apart i q hi' hq e b hb e'.symm
  · have h1' : i < xs.length := by simpa using h1
    have h2' : j < xs.length := by simpa using h2
    by_cases ei : i = q
    · subst ei
      rw [List.getElem_set_self, List.getElem_set_ne hij]
      intro hb hb'
      rcases hwhere with hw | hw
      · exact h.apart i j h1' h2' hij b (hw ▸ hb) hb'
      · rw [hw] at hb
        have := hlt j h2' b hb'
        simp at hb; omega
    · rw [List.getElem_set_ne (Ne.symm ei)]
      by_cases ej : j = q
      · subst ej
        rw [List.getElem_set_self]
        intro hb hb'
        rcases hwhere with hw | hw
        · exact h.apart i j h1' h2' hij b hb (hw ▸ hb')
        · rw [hw] at hb'
          have := hlt i h1' b hb
          simp at hb'; omega
      · rw [List.getElem_set_ne (Ne.symm ej)]
        exact h.apart i j h1' h2' hij b
theorem RowsOwn.start (w : World) (B n : Nat) : RowsOwn w B (List.replicate n (.slice none 0 0)) (fun _ => []) :=
  ⟨fun i hi => by rw [List.getElem_replicate]; exact World.ownsRow_nil _ _ _ _, fun i j h1 h2 _ b hb => by rw [List.getElem_replicate] at hb; cases hb⟩
end Go.Proofs.YtjidhaendndokaaDoor
namespace Go.Proofs.YtjidhaendndokaaDoor
open Go.RowKit

theorem repNilInts (S : Nat → Prop) (w : World) : RepT S w (tInts []) (.slice none 0 0) :=
  .list [] none 0 1 (fun _ => undef) (Nat.zero_le _) Nat.one_pos (fun x hx => by simp at hx) (fun h => (h rfl).elim) (fun k hk => by simp at hk) (fun k y hy => by simp [flat] at hy) (Nat.le_refl _)
theorem repOwnInts {w : World} {B e n : Nat} {v : Value} {l : List Int} (h : w.ownsRow B e 1 v n (l.map (Value.int .i64))) (hl : l.length = n) (_ : ∀ x ∈ l, I64 x) : RepT (B ≤ ·) w (tInts l) v := by
  subst hl
  rcases h.2 with ⟨rfl, h0⟩ | ⟨g, cap, cur, rfl, h1, h2, h3, h4, h5, h6⟩
  · obtain rfl : l = [] := List.length_eq_zero_iff.1 h0
    exact repNilInts _ _
  · have hfl : ∀ l : List Int, flat (l.map tInt) = l.map tInt := fun l => by
      induction l with
      | nil => rfl
      | cons x t ih =>
        simp only [flat, List.map_cons, List.flatMap_cons] at ih ⊢
        rw [ih]; rfl
    have hlen : (l.map tInt).length = l.length := by simp
    have hcell : ∀ k (hk : k < l.length), cur[k]? = some (Value.int .i64 l[k]) := fun k hk => by
      have h7 : (cur.toList.take (l.length * 1))[k]? = some (Value.int .i64 l[k]) := by rw [h6]; simp [hk]
      rw [List.getElem?_take_of_lt (by omega)] at h7
      simpa using h7
    have := RepT.list (S := (B ≤ ·)) (w := w) (l.map tInt) (some ⟨g, 0, none⟩) cap 1 (fun k => if h : k < l.length then Value.int .i64 l[k] else undef) (by simp; omega) Nat.one_pos (fun x hx => by obtain ⟨n, _, rfl⟩ := List.mem_map.1 hx; rfl)
      (fun _ => ⟨g, 0, rfl, h1, fun k hk => by
        have hk2 : k < l.length := by simpa using hk
        rw [Nat.zero_add, World.cell?, h2]
        simp only [hk2, dif_pos]
        exact hcell k hk2⟩)
      (fun k hk => by
        have hk2 : k < l.length := by simpa using hk
        simp only [hk2, dif_pos]; rfl)
      (fun k y hy => by
        rw [hfl, List.getElem?_map, Option.map_eq_some_iff] at hy
        obtain ⟨n, hn, rfl⟩ := hy
        obtain ⟨hk2, rfl⟩ := List.getElem?_eq_some_iff.1 hn
        simp only [hk2, dif_pos]
        exact .int _ _) (by simp; omega)
    rw [hlen] at this
    exact this

set_option maxHeartbeats 4000000 in
set_option maxRecDepth 100000 in
theorem Of_baseT (base n : Int) (w : World) (hb2 : 2 ≤ base) (hb6 : base ≤ 6) (hn0 : 0 < n) (hn1 : n ≤ 1099511627776) :
    Calls Tryd.prog 31 #[.int .i64 base, .int .i64 n] w
      (RetQ (fun v w' => ∃ x l, v = .tuple #[x, .nilIface] ∧ RepT (w.heap.size ≤ ·) w' (tInts l) x ∧ IsOf base n l) w) := by
  have hr : radix base = base := by simp [radix]; omega
  have e0 : (base == 0) = false := by simp; omega
  have e1 : (base != 1) = true := by simp; omega
  have e2 : decide (n < 0) = false := by simp; omega
  have e3 : decide (1099511627776 < n) = false := by simp; omega
  have Hr := Lib.hid hr; clear hr
  have Hrz := Lib.hid (show radix base ≠ 0 by rw [Hr.out]; omega)
  have Hb1 := Lib.hid (show base ≠ 1 by omega)
  go_enter Tryd.func31, Tryd.ntmps31
  go_wp2_with (go_at_call 34; refine (Radix_calls _ _).mono ?_; rintro e w' ⟨rfl, rfl⟩; rw [Hr.out])
  go_loopw [1, 8] (fun q at_ wr => ∃ (k : Nat) (m : Int) (t : List Int) (C : Array Value), at_ = .int .i64 k ∧ q = .int .i64 m ∧ 0 ≤ m ∧ m ≤ 1099511627776 ∧ k + t.length = 64 ∧ k ≤ 64 ∧ Hid (m * W base t.length + wv base t = n ∧ okDigits base t ∧ (m = 0 → noLead t ∧ t ≠ [])) ∧
      Hid (wr.heap[w.heap.size]? = some (.cells C 82 (0, 0)) ∧ C.toList.drop k = t.map (Value.int .i64) ∧ C.size = 64) ∧ Hid (Below w.heap.size w wr)) (fun q _ _ => (intOf q).toNat)
  case atStart => exact ⟨64, n, [], _, rfl, rfl, by omega, by omega, rfl, by omega, ⟨by simp [W, powW, wv, Hb1.out], by simp [okDigits], fun h => by omega⟩, ⟨heap_alloc_new w _, rfl, rfl⟩, (Below.refl _ _).alloc (Nat.le_refl _) _⟩
  case round =>
    obtain ⟨k, m, t, C, rfl, rfl, hm0, hm1, hkt, hk64, Hm, HC, HB⟩ := hrel
    by_cases hlt : 0 < m
    · have hk : 1 ≤ k := by
        have h1 := Hm.out.1
        have h2 := wv_nonneg Hrz.out Hm.out.2.1
        rcases Nat.lt_or_ge t.length 58 with c | c
        · omega
        · have := W_big Hrz.out c
          have : 1 * W base t.length ≤ m * W base t.length := Int.mul_le_mul_of_nonneg_right (by omega) (by omega)
          omega
      obtain ⟨j, rfl⟩ : ∃ j, k = j + 1 := ⟨k - 1, by omega⟩
      have q0 : 0 ≤ m % base := Int.emod_nonneg _ (by omega)
      have q1 : m % base < base := Int.emod_lt_of_pos _ (by omega)
      have q2 : 0 ≤ m / base := Int.ediv_nonneg hm0 (by omega)
      have q3 : m / base < m := Int.ediv_lt_self_of_pos_of_ne_one (by omega) (by omega)
      have q5 : m / base ≤ 1099511627776 := by omega
      have Q4 := Lib.hid (show m = base * (m / base) + m % base from (Int.mul_ediv_add_emod m base).symm)
      have hcell : wr.cell? ⟨w.heap.size, j, none⟩ = some (C[j]'(by have := HC.out.2.2; omega)) := by
        rw [cell_of_row wr _ j C 82 (0, 0) HC.out.1]; exact Array.getElem?_eq_getElem _
      have hfr : wr.frozen? ⟨w.heap.size, j, none⟩ = false := frozen_of_block HC.out.1 j
      go_wp2
      go_roundw
      case rel =>
        refine ⟨j, m / base, (m % base) :: t, C.setIfInBounds j (.int .i64 (m % base)), by go_num, rfl, q2, q5, by simp at hkt ⊢; omega, by omega, ⟨?_, ?_, ?_⟩, ⟨?_, ?_, ?_⟩, ?_⟩
        · have h1 := Hm.out.1
          have e : W base ((m % base) :: t).length = W base t.length * base := by simp [W, Hb1.out, powW]
          rw [e]
          show m / base * (W base t.length * base) + (m % base * W base t.length + wv base t) = n
          have : m * W base t.length = (base * (m / base) + m % base) * W base t.length := by rw [← Q4.out]
          rw [this, Int.add_mul] at h1
          rw [← Int.mul_assoc, Int.mul_comm (m / base * W base t.length) base, ← Int.mul_assoc]
          omega
        · intro x hx
          rcases List.mem_cons.1 hx with rfl | hx
          · rw [Hr.out]; exact ⟨q0, q1⟩
          · exact Hm.out.2.1 x hx
        · intro hz
          refine ⟨?_, by simp⟩
          intro hl
          have h4 := Q4.out
          simp at hl
          rw [hz, hl] at h4
          simp at h4
          omega
        · exact heap_setCell_at HC.out.1 _
        · have h2 := HC.out.2.1
          have h3 := HC.out.2.2
          rw [List.map_cons, ← h2, Array.toList_setIfInBounds, List.drop_set]
          simp
          rw [List.drop_eq_getElem_cons (by simp; omega)]
          simp
        · have := HC.out.2.2; simp; omega
        · exact HB.out.setCell (Nat.le_refl _) _
      case measure => (simp [intOf] <;> omega)
    · obtain rfl : m = 0 := by omega
      have ht0 : t ≠ [] := (Hm.out.2.2 rfl).2
      have hk' : (k : Int) < 64 := by
        have : 0 < t.length := List.length_pos_iff.2 ht0
        omega
      clear ht0
      obtain ⟨i0, hi, hz0, hz1, hz2⟩ := info_parts infoInt
      have hsl := slice64 wr w.heap.size k (by omega)
      go_wp2_with (at_builtin; go_loud (refine wpList_append_own _ rfl _ _ 38 rfl w.heap.size 3 i0 (.int .i64 0) 1 8 Tryd.underlying38 hi hz0 hz1 hz2 rfl (by decide) _ _ _ rfl (World.ownsRow_nil _ _ _ _) ⟨w.heap.size, k, none⟩ (64 - k) (64 - k) (t.map (Value.int .i64)) rfl ?c1 ?c2 ?c3 ?c4 ?c5 ?c6 ?_))
      case c1 => omega
      case c2 =>
        intro j u hj
        have h2 := HC.out.2.1
        rw [cell_of_row wr _ (k + j) C 82 (0, 0) HC.out.1, ← Array.getElem?_toList, ← List.getElem?_drop, h2]
        simp [hj]
      case c3 => intro u _; rfl
      case c4 => simp only [maxLen]; omega
      case c5 => omega
      case c6 => exact HB.out.size
      intro v' w' hown hgrow hnil
      go_wp2
      go_ret2
      refine RetQ.mk ⟨_, t, rfl, repOwnInts hown (by omega) ?_, ⟨Hm.out.2.1, ?_, (Hm.out.2.2 (by trivial)).1, ?_⟩⟩ (HB.out.grown hgrow HB.out.size (by simp [Value.ownBlock]))
      · intro x hx
        have := Hm.out.2.1 x hx
        rw [Hr.out] at this
        exact ⟨by omega, by omega⟩
      · simp [rightOf, Hb1.out]
      · have := Hm.out.1; omega

set_option maxHeartbeats 4000000 in
set_option maxRecDepth 100000 in
theorem Of_fibT (n : Int) (w : World) (hn0 : 0 ≤ n) (hn1 : n ≤ 1099511627776) :
    Calls Tryd.prog 31 #[.int .i64 1, .int .i64 n] w
      (RetQ (fun v w' => ∃ x l, v = .tuple #[x, .nilIface] ∧ RepT (w.heap.size ≤ ·) w' (tInts l) x ∧ IsOf 1 n l) w) := by
  have Hr := Lib.hid (show radix 1 = 2 from rfl)
  have e2 : decide (n < 0) = false := by simp; omega
  have e3 : decide (1099511627776 < n) = false := by simp; omega
  go_enter Tryd.func31, Tryd.ntmps31
  go_wp2_with (go_at_call 34; refine (Radix_calls _ _).mono ?_; rintro e w' ⟨rfl, rfl⟩; rw [Hr.out])
  go_loopw [10] (fun q wr => ∃ (m : Nat) (C : Array Value), q = .int .i64 ((m : Int) + 2) ∧ Hid (m = 0 ∨ fibW m ≤ n) ∧
      Hid (wr.heap[w.heap.size + 1]? = some (.cells C 82 (0, 0)) ∧ C.size = 64 ∧ ∀ i, i < m + 2 → C[i]? = some (.int .i64 (fibW i))) ∧ Hid (Below w.heap.size w wr)) (fun q _ => 64 - (intOf q).toNat)
  case atStart => 
    refine ⟨0, _, rfl, .inl rfl, ⟨heap_alloc_at _ _ (by simp), by simp, ?_⟩, ?_⟩
    · intro i hi
      have : i = 0 ∨ i = 1 := by omega
      rcases this with rfl | rfl <;> rfl
    · exact ((Below.refl _ _).alloc (Nat.le_refl _) _).alloc (by simp) _
  case round =>
    obtain ⟨m, C, rfl, Hm, HC, HB⟩ := hrel
    have hm : m ≤ 57 := by
      rcases Hm.out with h | h
      · omega
      · exact fibW_small h hn1
    have hcell : wr.cell? ⟨w.heap.size + 1, m + 1, none⟩ = some (.int .i64 (fibW (m + 1))) := by
      rw [cell_of_row wr _ _ C 82 (0, 0) HC.out.1]; exact HC.out.2.2 _ (by omega)
    have hcell0 : wr.cell? ⟨w.heap.size + 1, m, none⟩ = some (.int .i64 (fibW m)) := by
      rw [cell_of_row wr _ _ C 82 (0, 0) HC.out.1]; exact HC.out.2.2 _ (by omega)
    by_cases hle : fibW (m + 1) ≤ n
    · have hp := (fibW_pos m)
      have hp1 := hp.1
      have hp2 := hp.2
      clear hp
      have hcell2 : wr.cell? ⟨w.heap.size + 1, m + 2, none⟩ = some (C[m + 2]'(by have := HC.out.2.1; omega)) := by
        rw [cell_of_row wr _ _ C 82 (0, 0) HC.out.1]; exact Array.getElem?_eq_getElem _
      have hfr : wr.frozen? ⟨w.heap.size + 1, m + 2, none⟩ = false := frozen_of_block HC.out.1 _
      go_wp2
      go_region
      go_wp2
      go_roundw
      case rel =>
        refine ⟨m + 1, C.setIfInBounds (m + 2) (.int .i64 (fibW (m + 2))), by go_num, .inr hle, ⟨?_, ?_, ?_⟩, ?_⟩
        · exact heap_setCell_at HC.out.1 _
        · simpa using HC.out.2.1
        · intro i hi
          rw [Array.getElem?_setIfInBounds]
          by_cases e : m + 2 = i
          · subst e; rw [if_pos rfl, if_pos (by have := HC.out.2.1; omega)]
          · rw [if_neg e]; exact HC.out.2.2 i (by omega)
        · exact (HB.out.setCell (p := ⟨w.heap.size + 1, m + 2, none⟩) (by simp) _).drew
      case measure => (simp [intOf] <;> omega)
    · have G := Lib.hid (Greedy.start hn0 (show n < fibW (m + 1) by omega) (by omega))
      have H0 := Lib.hid (And.intro hn0 hn1)
      clear hcell0 e2 e3
      obtain ⟨i0, hi, hz0, hz1, hz2⟩ := info_parts infoInt
      go_wp2_with fail
      clear hcell hle hn0 hn1
      go_loopw [1, 11, 12] (fun q out i wr' => ∃ (j : Nat) (r : Int) (l : List Int), q = .int .i64 r ∧ i = .int .i64 ((j : Int) - 1) ∧ j ≤ m + 2 ∧ Hid (Greedy n j r l) ∧ wr'.ownsRow (w.heap.size + 2) 3 1 out l.length (l.map (Value.int .i64)) ∧
        Hid (wr'.heap[w.heap.size + 1]? = some (.cells C 82 (0, 0))) ∧ Hid (Below w.heap.size w wr')) (fun _ _ i _ => (intOf i + 1).toNat)
      case atStart => exact ⟨m + 2, n, [], rfl, by go_num, Nat.le_refl _, G.out, World.ownsRow_nil _ _ _ _, HC.out.1, HB.out⟩
      case round =>
        obtain ⟨j, r, l, rfl, rfl, hj, HG, hown, HC', HB'⟩ := hrel
        obtain ⟨a, cap, rfl⟩ := own_form hown
        have hbase : w.heap.size + 2 ≤ wr.heap.size := by have := block_lt HC'.out; omega
        rcases Nat.eq_zero_or_pos j with hj0 | hj0
        · subst hj0
          have D := Lib.hid HG.out.done
          go_wp2
          go_ret2
          refine RetQ.mk ⟨_, l, rfl, ?_, D.out⟩ HB'.out
          refine (repOwnInts hown rfl ?_).mono (fun b (hb : w.heap.size + 2 ≤ b) => show w.heap.size ≤ b by omega)
          intro x hx
          have := D.out.ok x hx
          simp [radix] at this
          exact ⟨by omega, by omega⟩
        · obtain ⟨j', rfl⟩ : ∃ j', j = j' + 1 := ⟨j - 1, by omega⟩
          have hpos : (0 : Int) ≤ ((j' + 1 : Nat) : Int) - 1 := by omega
          have hj64 : ((j' + 1 : Nat) : Int) - 1 < 64 := by omega
          have hcell : wr.cell? ⟨w.heap.size + 1, j', none⟩ = some (.int .i64 (fibW j')) := by
            rw [cell_of_row wr _ _ C 82 (0, 0) HC'.out]; exact HC.out.2.2 _ (by omega)
          have hr0 := HG.out.r0
          have hr1 : r ≤ 1099511627776 := by
            have h1 := HG.out.val
            have h2 := wv_nonneg (b := 1) (d := l ++ List.replicate (j' + 1) 0) (by simp [radix]) (by
              intro x hx
              rcases List.mem_append.1 hx with hx | hx
              · exact HG.out.ok x hx
              · have := List.eq_of_mem_replicate hx; subst this; simp [radix])
            have := H0.out
            omega
          have hf1 := (fibW_pos j').1
          by_cases hle : fibW j' ≤ r
          · have D := Lib.hid (HG.out.one hle)
            have hlen64 := HG.out.len
            go_wp2_with (at_builtin; go_loud (refine wpList_append_own _ rfl _ _ 38 rfl (w.heap.size + 2) 3 i0 (.int .i64 0) 1 8 Tryd.underlying38 hi hz0 hz1 hz2 rfl (by decide) _ _ _ rfl (hown.alloc _) ⟨wr.heap.size, 0, none⟩ 1 1 [.int .i64 1] rfl rfl ?c1 ?c2 ?c3 ?c4 ?c5 ?_))
            case c1 => exact cell_one_new _ _ _
            case c2 => simp [Value.oneCell']
            case c3 => simp only [maxLen]; omega
            case c4 => omega
            case c5 => simp; omega
            intro v' w' hown' hgrow _
            have HBn := Lib.hid ((HB'.out.alloc HB'.out.size _).grown hgrow (by have := HB'.out.size; simp; omega) (fun k hk => by have := hown.lt k (by rw [hk]); omega))
            have HCn := Lib.hid (show w'.heap[w.heap.size + 1]? = some (.cells C 82 (0, 0)) by
              rw [hgrow.block _ (by simp; omega) (fun e => by have := hown.lt _ e.symm; omega), Below.heap_alloc _ _ _ (by omega)]; exact HC'.out)
            clear hgrow hown
            go_wp2
            go_roundw
            case rel => exact ⟨j', _, l ++ [1], rfl, by go_num, by omega, D.out, by simpa using hown', HCn.out, HBn.out⟩
            case measure => (simp [intOf] <;> omega)
          · have hlt : r < fibW j' := by omega
            clear hle
            by_cases hl : l = []
            · have D := Lib.hid (show Greedy n j' r l by subst hl; exact HG.out.none hlt)
              have hz : (l.length : Int) ≤ 0 := by subst hl; simp
              clear hl
              go_wp2
              go_roundw
              case rel => exact ⟨j', r, l, rfl, by go_num, by omega, D.out, hown, HC'.out, HB'.out⟩
              case measure => (simp [intOf] <;> omega)
            · have D := Lib.hid (HG.out.zero hlt hl)
              have hz : (0 : Int) < (l.length : Int) := by have := List.length_pos_iff.2 hl; omega
              have hlen64 := HG.out.len
              clear hl
              go_wp2_with (at_builtin; go_loud (refine wpList_append_own _ rfl _ _ 38 rfl (w.heap.size + 2) 3 i0 (.int .i64 0) 1 8 Tryd.underlying38 hi hz0 hz1 hz2 rfl (by decide) _ _ _ rfl (hown.alloc _) ⟨wr.heap.size, 0, none⟩ 1 1 [.int .i64 0] rfl rfl ?c1 ?c2 ?c3 ?c4 ?c5 ?_))
              case c1 => exact cell_one_new _ _ _
              case c2 => simp [Value.oneCell']
              case c3 => simp only [maxLen]; omega
              case c4 => omega
              case c5 => simp; omega
              intro v' w' hown' hgrow _
              have HBn := Lib.hid ((HB'.out.alloc HB'.out.size _).grown hgrow (by have := HB'.out.size; simp; omega) (fun k hk => by have := hown.lt k (by rw [hk]); omega))
              have HCn := Lib.hid (show w'.heap[w.heap.size + 1]? = some (.cells C 82 (0, 0)) by
                rw [hgrow.block _ (by simp; omega) (fun e => by have := hown.lt _ e.symm; omega), Below.heap_alloc _ _ _ (by omega)]; exact HC'.out)
              clear hgrow hown
              go_wp2
              go_roundw
              case rel => exact ⟨j', _, l ++ [0], rfl, by go_num, by omega, D.out, by simpa using hown', HCn.out, HBn.out⟩
              case measure => (simp [intOf] <;> omega)

theorem isOf_zeroT (b : Int) : IsOf b 0 [] := ⟨by simp [okDigits], by simp [rightOf, noTwo], by simp [noLead], rfl⟩

set_option maxHeartbeats 4000000 in
set_option maxRecDepth 100000 in
theorem Of_zeroT (base : Int) (w : World) (hb2 : 2 ≤ base) (hb6 : base ≤ 6) :
    Calls Tryd.prog 31 #[.int .i64 base, .int .i64 0] w
      (RetQ (fun v w' => ∃ x l, v = .tuple #[x, .nilIface] ∧ RepT (w.heap.size ≤ ·) w' (tInts l) x ∧ IsOf base 0 l) w) := by
  have hr : radix base = base := by simp [radix]; omega
  have e0 : (base == 0) = false := by simp; omega
  have e1 : (base != 1) = true := by simp; omega
  have Hr := Lib.hid hr; clear hr
  go_enter Tryd.func31, Tryd.ntmps31
  go_wp2_with (go_at_call 34; refine (Radix_calls _ _).mono ?_; rintro e w' ⟨rfl, rfl⟩; rw [Hr.out])
  refine wp_loop_rounds 1 ?_
  rw [rounds_succ]
  go_wp2
  go_ret2
  exact RetQ.mk ⟨_, [], rfl, repNilInts _ _, isOf_zeroT base⟩ ((Below.refl _ _).alloc (Nat.le_refl _) _)

def ofErr (base n : Int) : Int := if radix base = 0 ∨ n < 0 ∨ 1099511627776 < n then 1 else 0

set_option maxHeartbeats 4000000 in
set_option maxRecDepth 100000 in
theorem Of_badT (base n : Int) (w : World) (h : radix base = 0 ∨ n < 0 ∨ 1099511627776 < n) :
    Calls Tryd.prog 31 #[.int .i64 base, .int .i64 n] w (RetS (.tuple #[.slice none 0 0, .iface 26 (.int .i64 1)]) w) := by
  by_cases h1 : radix base = 0
  · have e0 : (radix base == 0) = true := by simp [h1]
    clear h h1
    go_enter Tryd.func31, Tryd.ntmps31
    go_wp2_with (go_at_call 34; refine (Radix_calls _ _).mono ?_; rintro e w' ⟨rfl, rfl⟩)
    go_ret2
    exact RetS.mk rfl
  · have e0 : (radix base == 0) = false := by simp [h1]
    by_cases h2 : n < 0
    · clear h h1
      go_enter Tryd.func31, Tryd.ntmps31
      go_wp2_with (go_at_call 34; refine (Radix_calls _ _).mono ?_; rintro e w' ⟨rfl, rfl⟩)
      go_ret2
      exact RetS.mk rfl
    · have h3 : 1099511627776 < n := by omega
      clear h h1
      go_enter Tryd.func31, Tryd.ntmps31
      go_wp2_with (go_at_call 34; refine (Radix_calls _ _).mono ?_; rintro e w' ⟨rfl, rfl⟩)
      go_ret2
      exact RetS.mk rfl

theorem Of_goodT (base n : Int) (w : World) (h : radix base ≠ 0) (hn0 : 0 ≤ n) (hn1 : n ≤ 1099511627776) :
    Calls Tryd.prog 31 #[.int .i64 base, .int .i64 n] w
      (RetQ (fun v w' => ∃ x l, v = .tuple #[x, .nilIface] ∧ RepT (w.heap.size ≤ ·) w' (tInts l) x ∧ IsOf base n l) w) := by
  rcases radix_pos h with ⟨rfl, _⟩ | ⟨h2, h6, _⟩
  · exact Of_fibT n w hn0 hn1
  · rcases Int.lt_or_eq_of_le hn0 with h0 | h0
    · exact Of_baseT base n w h2 h6 h0 hn1
    · subst h0; exact Of_zeroT base w h2 h6
theorem Of_callsT (base n : Int) (w : World) :
    Calls Tryd.prog 31 #[.int .i64 base, .int .i64 n] w
      (RetQ (fun v w' => ∃ x l, v = .tuple #[x, errV 26 (ofErr base n)] ∧ RepT (w.heap.size ≤ ·) w' (tInts l) x ∧ (ofErr base n = 0 → IsOf base n l) ∧ (ofErr base n ≠ 0 → l = [])) w) := by
  by_cases hbad : radix base = 0 ∨ n < 0 ∨ 1099511627776 < n
  · have H : ofErr base n = 1 := by simp [ofErr, hbad]
    refine (Of_badT base n w hbad).mono ?_
    rintro e w' ⟨rfl, rfl⟩
    exact RetQ.mk ⟨_, [], by rw [H]; rfl, repNilInts _ _, fun h => by omega, fun _ => rfl⟩ (Below.refl _ _)
  · have H : ofErr base n = 0 := by simp [ofErr, hbad]
    refine (Of_goodT base n w (by omega) (by omega) (by omega)).mono ?_
    rintro e w' ⟨v, rfl, ⟨x, l, rfl, hl, hof⟩, hb⟩
    exact RetQ.mk ⟨_, l, by rw [H]; rfl, hl, fun _ => hof, fun h => absurd H h⟩ hb
open Classical in
/-- The digits of a number, nothing of what is none. -/
noncomputable def ofL (base n : Int) : List Int := if h : ofErr base n = 0 ∧ ∃ l, IsOf base n l then Classical.choose h.2 else []
theorem ofL_eq {base n : Int} {l : List Int} (h1 : ofErr base n = 0 → IsOf base n l) (h2 : ofErr base n ≠ 0 → l = []) : ofL base n = l := by
  unfold ofL
  by_cases h : ofErr base n = 0
  · have hr : radix base ≠ 0 := by
      intro hr; simp [ofErr, hr] at h
    have hx : ofErr base n = 0 ∧ ∃ l, IsOf base n l := ⟨h, l, h1 h⟩
    rw [dif_pos hx]
    exact (Classical.choose_spec hx.2).unique hr (h1 h)
  · rw [dif_neg (fun hx => h hx.1), h2 h]
section
variable {G : World → Prop}
theorem Of_snd (base n : Int) : Snd Tryd.prog G 31 [tInt base, tInt n] (.tup [tInts (ofL base n), tErr (ofErr base n)]) := by
  refine ⟨enter_of Tryd.func31 rfl rfl, fun S w vs hG hs hr => ?_⟩
  obtain ⟨l⟩ := vs
  match l, hs with
  | [v0, v1], _ =>
    obtain rfl := intInv (hr 0 _ v0 rfl rfl)
    obtain rfl := intInv (hr 1 _ v1 rfl rfl)
    refine (Of_callsT base n w).mono ?_
    rintro e w' ⟨v, rfl, ⟨x, l, rfl, hl, hof, hno⟩, hb⟩
    refine ⟨_, rfl, ?_, hb⟩
    rw [ofL_eq hof hno]
    refine .tup _ _ rfl fun k z q a b => ?_
    match k, a, b with
    | 0, a, b => cases a; cases b; exact hl.mono fun b hb => .inr hb
    | 1, a, b =>
      cases a; cases b
      unfold tErr errV
      split
      · exact .nilI
      · exact .iface _ _ _ (.int _ _)
    | k + 2, a, b => cases a
end
end Go.Proofs.YtjidhaendndokaaDoor
namespace Go.Proofs.YtjidhaendndokaaDoor
open Go.RowKit

end Go.Proofs.YtjidhaendndokaaDoor
namespace Go.Proofs.YtjidhaendndokaaDoor
open Go.RowKit

end Go.Proofs.YtjidhaendndokaaDoor
namespace Go.Proofs.YtjidhaendndokaaDoor
open Go.RowKit

end Go.Proofs.YtjidhaendndokaaDoor
namespace Go.Proofs.YtjidhaendndokaaDoor

theorem greedy_end {b n : Int} (hb : radix b ≠ 0) : ∀ (j : Nat) (r : Int) (l : List Int), GreedyB b n j r l → ∃ d, IsOf b n d
  | 0, r, l, h => ⟨l, h.done⟩
  | j + 1, r, l, h => by
    by_cases hl : l = []
    · subst hl
      by_cases hr : r < W b j
      · exact greedy_end hb j r [] (h.none hr)
      · refine greedy_end hb j _ _ (h.step hb (.inr ?_))
        have hp := W_pos hb j
        have : 1 ≤ r / W b j := (Int.le_ediv_iff_mul_le (by omega)).2 (by omega)
        omega
    · exact greedy_end hb j _ _ (h.step hb (.inl hl))
theorem ofErr_zero {base n : Int} : ofErr base n = 0 ↔ radix base ≠ 0 ∧ 0 ≤ n ∧ n ≤ 1099511627776 := by
  unfold ofErr; split <;> omega
theorem ofL_is {base n : Int} (h : ofErr base n = 0) : IsOf base n (ofL base n) := by
  obtain ⟨h1, h2, h3⟩ := ofErr_zero.1 h
  obtain ⟨d, hd⟩ := greedy_end h1 58 n [] (.start h2 (by have := W_big h1 (Nat.le_refl 58); omega) (by omega))
  rw [ofL_eq (fun _ => hd) (fun h' => absurd h h')]; exact hd
/-- What is said of a number. -/
noncomputable def said (o : GOut) (n : Int) : Int := o.outs.getD (runFrom o.next 0 (ofL o.base n)).toNat 0
noncomputable def atErr (o : GOut) (n : Int) : Int := if outErr o ≠ 0 then outErr o else if n < 0 ∨ 1099511627776 < n then 1 else 0
noncomputable def atOf (o : GOut) (n : Int) : Int := if atErr o n = 0 then said o n else 0
theorem OkOut.dig {o : GOut} {k m : Nat} (g : OkOut o k m) {n : Int} (h0 : 0 ≤ n) (h1 : n ≤ 1099511627776) : ∀ x ∈ ofL o.base n, 0 ≤ x ∧ x < (k : Int) := fun x hx => by
  have hk := g.k_eq
  have := (ofL_is (ofErr_zero.2 ⟨by have := g.k2; omega, h0, h1⟩)).ok x hx
  omega
theorem OkOut.st {o : GOut} {k m : Nat} (g : OkOut o k m) {n : Int} (h0 : 0 ≤ n) (h1 : n ≤ 1099511627776) : 0 ≤ runFrom o.next 0 (ofL o.base n) ∧ runFrom o.next 0 (ofL o.base n) < (m : Int) :=
  runFrom_ok g.rows _ 0 (by have := g.m0; omega) (g.dig h0 h1)
structure OkRules (rules : List (List Int)) (code : List Int) (k m : Nat) : Prop where
  k2 : 2 ≤ k ∧ k ≤ 6
  m0 : 0 < m
  m20 : m ≤ 20
  row0 : (rules.getD 0 []).length = k
  rows : Rows0 k m rules
  zero : nextOf rules 0 0 = 0
  clen : code.length = m
  rng : ∀ x ∈ code, 0 ≤ x ∧ x ≤ 9
theorem OkRules.out {rules : List (List Int)} {code : List Int} {k m : Nat} (g : OkRules rules code k m) {outs : List Int} (hl : outs.length = m) (hr : ∀ x ∈ outs, 0 ≤ x ∧ x ≤ 9) : OkOut ⟨(k : Int), rules, outs⟩ k m :=
  ⟨by show radix k = k; have := g.k2; unfold radix; rw [if_neg (by omega), if_pos (by omega)], g.k2, g.m0, g.m20, hl, g.rows, hr⟩
theorem OkOut.err {o : GOut} {k m : Nat} (g : OkOut o k m) : outErr o = 0 := by
  have hk := g.k_eq
  have h2 := g.k2
  have hl := g.rows.len
  have ho := g.outs
  have hm := g.m0
  have hm2 := g.m20
  unfold outErr
  rw [if_neg (by omega), if_neg (by omega), if_neg (by omega), if_neg (by omega)]
  refine (outRows_zero _ _ (by omega)).2 fun j hj hk2 => rowFault_zero.2 ⟨?_, fun s hs => ?_, g.rng _ (List.getElem_mem _)⟩
  · rw [hk, g.rows.row _ (List.getElem_mem _)]
  · rw [hl]; exact g.rows.ok _ (List.getElem_mem _) s hs
theorem OkOut.at {o : GOut} {k m : Nat} (g : OkOut o k m) {n : Int} (h0 : 0 ≤ n) (h1 : n ≤ 1099511627776) : atErr o n = 0 ∧ atOf o n = said o n := by
  have h : atErr o n = 0 := by unfold atErr; rw [if_neg (by rw [g.err]; simp), if_neg (by omega)]
  exact ⟨h, by unfold atOf; rw [if_pos h]⟩
end Go.Proofs.YtjidhaendndokaaDoor
namespace Go.Proofs.YtjidhaendndokaaDoor
open Go.RowKit

noncomputable def wordL (base : Int) (nums : List Int) : List Int := if wordErr base nums = 0 then wordRows (radix base) (longest (nums.map (ofL base))) (nums.map (ofL base)) else []
theorem wordErr_ok {base : Int} {nums : List Int} (h1 : manyErr base nums.length = 0) (h2 : ∀ x ∈ nums, 0 ≤ x ∧ x ≤ 1099511627776) : wordErr base nums = 0 := by
  unfold wordErr
  rw [if_neg (by omega), if_pos]
  rw [List.all_eq_true]
  exact fun x hx => by simpa [okNum] using h2 x hx
theorem set_mid {α : Type} {A : List α} {k : Nat} {z y : α} {n : Nat} (h : A.length = n) : (A ++ List.replicate (k + 1) z).set n y = (A ++ [y]) ++ List.replicate k z := by
  subst h
  rw [List.set_append_right _ _ (Nat.le_refl _), Nat.sub_self, List.replicate_succ, List.set_cons_zero, List.append_assoc]
  rfl
section
variable {G : World → Prop} (hG : Lasting G)
include hG
set_option maxHeartbeats 8000000 in
set_option maxRecDepth 100000 in
theorem Word_snd (base : Int) (nums : List Int) : Snd Tryd.prog G 18 [tInt base, tInts nums] (.tup [tInts (wordL base nums), tErr (wordErr base nums)]) := by
  have c1 := Many_snd hG base nums.length
  refine snd_of_body (n := 94) (tm := [(0, .t (tInt base)), (1, .t (tInts nums))]) (rs := [.tmp 4, .tmp 5]) tt_ok Tryd.func18 rfl rfl rfl rfl rfl ?_
  have bad : ∀ e, wordErr base nums = e → e ≠ 0 → wordL base nums = [] := fun e h1 h2 => by unfold wordL; rw [if_neg (by omega)]
  by_cases h0 : manyErr base nums.length = 0
  · rw [h0] at c1
    obtain ⟨hr, ht0, ht5, _, _⟩ := many_ok h0
    have hr2 := radix_two hr
    have hofl : ∀ x, 0 ≤ x ∧ x ≤ 1099511627776 → IsOf base x (ofL base x) ∧ (ofL base x).length ≤ 58 := fun x hx => by
      have := ofL_is (ofErr_zero.2 ⟨hr, hx⟩)
      exact ⟨this, this.len hr hx.2⟩
    generalize manyOf base nums.length = mo at *
    have htb := Tab.cons c1 Tab.nil
    repeat' (first | (with_reducible first | apply w1 | apply w2 | apply w3 | apply w4 | apply w5 | apply w6 | apply w7 | apply w8 | apply w9 | apply wa | apply wb | apply wc) | ((with_reducible apply wd); focus decide) | ((with_reducible apply we); focus exact rfl) | ((with_reducible apply wf); focus exact rfl) | ((first | (with_reducible apply SW_run tt_ok hG htb) | ((with_reducible apply SW_draw rfl tt_ok hG htb); (focus kernel_rfl); focus simp only [List.range, List.range.loop, List.size_toArray, List.length_cons, List.length_nil, Nat.reduceAdd])); focus ((repeat' (first | (with_reducible first | exact wg | exact wh) | ((with_reducible first | apply wi | apply wj); focus (simp (discharger := omega) only [go_sem, tErr, simprocAttr]; with_reducible rfl)))); done)))
    clear htb c1
    refine SW_loop (fun mm s => ∃ (j : Nat) (rt : List T), mm = nums.length - j ∧ s = ⟨94, [(0, .t (tInt base)), (8, .t (tNat (longest ((nums.take j).map (ofL base))))), (9, .sref 0), (34, .t (tInts nums)), (35, .t (tInt nums.length)), (36, .t (tNat j))], [.row 38 1 true rt]⟩ ∧
        rt = ((nums.take j).map (ofL base)).map tInts ++ List.replicate (nums.length - j) (.list []) ∧ j ≤ nums.length ∧ (∀ x ∈ nums.take j, 0 ≤ x ∧ x ≤ 1099511627776)) (nums.length)
      ⟨_, Norm.headS (own := [(9, 38, 1, true)]) (keep := [0, 8, 9, 34, 35, 36]) (by refine ⟨?_, ?_⟩; (simp (discharger := omega) only [go_sem, simprocAttr]; with_reducible rfl); refine ⟨?_, ?_, ?_, ?_⟩ <;> (simp only [go_sem, simprocAttr]; with_reducible rfl)), 0, _, rfl, rfl, by simp, Nat.zero_le _, fun x hx => by simp at hx⟩ ?_
    rintro mm s ⟨j, rt, rfl, rfl, hrt, hj, hA⟩
    have hL58 : longest ((nums.take j).map (ofL base)) ≤ 58 := by
      rcases longest_mem ((nums.take j).map (ofL base)) with h | ⟨d, hd, h⟩
      · omega
      · obtain ⟨x, hx, rfl⟩ := List.mem_map.1 hd
        rw [← h]; exact (hofl x (hA x hx)).2
    have hrl : rt.length = nums.length := by rw [hrt]; simp; omega
    by_cases hlt : j < nums.length
    · obtain ⟨x, hx⟩ : ∃ x, nums[j]! = x := ⟨_, rfl⟩
      have hat := bang_at hx hlt
      have cO := Of_snd (G := G) base x
      by_cases hx0 : 0 ≤ x ∧ x ≤ 1099511627776
      · rw [ofErr_zero.2 ⟨hr, hx0⟩] at cO
        have htk := take_next hx hlt
        obtain ⟨_, hd58⟩ := hofl x hx0
        have hlg : longest ((nums.take (j + 1)).map (ofL base)) = max (longest ((nums.take j).map (ofL base))) (ofL base x).length := by rw [htk, List.map_append]; exact longest_snoc _ _
        have hrt2 : rt.set j (.list ((ofL base x).map tInt)) = ((nums.take (j + 1)).map (ofL base)).map tInts ++ List.replicate (nums.length - (j + 1)) (.list []) := by
          obtain ⟨k, hk⟩ : ∃ k, nums.length - j = k + 1 := ⟨nums.length - j - 1, by omega⟩
          rw [hrt, hk, set_mid (by simp; omega), show nums.length - (j + 1) = k by omega, htk]
          simp [tInts]
        generalize hdE : ofL base x = d at *
        generalize hLE : longest ((nums.take j).map (ofL base)) = L at *
        have hmx : (if (d.length : Int) > (L : Int) then (d.length : Int) else (L : Int)) = ((max L d.length : Nat) : Int) := by split <;> omega
        have htb := Tab.cons cO Tab.nil
        repeat' (first | (with_reducible first | apply w1 | apply w2 | apply w3 | apply w4 | apply w5 | apply w6 | apply w7 | apply w8 | apply w9 | apply wa | apply wb | apply wc) | ((with_reducible apply wd); focus decide) | ((with_reducible apply we); focus exact rfl) | ((with_reducible apply wf); focus exact rfl) | ((first | (with_reducible apply SW_run tt_ok hG htb) | ((with_reducible apply SW_draw rfl tt_ok hG htb); (focus kernel_rfl); focus simp only [List.range, List.range.loop, List.size_toArray, List.length_cons, List.length_nil, Nat.reduceAdd])); focus ((repeat' (first | (with_reducible first | exact wg | exact wh) | ((with_reducible first | apply wi | apply wj); focus (simp (discharger := omega) only [go_sem, tErr, hx, hmx, simprocAttr]; with_reducible rfl)))); done)))
        exact ⟨nums.length - (j + 1), _, by omega, Norm.headS (own := [(9, 38, 1, true)]) (keep := [0, 8, 9, 34, 35, 36]) (by refine ⟨?_, ?_⟩; (simp (discharger := omega) only [go_sem, simprocAttr]; with_reducible rfl); refine ⟨?_, ?_, ?_, ?_⟩ <;> (simp only [go_sem, simprocAttr]; with_reducible rfl)), j + 1, _, rfl, by rw [hlg]; rfl, hrt2, by omega, fun y hy => by
          rw [htk] at hy
          rcases List.mem_append.1 hy with h | h
          · exact hA y h
          · simp at h; subst h; exact hx0⟩
      · have e : ofErr base x = 1 := by unfold ofErr; rw [if_pos (by omega)]
        rw [e] at cO
        have he : wordErr base nums = 1 := by
          unfold wordErr
          rw [if_neg (by omega), if_neg]
          intro h
          have := List.all_eq_true.1 h x (by rw [← hat]; exact List.getElem_mem hlt)
          exact hx0 (by simpa [okNum] using this)
        rw [bad 1 he (by decide), he]
        generalize ofL base x = d at *
        generalize longest ((nums.take j).map (ofL base)) = L at *
        have htb := Tab.cons cO Tab.nil
        repeat' (first | (with_reducible first | apply w1 | apply w2 | apply w3 | apply w4 | apply w5 | apply w6 | apply w7 | apply w8 | apply w9 | apply wa | apply wb | apply wc) | ((with_reducible apply wd); focus decide) | ((with_reducible apply we); focus exact rfl) | ((with_reducible apply wf); focus exact rfl) | ((first | (with_reducible apply SW_run tt_ok hG htb) | ((with_reducible apply SW_draw rfl tt_ok hG htb); (focus kernel_rfl); focus simp only [List.range, List.range.loop, List.size_toArray, List.length_cons, List.length_nil, Nat.reduceAdd])); focus ((repeat' (first | (with_reducible first | exact wg | exact wh) | ((with_reducible first | apply wi | apply wj); focus (simp (discharger := omega) only [go_sem, tErr, hx, simprocAttr]; with_reducible rfl)))); done)))
        exact (by simp (discharger := omega) only [go_sem, tErr, simprocAttr])
    · obtain rfl : j = nums.length := by omega
      rw [List.take_length, Nat.sub_self, List.replicate_zero, List.append_nil] at hrt
      rw [List.take_length] at hL58 hA ⊢
      subst hrt
      have he : wordErr base nums = 0 := by
        unfold wordErr
        rw [if_neg (by omega), if_pos]
        rw [List.all_eq_true]
        exact fun x hx => by simpa [okNum] using hA x hx
      have hw : wordL base nums = wordRows (radix base) (longest (nums.map (ofL base))) (nums.map (ofL base)) := by unfold wordL; rw [if_pos he]
      rw [he, hw]
      have hrok : ∀ d ∈ nums.map (ofL base), okDigits base d := fun d hd => by
        obtain ⟨x, hx, rfl⟩ := List.mem_map.1 hd
        exact (hofl x (hA x hx)).1.ok
      have hge := @longest_ge (nums.map (ofL base))
      have hrl2 : (nums.map (ofL base)).length = nums.length := by simp
      generalize hLE : longest (nums.map (ofL base)) = L at *
      generalize nums.map (ofL base) = rows at *
      have cR := Radix_snd hG base
      have htb := Tab.cons cR Tab.nil
      repeat' (first | (with_reducible first | apply w1 | apply w2 | apply w3 | apply w4 | apply w5 | apply w6 | apply w7 | apply w8 | apply w9 | apply wa | apply wb | apply wc) | ((with_reducible apply wd); focus decide) | ((with_reducible apply we); focus exact rfl) | ((with_reducible apply wf); focus exact rfl) | ((first | (with_reducible apply SW_run tt_ok hG htb) | ((with_reducible apply SW_draw rfl tt_ok hG htb); (focus kernel_rfl); focus simp only [List.range, List.range.loop, List.size_toArray, List.length_cons, List.length_nil, Nat.reduceAdd])); focus ((repeat' (first | (with_reducible first | exact wg | exact wh) | ((with_reducible first | apply wi | apply wj); focus (simp (discharger := omega) only [go_sem, simprocAttr]; with_reducible rfl)))); done)))
      refine SW_norm ((Norm.frzRow 0 rfl).trans (Norm.datum 9 0 rfl rfl)) ?_
      refine SW_loop (fun mm s => ∃ (a : Nat) (ot : List T), mm = L - a ∧ s = ⟨94, [(0, .t (tInt base)), (8, .t (tNat L)), (9, .t (tIntss rows)), (14, .sref 0), (59, .t (tNat L)), (60, .t (tNat a))], [.row 3 1 false ot]⟩ ∧
          ot = ((wordRows (radix base) L rows).take a).map tInt ∧ a ≤ L) L
        ⟨_, Norm.headS (own := [(14, 3, 1, false)]) (keep := [0, 8, 9, 14, 59, 60]) (by refine ⟨?_, ?_⟩; (simp (discharger := omega) only [go_sem, simprocAttr]; with_reducible rfl); refine ⟨?_, ?_, ?_, ?_⟩ <;> (simp only [go_sem, simprocAttr]; with_reducible rfl)), 0, _, rfl, rfl, by simp, Nat.zero_le _⟩ ?_
      rintro mm s ⟨a, ot, rfl, rfl, hot, ha⟩
      have hwl : (wordRows (radix base) L rows).length = L := by simp [wordRows]
      have hotl : ot.length = a := by rw [hot]; simp; omega
      by_cases hlt2 : a < L
      · repeat' (first | (with_reducible first | apply w1 | apply w2 | apply w3 | apply w4 | apply w5 | apply w6 | apply w7 | apply w8 | apply w9 | apply wa | apply wb | apply wc) | ((with_reducible apply wd); focus decide) | ((with_reducible apply we); focus exact rfl) | ((with_reducible apply wf); focus exact rfl) | ((first | (with_reducible apply SW_run tt_ok hG htb) | ((with_reducible apply SW_draw rfl tt_ok hG htb); (focus kernel_rfl); focus simp only [List.range, List.range.loop, List.size_toArray, List.length_cons, List.length_nil, Nat.reduceAdd])); focus ((repeat' (first | (with_reducible first | exact wg | exact wh) | ((with_reducible first | apply wi | apply wj); focus (simp (discharger := omega) only [go_sem, simprocAttr]; with_reducible rfl)))); done)))
        refine SW_loop (fun mm s => ∃ (i : Nat) (l : Int), mm = rows.length - i ∧ s = ⟨94, [(0, .t (tInt base)), (8, .t (tNat L)), (9, .t (tIntss rows)), (14, .sref 0), (15, .t (tNat a)), (16, .t (tInt l)), (59, .t (tNat L)), (60, .t (tNat a)), (63, .t (tIntss rows)), (64, .t (tInt rows.length)), (65, .t (tNat i))], [.row 3 1 false ot]⟩ ∧
            l = pack (radix base) ((column L rows a).take i) ∧ i ≤ rows.length) rows.length
          ⟨_, Norm.headS (own := [(14, 3, 1, false)]) (keep := [0, 8, 9, 14, 15, 16, 59, 60, 63, 64, 65]) (by refine ⟨?_, ?_⟩; (simp (discharger := omega) only [go_sem, simprocAttr]; with_reducible rfl); refine ⟨?_, ?_, ?_, ?_⟩ <;> (simp only [go_sem, simprocAttr]; with_reducible rfl)), 0, _, rfl, rfl, by simp [pack], Nat.zero_le _⟩ ?_
        rintro mm s ⟨i, l, rfl, rfl, hl, hi⟩
        have hcl : (column L rows a).length = rows.length := by simp [column]
        have hcok := column_ok hr (long := L) hrok a
        have hlb := pack_bd hr2.1 ((column L rows a).take i) fun x hx => hcok x (List.mem_of_mem_take hx)
        have hp5 := (powW_bd hr2.1 hr2.2 (j := ((column L rows a).take i).length) (by simp; omega)).2
        rw [← hl] at hlb
        have hlb2 : 0 ≤ l ∧ l < 7776 := by omega
        clear hlb hp5
        by_cases hlt3 : i < rows.length
        · obtain ⟨d, hd⟩ : ∃ d, rows[i]! = d := ⟨_, rfl⟩
          have hdm := bang_mem hd hlt3
          have hdL := hge hdm
          have hdok := hrok d hdm
          have hpa := pad_at L d a hdL hlt2
          obtain ⟨x, hx⟩ : ∃ x, (pad L d).getD a 0 = x := ⟨_, rfl⟩
          rw [hx] at hpa
          have hcx : (column L rows a)[i]! = x := by
            rw [getElem!_pos _ i (by omega)]
            simp only [column, List.getElem_map]
            rw [bang_at hd hlt3, hx]
          have hxb := hcok x (bang_mem hcx (by omega))
          have hnx : pack (radix base) ((column L rows a).take (i + 1)) = l * radix base + x := by rw [take_next hcx (by omega), pack_snoc, ← hl]
          have hlm : 0 ≤ l * radix base ∧ l * radix base ≤ 46656 := by
            have m1 : l * radix base ≤ l * 6 := Int.mul_le_mul_of_nonneg_left hr2.2 (by omega)
            have m2 : 0 ≤ l * radix base := Int.mul_nonneg (by omega) (by omega)
            omega
          repeat' (first | (with_reducible first | apply w1 | apply w2 | apply w3 | apply w4 | apply w5 | apply w6 | apply w7 | apply w8 | apply w9 | apply wa | apply wb | apply wc) | ((with_reducible apply wd); focus decide) | ((with_reducible apply we); focus exact rfl) | ((with_reducible apply wf); focus exact rfl) | ((first | (with_reducible apply SW_run tt_ok hG htb) | ((with_reducible apply SW_draw rfl tt_ok hG htb); (focus kernel_rfl); focus simp only [List.range, List.range.loop, List.size_toArray, List.length_cons, List.length_nil, Nat.reduceAdd])); focus ((repeat' (first | (with_reducible first | exact wg | exact wh) | ((with_reducible first | apply wi | apply wj); focus (simp (discharger := omega) only [go_sem, hd, simprocAttr]; with_reducible rfl)))); done)))
          refine SW_meetG ⟨94, [(0, .t (tInt base)), (8, .t (tNat L)), (9, .t (tIntss rows)), (14, .sref 0), (15, .t (tNat a)), (16, .t (tInt l)), (19, .t (tInt x)), (59, .t (tNat L)), (60, .t (tNat a)), (63, .t (tIntss rows)), (64, .t (tInt rows.length)), (65, .t (tNat i))], [.row 3 1 false ot]⟩ Weak.sw (SW_if rfl (fun hp => ?_) (fun hp => ?_)) ?_
          · rw [dif_pos (by omega)] at hpa
            have hxk : d[a + d.length - L]! = x := by rw [getElem!_pos d _ (by omega), hpa]
            have hxe : (a : Int) - ((L : Int) - (d.length : Int)) = ((a + d.length - L : Nat) : Int) := by omega
            have hxe2 : a + d.length - L < d.length := by omega
            clear hpa
            generalize a + d.length - L = kk at *
            repeat' (first | (with_reducible first | apply w1 | apply w2 | apply w3 | apply w4 | apply w5 | apply w6 | apply w7 | apply w8 | apply w9 | apply wa | apply wb | apply wc) | ((with_reducible apply wd); focus decide) | ((with_reducible apply we); focus exact rfl) | ((with_reducible apply wf); focus exact rfl) | ((first | (with_reducible apply SW_run tt_ok hG htb) | ((with_reducible apply SW_draw rfl tt_ok hG htb); (focus kernel_rfl); focus simp only [List.range, List.range.loop, List.size_toArray, List.length_cons, List.length_nil, Nat.reduceAdd])); focus ((repeat' (first | (with_reducible first | exact wg | exact wh) | ((with_reducible first | apply wi | apply wj); focus (simp (discharger := omega) only [go_sem, hd, hxe, hxk, simprocAttr]; with_reducible rfl)))); done)))
            exact Meet.h ⟨_, Norm.headS (own := [(14, 3, 1, false)]) (keep := [0, 8, 9, 14, 15, 16, 19, 59, 60, 63, 64, 65]) (by refine ⟨?_, ?_⟩; (simp (discharger := omega) only [go_sem, simprocAttr]; with_reducible rfl); refine ⟨?_, ?_, ?_, ?_⟩ <;> (simp only [go_sem, simprocAttr]; with_reducible rfl)), rfl⟩
          · rw [dif_neg (by omega)] at hpa
            subst hpa
            repeat' (first | (with_reducible first | apply w1 | apply w2 | apply w3 | apply w4 | apply w5 | apply w6 | apply w7 | apply w8 | apply w9 | apply wa | apply wb | apply wc) | ((with_reducible apply wd); focus decide) | ((with_reducible apply we); focus exact rfl) | ((with_reducible apply wf); focus exact rfl) | ((first | (with_reducible apply SW_run tt_ok hG htb) | ((with_reducible apply SW_draw rfl tt_ok hG htb); (focus kernel_rfl); focus simp only [List.range, List.range.loop, List.size_toArray, List.length_cons, List.length_nil, Nat.reduceAdd])); focus ((repeat' (first | (with_reducible first | exact wg | exact wh) | ((with_reducible first | apply wi | apply wj); focus (simp (discharger := omega) only [go_sem, hd, simprocAttr]; with_reducible rfl)))); done)))
            exact Meet.h ⟨_, Norm.headS (own := [(14, 3, 1, false)]) (keep := [0, 8, 9, 14, 15, 16, 19, 59, 60, 63, 64, 65]) (by refine ⟨?_, ?_⟩; (simp (discharger := omega) only [go_sem, simprocAttr]; with_reducible rfl); refine ⟨?_, ?_, ?_, ?_⟩ <;> (simp only [go_sem, simprocAttr]; with_reducible rfl)), rfl⟩
          · repeat' (first | (with_reducible first | apply w1 | apply w2 | apply w3 | apply w4 | apply w5 | apply w6 | apply w7 | apply w8 | apply w9 | apply wa | apply wb | apply wc) | ((with_reducible apply wd); focus decide) | ((with_reducible apply we); focus exact rfl) | ((with_reducible apply wf); focus exact rfl) | ((first | (with_reducible apply SW_run tt_ok hG htb) | ((with_reducible apply SW_draw rfl tt_ok hG htb); (focus kernel_rfl); focus simp only [List.range, List.range.loop, List.size_toArray, List.length_cons, List.length_nil, Nat.reduceAdd])); focus ((repeat' (first | (with_reducible first | exact wg | exact wh) | ((with_reducible first | apply wi | apply wj); focus (simp (discharger := omega) only [go_sem, simprocAttr]; with_reducible rfl)))); done)))
            exact ⟨rows.length - (i + 1), _, by omega, Norm.headS (own := [(14, 3, 1, false)]) (keep := [0, 8, 9, 14, 15, 16, 59, 60, 63, 64, 65]) (by refine ⟨?_, ?_⟩; (simp (discharger := omega) only [go_sem, simprocAttr]; with_reducible rfl); refine ⟨?_, ?_, ?_, ?_⟩ <;> (simp only [go_sem, simprocAttr]; with_reducible rfl)), i + 1, _, rfl, rfl, hnx.symm, by omega⟩
        · obtain rfl : i = rows.length := by omega
          rw [List.take_of_length_le (by omega)] at hl
          have hwa : (wordRows (radix base) L rows)[a]! = l := by
            rw [getElem!_pos _ a (by omega), hl]
            simp [wordRows]
          have htk := take_next hwa (by omega)
          repeat' (first | (with_reducible first | apply w1 | apply w2 | apply w3 | apply w4 | apply w5 | apply w6 | apply w7 | apply w8 | apply w9 | apply wa | apply wb | apply wc) | ((with_reducible apply wd); focus decide) | ((with_reducible apply we); focus exact rfl) | ((with_reducible apply wf); focus exact rfl) | ((first | (with_reducible apply SW_run tt_ok hG htb) | ((with_reducible apply SW_draw rfl tt_ok hG htb); (focus kernel_rfl); focus simp only [List.range, List.range.loop, List.size_toArray, List.length_cons, List.length_nil, Nat.reduceAdd])); focus ((repeat' (first | (with_reducible first | exact wg | exact wh) | ((with_reducible first | apply wi | apply wj); focus (simp (discharger := omega) only [go_sem, simprocAttr]; with_reducible rfl)))); done)))
          exact ⟨L - (a + 1), _, by omega, Norm.headS (own := [(14, 3, 1, false)]) (keep := [0, 8, 9, 14, 59, 60]) (by refine ⟨?_, ?_⟩; (simp (discharger := omega) only [go_sem, simprocAttr]; with_reducible rfl); refine ⟨?_, ?_, ?_, ?_⟩ <;> (simp only [go_sem, simprocAttr]; with_reducible rfl)), a + 1, _, rfl, rfl, by rw [htk, List.map_append, hot]; rfl, by omega⟩
      · obtain rfl : a = L := by omega
        rw [List.take_of_length_le (by omega)] at hot
        generalize wordRows (radix base) a rows = wd at *
        subst hot
        repeat' (first | (with_reducible first | apply w1 | apply w2 | apply w3 | apply w4 | apply w5 | apply w6 | apply w7 | apply w8 | apply w9 | apply wa | apply wb | apply wc) | ((with_reducible apply wd); focus decide) | ((with_reducible apply we); focus exact rfl) | ((with_reducible apply wf); focus exact rfl) | ((first | (with_reducible apply SW_run tt_ok hG htb) | ((with_reducible apply SW_draw rfl tt_ok hG htb); (focus kernel_rfl); focus simp only [List.range, List.range.loop, List.size_toArray, List.length_cons, List.length_nil, Nat.reduceAdd])); focus ((repeat' (first | (with_reducible first | exact wg | exact wh) | ((with_reducible first | apply wi | apply wj); focus (simp (discharger := omega) only [go_sem, simprocAttr]; with_reducible rfl)))); done)))
        exact (by simp (discharger := omega) only [go_sem, tErr, simprocAttr])
  · have he : wordErr base nums = manyErr base nums.length := by unfold wordErr; rw [if_pos h0]
    rw [bad _ he h0, he]
    generalize manyErr base nums.length = f at *
    generalize manyOf base nums.length = mo at *
    have htb := Tab.cons c1 Tab.nil
    repeat' (first | (with_reducible first | apply w1 | apply w2 | apply w3 | apply w4 | apply w5 | apply w6 | apply w7 | apply w8 | apply w9 | apply wa | apply wb | apply wc) | ((with_reducible apply wd); focus decide) | ((with_reducible apply we); focus exact rfl) | ((with_reducible apply wf); focus exact rfl) | ((first | (with_reducible apply SW_run tt_ok hG htb) | ((with_reducible apply SW_draw rfl tt_ok hG htb); (focus kernel_rfl); focus simp only [List.range, List.range.loop, List.size_toArray, List.length_cons, List.length_nil, Nat.reduceAdd])); focus ((repeat' (first | (with_reducible first | exact wg | exact wh) | ((with_reducible first | apply wi | apply wj); focus (simp (discharger := omega) only [go_sem, tErr, h0, simprocAttr]; with_reducible rfl)))); done)))
    exact (by simp (discharger := omega) only [go_sem, tErr, h0, simprocAttr])
end
end Go.Proofs.YtjidhaendndokaaDoor
namespace Go.Proofs.YtjidhaendndokaaDoor
open Go.RowKit

theorem word_one {base : Int} (hm : manyErr base 1 = 0) {j : Int} (h0 : 0 ≤ j) (h1 : j ≤ 1099511627776) : wordErr base [j] = 0 ∧ wordL base [j] = ofL base j ∧ IsOf base j (ofL base j) := by
  have he : wordErr base [j] = 0 := wordErr_ok hm fun x hx => by rw [List.mem_singleton.1 hx]; exact ⟨h0, h1⟩
  refine ⟨he, ?_, ofL_is (ofErr_zero.2 ⟨(many_ok hm).1, h0, h1⟩)⟩
  unfold wordL
  rw [if_pos he]
  show wordRows (radix base) (longest [ofL base j]) [ofL base j] = _
  generalize ofL base j = d
  have hl : longest [d] = d.length := by show max 0 d.length = _; omega
  rw [hl]
  apply List.ext_getElem
  · simp [wordRows]
  · intro i h2 h3
    have e : (wordRows (radix base) d.length [d])[i]? = some (pack (radix base) (column d.length [d] i)) := by
      unfold wordRows
      rw [List.getElem?_map, List.getElem?_range h3]; rfl
    rw [(List.getElem?_eq_some_iff.1 e).2]
    show pack (radix base) [(pad d.length d).getD i 0] = _
    unfold pad
    rw [Nat.sub_self, List.replicate_zero, List.nil_append, getD_lt h3]
    show (0 : Int) * radix base + d[i] = _
    rw [Int.zero_mul, Int.zero_add]
/-- Is a number's word taken? -/
theorem took_takes {a : GAuto} {N m : Nat} (g : Good a N m) (hf : autoFault a = 0) (ht : a.tracks = 1) {j : Int} (h0 : 0 ≤ j) (h1 : j ≤ 1099511627776) :
    wordErr a.base [j] = 0 ∧ runErr a (wordL a.base [j]) = 0 ∧ tookN a j.toNat = if takesOf a (wordL a.base [j]) = true then 1 else 0 := by
  have hm := g.many
  rw [ht] at hm
  obtain ⟨p1, p2, p3⟩ := word_one hm h0 h1
  obtain ⟨q1, _, _, _, q5⟩ := many_ok hm
  have hne := g.n_eq
  rw [ht, q5] at hne
  have hrN : radix a.base = (N : Int) := by
    have e : powW (radix a.base) (Int.toNat 1) = 1 * radix a.base := rfl
    omega
  have hl := p3.len q1 h1
  have hr : runErr a (wordL a.base [j]) = 0 := by
    rw [p2]
    refine (runErr_good g _).2 ⟨by omega, fun x hx => ?_⟩
    have := p3.ok x hx
    omega
  refine ⟨p1, hr, ?_⟩
  rw [tookN_is q1 (d := ofL a.base j) (by rw [show ((j.toNat : Nat) : Int) = j by omega]; exact p3)]
  unfold takesOf
  rw [hr, p2]
  show _ = if (true && endOf a.ends (runFrom a.next 0 (ofL a.base j))) = true then 1 else 0
  rw [Bool.true_and]
def threesB : GAuto := ⟨2, 1, [[0, 1], [2, 0], [1, 2]], [true, false, false]⟩
theorem threesB_run : ∀ (d : List Int) (s : Int), (s = 0 ∨ s = 1 ∨ s = 2) → (∀ x ∈ d, x = 0 ∨ x = 1) → runFrom threesB.next s d = (s * W 2 d.length + wv 2 d) % 3
  | [], s, hs, _ => by
    show s = (s * 1 + 0) % 3
    omega
  | x :: t, s, hs, hd => by
    have hx := hd x List.mem_cons_self
    have e : W 2 (x :: t).length = W 2 t.length * 2 := rfl
    have e2 : wv 2 (x :: t) = x * W 2 t.length + wv 2 t := rfl
    have ih := fun s' hs' => threesB_run t s' hs' fun y hy => hd y (List.mem_cons_of_mem _ hy)
    have er : runFrom threesB.next s (x :: t) = runFrom threesB.next (nextOf threesB.next s x) t := rfl
    rw [e, e2, er]
    generalize W 2 t.length = P at *
    generalize wv 2 t = v at *
    rcases hs with rfl | rfl | rfl <;> rcases hx with rfl | rfl
    · rw [show nextOf threesB.next 0 0 = 0 by decide, ih 0 (by simp)]; omega
    · rw [show nextOf threesB.next 0 1 = 1 by decide, ih 1 (by simp)]; omega
    · rw [show nextOf threesB.next 1 0 = 2 by decide, ih 2 (by simp)]; omega
    · rw [show nextOf threesB.next 1 1 = 0 by decide, ih 0 (by simp)]; omega
    · rw [show nextOf threesB.next 2 0 = 1 by decide, ih 1 (by simp)]; omega
    · rw [show nextOf threesB.next 2 1 = 2 by decide, ih 2 (by simp)]; omega
theorem threesB_below : belowN threesB 1000 = 334 := by
  have h : ∀ j, j < 1000 → tookN threesB j = if j % 3 = 0 then 1 else 0 := fun j hj => by
    obtain ⟨_, _, h3⟩ := word_one (base := 2) (by decide) (j := (j : Int)) (by omega) (by omega)
    rw [tookN_is (by decide) h3, threesB_run _ 0 (.inl rfl) fun x hx => by
      have := h3.ok x hx
      have e : radix 2 = 2 := by decide
      omega]
    rw [h3.val, Int.zero_mul, Int.zero_add]
    by_cases e : j % 3 = 0
    · rw [if_pos e, show ((j : Nat) : Int) % 3 = 0 by omega]; rfl
    · rw [if_neg e]
      rcases (show ((j : Nat) : Int) % 3 = 1 ∨ ((j : Nat) : Int) % 3 = 2 by omega) with q | q <;> (rw [q]; rfl)
  show psum (tookN threesB) 1000 = 334
  rw [psum_congr h]
  decide +kernel
theorem threesB_fault : autoFault threesB = 0 := by decide
end Go.Proofs.YtjidhaendndokaaDoor
namespace Go.Proofs.YtjidhaendndokaaDoor
open Go.RowKit

open Classical in
noncomputable def belowE (a : GAuto) (n : Int) : Int := if autoFault a ≠ 0 then autoFault a else if a.tracks ≠ 1 then 2 else if n < 0 ∨ 1099511627776 < n then 1 else 0
noncomputable def belowO (a : GAuto) (n : Int) : Int := if belowE a n = 0 then belowN a n else 0
/-- Where the sum stands ahead of a digit of the limit. -/
def limP (b : Int) (d : List Int) (i : Nat) : Int := if i = 0 then W b (d.length - 1) else wv b (d.take i ++ List.replicate (d.length - i) 0)
def lastD (d : List Int) (i : Nat) : Int := if i = 0 then 0 else d.getD (i - 1) 0
section
variable {G : World → Prop} (hG : Lasting G)
include hG
set_option maxHeartbeats 32000000 in
set_option maxRecDepth 100000 in
theorem Below_snd (a : GAuto) (n : Int) : Snd Tryd.prog G 16 [tAuto a, tInt n] (.tup [tInt (belowO a n), tErr (belowE a n)]) := by
  have c1 := Check_snd hG a
  refine snd_of_body (n := 142) (tm := [(0, .t (tAuto a)), (1, .t (tInt n))]) (rs := [.tmp 4, .tmp 5]) tt_ok Tryd.func16 rfl rfl rfl rfl rfl ?_
  have hbad : belowE a n ≠ 0 → belowO a n = 0 := fun h => if_neg h
  by_cases hf : autoFault a = 0
  rotate_left
  · have he : belowE a n = autoFault a := if_pos hf
    rw [hbad (by rw [he]; exact hf), he]
    generalize autoFault a = e at *
    have htb := Tab.cons c1 Tab.nil
    repeat' (first | (with_reducible first | apply w1 | apply w2 | apply w3 | apply w4 | apply w5 | apply w6 | apply w7 | apply w8 | apply w9 | apply wa | apply wb | apply wc) | ((with_reducible apply wd); focus decide) | ((with_reducible apply we); focus exact rfl) | ((with_reducible apply wf); focus exact rfl) | ((first | (with_reducible apply SW_run tt_ok hG htb) | ((with_reducible apply SW_draw rfl tt_ok hG htb); (focus kernel_rfl); focus simp only [List.range, List.range.loop, List.size_toArray, List.length_cons, List.length_nil, Nat.reduceAdd])); focus ((repeat' (first | (with_reducible first | exact wg | exact wh) | ((with_reducible first | apply wi | apply wj); focus (simp (discharger := omega) only [go_sem, tAuto, tErr, hf, simprocAttr]; with_reducible rfl)))); done)))
    exact (by simp (discharger := omega) only [go_sem, tErr, hf, simprocAttr])
  rw [hf] at c1
  have htb := Tab.cons c1 Tab.nil
  by_cases h1 : a.tracks = 1
  rotate_left
  · have he : belowE a n = 2 := by unfold belowE; rw [if_neg (fun q => q hf), if_pos h1]
    rw [hbad (by rw [he]; decide), he]
    repeat' (first | (with_reducible first | apply w1 | apply w2 | apply w3 | apply w4 | apply w5 | apply w6 | apply w7 | apply w8 | apply w9 | apply wa | apply wb | apply wc) | ((with_reducible apply wd); focus decide) | ((with_reducible apply we); focus exact rfl) | ((with_reducible apply wf); focus exact rfl) | ((first | (with_reducible apply SW_run tt_ok hG htb) | ((with_reducible apply SW_draw rfl tt_ok hG htb); (focus kernel_rfl); focus simp only [List.range, List.range.loop, List.size_toArray, List.length_cons, List.length_nil, Nat.reduceAdd])); focus ((repeat' (first | (with_reducible first | exact wg | exact wh) | ((with_reducible first | apply wi | apply wj); focus (simp (discharger := omega) only [go_sem, tAuto, tErr0, h1, simprocAttr]; with_reducible rfl)))); done)))
    exact (by simp (discharger := omega) only [go_sem, tErr, simprocAttr])
  have h1t := eq_true h1
  by_cases h2 : n < 0
  · have he : belowE a n = 1 := by unfold belowE; rw [if_neg (fun q => q hf), if_neg (fun q => q h1), if_pos (.inl h2)]
    rw [hbad (by rw [he]; decide), he]
    have h2t := eq_true h2
    repeat' (first | (with_reducible first | apply w1 | apply w2 | apply w3 | apply w4 | apply w5 | apply w6 | apply w7 | apply w8 | apply w9 | apply wa | apply wb | apply wc) | ((with_reducible apply wd); focus decide) | ((with_reducible apply we); focus exact rfl) | ((with_reducible apply wf); focus exact rfl) | ((first | (with_reducible apply SW_run tt_ok hG htb) | ((with_reducible apply SW_draw rfl tt_ok hG htb); (focus kernel_rfl); focus simp only [List.range, List.range.loop, List.size_toArray, List.length_cons, List.length_nil, Nat.reduceAdd])); focus ((repeat' (first | (with_reducible first | exact wg | exact wh) | ((with_reducible first | apply wi | apply wj); focus (simp (discharger := omega) only [go_sem, tAuto, tErr0, h1t, h2t, simprocAttr]; with_reducible rfl)))); done)))
    exact (by simp (discharger := omega) only [go_sem, tErr, simprocAttr])
  by_cases h3 : n > 1099511627776
  · have he : belowE a n = 1 := by unfold belowE; rw [if_neg (fun q => q hf), if_neg (fun q => q h1), if_pos (.inr h3)]
    rw [hbad (by rw [he]; decide), he]
    have h3t := eq_true h3
    repeat' (first | (with_reducible first | apply w1 | apply w2 | apply w3 | apply w4 | apply w5 | apply w6 | apply w7 | apply w8 | apply w9 | apply wa | apply wb | apply wc) | ((with_reducible apply wd); focus decide) | ((with_reducible apply we); focus exact rfl) | ((with_reducible apply wf); focus exact rfl) | ((first | (with_reducible apply SW_run tt_ok hG htb) | ((with_reducible apply SW_draw rfl tt_ok hG htb); (focus kernel_rfl); focus simp only [List.range, List.range.loop, List.size_toArray, List.length_cons, List.length_nil, Nat.reduceAdd])); focus ((repeat' (first | (with_reducible first | exact wg | exact wh) | ((with_reducible first | apply wi | apply wj); focus (simp (discharger := omega) only [go_sem, tAuto, tErr0, h1t, h2, h3t, simprocAttr]; with_reducible rfl)))); done)))
    exact (by simp (discharger := omega) only [go_sem, tErr, simprocAttr])
  have he : belowE a n = 0 := by unfold belowE; rw [if_neg (fun q => q hf), if_neg (fun q => q h1), if_neg (by omega)]
  have ho : belowO a n = belowN a n := if_pos he
  rw [he, ho]
  clear hbad he ho
  by_cases h4 : n = 0
  · subst h4
    have e0 : belowN a 0 = 0 := rfl
    rw [e0]
    repeat' (first | (with_reducible first | apply w1 | apply w2 | apply w3 | apply w4 | apply w5 | apply w6 | apply w7 | apply w8 | apply w9 | apply wa | apply wb | apply wc) | ((with_reducible apply wd); focus decide) | ((with_reducible apply we); focus exact rfl) | ((with_reducible apply wf); focus exact rfl) | ((first | (with_reducible apply SW_run tt_ok hG htb) | ((with_reducible apply SW_draw rfl tt_ok hG htb); (focus kernel_rfl); focus simp only [List.range, List.range.loop, List.size_toArray, List.length_cons, List.length_nil, Nat.reduceAdd])); focus ((repeat' (first | (with_reducible first | exact wg | exact wh) | ((with_reducible first | apply wi | apply wj); focus (simp (discharger := omega) only [go_sem, tAuto, tErr0, h1t, simprocAttr]; with_reducible rfl)))); done)))
    exact (by simp (discharger := omega) only [go_sem, tErr0, simprocAttr])
  have g := good_of hf
  obtain ⟨r0, _, _, _, _⟩ := many_ok g.many
  have hm := g.many
  rw [h1] at hm
  obtain ⟨p1, p2, hl⟩ := word_one hm (j := n) (by omega) (by omega)
  have cO := Of_snd (G := G) a.base n
  have hofe : ofErr a.base n = 0 := ofErr_zero.2 ⟨r0, by omega, by omega⟩
  rw [hofe] at cO
  obtain ⟨d, hd⟩ : ∃ d, ofL a.base n = d := ⟨_, rfl⟩
  rw [hd] at cO hl
  obtain ⟨r, hr⟩ : ∃ r, (manyOf a.base a.tracks).toNat = r := ⟨_, rfl⟩
  rw [hr] at g
  obtain ⟨m, hmm⟩ : ∃ m, a.next.length = m := ⟨_, rfl⟩
  rw [hmm] at g
  have hrad : radix a.base = (r : Int) := by
    have hne := g.n_eq
    rw [h1] at hne
    have q5 := (many_ok hm).2.2.2.2
    have e : powW (radix a.base) (Int.toNat 1) = 1 * radix a.base := rfl
    omega
  have hlen := hl.len r0 (by omega)
  have hdpos : 0 < d.length := by
    cases d with
    | nil => have := hl.val; exact absurd this.symm h4
    | cons x t => simp
  have hWn : W a.base (d.length - 1) ≤ n := by
    cases d with
    | nil => simp at hdpos
    | cons x t => have := wv_ge r0 hl.ok hl.lead; rw [hl.val] at this; exact this
  obtain ⟨b, hb⟩ : ∃ b, a.ends[0]! = b := ⟨_, rfl⟩
  have hmE := g.ends
  have hm0 := g.m0
  have hbe : endOf a.ends 0 = b := by unfold endOf; exact bang_D hb (by show 0 < _; omega)
  have hfirst := long_first r0 hrad
  have hb2 : a.ends[0]! = decide (endOf a.ends 0 = true) := by rw [hb, ← hbe]; simp
  clear p1 p2 hofe hd hbe hb
  repeat' (first | (with_reducible first | apply w1 | apply w2 | apply w3 | apply w4 | apply w5 | apply w6 | apply w7 | apply w8 | apply w9 | apply wa | apply wb | apply wc) | ((with_reducible apply wd); focus decide) | ((with_reducible apply we); focus exact rfl) | ((with_reducible apply wf); focus exact rfl) | ((first | (with_reducible apply SW_run tt_ok hG htb) | ((with_reducible apply SW_draw rfl tt_ok hG htb); (focus kernel_rfl); focus simp only [List.range, List.range.loop, List.size_toArray, List.length_cons, List.length_nil, Nat.reduceAdd])); focus ((repeat' (first | (with_reducible first | exact wg | exact wh) | ((with_reducible first | apply wi | apply wj); focus (simp (discharger := omega) only [go_sem, tAuto, tErr0, h1t, h2, h3, h4, hb2, simprocAttr]; with_reducible rfl)))); done)))
  refine SW_meetG ⟨142, [(1, .t (tInt n)), (2, .bptr 0 0), (7, .t (tInt (belowN a (W a.base 0))))], [.box [.t (tInt a.base), .t (tInt a.tracks), .t (tIntss a.next), .t (tBools a.ends)]]⟩ Weak.sw (SW_if (p := endOf a.ends 0 = true) rfl (fun h0 => ?_) (fun h0 => ?_)) ?_
  · rw [hfirst, if_pos h0]
    repeat' (first | (with_reducible first | apply w1 | apply w2 | apply w3 | apply w4 | apply w5 | apply w6 | apply w7 | apply w8 | apply w9 | apply wa | apply wb | apply wc) | ((with_reducible apply wd); focus decide) | ((with_reducible apply we); focus exact rfl) | ((with_reducible apply wf); focus exact rfl) | ((first | (with_reducible apply SW_run tt_ok hG htb) | ((with_reducible apply SW_draw rfl tt_ok hG htb); (focus kernel_rfl); focus simp only [List.range, List.range.loop, List.size_toArray, List.length_cons, List.length_nil, Nat.reduceAdd])); focus ((repeat' (first | (with_reducible first | exact wg | exact wh) | ((with_reducible first | apply wi | apply wj); focus (simp (discharger := omega) only [go_sem, simprocAttr]; with_reducible rfl)))); done)))
    exact Meet.h ⟨_, Norm.headS (own := []) (keep := [1, 2, 7]) (by refine ⟨?_, ?_⟩; (simp (discharger := omega) only [go_sem, simprocAttr]; with_reducible rfl); refine ⟨?_, ?_, ?_, ?_⟩ <;> (simp only [go_sem, simprocAttr]; with_reducible rfl)), rfl⟩
  · rw [hfirst, if_neg h0]
    repeat' (first | (with_reducible first | apply w1 | apply w2 | apply w3 | apply w4 | apply w5 | apply w6 | apply w7 | apply w8 | apply w9 | apply wa | apply wb | apply wc) | ((with_reducible apply wd); focus decide) | ((with_reducible apply we); focus exact rfl) | ((with_reducible apply wf); focus exact rfl) | ((first | (with_reducible apply SW_run tt_ok hG htb) | ((with_reducible apply SW_draw rfl tt_ok hG htb); (focus kernel_rfl); focus simp only [List.range, List.range.loop, List.size_toArray, List.length_cons, List.length_nil, Nat.reduceAdd])); focus ((repeat' (first | (with_reducible first | exact wg | exact wh) | ((with_reducible first | apply wi | apply wj); focus (simp (discharger := omega) only [go_sem, simprocAttr]; with_reducible rfl)))); done)))
    exact Meet.h ⟨_, Norm.headS (own := []) (keep := [1, 2, 7]) (by refine ⟨?_, ?_⟩; (simp (discharger := omega) only [go_sem, simprocAttr]; with_reducible rfl); refine ⟨?_, ?_, ?_, ?_⟩ <;> (simp only [go_sem, simprocAttr]; with_reducible rfl)), rfl⟩
  repeat' (with_reducible first | refine SW_seq ?_ | refine SThen_n ?_ | refine SIn_n ?_ | refine SW_skip ?_)
  refine SW_norm (Norm.fixBox 0 rfl rfl) ?_
  refine SW_norm (Norm.tr 2 rfl rfl) ?_
  refine SW_norm (Norm.headS (own := []) (keep := [1, 2, 7]) (by refine ⟨?_, ?_⟩; (simp (discharger := omega) only [go_sem, simprocAttr]; with_reducible rfl); refine ⟨?_, ?_, ?_, ?_⟩ <;> (simp only [go_sem, simprocAttr]; with_reducible rfl))) ?_
  clear htb c1
  have htb := Tab.cons cO Tab.nil
  repeat' (first | (with_reducible first | apply w1 | apply w2 | apply w3 | apply w4 | apply w5 | apply w6 | apply w7 | apply w8 | apply w9 | apply wa | apply wb | apply wc) | ((with_reducible apply wd); focus decide) | ((with_reducible apply we); focus exact rfl) | ((with_reducible apply wf); focus exact rfl) | ((first | (with_reducible apply SW_run tt_ok hG htb) | ((with_reducible apply SW_draw rfl tt_ok hG htb); (focus kernel_rfl); focus simp only [List.range, List.range.loop, List.size_toArray, List.length_cons, List.length_nil, Nat.reduceAdd])); focus ((repeat' (first | (with_reducible first | exact wg | exact wh) | ((with_reducible first | apply wi | apply wj); focus (simp (discharger := omega) only [go_sem, tErr0, autoP, simprocAttr]; with_reducible rfl)))); done)))
  clear htb cO
  have htb : Tab.ok Tryd.prog G [] := Tab.nil
  have hnl := g.rows.len
  have hr1 : 1 ≤ r := g.n0
  have hn36 := g.n36
  have hm80 := g.m80
  obtain ⟨row, hrow⟩ : ∃ row, a.next[0]! = row := ⟨_, rfl⟩
  have hrl := g.rows.row row (bang_mem hrow (by omega))
  have hro : rowOf a.next 0 = row := by unfold rowOf; exact bang_D hrow (by show 0 < _; omega)
  have hWle : ∀ k, k < d.length → W a.base k ≤ 1099511627776 := fun k hk => by
    have := W_le r0 (b := a.base) (m := k) (n := d.length - 1) (by omega)
    omega
  refine SW_loop (fun mm st => ∃ (k : Nat) (es : List (T × T)), mm = d.length - k ∧ st = ⟨142, [(2, .t (autoP a)), (7, .t (tInt (belowN a (W a.base (k - 1))))), (8, .t (tInts d)), (10, .bptr 0 0), (11, .bptr 1 0), (12, .t (tNat k))], [.box [.map 2], .box [.fn 32 [.t (autoP a), .bptr 0 0, .bptr 1 0]], .map (.ints 3) es]⟩ ∧ 1 ≤ k ∧ k ≤ d.length ∧ MemOk a r es) (d.length - 1)
    ⟨_, Norm.headP [1, 2, 0] rfl (own := []) (keep := [2, 7, 8, 10, 11, 12]) (by refine ⟨?_, ?_⟩; (simp (discharger := omega) only [go_sem, simprocAttr]; with_reducible rfl); refine ⟨?_, ?_, ?_, ?_⟩ <;> (simp only [go_sem, simprocAttr]; with_reducible rfl)), 1, [], rfl, rfl, Nat.le_refl _, hdpos, memOk_nil⟩ ?_
  rintro mm st ⟨k, es, rfl, rfl, hk1, hk, hes⟩
  by_cases hlt : k < d.length
  · have hlt2 : ((k : Nat) : Int) < ((d.length : Nat) : Int) := by omega
    repeat' (first | (with_reducible first | apply w1 | apply w2 | apply w3 | apply w4 | apply w5 | apply w6 | apply w7 | apply w8 | apply w9 | apply wa | apply wb | apply wc) | ((with_reducible apply wd); focus decide) | ((with_reducible apply we); focus exact rfl) | ((with_reducible apply wf); focus exact rfl) | ((first | (with_reducible apply SW_run tt_ok hG htb) | ((with_reducible apply SW_draw rfl tt_ok hG htb); (focus kernel_rfl); focus simp only [List.range, List.range.loop, List.size_toArray, List.length_cons, List.length_nil, Nat.reduceAdd])); focus ((repeat' (first | (with_reducible first | exact wg | exact wh) | ((with_reducible first | apply wi | apply wj); focus (simp (discharger := omega) only [go_sem, hlt2, hrow, autoP, simprocAttr]; with_reducible rfl)))); done)))
    refine SW_loop (fun mm st => ∃ (x : Nat) (es' : List (T × T)), mm = r - x ∧ st = ⟨142, [(2, .t (autoP a)), (7, .t (tInt (belowN a (edgeN a.base (k - 1) 0 (max x 1))))), (8, .t (tInts d)), (10, .bptr 0 0), (11, .bptr 1 0), (12, .t (tNat k)), (62, .t (tInts row)), (63, .t (tInt r)), (64, .t (tNat x))], [.box [.map 2], .box [.fn 32 [.t (autoP a), .bptr 0 0, .bptr 1 0]], .map (.ints 3) es']⟩ ∧ x ≤ r ∧ MemOk a r es') r
      ⟨_, Norm.headP [0, 1, 2] rfl (own := []) (keep := [2, 7, 8, 10, 11, 12, 62, 63, 64]) (by refine ⟨?_, ?_⟩; (simp (discharger := omega) only [go_sem, simprocAttr]; with_reducible rfl); refine ⟨?_, ?_, ?_, ?_⟩ <;> (simp only [go_sem, simprocAttr]; with_reducible rfl)), 0, es, rfl, by rw [long_start r0 hrad, ← hrl]; rfl, Nat.zero_le _, hes⟩ ?_
    clear hes es
    rintro mm st ⟨x, es', rfl, rfl, hx, hes⟩
    by_cases hxr : x < r
    · obtain ⟨t, ht⟩ : ∃ t, row[x]! = t := ⟨_, rfl⟩
      have hnx : nx a.next 0 x = t := by unfold nx; rw [hro]; exact bang_D ht (by omega)
      have htb2 := nx_ok g.rows (s := 0) ⟨Int.le_refl _, by omega⟩ hxr
      rw [hnx] at htb2
      by_cases hx0 : x = 0
      · subst hx0
        repeat' (first | (with_reducible first | apply w1 | apply w2 | apply w3 | apply w4 | apply w5 | apply w6 | apply w7 | apply w8 | apply w9 | apply wa | apply wb | apply wc) | ((with_reducible apply wd); focus decide) | ((with_reducible apply we); focus exact rfl) | ((with_reducible apply wf); focus exact rfl) | ((first | (with_reducible apply SW_run tt_ok hG htb) | ((with_reducible apply SW_draw rfl tt_ok hG htb); (focus kernel_rfl); focus simp only [List.range, List.range.loop, List.size_toArray, List.length_cons, List.length_nil, Nat.reduceAdd])); focus ((repeat' (first | (with_reducible first | exact wg | exact wh) | ((with_reducible first | apply wi | apply wj); focus (simp (discharger := omega) only [go_sem, ht, simprocAttr]; with_reducible rfl)))); done)))
        exact ⟨r - (0 + 1), _, by omega, Norm.headP [0, 1, 2] rfl (own := []) (keep := [2, 7, 8, 10, 11, 12, 62, 63, 64]) (by refine ⟨?_, ?_⟩; (simp (discharger := omega) only [go_sem, simprocAttr]; with_reducible rfl); refine ⟨?_, ?_, ?_, ?_⟩ <;> (simp only [go_sem, simprocAttr]; with_reducible rfl)), 0 + 1, es', rfl, rfl, by omega, hes⟩
      have hx1 := eq_true (show ((x : Nat) : Int) > 0 by omega)
      have q1 := long_next r0 hrad (k - 1) hxr (by omega)
      rw [hnx] at q1
      have hcall := bl_all hG g r0 hrad (k - 1) (by omega) (hWle _ (by omega)) t ((x : Nat) : Int) htb2.1 htb2.2 (by omega) (by omega) es' hes
      have hes2 := memG_ok (a := a) (r := r) (k - 1) t ((x : Nat) : Int) es' hes
      obtain ⟨v, hv⟩ : ∃ v, belowN a (edgeN a.base (k - 1) 0 (max x 1)) = v := ⟨_, rfl⟩
      obtain ⟨v2, hv2⟩ : ∃ v2, restN a r (k - 1) t ((x : Nat) : Int) = v2 := ⟨_, rfl⟩
      obtain ⟨es2, he2⟩ : ∃ es2, memG a r (k - 1) t ((x : Nat) : Int) es' = es2 := ⟨_, rfl⟩
      obtain ⟨v3, hv3⟩ : ∃ v3, belowN a (edgeN a.base (k - 1) 0 (max (x + 1) 1)) = v3 := ⟨_, rfl⟩
      have hv3b : 0 ≤ v3 ∧ v3 ≤ 1099511627776 := by
        have e1 := edge_le r0 hrad (left := k - 1) (last := 0) (X := max (x + 1) 1) (by omega)
        have e0 : 0 ≤ edgeN a.base (k - 1) 0 (max (x + 1) 1) := by
          unfold edgeN
          have := W_pos r0 (k - 1)
          have := W_pos r0 (k - 1 + 1)
          split
          · split
            · omega
            · split <;> omega
          · exact Int.mul_nonneg (by omega) (by omega)
        have e2 := belowN_bd a e0
        rw [show k - 1 + 1 = k by omega] at e1
        have e3 := hWle k hlt
        omega
      rw [hv, hv2, hv3] at q1
      rw [hv2, he2] at hcall
      rw [he2] at hes2
      rw [hv]
      have hadd : v + v2 = v3 := q1.symm
      have hk1' : ((k : Nat) : Int) - 1 = ((k - 1 : Nat) : Int) := by omega
      unfold keyB at hcall
      repeat' (first | (with_reducible first | refine SW_seq ?_ | refine SW_block ?_ | refine SThen_n ?_ | refine SThen_r ?_ | refine SThen_e ?_ | refine SIn_n ?_ | refine SIn_r ?_ | refine SIn_eq ?_ | refine SW_skip ?_ | refine SW_exit ?_ | refine SW_ret ?_ | refine SPost_r ?_) | ((with_reducible refine SIn_ne ?_ ?_); focus decide) | ((with_reducible refine SW_true ?_ ?_); focus exact rfl) | ((with_reducible refine SW_false ?_ ?_); focus exact rfl) | ((with_reducible apply SW_run tt_ok hG htb); focus ((repeat' (first | (with_reducible exact runX_nil) | ((with_reducible apply runX_cons); focus (simp (discharger := omega) only [go_sem, ht, hx1, simprocAttr]; with_reducible rfl)))); done)))
      refine SW_norm (Norm.headP [0, 1, 2] rfl (own := []) (keep := [2, 7, 8, 10, 11, 12, 13, 14, 62, 63, 64]) (by refine ⟨?_, ?_⟩; (simp (discharger := omega) only [go_sem, simprocAttr]; with_reducible rfl); refine ⟨?_, ?_, ?_, ?_⟩ <;> (simp only [go_sem, simprocAttr]; with_reducible rfl))) ?_
      refine SW_runG tt_ok hG htb 7 rfl (by simp only [List.take_succ_cons, List.take_zero]; rfl) (by simp only [List.drop_succ_cons, List.drop_zero, Nat.reduceAdd]; rfl) (by (repeat' (first | (with_reducible exact runX_nil) | ((with_reducible apply runX_cons); focus (simp (discharger := omega) only [go_sem, hk1', simprocAttr]; with_reducible rfl))))) rfl rfl (g := 32) (cap := blCap a) (obs := blObs a es') (ks := []) (obs' := blObs a es2) (rst := []) (r := .t (tInt v2)) (s2 := ?zsa) (s3 := ?zua) ?q1a ?q2a ?q3a ?q4a ?q5a ?q6a ?q7a ?q8a ?q9a ?q10a
      case q1a => rfl
      case q2a => rfl
      case q3a => rfl
      case q4a => rfl
      case q5a => exact hcall
      case q6a => exact bl_ren a es'
      case q7a => exact bl_xren a _
      case q8a =>
        simp only [go_sem, St.back, blObs, blCap, List.map_cons, List.map_nil, SV.ren, Ob.ren, renL, pastG, lateG, List.length_cons, List.length_nil, List.take_succ_cons, List.take_zero, List.drop_succ_cons, List.drop_zero, List.getElem?_cons_zero, List.getElem?_cons_succ, List.getElem?_nil]
        rfl
      case q9a => (repeat' (first | (with_reducible exact runX_nil) | ((with_reducible apply runX_cons); focus (simp (discharger := omega) only [go_sem, hadd, simprocAttr]; with_reducible rfl))))
      repeat' (first | (with_reducible first | apply w1 | apply w2 | apply w3 | apply w4 | apply w5 | apply w6 | apply w7 | apply w8 | apply w9 | apply wa | apply wb | apply wc) | ((with_reducible apply wd); focus decide) | ((with_reducible apply we); focus exact rfl) | ((with_reducible apply wf); focus exact rfl) | ((first | (with_reducible apply SW_run tt_ok hG htb) | ((with_reducible apply SW_draw rfl tt_ok hG htb); (focus kernel_rfl); focus simp only [List.range, List.range.loop, List.size_toArray, List.length_cons, List.length_nil, Nat.reduceAdd])); focus ((repeat' (first | (with_reducible first | exact wg | exact wh) | ((with_reducible first | apply wi | apply wj); focus (simp (discharger := omega) only [go_sem, simprocAttr]; with_reducible rfl)))); done)))
      exact ⟨r - (x + 1), _, by omega, Norm.headP [0, 1, 2] rfl (own := []) (keep := [2, 7, 8, 10, 11, 12, 62, 63, 64]) (by refine ⟨?_, ?_⟩; (simp (discharger := omega) only [go_sem, simprocAttr]; with_reducible rfl); refine ⟨?_, ?_, ?_, ?_⟩ <;> (simp only [go_sem, simprocAttr]; with_reducible rfl)), x + 1, es2, rfl, by rw [hv3]; rfl, by omega, hes2⟩
    · obtain rfl : x = r := by omega
      rw [long_end r0 hrad (k - 1) hr1, show k - 1 + 1 = k by omega]
      repeat' (first | (with_reducible first | apply w1 | apply w2 | apply w3 | apply w4 | apply w5 | apply w6 | apply w7 | apply w8 | apply w9 | apply wa | apply wb | apply wc) | ((with_reducible apply wd); focus decide) | ((with_reducible apply we); focus exact rfl) | ((with_reducible apply wf); focus exact rfl) | ((first | (with_reducible apply SW_run tt_ok hG htb) | ((with_reducible apply SW_draw rfl tt_ok hG htb); (focus kernel_rfl); focus simp only [List.range, List.range.loop, List.size_toArray, List.length_cons, List.length_nil, Nat.reduceAdd])); focus ((repeat' (first | (with_reducible first | exact wg | exact wh) | ((with_reducible first | apply wi | apply wj); focus (simp (discharger := omega) only [go_sem, simprocAttr]; with_reducible rfl)))); done)))
      exact ⟨d.length - (k + 1), _, by omega, Norm.headP [0, 1, 2] rfl (own := []) (keep := [2, 7, 8, 10, 11, 12]) (by refine ⟨?_, ?_⟩; (simp (discharger := omega) only [go_sem, simprocAttr]; with_reducible rfl); refine ⟨?_, ?_, ?_, ?_⟩ <;> (simp only [go_sem, simprocAttr]; with_reducible rfl)), k + 1, es', rfl, rfl, by omega, by omega, hes⟩
  · obtain rfl : k = d.length := by omega
    repeat' (first | (with_reducible first | apply w1 | apply w2 | apply w3 | apply w4 | apply w5 | apply w6 | apply w7 | apply w8 | apply w9 | apply wa | apply wb | apply wc) | ((with_reducible apply wd); focus decide) | ((with_reducible apply we); focus exact rfl) | ((with_reducible apply wf); focus exact rfl) | ((first | (with_reducible apply SW_run tt_ok hG htb) | ((with_reducible apply SW_draw rfl tt_ok hG htb); (focus kernel_rfl); focus simp only [List.range, List.range.loop, List.size_toArray, List.length_cons, List.length_nil, Nat.reduceAdd])); focus ((repeat' (first | (with_reducible first | exact wg | exact wh) | ((with_reducible first | apply wi | apply wj); focus (simp (discharger := omega) only [go_sem, simprocAttr]; with_reducible rfl)))); done)))
    refine SW_loop (fun mm st => ∃ (i : Nat) (es : List (T × T)), mm = d.length - i ∧ st = ⟨142, [(2, .t (autoP a)), (7, .t (tInt (belowN a (limP a.base d i)))), (8, .t (tInts d)), (10, .bptr 0 0), (11, .bptr 1 0), (15, .t (tInt (runFrom a.next 0 (d.take i)))), (16, .t (tInt (lastD d i))), (81, .t (tInts d)), (82, .t (tNat d.length)), (83, .t (tNat i))], [.box [.map 2], .box [.fn 32 [.t (autoP a), .bptr 0 0, .bptr 1 0]], .map (.ints 3) es]⟩ ∧ i ≤ d.length ∧ MemOk a r es) d.length
      ⟨_, Norm.headP [0, 1, 2] rfl (own := []) (keep := [2, 7, 8, 10, 11, 15, 16, 81, 82, 83]) (by refine ⟨?_, ?_⟩; (simp (discharger := omega) only [go_sem, simprocAttr]; with_reducible rfl); refine ⟨?_, ?_, ?_, ?_⟩ <;> (simp only [go_sem, simprocAttr]; with_reducible rfl)), 0, es, rfl, rfl, Nat.zero_le _, hes⟩ ?_
    clear hes es hlt hk1 hk
    rintro mm st ⟨i, es, rfl, rfl, hi, hes⟩
    by_cases hid : i < d.length
    · have hdi := hl.ok _ (List.getElem_mem hid)
      rw [hrad] at hdi
      obtain ⟨dd, hdd⟩ := Int.eq_ofNat_of_zero_le hdi.1
      have hdb : d[i]! = ((dd : Nat) : Int) := by rw [getElem!_pos d i hid, hdd]
      have hdD : d.getD i 0 = ((dd : Nat) : Int) := bang_D hdb hid
      have hddr : dd < r := by omega
      obtain ⟨la, hla⟩ : ∃ la, lastD d i = la := ⟨_, rfl⟩
      rw [hla]
      have hstart : limP a.base d i = posN a.base d i la 0 := by
        unfold limP
        by_cases e : i = 0
        · subst e
          have hla0 : la = 0 := by rw [← hla]; rfl
          rw [if_pos rfl, hla0, pos_start hdpos]
        · unfold posN
          rw [if_neg e, if_neg e, edge_zero, Int.add_zero]
      have hend := pos_end r0 hrad hl (i := i) (d := dd) (last := la) hid hdD
      rw [hstart]
      repeat' (first | (with_reducible first | apply w1 | apply w2 | apply w3 | apply w4 | apply w5 | apply w6 | apply w7 | apply w8 | apply w9 | apply wa | apply wb | apply wc) | ((with_reducible apply wd); focus decide) | ((with_reducible apply we); focus exact rfl) | ((with_reducible apply wf); focus exact rfl) | ((first | (with_reducible apply SW_run tt_ok hG htb) | ((with_reducible apply SW_draw rfl tt_ok hG htb); (focus kernel_rfl); focus simp only [List.range, List.range.loop, List.size_toArray, List.length_cons, List.length_nil, Nat.reduceAdd])); focus ((repeat' (first | (with_reducible first | exact wg | exact wh) | ((with_reducible first | apply wi | apply wj); focus (simp (discharger := omega) only [go_sem, hdb, simprocAttr]; with_reducible rfl)))); done)))
      obtain ⟨st0, hst0⟩ : ∃ q, runFrom a.next 0 (d.take i) = q := ⟨_, rfl⟩
      have hsb := runFrom_ok g.rows (d.take i) 0 ⟨Int.le_refl _, by omega⟩ fun y hy => by
        have := hl.ok y (List.mem_of_mem_take hy); omega
      rw [hst0] at hsb ⊢
      obtain ⟨rs, hrs⟩ : ∃ rs, a.next[st0.toNat]! = rs := ⟨_, rfl⟩
      have hrsl := g.rows.row rs (bang_mem hrs (by omega))
      have hros : rowOf a.next st0 = rs := by unfold rowOf; exact bang_D hrs (by omega)
      have hi58 : i ≤ 58 := by omega
      have hk1' : ((d.length : Nat) : Int) - 1 - ((i : Nat) : Int) = ((d.length - 1 - i : Nat) : Int) := by omega
      refine SW_loop (fun mm st => ∃ (x : Nat) (es' : List (T × T)), mm = dd - x ∧ st = ⟨142, [(2, .t (autoP a)), (7, .t (tInt (belowN a (posN a.base d i la x)))), (8, .t (tInts d)), (10, .bptr 0 0), (11, .bptr 1 0), (15, .t (tInt st0)), (16, .t (tInt la)), (17, .t (tNat i)), (18, .t (tNat dd)), (81, .t (tInts d)), (82, .t (tNat d.length)), (83, .t (tNat i)), (88, .t (tNat dd)), (89, .t (tNat x))], [.box [.map 2], .box [.fn 32 [.t (autoP a), .bptr 0 0, .bptr 1 0]], .map (.ints 3) es']⟩ ∧ x ≤ dd ∧ MemOk a r es') dd
        ⟨_, Norm.headP [0, 1, 2] rfl (own := []) (keep := [2, 7, 8, 10, 11, 15, 16, 17, 18, 81, 82, 83, 88, 89]) (by refine ⟨?_, ?_⟩; (simp (discharger := omega) only [go_sem, simprocAttr]; with_reducible rfl); refine ⟨?_, ?_, ?_, ?_⟩ <;> (simp only [go_sem, simprocAttr]; with_reducible rfl)), 0, es, rfl, rfl, Nat.zero_le _, hes⟩ ?_
      clear hes es
      rintro mm st ⟨x, es', rfl, rfl, hx, hes⟩
      by_cases hxd : x < dd
      · obtain ⟨t, ht⟩ : ∃ t, rs[x]! = t := ⟨_, rfl⟩
        have hnx : nx a.next st0 x = t := by unfold nx; rw [hros]; exact bang_D ht (by omega)
        have htb2 := nx_ok g.rows hsb (l := x) (by omega)
        rw [hnx] at htb2
        by_cases i0 : i = 0 ∧ x = 0
        · have hsk := pos_skip (a := a) (lim := d) (last := la) (.inl i0)
          have p1 := eq_true (show ((i : Nat) : Int) = 0 by omega)
          have p2 := eq_true (show ((x : Nat) : Int) = 0 by omega)
          obtain ⟨v, hv⟩ : ∃ v, posN a.base d i la x = v := ⟨_, rfl⟩
          rw [hv] at hsk ⊢
          repeat' (first | (with_reducible first | apply w1 | apply w2 | apply w3 | apply w4 | apply w5 | apply w6 | apply w7 | apply w8 | apply w9 | apply wa | apply wb | apply wc) | ((with_reducible apply wd); focus decide) | ((with_reducible apply we); focus exact rfl) | ((with_reducible apply wf); focus exact rfl) | ((first | (with_reducible apply SW_run tt_ok hG htb) | ((with_reducible apply SW_draw rfl tt_ok hG htb); (focus kernel_rfl); focus simp only [List.range, List.range.loop, List.size_toArray, List.length_cons, List.length_nil, Nat.reduceAdd])); focus ((repeat' (first | (with_reducible first | exact wg | exact wh) | ((with_reducible first | apply wi | apply wj); focus (simp (discharger := omega) only [go_sem, p1, p2, autoP, simprocAttr]; with_reducible rfl)))); done)))
          exact ⟨dd - (x + 1), _, by omega, Norm.headP [0, 1, 2] rfl (own := []) (keep := [2, 7, 8, 10, 11, 15, 16, 17, 18, 81, 82, 83, 88, 89]) (by refine ⟨?_, ?_⟩; (simp (discharger := omega) only [go_sem, simprocAttr]; with_reducible rfl); refine ⟨?_, ?_, ?_, ?_⟩ <;> (simp only [go_sem, simprocAttr]; with_reducible rfl)), x + 1, es', rfl, by rw [hsk]; rfl, by omega, hes⟩
        have hlx : 0 < i → la = d.getD (i - 1) 0 := fun h => by rw [← hla]; unfold lastD; exact if_neg (by omega)
        have hl0 : i = 0 → la = 0 := fun h => by rw [← hla]; unfold lastD; exact if_pos h
        by_cases hskp : 0 < i ∧ a.base = 1 ∧ la = 1 ∧ ((x : Nat) : Int) = 1
        · have hsk := pos_skip (a := a) (lim := d) (.inr hskp)
          have p0 : ¬ ((i : Nat) : Int) = 0 := by omega
          have p1 := eq_true hskp.2.1
          have p2 := eq_true hskp.2.2.1
          have p3 := eq_true hskp.2.2.2
          obtain ⟨v, hv⟩ : ∃ v, posN a.base d i la x = v := ⟨_, rfl⟩
          rw [hv] at hsk ⊢
          repeat' (first | (with_reducible first | apply w1 | apply w2 | apply w3 | apply w4 | apply w5 | apply w6 | apply w7 | apply w8 | apply w9 | apply wa | apply wb | apply wc) | ((with_reducible apply wd); focus decide) | ((with_reducible apply we); focus exact rfl) | ((with_reducible apply wf); focus exact rfl) | ((first | (with_reducible apply SW_run tt_ok hG htb) | ((with_reducible apply SW_draw rfl tt_ok hG htb); (focus kernel_rfl); focus simp only [List.range, List.range.loop, List.size_toArray, List.length_cons, List.length_nil, Nat.reduceAdd])); focus ((repeat' (first | (with_reducible first | exact wg | exact wh) | ((with_reducible first | apply wi | apply wj); focus (simp (discharger := omega) only [go_sem, p0, p1, p2, p3, autoP, simprocAttr]; with_reducible rfl)))); done)))
          exact ⟨dd - (x + 1), _, by omega, Norm.headP [0, 1, 2] rfl (own := []) (keep := [2, 7, 8, 10, 11, 15, 16, 17, 18, 81, 82, 83, 88, 89]) (by refine ⟨?_, ?_⟩; (simp (discharger := omega) only [go_sem, simprocAttr]; with_reducible rfl); refine ⟨?_, ?_, ?_, ?_⟩ <;> (simp only [go_sem, simprocAttr]; with_reducible rfl)), x + 1, es', rfl, by rw [hsk]; rfl, by omega, hes⟩
        have hok : ¬ (a.base = 1 ∧ la = 1 ∧ ((x : Nat) : Int) = 1) := fun q => by
          by_cases e : i = 0
          · have := hl0 e; omega
          · exact hskp ⟨by omega, q⟩
        have q1 := pos_next r0 hrad hl hid hlx hl0 (x := x) (by omega) i0 hok
        rw [hst0, hnx] at q1
        have hcall := bl_all hG g r0 hrad (d.length - 1 - i) (by omega) (hWle _ (by omega)) t ((x : Nat) : Int) htb2.1 htb2.2 (by omega) (by omega) es' hes
        have hes2 := memG_ok (a := a) (r := r) (d.length - 1 - i) t ((x : Nat) : Int) es' hes
        have hv3b : 0 ≤ belowN a (posN a.base d i la (x + 1)) ∧ belowN a (posN a.base d i la (x + 1)) ≤ 1099511627776 := by
          obtain ⟨e1, e2⟩ := pos_le r0 hrad hl (last := la) hid hdD hxd
          have e3 := belowN_bd a e1
          omega
        obtain ⟨v, hv⟩ : ∃ v, belowN a (posN a.base d i la x) = v := ⟨_, rfl⟩
        obtain ⟨v2, hv2⟩ : ∃ v2, restN a r (d.length - 1 - i) t ((x : Nat) : Int) = v2 := ⟨_, rfl⟩
        obtain ⟨es2, he2⟩ : ∃ es2, memG a r (d.length - 1 - i) t ((x : Nat) : Int) es' = es2 := ⟨_, rfl⟩
        obtain ⟨v3, hv3⟩ : ∃ v3, belowN a (posN a.base d i la (x + 1)) = v3 := ⟨_, rfl⟩
        rw [hv3] at hv3b
        rw [hv, hv2, hv3] at q1
        rw [hv2, he2] at hcall
        rw [he2] at hes2
        rw [hv]
        have hadd : v + v2 = v3 := q1.symm
        unfold keyB at hcall
        by_cases z0 : i = 0
        · have p0 := eq_true (show ((i : Nat) : Int) = 0 by omega)
          have p1 : ¬ ((x : Nat) : Int) = 0 := by omega
          by_cases z1 : a.base = 1
          · have p2 := eq_true z1
            have p3 : ¬ la = 1 := by have := hl0 z0; omega
            repeat' (first | (with_reducible first | refine SW_seq ?_ | refine SW_block ?_ | refine SThen_n ?_ | refine SThen_r ?_ | refine SThen_e ?_ | refine SIn_n ?_ | refine SIn_r ?_ | refine SIn_eq ?_ | refine SW_skip ?_ | refine SW_exit ?_ | refine SW_ret ?_ | refine SPost_r ?_) | ((with_reducible refine SIn_ne ?_ ?_); focus decide) | ((with_reducible refine SW_true ?_ ?_); focus exact rfl) | ((with_reducible refine SW_false ?_ ?_); focus exact rfl) | ((with_reducible apply SW_run tt_ok hG htb); focus ((repeat' (first | (with_reducible exact runX_nil) | ((with_reducible apply runX_cons); focus (simp (discharger := omega) only [go_sem, p0, p1, p2, p3, autoP, simprocAttr]; with_reducible rfl)))); done)))
            refine SW_norm (Norm.headP [0, 1, 2] rfl (own := []) (keep := [2, 7, 8, 10, 11, 15, 16, 17, 18, 19, 81, 82, 83, 88, 89]) (by refine ⟨?_, ?_⟩; (simp (discharger := omega) only [go_sem, simprocAttr]; with_reducible rfl); refine ⟨?_, ?_, ?_, ?_⟩ <;> (simp only [go_sem, simprocAttr]; with_reducible rfl))) ?_
            refine SW_drawS (fun k => if k = 1 then some ⟨[.box [.map 2], .box [.fn 32 [.t (autoP a), .bptr 0 0, .bptr 1 0]], .map (.ints 3) es'], [.bptr 1 0], [.box [.map 2], .box [.fn 32 [.t (autoP a), .bptr 0 0, .bptr 1 0]], .map (.ints 3) es'], .fn 32 [.t (autoP a), .bptr 0 0, .bptr 1 0], some⟩ else if k = 17 then some ⟨[.box [.map 2], .box [.fn 32 [.t (autoP a), .bptr 0 0, .bptr 1 0]], .map (.ints 3) es'], .fn 32 [.t (autoP a), .bptr 0 0, .bptr 1 0] :: [.t (.agg [.int .i64 ((d.length - 1 - i : Nat) : Int), .int .i64 t, .int .i64 ((x : Nat) : Int)])], [.box [.map 2], .box [.fn 32 [.t (autoP a), .bptr 0 0, .bptr 1 0]], .map (.ints 3) es2], .t (tInt v2), pastG [.box [.map 2], .box [.fn 32 [.t (autoP a), .bptr 0 0, .bptr 1 0]], .map (.ints 3) es'] []⟩ else none) [1, 17] rfl tt_ok hG htb (t := ?ztA) ?topoA ?hlkA ?hokA ?runA ?restA
            case topoA => kernel_rfl
            case hlkA =>
              intro k L h
              by_cases h2 : k = 1
              · subst h2; simp
              · by_cases h9 : k = 17
                · subst h9; simp
                · simp [h2, h9] at h
            case hokA =>
              intro k L o hL ho
              by_cases h2 : k = 1
              · subst h2
                rw [if_pos rfl] at hL
                cases hL
                cases ho
                exact LoudOk.load tt_ok hG htb rfl rfl fun _ _ => rfl
              · rw [if_neg h2] at hL
                by_cases h9 : k = 17
                · subst h9
                  rw [if_pos rfl] at hL
                  cases hL
                  cases ho
                  exact LoudOk.call (asl := [.t (.agg [.int .i64 ((d.length - 1 - i : Nat) : Int), .int .i64 t, .int .i64 ((x : Nat) : Int)])]) (obs := blObs a es') (rst := []) (ks := []) (cap := blCap a) (obs' := blObs a es2) rfl rfl rfl hcall rfl rfl
                · rw [if_neg h9] at hL
                  cases hL
            case runA =>
              (simp only [List.range, List.range.loop, List.size_toArray, List.length_cons, List.length_nil, Nat.reduceAdd]; repeat' (first | (with_reducible exact runA_nil) | ((with_reducible apply runA_cons); focus (first | (apply stepS_quietE rfl rfl rfl rfl; (focus (intro H; simp (discharger := omega) only [go_sem, autoP, hrs, ht, hk1', hadd, simprocAttr]; with_reducible rfl)); (focus rfl); (focus rfl); (focus (simp only [go_sem, simprocAttr]; with_reducible rfl))) | (apply stepS_loud rfl rfl rfl rfl rfl rfl; (focus (simp only [go_sem, loudSt, St.put, List.map_cons, List.map_nil, SV.ren, renL, pastG, posIn, Option.bind, List.getElem?_cons_zero, List.getElem?_cons_succ, List.getElem?_nil, simprocAttr]; with_reducible rfl)))))))
            case restA =>
              repeat' (first | (with_reducible first | apply w1 | apply w2 | apply w3 | apply w4 | apply w5 | apply w6 | apply w7 | apply w8 | apply w9 | apply wa | apply wb | apply wc) | ((with_reducible apply wd); focus decide) | ((with_reducible apply we); focus exact rfl) | ((with_reducible apply wf); focus exact rfl) | ((first | (with_reducible apply SW_run tt_ok hG htb) | ((with_reducible apply SW_draw rfl tt_ok hG htb); (focus kernel_rfl); focus simp only [List.range, List.range.loop, List.size_toArray, List.length_cons, List.length_nil, Nat.reduceAdd])); focus ((repeat' (first | (with_reducible first | exact wg | exact wh) | ((with_reducible first | apply wi | apply wj); focus (simp (discharger := omega) only [go_sem, simprocAttr]; with_reducible rfl)))); done)))
              exact ⟨dd - (x + 1), _, by omega, Norm.headP [0, 1, 2] rfl (own := []) (keep := [2, 7, 8, 10, 11, 15, 16, 17, 18, 81, 82, 83, 88, 89]) (by refine ⟨?_, ?_⟩; (simp (discharger := omega) only [go_sem, simprocAttr]; with_reducible rfl); refine ⟨?_, ?_, ?_, ?_⟩ <;> (simp only [go_sem, simprocAttr]; with_reducible rfl)), x + 1, es2, rfl, by rw [hv3]; rfl, by omega, hes2⟩
          · skip
            repeat' (first | (with_reducible first | refine SW_seq ?_ | refine SW_block ?_ | refine SThen_n ?_ | refine SThen_r ?_ | refine SThen_e ?_ | refine SIn_n ?_ | refine SIn_r ?_ | refine SIn_eq ?_ | refine SW_skip ?_ | refine SW_exit ?_ | refine SW_ret ?_ | refine SPost_r ?_) | ((with_reducible refine SIn_ne ?_ ?_); focus decide) | ((with_reducible refine SW_true ?_ ?_); focus exact rfl) | ((with_reducible refine SW_false ?_ ?_); focus exact rfl) | ((with_reducible apply SW_run tt_ok hG htb); focus ((repeat' (first | (with_reducible exact runX_nil) | ((with_reducible apply runX_cons); focus (simp (discharger := omega) only [go_sem, p0, p1, z1, autoP, simprocAttr]; with_reducible rfl)))); done)))
            refine SW_norm (Norm.headP [0, 1, 2] rfl (own := []) (keep := [2, 7, 8, 10, 11, 15, 16, 17, 18, 19, 81, 82, 83, 88, 89]) (by refine ⟨?_, ?_⟩; (simp (discharger := omega) only [go_sem, simprocAttr]; with_reducible rfl); refine ⟨?_, ?_, ?_, ?_⟩ <;> (simp only [go_sem, simprocAttr]; with_reducible rfl))) ?_
            refine SW_drawS (fun k => if k = 1 then some ⟨[.box [.map 2], .box [.fn 32 [.t (autoP a), .bptr 0 0, .bptr 1 0]], .map (.ints 3) es'], [.bptr 1 0], [.box [.map 2], .box [.fn 32 [.t (autoP a), .bptr 0 0, .bptr 1 0]], .map (.ints 3) es'], .fn 32 [.t (autoP a), .bptr 0 0, .bptr 1 0], some⟩ else if k = 17 then some ⟨[.box [.map 2], .box [.fn 32 [.t (autoP a), .bptr 0 0, .bptr 1 0]], .map (.ints 3) es'], .fn 32 [.t (autoP a), .bptr 0 0, .bptr 1 0] :: [.t (.agg [.int .i64 ((d.length - 1 - i : Nat) : Int), .int .i64 t, .int .i64 ((x : Nat) : Int)])], [.box [.map 2], .box [.fn 32 [.t (autoP a), .bptr 0 0, .bptr 1 0]], .map (.ints 3) es2], .t (tInt v2), pastG [.box [.map 2], .box [.fn 32 [.t (autoP a), .bptr 0 0, .bptr 1 0]], .map (.ints 3) es'] []⟩ else none) [1, 17] rfl tt_ok hG htb (t := ?ztB) ?topoB ?hlkB ?hokB ?runB ?restB
            case topoB => kernel_rfl
            case hlkB =>
              intro k L h
              by_cases h2 : k = 1
              · subst h2; simp
              · by_cases h9 : k = 17
                · subst h9; simp
                · simp [h2, h9] at h
            case hokB =>
              intro k L o hL ho
              by_cases h2 : k = 1
              · subst h2
                rw [if_pos rfl] at hL
                cases hL
                cases ho
                exact LoudOk.load tt_ok hG htb rfl rfl fun _ _ => rfl
              · rw [if_neg h2] at hL
                by_cases h9 : k = 17
                · subst h9
                  rw [if_pos rfl] at hL
                  cases hL
                  cases ho
                  exact LoudOk.call (asl := [.t (.agg [.int .i64 ((d.length - 1 - i : Nat) : Int), .int .i64 t, .int .i64 ((x : Nat) : Int)])]) (obs := blObs a es') (rst := []) (ks := []) (cap := blCap a) (obs' := blObs a es2) rfl rfl rfl hcall rfl rfl
                · rw [if_neg h9] at hL
                  cases hL
            case runB =>
              (simp only [List.range, List.range.loop, List.size_toArray, List.length_cons, List.length_nil, Nat.reduceAdd]; repeat' (first | (with_reducible exact runA_nil) | ((with_reducible apply runA_cons); focus (first | (apply stepS_quietE rfl rfl rfl rfl; (focus (intro H; simp (discharger := omega) only [go_sem, autoP, hrs, ht, hk1', hadd, simprocAttr]; with_reducible rfl)); (focus rfl); (focus rfl); (focus (simp only [go_sem, simprocAttr]; with_reducible rfl))) | (apply stepS_loud rfl rfl rfl rfl rfl rfl; (focus (simp only [go_sem, loudSt, St.put, List.map_cons, List.map_nil, SV.ren, renL, pastG, posIn, Option.bind, List.getElem?_cons_zero, List.getElem?_cons_succ, List.getElem?_nil, simprocAttr]; with_reducible rfl)))))))
            case restB =>
              repeat' (first | (with_reducible first | apply w1 | apply w2 | apply w3 | apply w4 | apply w5 | apply w6 | apply w7 | apply w8 | apply w9 | apply wa | apply wb | apply wc) | ((with_reducible apply wd); focus decide) | ((with_reducible apply we); focus exact rfl) | ((with_reducible apply wf); focus exact rfl) | ((first | (with_reducible apply SW_run tt_ok hG htb) | ((with_reducible apply SW_draw rfl tt_ok hG htb); (focus kernel_rfl); focus simp only [List.range, List.range.loop, List.size_toArray, List.length_cons, List.length_nil, Nat.reduceAdd])); focus ((repeat' (first | (with_reducible first | exact wg | exact wh) | ((with_reducible first | apply wi | apply wj); focus (simp (discharger := omega) only [go_sem, simprocAttr]; with_reducible rfl)))); done)))
              exact ⟨dd - (x + 1), _, by omega, Norm.headP [0, 1, 2] rfl (own := []) (keep := [2, 7, 8, 10, 11, 15, 16, 17, 18, 81, 82, 83, 88, 89]) (by refine ⟨?_, ?_⟩; (simp (discharger := omega) only [go_sem, simprocAttr]; with_reducible rfl); refine ⟨?_, ?_, ?_, ?_⟩ <;> (simp only [go_sem, simprocAttr]; with_reducible rfl)), x + 1, es2, rfl, by rw [hv3]; rfl, by omega, hes2⟩
        · have p0 : ¬ ((i : Nat) : Int) = 0 := by omega
          by_cases z1 : a.base = 1
          · have p2 := eq_true z1
            by_cases z2 : la = 1
            · have p3 := eq_true z2
              have p4 : ¬ ((x : Nat) : Int) = 1 := fun q => hok ⟨z1, z2, q⟩
              repeat' (first | (with_reducible first | refine SW_seq ?_ | refine SW_block ?_ | refine SThen_n ?_ | refine SThen_r ?_ | refine SThen_e ?_ | refine SIn_n ?_ | refine SIn_r ?_ | refine SIn_eq ?_ | refine SW_skip ?_ | refine SW_exit ?_ | refine SW_ret ?_ | refine SPost_r ?_) | ((with_reducible refine SIn_ne ?_ ?_); focus decide) | ((with_reducible refine SW_true ?_ ?_); focus exact rfl) | ((with_reducible refine SW_false ?_ ?_); focus exact rfl) | ((with_reducible apply SW_run tt_ok hG htb); focus ((repeat' (first | (with_reducible exact runX_nil) | ((with_reducible apply runX_cons); focus (simp (discharger := omega) only [go_sem, p0, p2, p3, p4, autoP, simprocAttr]; with_reducible rfl)))); done)))
              refine SW_norm (Norm.headP [0, 1, 2] rfl (own := []) (keep := [2, 7, 8, 10, 11, 15, 16, 17, 18, 19, 81, 82, 83, 88, 89]) (by refine ⟨?_, ?_⟩; (simp (discharger := omega) only [go_sem, simprocAttr]; with_reducible rfl); refine ⟨?_, ?_, ?_, ?_⟩ <;> (simp only [go_sem, simprocAttr]; with_reducible rfl))) ?_
              refine SW_drawS (fun k => if k = 1 then some ⟨[.box [.map 2], .box [.fn 32 [.t (autoP a), .bptr 0 0, .bptr 1 0]], .map (.ints 3) es'], [.bptr 1 0], [.box [.map 2], .box [.fn 32 [.t (autoP a), .bptr 0 0, .bptr 1 0]], .map (.ints 3) es'], .fn 32 [.t (autoP a), .bptr 0 0, .bptr 1 0], some⟩ else if k = 17 then some ⟨[.box [.map 2], .box [.fn 32 [.t (autoP a), .bptr 0 0, .bptr 1 0]], .map (.ints 3) es'], .fn 32 [.t (autoP a), .bptr 0 0, .bptr 1 0] :: [.t (.agg [.int .i64 ((d.length - 1 - i : Nat) : Int), .int .i64 t, .int .i64 ((x : Nat) : Int)])], [.box [.map 2], .box [.fn 32 [.t (autoP a), .bptr 0 0, .bptr 1 0]], .map (.ints 3) es2], .t (tInt v2), pastG [.box [.map 2], .box [.fn 32 [.t (autoP a), .bptr 0 0, .bptr 1 0]], .map (.ints 3) es'] []⟩ else none) [1, 17] rfl tt_ok hG htb (t := ?ztC) ?topoC ?hlkC ?hokC ?runC ?restC
              case topoC => kernel_rfl
              case hlkC =>
                intro k L h
                by_cases h2 : k = 1
                · subst h2; simp
                · by_cases h9 : k = 17
                  · subst h9; simp
                  · simp [h2, h9] at h
              case hokC =>
                intro k L o hL ho
                by_cases h2 : k = 1
                · subst h2
                  rw [if_pos rfl] at hL
                  cases hL
                  cases ho
                  exact LoudOk.load tt_ok hG htb rfl rfl fun _ _ => rfl
                · rw [if_neg h2] at hL
                  by_cases h9 : k = 17
                  · subst h9
                    rw [if_pos rfl] at hL
                    cases hL
                    cases ho
                    exact LoudOk.call (asl := [.t (.agg [.int .i64 ((d.length - 1 - i : Nat) : Int), .int .i64 t, .int .i64 ((x : Nat) : Int)])]) (obs := blObs a es') (rst := []) (ks := []) (cap := blCap a) (obs' := blObs a es2) rfl rfl rfl hcall rfl rfl
                  · rw [if_neg h9] at hL
                    cases hL
              case runC =>
                (simp only [List.range, List.range.loop, List.size_toArray, List.length_cons, List.length_nil, Nat.reduceAdd]; repeat' (first | (with_reducible exact runA_nil) | ((with_reducible apply runA_cons); focus (first | (apply stepS_quietE rfl rfl rfl rfl; (focus (intro H; simp (discharger := omega) only [go_sem, autoP, hrs, ht, hk1', hadd, simprocAttr]; with_reducible rfl)); (focus rfl); (focus rfl); (focus (simp only [go_sem, simprocAttr]; with_reducible rfl))) | (apply stepS_loud rfl rfl rfl rfl rfl rfl; (focus (simp only [go_sem, loudSt, St.put, List.map_cons, List.map_nil, SV.ren, renL, pastG, posIn, Option.bind, List.getElem?_cons_zero, List.getElem?_cons_succ, List.getElem?_nil, simprocAttr]; with_reducible rfl)))))))
              case restC =>
                repeat' (first | (with_reducible first | apply w1 | apply w2 | apply w3 | apply w4 | apply w5 | apply w6 | apply w7 | apply w8 | apply w9 | apply wa | apply wb | apply wc) | ((with_reducible apply wd); focus decide) | ((with_reducible apply we); focus exact rfl) | ((with_reducible apply wf); focus exact rfl) | ((first | (with_reducible apply SW_run tt_ok hG htb) | ((with_reducible apply SW_draw rfl tt_ok hG htb); (focus kernel_rfl); focus simp only [List.range, List.range.loop, List.size_toArray, List.length_cons, List.length_nil, Nat.reduceAdd])); focus ((repeat' (first | (with_reducible first | exact wg | exact wh) | ((with_reducible first | apply wi | apply wj); focus (simp (discharger := omega) only [go_sem, simprocAttr]; with_reducible rfl)))); done)))
                exact ⟨dd - (x + 1), _, by omega, Norm.headP [0, 1, 2] rfl (own := []) (keep := [2, 7, 8, 10, 11, 15, 16, 17, 18, 81, 82, 83, 88, 89]) (by refine ⟨?_, ?_⟩; (simp (discharger := omega) only [go_sem, simprocAttr]; with_reducible rfl); refine ⟨?_, ?_, ?_, ?_⟩ <;> (simp only [go_sem, simprocAttr]; with_reducible rfl)), x + 1, es2, rfl, by rw [hv3]; rfl, by omega, hes2⟩
            · skip
              repeat' (first | (with_reducible first | refine SW_seq ?_ | refine SW_block ?_ | refine SThen_n ?_ | refine SThen_r ?_ | refine SThen_e ?_ | refine SIn_n ?_ | refine SIn_r ?_ | refine SIn_eq ?_ | refine SW_skip ?_ | refine SW_exit ?_ | refine SW_ret ?_ | refine SPost_r ?_) | ((with_reducible refine SIn_ne ?_ ?_); focus decide) | ((with_reducible refine SW_true ?_ ?_); focus exact rfl) | ((with_reducible refine SW_false ?_ ?_); focus exact rfl) | ((with_reducible apply SW_run tt_ok hG htb); focus ((repeat' (first | (with_reducible exact runX_nil) | ((with_reducible apply runX_cons); focus (simp (discharger := omega) only [go_sem, p0, p2, z2, autoP, simprocAttr]; with_reducible rfl)))); done)))
              refine SW_norm (Norm.headP [0, 1, 2] rfl (own := []) (keep := [2, 7, 8, 10, 11, 15, 16, 17, 18, 19, 81, 82, 83, 88, 89]) (by refine ⟨?_, ?_⟩; (simp (discharger := omega) only [go_sem, simprocAttr]; with_reducible rfl); refine ⟨?_, ?_, ?_, ?_⟩ <;> (simp only [go_sem, simprocAttr]; with_reducible rfl))) ?_
              refine SW_drawS (fun k => if k = 1 then some ⟨[.box [.map 2], .box [.fn 32 [.t (autoP a), .bptr 0 0, .bptr 1 0]], .map (.ints 3) es'], [.bptr 1 0], [.box [.map 2], .box [.fn 32 [.t (autoP a), .bptr 0 0, .bptr 1 0]], .map (.ints 3) es'], .fn 32 [.t (autoP a), .bptr 0 0, .bptr 1 0], some⟩ else if k = 17 then some ⟨[.box [.map 2], .box [.fn 32 [.t (autoP a), .bptr 0 0, .bptr 1 0]], .map (.ints 3) es'], .fn 32 [.t (autoP a), .bptr 0 0, .bptr 1 0] :: [.t (.agg [.int .i64 ((d.length - 1 - i : Nat) : Int), .int .i64 t, .int .i64 ((x : Nat) : Int)])], [.box [.map 2], .box [.fn 32 [.t (autoP a), .bptr 0 0, .bptr 1 0]], .map (.ints 3) es2], .t (tInt v2), pastG [.box [.map 2], .box [.fn 32 [.t (autoP a), .bptr 0 0, .bptr 1 0]], .map (.ints 3) es'] []⟩ else none) [1, 17] rfl tt_ok hG htb (t := ?ztD) ?topoD ?hlkD ?hokD ?runD ?restD
              case topoD => kernel_rfl
              case hlkD =>
                intro k L h
                by_cases h2 : k = 1
                · subst h2; simp
                · by_cases h9 : k = 17
                  · subst h9; simp
                  · simp [h2, h9] at h
              case hokD =>
                intro k L o hL ho
                by_cases h2 : k = 1
                · subst h2
                  rw [if_pos rfl] at hL
                  cases hL
                  cases ho
                  exact LoudOk.load tt_ok hG htb rfl rfl fun _ _ => rfl
                · rw [if_neg h2] at hL
                  by_cases h9 : k = 17
                  · subst h9
                    rw [if_pos rfl] at hL
                    cases hL
                    cases ho
                    exact LoudOk.call (asl := [.t (.agg [.int .i64 ((d.length - 1 - i : Nat) : Int), .int .i64 t, .int .i64 ((x : Nat) : Int)])]) (obs := blObs a es') (rst := []) (ks := []) (cap := blCap a) (obs' := blObs a es2) rfl rfl rfl hcall rfl rfl
                  · rw [if_neg h9] at hL
                    cases hL
              case runD =>
                (simp only [List.range, List.range.loop, List.size_toArray, List.length_cons, List.length_nil, Nat.reduceAdd]; repeat' (first | (with_reducible exact runA_nil) | ((with_reducible apply runA_cons); focus (first | (apply stepS_quietE rfl rfl rfl rfl; (focus (intro H; simp (discharger := omega) only [go_sem, autoP, hrs, ht, hk1', hadd, simprocAttr]; with_reducible rfl)); (focus rfl); (focus rfl); (focus (simp only [go_sem, simprocAttr]; with_reducible rfl))) | (apply stepS_loud rfl rfl rfl rfl rfl rfl; (focus (simp only [go_sem, loudSt, St.put, List.map_cons, List.map_nil, SV.ren, renL, pastG, posIn, Option.bind, List.getElem?_cons_zero, List.getElem?_cons_succ, List.getElem?_nil, simprocAttr]; with_reducible rfl)))))))
              case restD =>
                repeat' (first | (with_reducible first | apply w1 | apply w2 | apply w3 | apply w4 | apply w5 | apply w6 | apply w7 | apply w8 | apply w9 | apply wa | apply wb | apply wc) | ((with_reducible apply wd); focus decide) | ((with_reducible apply we); focus exact rfl) | ((with_reducible apply wf); focus exact rfl) | ((first | (with_reducible apply SW_run tt_ok hG htb) | ((with_reducible apply SW_draw rfl tt_ok hG htb); (focus kernel_rfl); focus simp only [List.range, List.range.loop, List.size_toArray, List.length_cons, List.length_nil, Nat.reduceAdd])); focus ((repeat' (first | (with_reducible first | exact wg | exact wh) | ((with_reducible first | apply wi | apply wj); focus (simp (discharger := omega) only [go_sem, simprocAttr]; with_reducible rfl)))); done)))
                exact ⟨dd - (x + 1), _, by omega, Norm.headP [0, 1, 2] rfl (own := []) (keep := [2, 7, 8, 10, 11, 15, 16, 17, 18, 81, 82, 83, 88, 89]) (by refine ⟨?_, ?_⟩; (simp (discharger := omega) only [go_sem, simprocAttr]; with_reducible rfl); refine ⟨?_, ?_, ?_, ?_⟩ <;> (simp only [go_sem, simprocAttr]; with_reducible rfl)), x + 1, es2, rfl, by rw [hv3]; rfl, by omega, hes2⟩
          · skip
            repeat' (first | (with_reducible first | refine SW_seq ?_ | refine SW_block ?_ | refine SThen_n ?_ | refine SThen_r ?_ | refine SThen_e ?_ | refine SIn_n ?_ | refine SIn_r ?_ | refine SIn_eq ?_ | refine SW_skip ?_ | refine SW_exit ?_ | refine SW_ret ?_ | refine SPost_r ?_) | ((with_reducible refine SIn_ne ?_ ?_); focus decide) | ((with_reducible refine SW_true ?_ ?_); focus exact rfl) | ((with_reducible refine SW_false ?_ ?_); focus exact rfl) | ((with_reducible apply SW_run tt_ok hG htb); focus ((repeat' (first | (with_reducible exact runX_nil) | ((with_reducible apply runX_cons); focus (simp (discharger := omega) only [go_sem, p0, z1, autoP, simprocAttr]; with_reducible rfl)))); done)))
            refine SW_norm (Norm.headP [0, 1, 2] rfl (own := []) (keep := [2, 7, 8, 10, 11, 15, 16, 17, 18, 19, 81, 82, 83, 88, 89]) (by refine ⟨?_, ?_⟩; (simp (discharger := omega) only [go_sem, simprocAttr]; with_reducible rfl); refine ⟨?_, ?_, ?_, ?_⟩ <;> (simp only [go_sem, simprocAttr]; with_reducible rfl))) ?_
            refine SW_drawS (fun k => if k = 1 then some ⟨[.box [.map 2], .box [.fn 32 [.t (autoP a), .bptr 0 0, .bptr 1 0]], .map (.ints 3) es'], [.bptr 1 0], [.box [.map 2], .box [.fn 32 [.t (autoP a), .bptr 0 0, .bptr 1 0]], .map (.ints 3) es'], .fn 32 [.t (autoP a), .bptr 0 0, .bptr 1 0], some⟩ else if k = 17 then some ⟨[.box [.map 2], .box [.fn 32 [.t (autoP a), .bptr 0 0, .bptr 1 0]], .map (.ints 3) es'], .fn 32 [.t (autoP a), .bptr 0 0, .bptr 1 0] :: [.t (.agg [.int .i64 ((d.length - 1 - i : Nat) : Int), .int .i64 t, .int .i64 ((x : Nat) : Int)])], [.box [.map 2], .box [.fn 32 [.t (autoP a), .bptr 0 0, .bptr 1 0]], .map (.ints 3) es2], .t (tInt v2), pastG [.box [.map 2], .box [.fn 32 [.t (autoP a), .bptr 0 0, .bptr 1 0]], .map (.ints 3) es'] []⟩ else none) [1, 17] rfl tt_ok hG htb (t := ?ztE) ?topoE ?hlkE ?hokE ?runE ?restE
            case topoE => kernel_rfl
            case hlkE =>
              intro k L h
              by_cases h2 : k = 1
              · subst h2; simp
              · by_cases h9 : k = 17
                · subst h9; simp
                · simp [h2, h9] at h
            case hokE =>
              intro k L o hL ho
              by_cases h2 : k = 1
              · subst h2
                rw [if_pos rfl] at hL
                cases hL
                cases ho
                exact LoudOk.load tt_ok hG htb rfl rfl fun _ _ => rfl
              · rw [if_neg h2] at hL
                by_cases h9 : k = 17
                · subst h9
                  rw [if_pos rfl] at hL
                  cases hL
                  cases ho
                  exact LoudOk.call (asl := [.t (.agg [.int .i64 ((d.length - 1 - i : Nat) : Int), .int .i64 t, .int .i64 ((x : Nat) : Int)])]) (obs := blObs a es') (rst := []) (ks := []) (cap := blCap a) (obs' := blObs a es2) rfl rfl rfl hcall rfl rfl
                · rw [if_neg h9] at hL
                  cases hL
            case runE =>
              (simp only [List.range, List.range.loop, List.size_toArray, List.length_cons, List.length_nil, Nat.reduceAdd]; repeat' (first | (with_reducible exact runA_nil) | ((with_reducible apply runA_cons); focus (first | (apply stepS_quietE rfl rfl rfl rfl; (focus (intro H; simp (discharger := omega) only [go_sem, autoP, hrs, ht, hk1', hadd, simprocAttr]; with_reducible rfl)); (focus rfl); (focus rfl); (focus (simp only [go_sem, simprocAttr]; with_reducible rfl))) | (apply stepS_loud rfl rfl rfl rfl rfl rfl; (focus (simp only [go_sem, loudSt, St.put, List.map_cons, List.map_nil, SV.ren, renL, pastG, posIn, Option.bind, List.getElem?_cons_zero, List.getElem?_cons_succ, List.getElem?_nil, simprocAttr]; with_reducible rfl)))))))
            case restE =>
              repeat' (first | (with_reducible first | apply w1 | apply w2 | apply w3 | apply w4 | apply w5 | apply w6 | apply w7 | apply w8 | apply w9 | apply wa | apply wb | apply wc) | ((with_reducible apply wd); focus decide) | ((with_reducible apply we); focus exact rfl) | ((with_reducible apply wf); focus exact rfl) | ((first | (with_reducible apply SW_run tt_ok hG htb) | ((with_reducible apply SW_draw rfl tt_ok hG htb); (focus kernel_rfl); focus simp only [List.range, List.range.loop, List.size_toArray, List.length_cons, List.length_nil, Nat.reduceAdd])); focus ((repeat' (first | (with_reducible first | exact wg | exact wh) | ((with_reducible first | apply wi | apply wj); focus (simp (discharger := omega) only [go_sem, simprocAttr]; with_reducible rfl)))); done)))
              exact ⟨dd - (x + 1), _, by omega, Norm.headP [0, 1, 2] rfl (own := []) (keep := [2, 7, 8, 10, 11, 15, 16, 17, 18, 81, 82, 83, 88, 89]) (by refine ⟨?_, ?_⟩; (simp (discharger := omega) only [go_sem, simprocAttr]; with_reducible rfl); refine ⟨?_, ?_, ?_, ?_⟩ <;> (simp only [go_sem, simprocAttr]; with_reducible rfl)), x + 1, es2, rfl, by rw [hv3]; rfl, by omega, hes2⟩
      · obtain rfl : x = dd := by omega
        obtain ⟨t, ht⟩ : ∃ t, rs[x]! = t := ⟨_, rfl⟩
        have hrun : runFrom a.next 0 (d.take (i + 1)) = t := by
          rw [List.take_succ_eq_append_getElem hid, runFrom_append, hst0, hdd]
          show (rowOf a.next st0).getD (Int.toNat ((x : Nat) : Int)) 0 = t
          rw [hros, Int.toNat_natCast]; exact bang_D ht (by omega)
        have hlast : lastD d (i + 1) = ((x : Nat) : Int) := by unfold lastD; rw [if_neg (by omega), Nat.add_sub_cancel]; exact hdD
        have hlim : limP a.base d (i + 1) = posN a.base d i la x := by unfold limP; rw [if_neg (by omega), hend]
        rw [← hlim]
        repeat' (first | (with_reducible first | apply w1 | apply w2 | apply w3 | apply w4 | apply w5 | apply w6 | apply w7 | apply w8 | apply w9 | apply wa | apply wb | apply wc) | ((with_reducible apply wd); focus decide) | ((with_reducible apply we); focus exact rfl) | ((with_reducible apply wf); focus exact rfl) | ((first | (with_reducible apply SW_run tt_ok hG htb) | ((with_reducible apply SW_draw rfl tt_ok hG htb); (focus kernel_rfl); focus simp only [List.range, List.range.loop, List.size_toArray, List.length_cons, List.length_nil, Nat.reduceAdd])); focus ((repeat' (first | (with_reducible first | exact wg | exact wh) | ((with_reducible first | apply wi | apply wj); focus (simp (discharger := omega) only [go_sem, hrs, ht, autoP, simprocAttr]; with_reducible rfl)))); done)))
        exact ⟨d.length - (i + 1), _, by omega, Norm.headP [0, 1, 2] rfl (own := []) (keep := [2, 7, 8, 10, 11, 15, 16, 81, 82, 83]) (by refine ⟨?_, ?_⟩; (simp (discharger := omega) only [go_sem, simprocAttr]; with_reducible rfl); refine ⟨?_, ?_, ?_, ?_⟩ <;> (simp only [go_sem, simprocAttr]; with_reducible rfl)), i + 1, es', rfl, by rw [hrun, hlast]; rfl, by omega, hes⟩
    · obtain rfl : i = d.length := by omega
      have ez : limP a.base d d.length = n := by
        unfold limP
        rw [if_neg (by omega), List.take_length, Nat.sub_self, List.replicate_zero, List.append_nil]; exact hl.val
      rw [ez]
      repeat' (first | (with_reducible first | apply w1 | apply w2 | apply w3 | apply w4 | apply w5 | apply w6 | apply w7 | apply w8 | apply w9 | apply wa | apply wb | apply wc) | ((with_reducible apply wd); focus decide) | ((with_reducible apply we); focus exact rfl) | ((with_reducible apply wf); focus exact rfl) | ((first | (with_reducible apply SW_run tt_ok hG htb) | ((with_reducible apply SW_draw rfl tt_ok hG htb); (focus kernel_rfl); focus simp only [List.range, List.range.loop, List.size_toArray, List.length_cons, List.length_nil, Nat.reduceAdd])); focus ((repeat' (first | (with_reducible first | exact wg | exact wh) | ((with_reducible first | apply wi | apply wj); focus (simp (discharger := omega) only [go_sem, simprocAttr]; with_reducible rfl)))); done)))
      exact (by simp (discharger := omega) only [go_sem, tErr0, simprocAttr])
end
end Go.Proofs.YtjidhaendndokaaDoor
namespace Go.Proofs.YtjidhaendndokaaDoor
open Go.RowKit
theorem repErr_inv {S : Nat → Prop} {w : World} {v : Value} {e : Int} (h : RepT S w (tErr e) v) : v = errV 26 e := by
  unfold tErr at h; unfold errV
  split at h
  · rename_i h0
    rw [if_pos h0]; cases h; rfl
  · rename_i h0
    rw [if_neg h0]
    cases h with
    | iface t x v h => cases h; rfl
theorem errCell_lasting : Lasting errCell := fun _ _ hb h => errCell.below h hb
theorem Error_snd (e f : Int) : Snd Tryd.prog errCell 8 [tErr e, tInt f] (.bool (e == f)) :=
  snd2 Tryd.func8 rfl rfl fun S w v u hg _ h h' => by
    obtain rfl := repErr_inv h; obtain rfl := intInv h'
    exact ⟨_, Error_calls e f w hg, fun S w => .bool _⟩
end Go.Proofs.YtjidhaendndokaaDoor
namespace Go.Proofs.YtjidhaendndokaaDoor
open Go.RowKit

section
variable {G : World → Prop} (hG : Lasting G)
include hG
theorem RRadix_snd (base : Int) : Snd Tryd.prog G 36 [tInt base] (tInt (radix base)) := by
  have htb : Tab.ok Tryd.prog G [] := Tab.nil
  refine snd_of_body (n := 12) (tm := [(0, .t (tInt base))]) (rs := [.tmp 2]) tt_ok Tryd.func36 rfl rfl rfl rfl rfl ?_
  unfold radix
  by_cases h1 : base = 1
  · repeat' (first | (with_reducible first | apply w1 | apply w2 | apply w3 | apply w4 | apply w5 | apply w6 | apply w7 | apply w8 | apply w9 | apply wa | apply wb | apply wc) | ((with_reducible apply wd); focus decide) | ((with_reducible apply we); focus exact rfl) | ((with_reducible apply wf); focus exact rfl) | ((first | (with_reducible apply SW_run tt_ok hG htb) | ((with_reducible apply SW_draw rfl tt_ok hG htb); (focus kernel_rfl); focus simp only [List.range, List.range.loop, List.size_toArray, List.length_cons, List.length_nil, Nat.reduceAdd])); focus ((repeat' (first | (with_reducible first | exact wg | exact wh) | ((with_reducible first | apply wi | apply wj); focus (simp (discharger := omega) only [go_sem, h1, simprocAttr]; with_reducible rfl)))); done)))
    exact (by simp (discharger := omega) only [go_sem, h1, simprocAttr])
  · by_cases h2 : 2 ≤ base
    · by_cases h3 : base ≤ 6
      · repeat' (first | (with_reducible first | apply w1 | apply w2 | apply w3 | apply w4 | apply w5 | apply w6 | apply w7 | apply w8 | apply w9 | apply wa | apply wb | apply wc) | ((with_reducible apply wd); focus decide) | ((with_reducible apply we); focus exact rfl) | ((with_reducible apply wf); focus exact rfl) | ((first | (with_reducible apply SW_run tt_ok hG htb) | ((with_reducible apply SW_draw rfl tt_ok hG htb); (focus kernel_rfl); focus simp only [List.range, List.range.loop, List.size_toArray, List.length_cons, List.length_nil, Nat.reduceAdd])); focus ((repeat' (first | (with_reducible first | exact wg | exact wh) | ((with_reducible first | apply wi | apply wj); focus (simp (discharger := omega) only [go_sem, simprocAttr]; with_reducible rfl)))); done)))
        exact (by simp (discharger := omega) only [go_sem, simprocAttr])
      · repeat' (first | (with_reducible first | apply w1 | apply w2 | apply w3 | apply w4 | apply w5 | apply w6 | apply w7 | apply w8 | apply w9 | apply wa | apply wb | apply wc) | ((with_reducible apply wd); focus decide) | ((with_reducible apply we); focus exact rfl) | ((with_reducible apply wf); focus exact rfl) | ((first | (with_reducible apply SW_run tt_ok hG htb) | ((with_reducible apply SW_draw rfl tt_ok hG htb); (focus kernel_rfl); focus simp only [List.range, List.range.loop, List.size_toArray, List.length_cons, List.length_nil, Nat.reduceAdd])); focus ((repeat' (first | (with_reducible first | exact wg | exact wh) | ((with_reducible first | apply wi | apply wj); focus (simp (discharger := omega) only [go_sem, simprocAttr]; with_reducible rfl)))); done)))
        exact (by simp (discharger := omega) only [go_sem, simprocAttr])
    · repeat' (first | (with_reducible first | apply w1 | apply w2 | apply w3 | apply w4 | apply w5 | apply w6 | apply w7 | apply w8 | apply w9 | apply wa | apply wb | apply wc) | ((with_reducible apply wd); focus decide) | ((with_reducible apply we); focus exact rfl) | ((with_reducible apply wf); focus exact rfl) | ((first | (with_reducible apply SW_run tt_ok hG htb) | ((with_reducible apply SW_draw rfl tt_ok hG htb); (focus kernel_rfl); focus simp only [List.range, List.range.loop, List.size_toArray, List.length_cons, List.length_nil, Nat.reduceAdd])); focus ((repeat' (first | (with_reducible first | exact wg | exact wh) | ((with_reducible first | apply wi | apply wj); focus (simp (discharger := omega) only [go_sem, simprocAttr]; with_reducible rfl)))); done)))
      exact (by simp (discharger := omega) only [go_sem, simprocAttr])
end
end Go.Proofs.YtjidhaendndokaaDoor
namespace Go.Proofs.YtjidhaendndokaaDoor
open Go.RowKit

section
variable {G : World → Prop} (hG : Lasting G)
include hG
set_option maxHeartbeats 4000000 in
theorem RLetters_snd (base t : Int) : Snd Tryd.prog G 20 [tInt base, tInt t] (.tup [tInt (manyOf base t), tInt (manyErr base t)]) := by
  have htb := Tab.cons (RRadix_snd hG base) Tab.nil
  refine snd_of_body (n := 32) (tm := [(0, .t (tInt base)), (1, .t (tInt t))]) (rs := [.tmp 4, .tmp 5]) tt_ok Tryd.func20 rfl rfl rfl rfl rfl ?_
  unfold manyOf manyErr
  generalize hk : radix base = k at htb ⊢
  by_cases h1 : k = 0
  · subst h1
    repeat' (first | (with_reducible first | apply w1 | apply w2 | apply w3 | apply w4 | apply w5 | apply w6 | apply w7 | apply w8 | apply w9 | apply wa | apply wb | apply wc) | ((with_reducible apply wd); focus decide) | ((with_reducible apply we); focus exact rfl) | ((with_reducible apply wf); focus exact rfl) | ((first | (with_reducible apply SW_run tt_ok hG htb) | ((with_reducible apply SW_draw rfl tt_ok hG htb); (focus kernel_rfl); focus simp only [List.range, List.range.loop, List.size_toArray, List.length_cons, List.length_nil, Nat.reduceAdd])); focus ((repeat' (first | (with_reducible first | exact wg | exact wh) | ((with_reducible first | apply wi | apply wj); focus (simp (discharger := omega) only [go_sem, simprocAttr]; with_reducible rfl)))); done)))
    exact (by simp (discharger := omega) only [go_sem, simprocAttr])
  · by_cases h2 : t < 0
    · repeat' (first | (with_reducible first | apply w1 | apply w2 | apply w3 | apply w4 | apply w5 | apply w6 | apply w7 | apply w8 | apply w9 | apply wa | apply wb | apply wc) | ((with_reducible apply wd); focus decide) | ((with_reducible apply we); focus exact rfl) | ((with_reducible apply wf); focus exact rfl) | ((first | (with_reducible apply SW_run tt_ok hG htb) | ((with_reducible apply SW_draw rfl tt_ok hG htb); (focus kernel_rfl); focus simp only [List.range, List.range.loop, List.size_toArray, List.length_cons, List.length_nil, Nat.reduceAdd])); focus ((repeat' (first | (with_reducible first | exact wg | exact wh) | ((with_reducible first | apply wi | apply wj); focus (simp (discharger := omega) only [go_sem, simprocAttr]; with_reducible rfl)))); done)))
      exact (by simp (discharger := omega) only [go_sem, simprocAttr])
    · by_cases h3 : 5 < t
      · repeat' (first | (with_reducible first | apply w1 | apply w2 | apply w3 | apply w4 | apply w5 | apply w6 | apply w7 | apply w8 | apply w9 | apply wa | apply wb | apply wc) | ((with_reducible apply wd); focus decide) | ((with_reducible apply we); focus exact rfl) | ((with_reducible apply wf); focus exact rfl) | ((first | (with_reducible apply SW_run tt_ok hG htb) | ((with_reducible apply SW_draw rfl tt_ok hG htb); (focus kernel_rfl); focus simp only [List.range, List.range.loop, List.size_toArray, List.length_cons, List.length_nil, Nat.reduceAdd])); focus ((repeat' (first | (with_reducible first | exact wg | exact wh) | ((with_reducible first | apply wi | apply wj); focus (simp (discharger := omega) only [go_sem, simprocAttr]; with_reducible rfl)))); done)))
        exact (by simp (discharger := omega) only [go_sem, simprocAttr])
      · obtain ⟨r2, r6⟩ := radix_two (b := base) (by omega)
        rw [hk] at r2 r6
        obtain ⟨t, rfl⟩ := Int.eq_ofNat_of_zero_le (show 0 ≤ t by omega)
        rw [show (if k = 0 ∨ (t : Int) < 0 ∨ 5 < (t : Int) then (1 : Int) else if 36 < powW k (t : Int).toNat then 3 else 0) = if 36 < powW k t then 3 else 0 by rw [if_neg (by omega)]; rfl]
        repeat' (first | (with_reducible first | apply w1 | apply w2 | apply w3 | apply w4 | apply w5 | apply w6 | apply w7 | apply w8 | apply w9 | apply wa | apply wb | apply wc) | ((with_reducible apply wd); focus decide) | ((with_reducible apply we); focus exact rfl) | ((with_reducible apply wf); focus exact rfl) | ((first | (with_reducible apply SW_run tt_ok hG htb) | ((with_reducible apply SW_draw rfl tt_ok hG htb); (focus kernel_rfl); focus simp only [List.range, List.range.loop, List.size_toArray, List.length_cons, List.length_nil, Nat.reduceAdd])); focus ((repeat' (first | (with_reducible first | exact wg | exact wh) | ((with_reducible first | apply wi | apply wj); focus (simp (discharger := omega) only [go_sem, simprocAttr]; with_reducible rfl)))); done)))
        refine SW_loop (fun m s => ∃ i : Nat, m = t - i ∧ s = ⟨32, [(1, .t (tInt t)), (6, .t (tInt k)), (7, .t (tInt (powW k i))), (8, .t (tInt i))], []⟩ ∧ i ≤ t) t ⟨_, Norm.headS (own := []) (keep := [1, 6, 7, 8]) (by refine ⟨?_, ?_⟩; (simp (discharger := omega) only [go_sem, simprocAttr]; with_reducible rfl); refine ⟨?_, ?_, ?_, ?_⟩ <;> (simp only [go_sem, simprocAttr]; with_reducible rfl)), 0, rfl, rfl, Nat.zero_le _⟩ ?_
        rintro m s ⟨i, rfl, rfl, hi⟩
        have hb := powW_bd r2 r6 (j := i) (by omega)
        by_cases hlt : i < t
        · have hb1 : 1 ≤ powW k i * k ∧ powW k i * k ≤ 7776 := powW_bd r2 r6 (j := i + 1) (by omega)
          repeat' (first | (with_reducible first | apply w1 | apply w2 | apply w3 | apply w4 | apply w5 | apply w6 | apply w7 | apply w8 | apply w9 | apply wa | apply wb | apply wc) | ((with_reducible apply wd); focus decide) | ((with_reducible apply we); focus exact rfl) | ((with_reducible apply wf); focus exact rfl) | ((first | (with_reducible apply SW_run tt_ok hG htb) | ((with_reducible apply SW_draw rfl tt_ok hG htb); (focus kernel_rfl); focus simp only [List.range, List.range.loop, List.size_toArray, List.length_cons, List.length_nil, Nat.reduceAdd])); focus ((repeat' (first | (with_reducible first | exact wg | exact wh) | ((with_reducible first | apply wi | apply wj); focus (simp (discharger := omega) only [go_sem, simprocAttr]; with_reducible rfl)))); done)))
          exact ⟨t - (i + 1), _, by omega, Norm.headS (own := []) (keep := [1, 6, 7, 8]) (by refine ⟨?_, ?_⟩; (simp (discharger := omega) only [go_sem, simprocAttr]; with_reducible rfl); refine ⟨?_, ?_, ?_, ?_⟩ <;> (simp only [go_sem, simprocAttr]; with_reducible rfl)), i + 1, rfl, rfl, by omega⟩
        · obtain rfl : i = t := by omega
          by_cases h36 : 36 < powW k i
          · repeat' (first | (with_reducible first | apply w1 | apply w2 | apply w3 | apply w4 | apply w5 | apply w6 | apply w7 | apply w8 | apply w9 | apply wa | apply wb | apply wc) | ((with_reducible apply wd); focus decide) | ((with_reducible apply we); focus exact rfl) | ((with_reducible apply wf); focus exact rfl) | ((first | (with_reducible apply SW_run tt_ok hG htb) | ((with_reducible apply SW_draw rfl tt_ok hG htb); (focus kernel_rfl); focus simp only [List.range, List.range.loop, List.size_toArray, List.length_cons, List.length_nil, Nat.reduceAdd])); focus ((repeat' (first | (with_reducible first | exact wg | exact wh) | ((with_reducible first | apply wi | apply wj); focus (simp (discharger := omega) only [go_sem, simprocAttr]; with_reducible rfl)))); done)))
            exact (by simp (discharger := omega) only [go_sem, simprocAttr])
          · repeat' (first | (with_reducible first | apply w1 | apply w2 | apply w3 | apply w4 | apply w5 | apply w6 | apply w7 | apply w8 | apply w9 | apply wa | apply wb | apply wc) | ((with_reducible apply wd); focus decide) | ((with_reducible apply we); focus exact rfl) | ((with_reducible apply wf); focus exact rfl) | ((first | (with_reducible apply SW_run tt_ok hG htb) | ((with_reducible apply SW_draw rfl tt_ok hG htb); (focus kernel_rfl); focus simp only [List.range, List.range.loop, List.size_toArray, List.length_cons, List.length_nil, Nat.reduceAdd])); focus ((repeat' (first | (with_reducible first | exact wg | exact wh) | ((with_reducible first | apply wi | apply wj); focus (simp (discharger := omega) only [go_sem, simprocAttr]; with_reducible rfl)))); done)))
            exact (by simp (discharger := omega) only [go_sem, simprocAttr])
end
end Go.Proofs.YtjidhaendndokaaDoor
namespace Go.Proofs.YtjidhaendndokaaDoor
open Go.RowKit

section
variable {G : World → Prop} (hG : Lasting G)
include hG
set_option maxHeartbeats 4000000 in
theorem Run_snd (a : GAuto) (w : List Int) : Snd Tryd.prog G 35 [tAuto a, tInts w] (.tup [tInt (runOf a w), tErr (runErr a w)]) := by
  have htb := Tab.cons (Check_snd hG a) Tab.nil
  refine snd_of_body (n := 56) (tm := [(0, .t (tAuto a)), (1, .t (tInts w))]) (rs := [.tmp 4, .tmp 5]) tt_ok Tryd.func35 rfl rfl rfl rfl rfl ?_
  by_cases h0 : autoFault a = 0
  · have g := good_of h0
    have hlet : letters a = ((manyOf a.base a.tracks).toNat : Nat) := g.letters
    generalize (manyOf a.base a.tracks).toNat = n at g hlet
    generalize hm : a.next.length = m at g
    have hm0 := g.m0
    have hm80 := g.m80
    have hn36 := g.n36
    have e0 : runErr a w = longFault n w := by unfold runErr; rw [if_neg (by omega), hlet]
    have htb' := htb
    rw [h0] at htb
    clear htb'
    by_cases h4 : 400 < w.length
    · have e1 : runErr a w = 3 := by rw [e0]; unfold longFault; rw [if_pos h4]
      have e2 : runOf a w = 0 := by unfold runOf; rw [e1]; rfl
      rw [e1, e2]
      repeat' (first | (with_reducible first | apply w1 | apply w2 | apply w3 | apply w4 | apply w5 | apply w6 | apply w7 | apply w8 | apply w9 | apply wa | apply wb | apply wc) | ((with_reducible apply wd); focus decide) | ((with_reducible apply we); focus exact rfl) | ((with_reducible apply wf); focus exact rfl) | ((first | (with_reducible apply SW_run tt_ok hG htb) | ((with_reducible apply SW_draw rfl tt_ok hG htb); (focus kernel_rfl); focus simp only [List.range, List.range.loop, List.size_toArray, List.length_cons, List.length_nil, Nat.reduceAdd])); focus ((repeat' (first | (with_reducible first | exact wg | exact wh) | ((with_reducible first | apply wi | apply wj); focus (simp (discharger := omega) only [go_sem, tAuto, tErr, simprocAttr]; with_reducible rfl)))); done)))
      exact (by simp (discharger := omega) only [go_sem, tErr, simprocAttr])
    · obtain ⟨r0, hr0⟩ : ∃ r, a.next[0]! = r := ⟨_, rfl⟩
      have hr0l : r0.length = n := g.rows.row _ (bang_mem hr0 (by omega))
      repeat' (first | (with_reducible first | apply w1 | apply w2 | apply w3 | apply w4 | apply w5 | apply w6 | apply w7 | apply w8 | apply w9 | apply wa | apply wb | apply wc) | ((with_reducible apply wd); focus decide) | ((with_reducible apply we); focus exact rfl) | ((with_reducible apply wf); focus exact rfl) | ((first | (with_reducible apply SW_run tt_ok hG htb) | ((with_reducible apply SW_draw rfl tt_ok hG htb); (focus kernel_rfl); focus simp only [List.range, List.range.loop, List.size_toArray, List.length_cons, List.length_nil, Nat.reduceAdd])); focus ((repeat' (first | (with_reducible first | exact wg | exact wh) | ((with_reducible first | apply wi | apply wj); focus (simp (discharger := omega) only [go_sem, tAuto, tErr, simprocAttr]; with_reducible rfl)))); done)))
      refine SW_loop (fun k s => ∃ i : Nat, k = w.length - i ∧ s = ⟨56, [(1, .t (tInts w)), (2, .bptr 0 0), (21, .t (tInts w)), (22, .t (tInt w.length)), (23, .t (tInt i))], [.box [.t (tInt a.base), .t (tInt a.tracks), .t (tIntss a.next), .t (tBools a.ends)]]⟩ ∧ i ≤ w.length ∧ ∀ j (hj : j < w.length), j < i → 0 ≤ w[j] ∧ w[j] < (n : Int)) w.length
        ⟨_, Norm.headS (own := []) (keep := [1, 2, 21, 22, 23]) (by refine ⟨?_, ?_⟩; (simp (discharger := omega) only [go_sem, simprocAttr]; with_reducible rfl); refine ⟨?_, ?_, ?_, ?_⟩ <;> (simp only [go_sem, simprocAttr]; with_reducible rfl)), 0, rfl, rfl, Nat.zero_le _, fun j hj h => by omega⟩ ?_
      rintro k s ⟨i, rfl, rfl, hi, hA⟩
      by_cases hlt : i < w.length
      · obtain ⟨x, hx⟩ : ∃ x, w[i]! = x := ⟨_, rfl⟩
        have hat := bang_at hx hlt
        by_cases hx0 : 0 ≤ x
        · by_cases hxn : x < (n : Int)
          · repeat' (first | (with_reducible first | apply w1 | apply w2 | apply w3 | apply w4 | apply w5 | apply w6 | apply w7 | apply w8 | apply w9 | apply wa | apply wb | apply wc) | ((with_reducible apply wd); focus decide) | ((with_reducible apply we); focus exact rfl) | ((with_reducible apply wf); focus exact rfl) | ((first | (with_reducible apply SW_run tt_ok hG htb) | ((with_reducible apply SW_draw rfl tt_ok hG htb); (focus kernel_rfl); focus simp only [List.range, List.range.loop, List.size_toArray, List.length_cons, List.length_nil, Nat.reduceAdd])); focus ((repeat' (first | (with_reducible first | exact wg | exact wh) | ((with_reducible first | apply wi | apply wj); focus (simp (discharger := omega) only [go_sem, hx, hr0, simprocAttr]; with_reducible rfl)))); done)))
            exact ⟨w.length - (i + 1), _, by omega, Norm.headS (own := []) (keep := [1, 2, 21, 22, 23]) (by refine ⟨?_, ?_⟩; (simp (discharger := omega) only [go_sem, simprocAttr]; with_reducible rfl); refine ⟨?_, ?_, ?_, ?_⟩ <;> (simp only [go_sem, simprocAttr]; with_reducible rfl)), i + 1, rfl, rfl, by omega, fun j hj h => by
              by_cases e : j = i
              · subst e; rw [hat]; omega
              · exact hA j hj (by omega)⟩
          · have e1 : runErr a w = 1 := by rw [e0]; exact longFault_at h4 hlt (by rw [hat]; omega)
            have e2 : runOf a w = 0 := by unfold runOf; rw [e1]; rfl
            rw [e1, e2]
            repeat' (first | (with_reducible first | apply w1 | apply w2 | apply w3 | apply w4 | apply w5 | apply w6 | apply w7 | apply w8 | apply w9 | apply wa | apply wb | apply wc) | ((with_reducible apply wd); focus decide) | ((with_reducible apply we); focus exact rfl) | ((with_reducible apply wf); focus exact rfl) | ((first | (with_reducible apply SW_run tt_ok hG htb) | ((with_reducible apply SW_draw rfl tt_ok hG htb); (focus kernel_rfl); focus simp only [List.range, List.range.loop, List.size_toArray, List.length_cons, List.length_nil, Nat.reduceAdd])); focus ((repeat' (first | (with_reducible first | exact wg | exact wh) | ((with_reducible first | apply wi | apply wj); focus (simp (discharger := omega) only [go_sem, hx, hr0, simprocAttr]; with_reducible rfl)))); done)))
            exact (by simp (discharger := omega) only [go_sem, tErr, simprocAttr])
        · have e1 : runErr a w = 1 := by rw [e0]; exact longFault_at h4 hlt (by rw [hat]; omega)
          have e2 : runOf a w = 0 := by unfold runOf; rw [e1]; rfl
          rw [e1, e2]
          repeat' (first | (with_reducible first | apply w1 | apply w2 | apply w3 | apply w4 | apply w5 | apply w6 | apply w7 | apply w8 | apply w9 | apply wa | apply wb | apply wc) | ((with_reducible apply wd); focus decide) | ((with_reducible apply we); focus exact rfl) | ((with_reducible apply wf); focus exact rfl) | ((first | (with_reducible apply SW_run tt_ok hG htb) | ((with_reducible apply SW_draw rfl tt_ok hG htb); (focus kernel_rfl); focus simp only [List.range, List.range.loop, List.size_toArray, List.length_cons, List.length_nil, Nat.reduceAdd])); focus ((repeat' (first | (with_reducible first | exact wg | exact wh) | ((with_reducible first | apply wi | apply wj); focus (simp (discharger := omega) only [go_sem, hx, hr0, simprocAttr]; with_reducible rfl)))); done)))
          exact (by simp (discharger := omega) only [go_sem, tErr, simprocAttr])
      · obtain rfl : i = w.length := by omega
        have e1 : runErr a w = 0 := by rw [e0]; exact longFault_ok h4 fun j hj => hA j hj hj
        have e2 : runOf a w = runFrom a.next 0 w := by unfold runOf; rw [e1]; rfl
        rw [e1, e2]
        repeat' (first | (with_reducible first | apply w1 | apply w2 | apply w3 | apply w4 | apply w5 | apply w6 | apply w7 | apply w8 | apply w9 | apply wa | apply wb | apply wc) | ((with_reducible apply wd); focus decide) | ((with_reducible apply we); focus exact rfl) | ((with_reducible apply wf); focus exact rfl) | ((first | (with_reducible apply SW_run tt_ok hG htb) | ((with_reducible apply SW_draw rfl tt_ok hG htb); (focus kernel_rfl); focus simp only [List.range, List.range.loop, List.size_toArray, List.length_cons, List.length_nil, Nat.reduceAdd])); focus ((repeat' (first | (with_reducible first | exact wg | exact wh) | ((with_reducible first | apply wi | apply wj); focus (simp (discharger := omega) only [go_sem, simprocAttr]; with_reducible rfl)))); done)))
        refine SW_loop (fun k s => ∃ (i : Nat) (q : Int), k = w.length - i ∧ s = ⟨56, [(2, .bptr 0 0), (9, .t (tInt q)), (40, .t (tInts w)), (41, .t (tInt w.length)), (42, .t (tInt i))], [.box [.t (tInt a.base), .t (tInt a.tracks), .t (tIntss a.next), .t (tBools a.ends)]]⟩ ∧ i ≤ w.length ∧ q = runFrom a.next 0 (w.take i)) w.length
          ⟨_, Norm.headS (own := []) (keep := [2, 9, 40, 41, 42]) (by refine ⟨?_, ?_⟩; (simp (discharger := omega) only [go_sem, simprocAttr]; with_reducible rfl); refine ⟨?_, ?_, ?_, ?_⟩ <;> (simp only [go_sem, simprocAttr]; with_reducible rfl)), 0, 0, rfl, rfl, Nat.zero_le _, rfl⟩ ?_
        rintro k s ⟨i, q, rfl, rfl, hi, hq⟩
        have hAm : ∀ x ∈ w, 0 ≤ x ∧ x < (n : Int) := fun x hx => by obtain ⟨j, hj, rfl⟩ := List.mem_iff_getElem.1 hx; exact hA j hj hj
        have hqm : 0 ≤ q ∧ q < (m : Int) := by rw [hq]; exact runFrom_ok g.rows _ 0 (by omega) fun x hx => hAm x (List.mem_of_mem_take hx)
        by_cases hlt : i < w.length
        · obtain ⟨x, hx⟩ : ∃ x, w[i]! = x := ⟨_, rfl⟩
          have hxn := hAm x (bang_mem hx hlt)
          obtain ⟨row, hrow⟩ : ∃ row, a.next[q.toNat]! = row := ⟨_, rfl⟩
          have hrl : row.length = n := g.rows.row _ (bang_mem hrow (by omega))
          obtain ⟨u, hu⟩ : ∃ u, row[x.toNat]! = u := ⟨_, rfl⟩
          have hstep := runFrom_take a.next hx hlt 0
          rw [← hq, nextOf_bang hrow (by omega) hu (by omega)] at hstep
          repeat' (first | (with_reducible first | apply w1 | apply w2 | apply w3 | apply w4 | apply w5 | apply w6 | apply w7 | apply w8 | apply w9 | apply wa | apply wb | apply wc) | ((with_reducible apply wd); focus decide) | ((with_reducible apply we); focus exact rfl) | ((with_reducible apply wf); focus exact rfl) | ((first | (with_reducible apply SW_run tt_ok hG htb) | ((with_reducible apply SW_draw rfl tt_ok hG htb); (focus kernel_rfl); focus simp only [List.range, List.range.loop, List.size_toArray, List.length_cons, List.length_nil, Nat.reduceAdd])); focus ((repeat' (first | (with_reducible first | exact wg | exact wh) | ((with_reducible first | apply wi | apply wj); focus (simp (discharger := omega) only [go_sem, hx, hrow, hu, simprocAttr]; with_reducible rfl)))); done)))
          exact ⟨w.length - (i + 1), _, by omega, Norm.headS (own := []) (keep := [2, 9, 40, 41, 42]) (by refine ⟨?_, ?_⟩; (simp (discharger := omega) only [go_sem, simprocAttr]; with_reducible rfl); refine ⟨?_, ?_, ?_, ?_⟩ <;> (simp only [go_sem, simprocAttr]; with_reducible rfl)), i + 1, u, rfl, rfl, by omega, hstep.symm⟩
        · obtain rfl : i = w.length := by omega
          rw [List.take_length] at hq
          rw [← hq]
          repeat' (first | (with_reducible first | apply w1 | apply w2 | apply w3 | apply w4 | apply w5 | apply w6 | apply w7 | apply w8 | apply w9 | apply wa | apply wb | apply wc) | ((with_reducible apply wd); focus decide) | ((with_reducible apply we); focus exact rfl) | ((with_reducible apply wf); focus exact rfl) | ((first | (with_reducible apply SW_run tt_ok hG htb) | ((with_reducible apply SW_draw rfl tt_ok hG htb); (focus kernel_rfl); focus simp only [List.range, List.range.loop, List.size_toArray, List.length_cons, List.length_nil, Nat.reduceAdd])); focus ((repeat' (first | (with_reducible first | exact wg | exact wh) | ((with_reducible first | apply wi | apply wj); focus (simp (discharger := omega) only [go_sem, simprocAttr]; with_reducible rfl)))); done)))
          exact (by simp (discharger := omega) only [go_sem, tErr, simprocAttr])
  · have e1 : runErr a w = autoFault a := by unfold runErr; rw [if_pos h0]
    have e2 : runOf a w = 0 := by unfold runOf; rw [e1, if_neg h0]
    rw [e1, e2]
    generalize autoFault a = e at *
    repeat' (first | (with_reducible first | apply w1 | apply w2 | apply w3 | apply w4 | apply w5 | apply w6 | apply w7 | apply w8 | apply w9 | apply wa | apply wb | apply wc) | ((with_reducible apply wd); focus decide) | ((with_reducible apply we); focus exact rfl) | ((with_reducible apply wf); focus exact rfl) | ((first | (with_reducible apply SW_run tt_ok hG htb) | ((with_reducible apply SW_draw rfl tt_ok hG htb); (focus kernel_rfl); focus simp only [List.range, List.range.loop, List.size_toArray, List.length_cons, List.length_nil, Nat.reduceAdd])); focus ((repeat' (first | (with_reducible first | exact wg | exact wh) | ((with_reducible first | apply wi | apply wj); focus (simp (discharger := omega) only [go_sem, tAuto, tErr, h0, simprocAttr]; with_reducible rfl)))); done)))
    exact (by simp (discharger := omega) only [go_sem, tErr, h0, simprocAttr])
theorem Takes_snd (a : GAuto) (w : List Int) : Snd Tryd.prog G 19 [tAuto a, tInts w] (.tup [.bool (takesOf a w), tErr (runErr a w)]) := by
  have htb := Tab.cons (Run_snd hG a w) Tab.nil
  refine snd_of_body (n := 24) (tm := [(0, .t (tAuto a)), (1, .t (tInts w))]) (rs := [.tmp 4, .tmp 5]) tt_ok Tryd.func19 rfl rfl rfl rfl rfl ?_
  by_cases h0 : runErr a w = 0
  · obtain ⟨h1, h2, h3⟩ := runErr_zero h0
    have g := good_of h1
    have hq := runFrom_ok g.rows w 0 (by have := g.m0; omega) (by rw [← g.letters]; exact h3)
    have e2 : runOf a w = runFrom a.next 0 w := by unfold runOf; rw [h0]; rfl
    have he := g.ends
    have e3 : takesOf a w = a.ends[(runFrom a.next 0 w).toNat]! := by
      unfold takesOf endOf; rw [h0, getD_lt (by omega), getElem!_pos a.ends _ (by omega)]; rfl
    rw [e3, h0]
    rw [h0, e2] at htb
    generalize runFrom a.next 0 w = q at *
    repeat' (first | (with_reducible first | apply w1 | apply w2 | apply w3 | apply w4 | apply w5 | apply w6 | apply w7 | apply w8 | apply w9 | apply wa | apply wb | apply wc) | ((with_reducible apply wd); focus decide) | ((with_reducible apply we); focus exact rfl) | ((with_reducible apply wf); focus exact rfl) | ((first | (with_reducible apply SW_run tt_ok hG htb) | ((with_reducible apply SW_draw rfl tt_ok hG htb); (focus kernel_rfl); focus simp only [List.range, List.range.loop, List.size_toArray, List.length_cons, List.length_nil, Nat.reduceAdd])); focus ((repeat' (first | (with_reducible first | exact wg | exact wh) | ((with_reducible first | apply wi | apply wj); focus (simp (discharger := omega) only [go_sem, tAuto, tErr, simprocAttr]; with_reducible rfl)))); done)))
    exact (by simp (discharger := omega) only [go_sem, tErr, simprocAttr])
  · have e2 : takesOf a w = false := by unfold takesOf; simp [h0]
    rw [e2]
    generalize runErr a w = e at *
    repeat' (first | (with_reducible first | apply w1 | apply w2 | apply w3 | apply w4 | apply w5 | apply w6 | apply w7 | apply w8 | apply w9 | apply wa | apply wb | apply wc) | ((with_reducible apply wd); focus decide) | ((with_reducible apply we); focus exact rfl) | ((with_reducible apply wf); focus exact rfl) | ((first | (with_reducible apply SW_run tt_ok hG htb) | ((with_reducible apply SW_draw rfl tt_ok hG htb); (focus kernel_rfl); focus simp only [List.range, List.range.loop, List.size_toArray, List.length_cons, List.length_nil, Nat.reduceAdd])); focus ((repeat' (first | (with_reducible first | exact wg | exact wh) | ((with_reducible first | apply wi | apply wj); focus (simp (discharger := omega) only [go_sem, tAuto, tErr, h0, simprocAttr]; with_reducible rfl)))); done)))
    exact (by simp (discharger := omega) only [go_sem, tErr, h0, simprocAttr])
end
end Go.Proofs.YtjidhaendndokaaDoor
