/- Plain laws, data behind worlds, and contracts of functions, for the last text. No conditions. -/
import Derived.Test.YtpgkpbfefnpagaaGreatDoorM3
import Derived.Test.YtpgkpbfefnpagaaGreatDoorChecked
import Derived.Laws.Strings
import Derived.Lib.SplitLaws
import Derived.Lib.CutLaws
import Derived.Lib.IndexBytes
import Derived.Lib.AtoiAllCases
import Derived.Lib.ItoaNum
import Derived.Lib.Join
import Derived.Ground.NamesProg
import Derived.Shelf.Strings.Split
import Derived.Shelf.Strings.Cut
import Derived.Shelf.Strings.OnBuilder
import Derived.Shelf.Strconv.Itoa3
import Derived.Shelf.Strconv.AtoiAll
import Derived.Lib.AppendIntMem
set_option linter.unusedSimpArgs false
set_option linter.unusedVariables false
set_option linter.unnecessarySimpa false
set_option linter.unusedSectionVars false
namespace Go.Proofs.YtpgkpbfefnpagaaGreatDoor

/-- A text, cut at each such byte. -/
def cutB (c : UInt8) : List UInt8 → List (List UInt8)
  | [] => [[]]
  | x :: t => if x = c then [] :: cutB c t else match cutB c t with
    | [] => [[x]]
    | w :: r => (x :: w) :: r
theorem cutB_ne (c : UInt8) : ∀ s, cutB c s ≠ []
  | [] => by simp [cutB]
  | x :: t => by
    unfold cutB
    split
    · simp
    · split <;> simp
theorem cutB_clean (c : UInt8) : ∀ s, ∀ w ∈ cutB c s, c ∉ w
  | [], w, h => by
    simp only [cutB, List.mem_singleton] at h
    subst h; simp
  | x :: t, w, h => by
    unfold cutB at h
    by_cases e : x = c
    · rw [if_pos e] at h
      rcases List.mem_cons.1 h with rfl | h
      · simp
      · exact cutB_clean c t w h
    · rw [if_neg e] at h
      have ih := cutB_clean c t
      cases hc : cutB c t with
      | nil => exact absurd hc (cutB_ne c t)
      | cons u r =>
        rw [hc] at h ih
        rcases List.mem_cons.1 h with rfl | h
        · intro q
          rcases List.mem_cons.1 q with q | q
          · exact e q.symm
          · exact ih u List.mem_cons_self q
        · exact ih w (List.mem_cons_of_mem _ h)
theorem cutB_app (c : UInt8) : ∀ (w s : List UInt8), c ∉ w → cutB c (w ++ s) = match cutB c s with
    | [] => [w]
    | u :: r => (w ++ u) :: r
  | [], s, _ => by
    show cutB c s = _
    cases h : cutB c s with
    | nil => exact absurd h (cutB_ne c s)
    | cons u r => rfl
  | x :: w, s, h => by
    have hx : x ≠ c := fun e => h (by rw [e]; exact List.mem_cons_self)
    have ih := cutB_app c w s fun q => h (List.mem_cons_of_mem _ q)
    show (if x = c then [] :: cutB c (w ++ s) else match cutB c (w ++ s) with
      | [] => [[x]]
      | u :: r => (x :: u) :: r) = _
    rw [if_neg hx, ih]
    cases hc : cutB c s with
    | nil => exact absurd hc (cutB_ne c s)
    | cons u r => rfl
theorem cutB_word (c : UInt8) {w : List UInt8} (h : c ∉ w) : cutB c w = [w] := by
  have := cutB_app c w [] h
  rw [List.append_nil] at this
  rw [this]
  show [w ++ []] = _
  rw [List.append_nil]
theorem cutB_line (c : UInt8) {w s : List UInt8} (h : c ∉ w) : cutB c (w ++ c :: s) = w :: cutB c s := by
  rw [cutB_app c w (c :: s) h]
  have e : cutB c (c :: s) = [] :: cutB c s := by
    show (if c = c then _ else _) = _
    rw [if_pos rfl]
  rw [e]
  show (w ++ []) :: _ = _
  rw [List.append_nil]
/-- Words with such a byte between. -/
def joinB (c : UInt8) : List (List UInt8) → List UInt8
  | [] => []
  | [w] => w
  | w :: r => w ++ c :: joinB c r
theorem cutB_join (c : UInt8) : ∀ (l : List (List UInt8)), l ≠ [] → (∀ w ∈ l, c ∉ w) → cutB c (joinB c l) = l
  | [], h, _ => absurd rfl h
  | [w], _, h => cutB_word c (h w List.mem_cons_self)
  | w :: v :: r, _, h => by
    show cutB c (w ++ c :: joinB c (v :: r)) = _
    rw [cutB_line c (h w List.mem_cons_self), cutB_join c (v :: r) (by simp) fun u hu => h u (List.mem_cons_of_mem _ hu)]
theorem joinB_cut (c : UInt8) : ∀ s, joinB c (cutB c s) = s
  | [] => rfl
  | x :: t => by
    have ih := joinB_cut c t
    unfold cutB
    by_cases e : x = c
    · rw [if_pos e]
      cases hc : cutB c t with
      | nil => exact absurd hc (cutB_ne c t)
      | cons u r =>
        rw [hc] at ih
        show [] ++ c :: joinB c (u :: r) = _
        rw [ih, e]; rfl
    · rw [if_neg e]
      cases hc : cutB c t with
      | nil => exact absurd hc (cutB_ne c t)
      | cons u r =>
        rw [hc] at ih
        cases r with
        | nil => show x :: u = _; rw [← ih]; rfl
        | cons v r =>
          show (x :: u) ++ c :: joinB c (v :: r) = _
          rw [← ih]; rfl
def dig (n : Nat) : UInt8 := UInt8.ofNat (48 + n)
/-- A number of one to three digits, written. -/
def decB (n : Nat) : List UInt8 := if n < 10 then [dig n] else if n < 100 then [dig (n / 10), dig (n % 10)] else [dig (n / 100), dig (n / 10 % 10), dig (n % 10)]
def isDig (x : UInt8) : Bool := decide (48 ≤ x.toNat ∧ x.toNat ≤ 57)
/-- A word as a number of one to three digits, without a needless 0. -/
def smallB (w : List UInt8) : Option Nat := if w.length < 1 ∨ 3 < w.length ∨ (1 < w.length ∧ w.head? = some 48) then none else if w.all isDig = true then some (w.foldl (fun n x => n * 10 + (x.toNat - 48)) 0) else none
theorem small_dec : ∀ n, n < 1000 → smallB (decB n) = some n := by decide +kernel
theorem dec_small : ∀ {w : List UInt8} {n : Nat}, smallB w = some n → n < 1000 ∧ w.length ≤ 3 := fun {w n} h => by
  unfold smallB at h
  split at h
  · cases h
  · rename_i hl
    split at h
    · rename_i ha
      cases h
      have key : ∀ (w : List UInt8) (k : Nat), w.all isDig = true → w.foldl (fun n x => n * 10 + (x.toNat - 48)) k < (k + 1) * 10 ^ w.length := fun w => by
        induction w with
        | nil => intro k _; simp
        | cons x t ih =>
          intro k hx
          rw [List.all_cons, Bool.and_eq_true] at hx
          have hd : 48 ≤ x.toNat ∧ x.toNat ≤ 57 := of_decide_eq_true hx.1
          have := ih (k * 10 + (x.toNat - 48)) hx.2
          rw [List.foldl_cons, List.length_cons, Nat.pow_succ]
          refine Nat.lt_of_lt_of_le this ?_
          rw [Nat.mul_comm (10 ^ t.length) 10, ← Nat.mul_assoc]
          exact Nat.mul_le_mul_right _ (by omega)
      have h1 := key w 0 ha
      have h2 : 10 ^ w.length ≤ 10 ^ 3 := Nat.pow_le_pow_right (by decide) (by omega)
      omega
    · cases h
end Go.Proofs.YtpgkpbfefnpagaaGreatDoor
namespace Go.Proofs.YtpgkpbfefnpagaaGreatDoor

def smallI (w : List UInt8) : Int := match smallB w with
  | some n => (n : Int)
  | none => -1
def smallsOk (l : List (List UInt8)) : Bool := l.all fun w => decide (0 ≤ smallI w)
def smallsL (l : List (List UInt8)) : List Int := if smallsOk l = true then l.map smallI else []
theorem smallI_lt (w : List UInt8) : smallI w < 1000 := by
  unfold smallI
  cases h : smallB w with
  | none => simp
  | some n => have := (dec_small h).1; simp only; omega
theorem smallsL_lt {l : List (List UInt8)} : ∀ x ∈ smallsL l, 0 ≤ x ∧ x < 1000 := by
  intro x hx
  unfold smallsL at hx
  split at hx
  · rename_i h
    obtain ⟨w, hw, rfl⟩ := List.mem_map.1 hx
    exact ⟨of_decide_eq_true (List.all_eq_true.1 h w hw), smallI_lt w⟩
  · cases hx
theorem smallsL_le (l : List (List UInt8)) : (smallsL l).length ≤ l.length := by
  unfold smallsL
  split
  · rw [List.length_map]; exact Nat.le_refl _
  · exact Nat.zero_le _
/-- A line of a state: what is wrong with it, where it leads, whether words end there. -/
def lineFault (L N : Int) (w : List UInt8) : Int :=
  if smallsOk (cutB 32 w).tail = true ∧ ((smallsL (cutB 32 w).tail).length : Int) = L ∧ ((cutB 32 w).head? = some [43] ∨ (cutB 32 w).head? = some [45]) then
    (if (smallsL (cutB 32 w).tail).all (fun t => decide (t < N)) = true then 0 else 1) else 5
def lineRow (w : List UInt8) : List Int := smallsL (cutB 32 w).tail
def lineEnd (w : List UInt8) : Bool := decide ((cutB 32 w).head? = some [43])
def readRows (b t L N : Int) : Nat → Nat → List (List UInt8) → List (List Int) → List Bool → GAuto × Int × Int
  | 0, s, ls, nx, en => if ls = [[]] then (⟨b, t, nx, en⟩, 0, 0) else (GAuto.zero, (s : Int) + 1, 5)
  | k + 1, s, ls, nx, en => match ls with
    | [] => (GAuto.zero, (s : Int) + 1, 5)
    | w :: r => if r = [] then (GAuto.zero, (s : Int) + 1, 5) else if lineFault L N w = 0 then readRows b t L N k (s + 1) r (nx ++ [lineRow w]) (en ++ [lineEnd w]) else (GAuto.zero, (s : Int) + 1, lineFault L N w)
def readHead (ls : List (List UInt8)) : List Int → GAuto × Int × Int
  | [b, t, n] => if ls = [] then (GAuto.zero, 0, 5) else if manyErr b t = 0 then (if n = 0 then (GAuto.zero, 0, 4) else if 80 < n then (GAuto.zero, 0, 3) else readRows b t (manyOf b t) n n.toNat 0 ls [] []) else (GAuto.zero, 0, manyErr b t)
  | _ => (GAuto.zero, 0, 5)
theorem readHead_three {ls : List (List UInt8)} (h : ls ≠ []) (b t n : Int) : readHead ls [b, t, n] = if manyErr b t = 0 then (if n = 0 then (GAuto.zero, 0, 4) else if 80 < n then (GAuto.zero, 0, 3) else readRows b t (manyOf b t) n n.toNat 0 ls [] []) else (GAuto.zero, 0, manyErr b t) := by
  show (if ls = [] then _ else _) = _
  rw [if_neg h]
theorem readHead_no {ls : List (List UInt8)} {h : List Int} (h3 : ¬ h.length = 3) : readHead ls h = (GAuto.zero, 0, 5) := by
  unfold readHead
  split
  · exact absurd rfl h3
  · rfl
theorem readHead_nil (h : List Int) : readHead [] h = (GAuto.zero, 0, 5) := by
  unfold readHead
  split
  · rw [if_pos rfl]
  · rfl
def readTape (s : List UInt8) : GAuto × Int × Int := match cutB 10 s with
  | [] => (GAuto.zero, 0, 5)
  | hd :: ls => readHead ls (smallsL (cutB 32 hd))
/-- A text of a state. -/
def rowB (e : Bool) (row : List Int) : List UInt8 := joinB 32 ((if e then [43] else [45]) :: row.map fun t => decB t.toNat)
def rowsB : List Bool → List (List Int) → List UInt8
  | e :: en, r :: nx => rowB e r ++ 10 :: rowsB en nx
  | _, _ => []
def headB (a : GAuto) : List UInt8 := joinB 32 [decB a.base.toNat, decB a.tracks.toNat, decB a.next.length]
def tapeB (a : GAuto) : List UInt8 := headB a ++ 10 :: rowsB a.ends a.next
theorem dec_clean : ∀ n, n < 1000 → ∀ c : UInt8, c ∈ decB n → 48 ≤ c.toNat := by
  have h : ∀ n, n < 1000 → (decB n).all (fun c => decide (48 ≤ c.toNat)) = true := by decide +kernel
  exact fun n hn c hc => of_decide_eq_true (List.all_eq_true.1 (h n hn) c hc)
theorem dec_no (n : Nat) (h : n < 1000) (c : UInt8) (hc : c.toNat < 48) : c ∉ decB n := fun q => by have := dec_clean n h c q; omega
theorem join_no {c d : UInt8} (hcd : c ≠ d) : ∀ {l : List (List UInt8)}, (∀ w ∈ l, c ∉ w) → c ∉ joinB d l
  | [], _ => by show c ∉ []; simp
  | [w], h => h w List.mem_cons_self
  | w :: v :: r, h => by
    show c ∉ w ++ d :: joinB d (v :: r)
    intro q
    rcases List.mem_append.1 q with q | q
    · exact h w List.mem_cons_self q
    · rcases List.mem_cons.1 q with q | q
      · exact hcd q
      · exact join_no hcd (fun u hu => h u (List.mem_cons_of_mem _ hu)) q
theorem sign_no (e : Bool) (c : UInt8) (h : c.toNat < 43) : c ∉ (if e then [43] else [45] : List UInt8) := by
  intro q
  have h43 : (43 : UInt8).toNat = 43 := rfl
  have h45 : (45 : UInt8).toNat = 45 := rfl
  cases e
  · obtain rfl : c = 45 := by simpa using q
    omega
  · obtain rfl : c = 43 := by simpa using q
    omega
theorem small_words {row : List Int} (h : ∀ t ∈ row, 0 ≤ t ∧ t < 1000) : smallsOk (row.map fun t => decB t.toNat) = true ∧ smallsL (row.map fun t => decB t.toNat) = row := by
  have hs : ∀ t ∈ row, smallI (decB t.toNat) = t := fun t ht => by
    have := h t ht
    unfold smallI
    rw [small_dec _ (by omega)]
    simp only; omega
  have ok : smallsOk (row.map fun t => decB t.toNat) = true := by
    unfold smallsOk
    rw [List.all_eq_true]
    intro w hw
    obtain ⟨t, ht, rfl⟩ := List.mem_map.1 hw
    rw [hs t ht]
    exact decide_eq_true (h t ht).1
  refine ⟨ok, ?_⟩
  unfold smallsL
  rw [if_pos ok, List.map_map]
  conv => rhs; rw [← List.map_id row]
  exact List.map_congr_left fun t ht => hs t ht
theorem row_cut {e : Bool} {row : List Int} (h : ∀ t ∈ row, 0 ≤ t ∧ t < 1000) : cutB 32 (rowB e row) = (if e then [43] else [45]) :: row.map fun t => decB t.toNat := by
  unfold rowB
  refine cutB_join 32 _ (by simp) fun w hw => ?_
  rcases List.mem_cons.1 hw with rfl | hw
  · exact sign_no e 32 (by decide)
  · obtain ⟨t, ht, rfl⟩ := List.mem_map.1 hw
    exact dec_no _ (by have := h t ht; omega) 32 (by decide)
theorem row_no {e : Bool} {row : List Int} (h : ∀ t ∈ row, 0 ≤ t ∧ t < 1000) : 10 ∉ rowB e row := by
  unfold rowB
  refine join_no (by decide) fun w hw => ?_
  rcases List.mem_cons.1 hw with rfl | hw
  · exact sign_no e 10 (by decide)
  · obtain ⟨t, ht, rfl⟩ := List.mem_map.1 hw
    exact dec_no _ (by have := h t ht; omega) 10 (by decide)
theorem row_read {e : Bool} {row : List Int} {L N : Int} (h : ∀ t ∈ row, 0 ≤ t ∧ t < 1000) (hL : (row.length : Int) = L) (hN : ∀ t ∈ row, t < N) : lineFault L N (rowB e row) = 0 ∧ lineRow (rowB e row) = row ∧ lineEnd (rowB e row) = e := by
  have hc := row_cut (e := e) h
  obtain ⟨s1, s2⟩ := small_words h
  refine ⟨?_, ?_, ?_⟩
  · unfold lineFault
    rw [hc, List.tail_cons, s2, s1, List.head?_cons]
    rw [if_pos ⟨rfl, hL, by cases e <;> simp⟩, if_pos]
    rw [List.all_eq_true]
    exact fun t ht => decide_eq_true (hN t ht)
  · unfold lineRow
    rw [hc]; exact s2
  · unfold lineEnd
    rw [hc, List.head?_cons]
    cases e <;> decide
theorem rows_read {b t L N : Int} : ∀ {en : List Bool} {nx : List (List Int)} (s : Nat) (nx0 : List (List Int)) (en0 : List Bool), en.length = nx.length → (∀ r ∈ nx, (r.length : Int) = L ∧ ∀ t ∈ r, 0 ≤ t ∧ t < 1000 ∧ t < N) → readRows b t L N nx.length s (cutB 10 (rowsB en nx)) nx0 en0 = (⟨b, t, nx0 ++ nx, en0 ++ en⟩, 0, 0)
  | [], [], s, nx0, en0, _, _ => by
    show (if cutB 10 [] = [[]] then _ else _) = _
    rw [if_pos (show cutB 10 [] = [[]] from rfl), List.append_nil, List.append_nil]
  | e :: en, r :: nx, s, nx0, en0, hl, h => by
    have h1 := h r List.mem_cons_self
    have h2 : ∀ t ∈ r, 0 ≤ t ∧ t < 1000 := fun t ht => ⟨(h1.2 t ht).1, (h1.2 t ht).2.1⟩
    have hc : cutB 10 (rowsB (e :: en) (r :: nx)) = rowB e r :: cutB 10 (rowsB en nx) := cutB_line 10 (row_no h2)
    obtain ⟨f1, f2, f3⟩ := row_read (e := e) (L := L) (N := N) h2 h1.1 fun t ht => (h1.2 t ht).2.2
    rw [hc]
    show (if cutB 10 (rowsB en nx) = [] then _ else if lineFault L N (rowB e r) = 0 then readRows b t L N nx.length (s + 1) (cutB 10 (rowsB en nx)) (nx0 ++ [lineRow (rowB e r)]) (en0 ++ [lineEnd (rowB e r)]) else _) = _
    rw [if_neg (cutB_ne _ _), if_pos f1, f2, f3]
    rw [rows_read (s + 1) _ _ (by simpa using hl) fun u hu => h u (List.mem_cons_of_mem _ hu)]
    simp
  | [], r :: nx, s, nx0, en0, hl, _ => by simp at hl
  | e :: en, [], s, nx0, en0, hl, _ => by simp at hl
/-- What is written is read. -/
theorem tape_read {a : GAuto} (h : autoFault a = 0) : readTape (tapeB a) = (a, 0, 0) := by
  have g := good_of h
  obtain ⟨b, t, nx, en⟩ := a
  have hm := g.many
  have h80 := g.m80
  have h0 := g.m0
  have hn := g.n_eq
  simp only at hm h80 h0 hn
  obtain ⟨hr, t0, t5, _, _⟩ := many_ok hm
  have hb : 0 < b ∧ b ≤ 6 := by
    rcases radix_pos hr with ⟨h1, _⟩ | ⟨h1, h2, h3⟩ <;> omega
  have hws : ([b, t, (nx.length : Int)] : List Int).map (fun t => decB t.toNat) = [decB b.toNat, decB t.toNat, decB nx.length] := rfl
  have hsm : ∀ x ∈ ([b, t, (nx.length : Int)] : List Int), 0 ≤ x ∧ x < 1000 := by
    intro x hx
    simp only [List.mem_cons, List.not_mem_nil, or_false] at hx
    omega
  obtain ⟨_, s2⟩ := small_words hsm
  rw [hws] at s2
  have hall : ∀ w ∈ ([decB b.toNat, decB t.toNat, decB nx.length] : List (List UInt8)), ∀ c : UInt8, c.toNat < 48 → c ∉ w := by
    rw [← hws]
    intro w hw c hc
    obtain ⟨x, hx, rfl⟩ := List.mem_map.1 hw
    exact dec_no _ (by have := hsm x hx; omega) c hc
  have hc32 : cutB 32 (headB ⟨b, t, nx, en⟩) = [decB b.toNat, decB t.toNat, decB nx.length] := cutB_join 32 _ (by simp) fun w hw => hall w hw 32 (by decide)
  have hc10 : 10 ∉ headB ⟨b, t, nx, en⟩ := join_no (by decide) fun w hw => hall w hw 10 (by decide)
  have hcut : cutB 10 (tapeB ⟨b, t, nx, en⟩) = headB ⟨b, t, nx, en⟩ :: cutB 10 (rowsB en nx) := cutB_line 10 hc10
  have hread := rows_read (b := b) (t := t) (L := manyOf b t) (N := nx.length) (en := en) (nx := nx) 0 [] [] g.ends fun r hr => by
    have h1 := g.rows.row r hr
    refine ⟨by simp only at h1 hn; omega, fun x hx => ?_⟩
    have := g.rows.ok r hr x hx
    simp only at this
    omega
  unfold readTape
  rw [hcut]
  simp only [hc32, s2]
  rw [readHead_three (cutB_ne _ _), if_pos hm, if_neg (by omega), if_neg (by omega), Int.toNat_natCast, hread, List.nil_append, List.nil_append]
end Go.Proofs.YtpgkpbfefnpagaaGreatDoor
namespace Go.Proofs.YtpgkpbfefnpagaaGreatDoor
open Go.RowKit

def tt0 : Nat → Option TI
  | 1 => some ⟨.plain, 1, 8, [.t .undef], false⟩
  | 2 => some ⟨.int .i64, 1, 8, [.t (.int .i64 0)], false⟩
  | 3 => some ⟨.int .i64, 1, 8, [.t (.int .i64 0)], false⟩
  | 4 => some ⟨.bool, 1, 1, [.t (.bool false)], false⟩
  | 5 => some ⟨.int .u8, 1, 1, [.t (.int .u8 0)], false⟩
  | 6 => some ⟨.int .u8, 1, 1, [.t (.int .u8 0)], false⟩
  | 7 => some ⟨.struct [(0, 1), (1, 1), (2, 1), (3, 1)], 4, 24, [.t (.int .i64 0), .t (.int .i64 0), .t (.bool false), .t (.int .u8 0)], false⟩
  | _ => none
def tt1 : Nat → Option TI
  | 8 => some ⟨.struct [(0, 1), (1, 1), (2, 1), (3, 1)], 4, 24, [.t (.int .i64 0), .t (.int .i64 0), .t (.bool false), .t (.int .u8 0)], false⟩
  | 9 => some ⟨.str, 1, 16, [.t (.str ByteArray.empty)], false⟩
  | 10 => some ⟨.str, 1, 16, [.t (.str ByteArray.empty)], false⟩
  | 11 => some ⟨.str, 1, 16, [.t (.str ByteArray.empty)], false⟩
  | 12 => some ⟨.int .u64, 1, 8, [.t (.int .u64 0)], false⟩
  | 13 => some ⟨.struct [(0, 1), (1, 1)], 2, 24, [.t (.str ByteArray.empty), .t (.int .u64 0)], false⟩
  | 14 => some ⟨.struct [(0, 1), (1, 1)], 2, 24, [.t (.str ByteArray.empty), .t (.int .u64 0)], false⟩
  | 15 => some ⟨.plain, 1, 8, [.t .undef], false⟩
  | _ => none
def tt2 : Nat → Option TI
  | 16 => some ⟨.plain, 1, 8, [.t .undef], false⟩
  | 17 => some ⟨.plain, 1, 8, [.t .undef], false⟩
  | 18 => some ⟨.struct [(0, 1)], 1, 8, [.t .undef], false⟩
  | 19 => some ⟨.struct [(0, 1)], 1, 8, [.t .undef], false⟩
  | 20 => some ⟨.iface, 1, 16, [.t .nilI], false⟩
  | 21 => some ⟨.int .i32, 1, 4, [.t (.int .i32 0)], false⟩
  | 22 => some ⟨.slice 42, 1, 24, [.nil], false⟩
  | 23 => some ⟨.slice 4, 1, 24, [.nil], false⟩
  | _ => none
def tt3 : Nat → Option TI
  | 24 => some ⟨.struct [(0, 1), (1, 1), (2, 1), (3, 1)], 4, 64, [.t (.int .i64 0), .t (.int .i64 0), .nil, .nil], false⟩
  | 25 => some ⟨.struct [(0, 1), (1, 1), (2, 1), (3, 1)], 4, 64, [.t (.int .i64 0), .t (.int .i64 0), .nil, .nil], false⟩
  | 26 => some ⟨.int .i64, 1, 8, [.t (.int .i64 0)], false⟩
  | 27 => some ⟨.plain, 1, 8, [.t .undef], false⟩
  | 28 => some ⟨.plain, 1, 8, [.t .undef], false⟩
  | 29 => some ⟨.iface, 1, 16, [.t .nilI], false⟩
  | 30 => some ⟨.iface, 1, 16, [.t .nilI], false⟩
  | _ => none
def tt4 : Nat → Option TI
  | 32 => some ⟨.plain, 1, 8, [.t .undef], false⟩
  | 33 => some ⟨.plain, 1, 8, [.t .undef], false⟩
  | 35 => some ⟨.plain, 1, 8, [.t .undef], false⟩
  | 37 => some ⟨.plain, 1, 8, [.t .undef], false⟩
  | 38 => some ⟨.plain, 1, 8, [.t .undef], false⟩
  | 39 => some ⟨.plain, 1, 8, [.t .undef], false⟩
  | _ => none
def tt5 : Nat → Option TI
  | 41 => some ⟨.plain, 1, 8, [.t .undef], false⟩
  | 42 => some ⟨.slice 3, 1, 24, [.nil], false⟩
  | 43 => some ⟨.plain, 1, 8, [.t .undef], false⟩
  | 44 => some ⟨.plain, 1, 8, [.t .undef], false⟩
  | 45 => some ⟨.plain, 1, 8, [.t .undef], false⟩
  | 46 => some ⟨.slice 5, 1, 24, [.nil], false⟩
  | 47 => some ⟨.struct [(0, 1), (1, 1)], 2, 32, [.t .undef, .nil], false⟩
  | _ => none
def tt6 : Nat → Option TI
  | 48 => some ⟨.struct [(0, 1), (1, 1)], 2, 32, [.t .undef, .nil], false⟩
  | 49 => some ⟨.slice 9, 1, 24, [.nil], false⟩
  | 51 => some ⟨.plain, 1, 8, [.t .undef], false⟩
  | 52 => some ⟨.plain, 1, 8, [.t .undef], false⟩
  | 53 => some ⟨.plain, 1, 8, [.t .undef], false⟩
  | 54 => some ⟨.plain, 1, 8, [.t .undef], false⟩
  | 55 => some ⟨.plain, 1, 8, [.t .undef], false⟩
  | _ => none
def tt7 : Nat → Option TI
  | 56 => some ⟨.plain, 1, 8, [.t .undef], false⟩
  | 58 => some ⟨.plain, 1, 8, [.t .undef], false⟩
  | 60 => some ⟨.plain, 1, 8, [.t .undef], false⟩
  | 61 => some ⟨.plain, 1, 8, [.t .undef], false⟩
  | 62 => some ⟨.plain, 1, 8, [.t .undef], false⟩
  | 63 => some ⟨.plain, 1, 8, [.t .undef], false⟩
  | _ => none
def tt8 : Nat → Option TI
  | 64 => some ⟨.plain, 1, 8, [.t .undef], false⟩
  | 65 => some ⟨.plain, 1, 8, [.t .undef], false⟩
  | 66 => some ⟨.plain, 1, 8, [.t .undef], false⟩
  | 67 => some ⟨.plain, 1, 8, [.t .undef], false⟩
  | 68 => some ⟨.plain, 1, 8, [.t .undef], false⟩
  | 69 => some ⟨.plain, 1, 8, [.t .undef], false⟩
  | 71 => some ⟨.plain, 1, 8, [.t .undef], false⟩
  | _ => none
def tt9 : Nat → Option TI
  | 72 => some ⟨.plain, 1, 8, [.t .undef], false⟩
  | 73 => some ⟨.plain, 1, 8, [.t .undef], false⟩
  | 75 => some ⟨.plain, 1, 8, [.t .undef], false⟩
  | 76 => some ⟨.plain, 1, 8, [.t .undef], false⟩
  | 77 => some ⟨.int .u64, 1, 8, [.t (.int .u64 0)], false⟩
  | 78 => some ⟨.struct [(0, 1), (1, 1), (2, 1)], 3, 24, [.t .undef, .t .undef, .t (.int .u64 0)], false⟩
  | 79 => some ⟨.struct [(0, 1), (1, 1), (2, 1)], 3, 24, [.t .undef, .t .undef, .t (.int .u64 0)], false⟩
  | _ => none
def tt10 : Nat → Option TI
  | 80 => some ⟨.plain, 1, 8, [.t .undef], false⟩
  | 81 => some ⟨.iface, 1, 16, [.t .nilI], false⟩
  | 82 => some ⟨.iface, 1, 16, [.t .nilI], false⟩
  | 83 => some ⟨.plain, 1, 8, [.t .undef], false⟩
  | 84 => some ⟨.int .u8, 1, 1, [.t (.int .u8 0)], false⟩
  | 85 => some ⟨.plain, 1, 8, [.t .undef], false⟩
  | 86 => some ⟨.plain, 1, 8, [.t .undef], false⟩
  | 87 => some ⟨.plain, 1, 8, [.t .undef], false⟩
  | _ => none
def tt11 : Nat → Option TI
  | 88 => some ⟨.plain, 1, 8, [.t .undef], false⟩
  | 89 => some ⟨.plain, 1, 8, [.t .undef], false⟩
  | 90 => some ⟨.plain, 1, 8, [.t .undef], false⟩
  | 91 => some ⟨.plain, 1, 8, [.t .undef], false⟩
  | 92 => some ⟨.plain, 1, 8, [.t .undef], false⟩
  | 93 => some ⟨.array 24 5, 24, 24, [.t (.int .u8 0), .t (.int .u8 0), .t (.int .u8 0), .t (.int .u8 0), .t (.int .u8 0), .t (.int .u8 0), .t (.int .u8 0), .t (.int .u8 0), .t (.int .u8 0), .t (.int .u8 0), .t (.int .u8 0), .t (.int .u8 0), .t (.int .u8 0), .t (.int .u8 0), .t (.int .u8 0), .t (.int .u8 0), .t (.int .u8 0), .t (.int .u8 0), .t (.int .u8 0), .t (.int .u8 0), .t (.int .u8 0), .t (.int .u8 0), .t (.int .u8 0), .t (.int .u8 0)], false⟩
  | 94 => some ⟨.int .u64, 1, 8, [.t (.int .u64 0)], false⟩
  | 95 => some ⟨.plain, 1, 8, [.t .undef], false⟩
  | _ => none
def tt12 : Nat → Option TI
  | 96 => some ⟨.plain, 1, 8, [.t .undef], false⟩
  | 98 => some ⟨.plain, 1, 8, [.t .undef], false⟩
  | 99 => some ⟨.struct [(0, 1)], 1, 8, [.t .undef], false⟩
  | 100 => some ⟨.struct [(0, 1)], 1, 8, [.t .undef], false⟩
  | 101 => some ⟨.plain, 1, 8, [.t .undef], false⟩
  | 102 => some ⟨.plain, 1, 8, [.t .undef], false⟩
  | 103 => some ⟨.plain, 1, 8, [.t .undef], false⟩
  | _ => none
def tt13 : Nat → Option TI
  | 104 => some ⟨.plain, 1, 8, [.t .undef], false⟩
  | 105 => some ⟨.iface, 1, 16, [.t .nilI], false⟩
  | 107 => some ⟨.plain, 1, 8, [.t .undef], false⟩
  | 108 => some ⟨.iface, 1, 16, [.t .nilI], false⟩
  | 109 => some ⟨.plain, 1, 8, [.t .undef], false⟩
  | 110 => some ⟨.iface, 1, 16, [.t .nilI], false⟩
  | 111 => some ⟨.slice 30, 1, 24, [.nil], false⟩
  | _ => none
def tt14 : Nat → Option TI
  | 112 => some ⟨.plain, 1, 8, [.t .undef], false⟩
  | 113 => some ⟨.plain, 1, 8, [.t .undef], false⟩
  | 114 => some ⟨.int .u64, 1, 8, [.t (.int .u64 0)], false⟩
  | 115 => some ⟨.plain, 1, 8, [.t .undef], false⟩
  | 117 => some ⟨.plain, 1, 8, [.t .undef], false⟩
  | 118 => some ⟨.plain, 1, 8, [.t .undef], false⟩
  | 119 => some ⟨.array 20 94, 20, 160, [.t (.int .u64 0), .t (.int .u64 0), .t (.int .u64 0), .t (.int .u64 0), .t (.int .u64 0), .t (.int .u64 0), .t (.int .u64 0), .t (.int .u64 0), .t (.int .u64 0), .t (.int .u64 0), .t (.int .u64 0), .t (.int .u64 0), .t (.int .u64 0), .t (.int .u64 0), .t (.int .u64 0), .t (.int .u64 0), .t (.int .u64 0), .t (.int .u64 0), .t (.int .u64 0), .t (.int .u64 0)], false⟩
  | _ => none
def tt15 : Nat → Option TI
  | 120 => some ⟨.int .u32, 1, 4, [.t (.int .u32 0)], false⟩
  | 122 => some ⟨.plain, 1, 8, [.t .undef], false⟩
  | 123 => some ⟨.plain, 1, 8, [.t .undef], false⟩
  | 125 => some ⟨.plain, 1, 8, [.t .undef], false⟩
  | 126 => some ⟨.int .i64, 1, 8, [.t (.int .i64 0)], false⟩
  | _ => none
def tt16 : Nat → Option TI
  | 128 => some ⟨.plain, 1, 8, [.t .undef], false⟩
  | 129 => some ⟨.plain, 1, 8, [.t .undef], false⟩
  | 130 => some ⟨.plain, 1, 8, [.t .undef], false⟩
  | 131 => some ⟨.plain, 1, 8, [.t .undef], false⟩
  | 132 => some ⟨.plain, 1, 8, [.t .undef], false⟩
  | 134 => some ⟨.plain, 1, 8, [.t .undef], false⟩
  | 135 => some ⟨.plain, 1, 8, [.t .undef], false⟩
  | _ => none
def tt17 : Nat → Option TI
  | 136 => some ⟨.struct [(0, 1), (1, 1), (2, 1)], 3, 48, [.t (.str ByteArray.empty), .t (.str ByteArray.empty), .t .nilI], false⟩
  | 137 => some ⟨.struct [(0, 1), (1, 1), (2, 1)], 3, 48, [.t (.str ByteArray.empty), .t (.str ByteArray.empty), .t .nilI], false⟩
  | 138 => some ⟨.plain, 1, 8, [.t .undef], false⟩
  | 140 => some ⟨.struct [(0, 1), (1, 1)], 2, 2, [.t (.int .u8 0), .t (.int .u8 0)], false⟩
  | 141 => some ⟨.struct [(0, 1), (1, 1)], 2, 2, [.t (.int .u8 0), .t (.int .u8 0)], false⟩
  | 142 => some ⟨.array 16 141, 32, 32, [.t (.int .u8 0), .t (.int .u8 0), .t (.int .u8 0), .t (.int .u8 0), .t (.int .u8 0), .t (.int .u8 0), .t (.int .u8 0), .t (.int .u8 0), .t (.int .u8 0), .t (.int .u8 0), .t (.int .u8 0), .t (.int .u8 0), .t (.int .u8 0), .t (.int .u8 0), .t (.int .u8 0), .t (.int .u8 0), .t (.int .u8 0), .t (.int .u8 0), .t (.int .u8 0), .t (.int .u8 0), .t (.int .u8 0), .t (.int .u8 0), .t (.int .u8 0), .t (.int .u8 0), .t (.int .u8 0), .t (.int .u8 0), .t (.int .u8 0), .t (.int .u8 0), .t (.int .u8 0), .t (.int .u8 0), .t (.int .u8 0), .t (.int .u8 0)], false⟩
  | 143 => some ⟨.array 32 5, 32, 32, [.t (.int .u8 0), .t (.int .u8 0), .t (.int .u8 0), .t (.int .u8 0), .t (.int .u8 0), .t (.int .u8 0), .t (.int .u8 0), .t (.int .u8 0), .t (.int .u8 0), .t (.int .u8 0), .t (.int .u8 0), .t (.int .u8 0), .t (.int .u8 0), .t (.int .u8 0), .t (.int .u8 0), .t (.int .u8 0), .t (.int .u8 0), .t (.int .u8 0), .t (.int .u8 0), .t (.int .u8 0), .t (.int .u8 0), .t (.int .u8 0), .t (.int .u8 0), .t (.int .u8 0), .t (.int .u8 0), .t (.int .u8 0), .t (.int .u8 0), .t (.int .u8 0), .t (.int .u8 0), .t (.int .u8 0), .t (.int .u8 0), .t (.int .u8 0)], false⟩
  | _ => none
def tt18 : Nat → Option TI
  | 144 => some ⟨.array 64 5, 64, 64, [.t (.int .u8 0), .t (.int .u8 0), .t (.int .u8 0), .t (.int .u8 0), .t (.int .u8 0), .t (.int .u8 0), .t (.int .u8 0), .t (.int .u8 0), .t (.int .u8 0), .t (.int .u8 0), .t (.int .u8 0), .t (.int .u8 0), .t (.int .u8 0), .t (.int .u8 0), .t (.int .u8 0), .t (.int .u8 0), .t (.int .u8 0), .t (.int .u8 0), .t (.int .u8 0), .t (.int .u8 0), .t (.int .u8 0), .t (.int .u8 0), .t (.int .u8 0), .t (.int .u8 0), .t (.int .u8 0), .t (.int .u8 0), .t (.int .u8 0), .t (.int .u8 0), .t (.int .u8 0), .t (.int .u8 0), .t (.int .u8 0), .t (.int .u8 0), .t (.int .u8 0), .t (.int .u8 0), .t (.int .u8 0), .t (.int .u8 0), .t (.int .u8 0), .t (.int .u8 0), .t (.int .u8 0), .t (.int .u8 0), .t (.int .u8 0), .t (.int .u8 0), .t (.int .u8 0), .t (.int .u8 0), .t (.int .u8 0), .t (.int .u8 0), .t (.int .u8 0), .t (.int .u8 0), .t (.int .u8 0), .t (.int .u8 0), .t (.int .u8 0), .t (.int .u8 0), .t (.int .u8 0), .t (.int .u8 0), .t (.int .u8 0), .t (.int .u8 0), .t (.int .u8 0), .t (.int .u8 0), .t (.int .u8 0), .t (.int .u8 0), .t (.int .u8 0), .t (.int .u8 0), .t (.int .u8 0), .t (.int .u8 0)], false⟩
  | 145 => some ⟨.plain, 1, 8, [.t .undef], false⟩
  | 146 => some ⟨.plain, 1, 8, [.t .undef], false⟩
  | 147 => some ⟨.plain, 1, 8, [.t .undef], false⟩
  | 148 => some ⟨.struct [(0, 1)], 1, 16, [.t (.str ByteArray.empty)], false⟩
  | 149 => some ⟨.struct [(0, 1)], 1, 16, [.t (.str ByteArray.empty)], false⟩
  | 150 => some ⟨.struct [(0, 1), (1, 1), (2, 1), (3, 1)], 4, 40, [.t .undef, .t .undef, .t .undef, .t (.str ByteArray.empty)], false⟩
  | 151 => some ⟨.struct [(0, 1), (1, 1), (2, 1), (3, 1)], 4, 40, [.t .undef, .t .undef, .t .undef, .t (.str ByteArray.empty)], false⟩
  | _ => none
def tt19 : Nat → Option TI
  | 155 => some ⟨.plain, 1, 8, [.t .undef], false⟩
  | 156 => some ⟨.plain, 1, 8, [.t .undef], false⟩
  | 157 => some ⟨.int .u8, 1, 1, [.t (.int .u8 0)], false⟩
  | 158 => some ⟨.plain, 1, 8, [.t .undef], false⟩
  | 159 => some ⟨.int .i32, 1, 4, [.t (.int .i32 0)], false⟩
  | _ => none
def tt20 : Nat → Option TI
  | 160 => some ⟨.int .i32, 1, 4, [.t (.int .i32 0)], false⟩
  | 161 => some ⟨.struct [(0, 1), (1, 1), (2, 1), (3, 1), (4, 1), (5, 1), (6, 1), (7, 1), (8, 1), (9, 1), (10, 1)], 11, 48, [.t (.int .u64 0), .t (.int .u64 0), .t (.int .u32 0), .t (.int .u8 0), .t (.int .u8 0), .t (.int .u8 0), .t (.int .u8 0), .t .undef, .t .undef, .t (.int .i32 0), .t (.int .i32 0)], false⟩
  | 162 => some ⟨.struct [(0, 1), (1, 1), (2, 1), (3, 1), (4, 1), (5, 1), (6, 1), (7, 1), (8, 1), (9, 1), (10, 1)], 11, 48, [.t (.int .u64 0), .t (.int .u64 0), .t (.int .u32 0), .t (.int .u8 0), .t (.int .u8 0), .t (.int .u8 0), .t (.int .u8 0), .t .undef, .t .undef, .t (.int .i32 0), .t (.int .i32 0)], false⟩
  | 163 => some ⟨.plain, 1, 8, [.t .undef], false⟩
  | 164 => some ⟨.plain, 1, 8, [.t .undef], false⟩
  | 165 => some ⟨.struct [(0, 1), (1, 1)], 2, 24, [.t (.str ByteArray.empty), .t (.int .u8 0)], false⟩
  | 166 => some ⟨.struct [(0, 1), (1, 1)], 2, 24, [.t (.str ByteArray.empty), .t (.int .u8 0)], false⟩
  | 167 => some ⟨.plain, 1, 8, [.t .undef], false⟩
  | _ => none
def tt21 : Nat → Option TI
  | 168 => some ⟨.plain, 1, 8, [.t .undef], false⟩
  | 169 => some ⟨.int .u16, 1, 2, [.t (.int .u16 0)], false⟩
  | 170 => some ⟨.struct [(0, 1), (1, 1), (2, 1), (3, 1), (4, 1)], 5, 16, [.t (.int .i32 0), .t (.int .u16 0), .t (.int .u16 0), .t (.int .u32 0), .t (.int .u32 0)], false⟩
  | 171 => some ⟨.struct [(0, 1), (1, 1), (2, 1), (3, 1), (4, 1)], 5, 16, [.t (.int .i32 0), .t (.int .u16 0), .t (.int .u16 0), .t (.int .u32 0), .t (.int .u32 0)], false⟩
  | 172 => some ⟨.slice 175, 1, 24, [.nil], false⟩
  | 173 => some ⟨.int .i32, 1, 4, [.t (.int .i32 0)], false⟩
  | 174 => some ⟨.struct [(0, 1), (1, 1), (2, 1), (3, 1)], 4, 16, [.t (.int .i32 0), .t (.int .i32 0), .t (.int .i32 0), .t (.int .i32 0)], false⟩
  | 175 => some ⟨.struct [(0, 1), (1, 1), (2, 1), (3, 1)], 4, 16, [.t (.int .i32 0), .t (.int .i32 0), .t (.int .i32 0), .t (.int .i32 0)], false⟩
  | _ => none
def tt22 : Nat → Option TI
  | 176 => some ⟨.plain, 1, 8, [.t .undef], false⟩
  | _ => none
def tts0 (n : Nat) : Nat → Option TI
  | 0 => tt0 n
  | 1 => tt1 n
  | 2 => tt2 n
  | 3 => tt3 n
  | 4 => tt4 n
  | 5 => tt5 n
  | 6 => tt6 n
  | 7 => tt7 n
  | _ => none
def tts1 (n : Nat) : Nat → Option TI
  | 8 => tt8 n
  | 9 => tt9 n
  | 10 => tt10 n
  | 11 => tt11 n
  | 12 => tt12 n
  | 13 => tt13 n
  | 14 => tt14 n
  | 15 => tt15 n
  | _ => none
def tts2 (n : Nat) : Nat → Option TI
  | 16 => tt16 n
  | 17 => tt17 n
  | 18 => tt18 n
  | 19 => tt19 n
  | 20 => tt20 n
  | 21 => tt21 n
  | 22 => tt22 n
  | _ => none
def tt (n : Nat) : Option TI := match n / 64 with
  | 0 => tts0 n (n / 8)
  | 1 => tts1 n (n / 8)
  | 2 => tts2 n (n / 8)
  | _ => none
set_option maxRecDepth 100000
theorem laid : laidOutB Tryz.prog = true := by kernel_rfl
theorem small : Tryz.prog.types.size + 2 ≤ 10000 := of_decide_eq_true (by kernel_rfl)
theorem tt0_ok : TTok Tryz.prog tt0 := by
  intro t i h
  unfold tt0 at h
  split at h <;> first
    | (cases h; exact chkTI_ok laid small (by kernel_rfl))
    | cases h
theorem tt1_ok : TTok Tryz.prog tt1 := by
  intro t i h
  unfold tt1 at h
  split at h <;> first
    | (cases h; exact chkTI_ok laid small (by kernel_rfl))
    | cases h
theorem tt2_ok : TTok Tryz.prog tt2 := by
  intro t i h
  unfold tt2 at h
  split at h <;> first
    | (cases h; exact chkTI_ok laid small (by kernel_rfl))
    | cases h
theorem tt3_ok : TTok Tryz.prog tt3 := by
  intro t i h
  unfold tt3 at h
  split at h <;> first
    | (cases h; exact chkTI_ok laid small (by kernel_rfl))
    | cases h
theorem tt4_ok : TTok Tryz.prog tt4 := by
  intro t i h
  unfold tt4 at h
  split at h <;> first
    | (cases h; exact chkTI_ok laid small (by kernel_rfl))
    | cases h
theorem tt5_ok : TTok Tryz.prog tt5 := by
  intro t i h
  unfold tt5 at h
  split at h <;> first
    | (cases h; exact chkTI_ok laid small (by kernel_rfl))
    | cases h
theorem tt6_ok : TTok Tryz.prog tt6 := by
  intro t i h
  unfold tt6 at h
  split at h <;> first
    | (cases h; exact chkTI_ok laid small (by kernel_rfl))
    | cases h
theorem tt7_ok : TTok Tryz.prog tt7 := by
  intro t i h
  unfold tt7 at h
  split at h <;> first
    | (cases h; exact chkTI_ok laid small (by kernel_rfl))
    | cases h
theorem tt8_ok : TTok Tryz.prog tt8 := by
  intro t i h
  unfold tt8 at h
  split at h <;> first
    | (cases h; exact chkTI_ok laid small (by kernel_rfl))
    | cases h
theorem tt9_ok : TTok Tryz.prog tt9 := by
  intro t i h
  unfold tt9 at h
  split at h <;> first
    | (cases h; exact chkTI_ok laid small (by kernel_rfl))
    | cases h
theorem tt10_ok : TTok Tryz.prog tt10 := by
  intro t i h
  unfold tt10 at h
  split at h <;> first
    | (cases h; exact chkTI_ok laid small (by kernel_rfl))
    | cases h
theorem tt11_ok : TTok Tryz.prog tt11 := by
  intro t i h
  unfold tt11 at h
  split at h <;> first
    | (cases h; exact chkTI_ok laid small (by kernel_rfl))
    | cases h
theorem tt12_ok : TTok Tryz.prog tt12 := by
  intro t i h
  unfold tt12 at h
  split at h <;> first
    | (cases h; exact chkTI_ok laid small (by kernel_rfl))
    | cases h
theorem tt13_ok : TTok Tryz.prog tt13 := by
  intro t i h
  unfold tt13 at h
  split at h <;> first
    | (cases h; exact chkTI_ok laid small (by kernel_rfl))
    | cases h
theorem tt14_ok : TTok Tryz.prog tt14 := by
  intro t i h
  unfold tt14 at h
  split at h <;> first
    | (cases h; exact chkTI_ok laid small (by kernel_rfl))
    | cases h
theorem tt15_ok : TTok Tryz.prog tt15 := by
  intro t i h
  unfold tt15 at h
  split at h <;> first
    | (cases h; exact chkTI_ok laid small (by kernel_rfl))
    | cases h
theorem tt16_ok : TTok Tryz.prog tt16 := by
  intro t i h
  unfold tt16 at h
  split at h <;> first
    | (cases h; exact chkTI_ok laid small (by kernel_rfl))
    | cases h
theorem tt17_ok : TTok Tryz.prog tt17 := by
  intro t i h
  unfold tt17 at h
  split at h <;> first
    | (cases h; exact chkTI_ok laid small (by kernel_rfl))
    | cases h
theorem tt18_ok : TTok Tryz.prog tt18 := by
  intro t i h
  unfold tt18 at h
  split at h <;> first
    | (cases h; exact chkTI_ok laid small (by kernel_rfl))
    | cases h
theorem tt19_ok : TTok Tryz.prog tt19 := by
  intro t i h
  unfold tt19 at h
  split at h <;> first
    | (cases h; exact chkTI_ok laid small (by kernel_rfl))
    | cases h
theorem tt20_ok : TTok Tryz.prog tt20 := by
  intro t i h
  unfold tt20 at h
  split at h <;> first
    | (cases h; exact chkTI_ok laid small (by kernel_rfl))
    | cases h
theorem tt21_ok : TTok Tryz.prog tt21 := by
  intro t i h
  unfold tt21 at h
  split at h <;> first
    | (cases h; exact chkTI_ok laid small (by kernel_rfl))
    | cases h
theorem tt22_ok : TTok Tryz.prog tt22 := by
  intro t i h
  unfold tt22 at h
  split at h <;> first
    | (cases h; exact chkTI_ok laid small (by kernel_rfl))
    | cases h
theorem tts0_ok (k : Nat) : TTok Tryz.prog (fun n => tts0 n k) := by
  intro t i h
  unfold tts0 at h
  split at h <;> first
    | exact tt0_ok _ _ h
    | exact tt1_ok _ _ h
    | exact tt2_ok _ _ h
    | exact tt3_ok _ _ h
    | exact tt4_ok _ _ h
    | exact tt5_ok _ _ h
    | exact tt6_ok _ _ h
    | exact tt7_ok _ _ h
    | cases h
theorem tts1_ok (k : Nat) : TTok Tryz.prog (fun n => tts1 n k) := by
  intro t i h
  unfold tts1 at h
  split at h <;> first
    | exact tt8_ok _ _ h
    | exact tt9_ok _ _ h
    | exact tt10_ok _ _ h
    | exact tt11_ok _ _ h
    | exact tt12_ok _ _ h
    | exact tt13_ok _ _ h
    | exact tt14_ok _ _ h
    | exact tt15_ok _ _ h
    | cases h
theorem tts2_ok (k : Nat) : TTok Tryz.prog (fun n => tts2 n k) := by
  intro t i h
  unfold tts2 at h
  split at h <;> first
    | exact tt16_ok _ _ h
    | exact tt17_ok _ _ h
    | exact tt18_ok _ _ h
    | exact tt19_ok _ _ h
    | exact tt20_ok _ _ h
    | exact tt21_ok _ _ h
    | exact tt22_ok _ _ h
    | cases h
theorem tt_ok : TTok Tryz.prog tt := by
  intro t i h
  unfold tt at h
  split at h <;> first
    | exact tts0_ok _ _ _ h
    | exact tts1_ok _ _ _ h
    | exact tts2_ok _ _ _ h
    | cases h
end Go.Proofs.YtpgkpbfefnpagaaGreatDoor
namespace Go.Proofs.YtpgkpbfefnpagaaGreatDoor
open Go.RowKit

attribute [go_sem] nLe nNle nLt nNlt nEq nNe iLe iNle iLt iNlt iEq iNe
attribute [go_sem] runOps stepOp stepOp0 stepOp1 evalOp dstOk St.ev.eq_1 St.ev.eq_2 St.ev.eq_3 St.ev.eq_4 ofConst St.get
attribute [go_sem] St.put look T.bin isConst mkFn allT St.len St.lst St.obj St.load loadT loadS
attribute [go_sem] mkAgg TK.isAgg St.index treeIndex SV.plus T.cells T.max2 T.min2 fillS SV.storable T.storable SV.cells
attribute [go_sem] St.litS idxOk zipFrz frz frzC frzL St.append St.appLen scrub St.bd SV.ren renL
attribute [go_sem] Ob.ren St.store T.put TI.zT SV.toT0 List.length_replicate List.getElem?_replicate Nat.one_mul Nat.mul_one List.isEmpty_cons List.isEmpty_nil or_self
attribute [go_sem] true_or or_true false_or or_false and_self decide_eq_true_eq if_true if_false ite_true ite_false Option.getD_some Option.getD_none
attribute [go_sem] Option.map_some Option.map_none Option.bind_some Option.bind_none decide_true decide_false Bool.true_and Bool.and_true Bool.false_and Bool.and_false Bool.not_true Bool.not_false
attribute [go_sem] beq_self_eq_true List.getElem?_cons_zero List.getElem?_cons_succ List.map_cons List.map_nil List.cons_append List.nil_append List.length_cons List.length_nil List.toList_toArray true_and and_true
attribute [go_sem] false_and and_false List.all_cons List.all_nil List.drop_zero List.drop_succ_cons List.take_succ_cons List.take_zero List.head?_cons List.set_cons_zero List.set_cons_succ Bool.or_true
attribute [go_sem] Bool.true_or Bool.or_false Bool.false_or ne_eq not_true_eq_false not_false_eq_true Nat.zero_add List.getElem?_toArray tInt tNat tInts tBools
attribute [go_sem] tIntss wrap_i64 List.getElem?_map List.length_map Int.toNat_natCast List.all_map stepX stepX0 evalX St.callR findCo
attribute [go_sem] St.litQ St.sliceQ St.rdL St.rd St.trL St.tr T.flatData flatAll lookR St.mapUp St.slice strSlice
attribute [go_sem] T.okKey T.inR bytesOf eq_self stepI quietOp St.ownAll St.own setSlot true_implies implies_true false_implies
attribute [go_sem] keepL reach addNew refsL SV.refs Ob.refs List.append_nil List.mem_cons List.not_mem_nil List.getElem?_nil posIn St.resL
attribute [go_sem] St.res1 St.gc St.head
theorem gb_a (l : List Int) (k : Nat) (h : k < l.length) : l[k]? = some l[k]! := get_bang l k h
theorem gb_b (l : List Bool) (k : Nat) (h : k < l.length) : l[k]? = some l[k]! := get_bang l k h
theorem gb_c (l : List (List Int)) (k : Nat) (h : k < l.length) : l[k]? = some l[k]! := get_bang l k h
theorem gb_d (l : List Nat) (k : Nat) (h : k < l.length) : l[k]? = some l[k]! := get_bang l k h
theorem gb_e (l : List T) (k : Nat) (h : k < l.length) : l[k]? = some l[k]! := get_bang l k h
theorem gb_f (l : List (List (List Int))) (k : Nat) (h : k < l.length) : l[k]? = some l[k]! := get_bang l k h
theorem gb_g (l : List (List Bool)) (k : Nat) (h : k < l.length) : l[k]? = some l[k]! := get_bang l k h
theorem gb_h (l : List (List Nat)) (k : Nat) (h : k < l.length) : l[k]? = some l[k]! := get_bang l k h
theorem gb_i (l : List (List (List (List Int)))) (k : Nat) (h : k < l.length) : l[k]? = some l[k]! := get_bang l k h
theorem gb_j (l : List (Int × Int)) (k : Nat) (h : k < l.length) : l[k]? = some l[k]! := get_bang l k h
theorem gb_k (l : List (Nat × Nat)) (k : Nat) (h : k < l.length) : l[k]? = some l[k]! := get_bang l k h
theorem gb_l (l : List UInt8) (k : Nat) (h : k < l.length) : l[k]? = some l[k]! := get_bang l k h
theorem gb_m (l : List (List T)) (k : Nat) (h : k < l.length) : l[k]? = some l[k]! := get_bang l k h
theorem gb_n (l : List String) (k : Nat) (h : k < l.length) : l[k]? = some l[k]! := get_bang l k h
theorem gb_o (l : List (Int × Int × Int)) (k : Nat) (h : k < l.length) : l[k]? = some l[k]! := get_bang l k h
theorem gb_p (l : List (T × T)) (k : Nat) (h : k < l.length) : l[k]? = some l[k]! := get_bang l k h
theorem gb_q (l : List (List (Int × Int))) (k : Nat) (h : k < l.length) : l[k]? = some l[k]! := get_bang l k h
theorem gb_r (l : List (Nat × Nat × Nat)) (k : Nat) (h : k < l.length) : l[k]? = some l[k]! := get_bang l k h
theorem gb_s (l : List (List UInt8)) (k : Nat) (h : k < l.length) : l[k]? = some l[k]! := get_bang l k h
theorem gb_t (l : List (List (T × T))) (k : Nat) (h : k < l.length) : l[k]? = some l[k]! := get_bang l k h
theorem gb_u (l : List (List (Int × Int))) (k : Nat) (h : k < l.length) : l[k]? = some l[k]! := get_bang l k h
attribute [go_sem] gb_a gb_b gb_c gb_d gb_e gb_f gb_g gb_h gb_i gb_j gb_k gb_l gb_m gb_n gb_o gb_p gb_q gb_r gb_s gb_t gb_u
attribute [go_sem] nilQ isNilS T.beqA eqIs SV.gd Option.some.injEq
attribute [go_sem] St.sliceA T.isCell stepA allocAt List.lookup
attribute [go_sem] St.res tt tts0 tts1 tts2 tt0 tt1 tt2 tt3 tt4 tt5 tt6 tt7 tt8 tt9 tt10 tt11 tt12 tt13 tt14 tt15 tt16 tt17 tt18 tt19 tt20 tt21 tt22
theorem w1 : type_of% @SW_seq := @SW_seq
theorem w2 : type_of% @SW_block := @SW_block
theorem w3 : type_of% @SThen_n := @SThen_n
theorem w4 : type_of% @SThen_r := @SThen_r
theorem w5 : type_of% @SThen_e := @SThen_e
theorem w6 : type_of% @SIn_n := @SIn_n
theorem w7 : type_of% @SIn_r := @SIn_r
theorem w8 : type_of% @SIn_eq := @SIn_eq
theorem w9 : type_of% @SW_skip := @SW_skip
theorem wa : type_of% @SW_exit := @SW_exit
theorem wb : type_of% @SW_ret := @SW_ret
theorem wc : type_of% @SPost_r := @SPost_r
theorem wd : type_of% @SIn_ne := @SIn_ne
theorem we : type_of% @SW_true := @SW_true
theorem wf : type_of% @SW_false := @SW_false
theorem wg : type_of% @runX_nil := @runX_nil
theorem wh : type_of% @runI_nil := @runI_nil
theorem wi : type_of% @runX_cons := @runX_cons
theorem wj : type_of% @runI_cons := @runI_cons
end Go.Proofs.YtpgkpbfefnpagaaGreatDoor
namespace Go.Proofs.YtpgkpbfefnpagaaGreatDoor
open Go.RowKit

def tStr (l : List UInt8) : T := .str ⟨l.toArray⟩
section
variable {G : World → Prop} (hG : Lasting G)
include hG
theorem Rdigit_snd (x : UInt8) : Snd Tryz.prog G 45 [.int .u8 x.toNat] (.bool (isDig x)) := by
  have htb : Tab.ok Tryz.prog G [] := Tab.nil
  refine snd_of_body (n := 9) (tm := [(0, .t (.int .u8 x.toNat))]) (rs := [.tmp 2]) tt_ok Tryz.func45 rfl rfl rfl rfl rfl ?_
  have hx := x.toNat_lt
  obtain ⟨b, hb⟩ : ∃ b, isDig x = b := ⟨_, rfl⟩
  rw [hb]
  unfold isDig at hb
  by_cases h1 : 48 ≤ x.toNat
  · have h1' := eq_true (show (48 : Int) ≤ ((x.toNat : Nat) : Int) by omega)
    by_cases h2 : x.toNat ≤ 57
    · have h2' := eq_true (show ((x.toNat : Nat) : Int) ≤ 57 by omega)
      rw [decide_eq_true ⟨h1, h2⟩] at hb
      subst hb
      repeat' (first | (with_reducible first | apply w1 | apply w2 | apply w3 | apply w4 | apply w5 | apply w6 | apply w7 | apply w8 | apply w9 | apply wa | apply wb | apply wc) | ((with_reducible apply wd); focus decide) | ((with_reducible apply we); focus exact rfl) | ((with_reducible apply wf); focus exact rfl) | ((first | (with_reducible apply SW_run tt_ok hG htb) | ((with_reducible apply SW_draw rfl tt_ok hG htb); (focus kernel_rfl); focus simp only [List.range, List.range.loop, List.size_toArray, List.length_cons, List.length_nil, Nat.reduceAdd])); focus ((repeat' (first | (with_reducible first | exact wg | exact wh) | ((with_reducible first | apply wi | apply wj); focus (simp (discharger := omega) only [go_sem, h1', h2', simprocAttr]; with_reducible rfl)))); done)))
      exact (by simp (discharger := omega) only [go_sem, simprocAttr])
    · have h2' : ¬ ((x.toNat : Nat) : Int) ≤ 57 := by omega
      rw [decide_eq_false (fun q => h2 q.2)] at hb
      subst hb
      repeat' (first | (with_reducible first | apply w1 | apply w2 | apply w3 | apply w4 | apply w5 | apply w6 | apply w7 | apply w8 | apply w9 | apply wa | apply wb | apply wc) | ((with_reducible apply wd); focus decide) | ((with_reducible apply we); focus exact rfl) | ((with_reducible apply wf); focus exact rfl) | ((first | (with_reducible apply SW_run tt_ok hG htb) | ((with_reducible apply SW_draw rfl tt_ok hG htb); (focus kernel_rfl); focus simp only [List.range, List.range.loop, List.size_toArray, List.length_cons, List.length_nil, Nat.reduceAdd])); focus ((repeat' (first | (with_reducible first | exact wg | exact wh) | ((with_reducible first | apply wi | apply wj); focus (simp (discharger := omega) only [go_sem, h1', h2', simprocAttr]; with_reducible rfl)))); done)))
      exact (by simp (discharger := omega) only [go_sem, simprocAttr])
  · have h1' : ¬ (48 : Int) ≤ ((x.toNat : Nat) : Int) := by omega
    rw [decide_eq_false (fun q => h1 q.1)] at hb
    subst hb
    repeat' (first | (with_reducible first | apply w1 | apply w2 | apply w3 | apply w4 | apply w5 | apply w6 | apply w7 | apply w8 | apply w9 | apply wa | apply wb | apply wc) | ((with_reducible apply wd); focus decide) | ((with_reducible apply we); focus exact rfl) | ((with_reducible apply wf); focus exact rfl) | ((first | (with_reducible apply SW_run tt_ok hG htb) | ((with_reducible apply SW_draw rfl tt_ok hG htb); (focus kernel_rfl); focus simp only [List.range, List.range.loop, List.size_toArray, List.length_cons, List.length_nil, Nat.reduceAdd])); focus ((repeat' (first | (with_reducible first | exact wg | exact wh) | ((with_reducible first | apply wi | apply wj); focus (simp (discharger := omega) only [go_sem, h1', simprocAttr]; with_reducible rfl)))); done)))
    exact (by simp (discharger := omega) only [go_sem, simprocAttr])
set_option maxHeartbeats 4000000 in
theorem Rsmall_snd (w : List UInt8) (hw : w.length ≤ 2000000) : Snd Tryz.prog G 32 [tStr w] (tInt (smallI w)) := by
  have htb : Tab.ok Tryz.prog G [] := Tab.nil
  have hsz : (⟨w.toArray⟩ : ByteArray).size = w.length := by simp [ByteArray.size]
  refine snd_of_body (n := 43) (tm := [(0, .t (tStr w))]) (rs := [.tmp 2]) tt_ok Tryz.func32 rfl rfl rfl rfl rfl ?_
  obtain ⟨r, hr⟩ : ∃ r, smallI w = r := ⟨_, rfl⟩
  rw [hr]
  have bad : (w.length < 1 ∨ 3 < w.length ∨ (1 < w.length ∧ w.head? = some 48)) → r = -1 := fun q => by
    rw [← hr]; unfold smallI smallB; rw [if_pos q]
  by_cases h1 : ((w.length : Nat) : Int) < 1
  · have h1' := eq_true h1
    rw [bad (.inl (by omega))]
    repeat' (first | (with_reducible first | apply w1 | apply w2 | apply w3 | apply w4 | apply w5 | apply w6 | apply w7 | apply w8 | apply w9 | apply wa | apply wb | apply wc) | ((with_reducible apply wd); focus decide) | ((with_reducible apply we); focus exact rfl) | ((with_reducible apply wf); focus exact rfl) | ((first | (with_reducible apply SW_run tt_ok hG htb) | ((with_reducible apply SW_draw rfl tt_ok hG htb); (focus kernel_rfl); focus simp only [List.range, List.range.loop, List.size_toArray, List.length_cons, List.length_nil, Nat.reduceAdd])); focus ((repeat' (first | (with_reducible first | exact wg | exact wh) | ((with_reducible first | apply wi | apply wj); focus (simp (discharger := omega) only [go_sem, tStr, hsz, h1', simprocAttr]; with_reducible rfl)))); done)))
    exact (by simp (discharger := omega) only [go_sem, simprocAttr])
  by_cases h3 : ((w.length : Nat) : Int) > 3
  · have h3' := eq_true h3
    rw [bad (.inr (.inl (by omega)))]
    repeat' (first | (with_reducible first | apply w1 | apply w2 | apply w3 | apply w4 | apply w5 | apply w6 | apply w7 | apply w8 | apply w9 | apply wa | apply wb | apply wc) | ((with_reducible apply wd); focus decide) | ((with_reducible apply we); focus exact rfl) | ((with_reducible apply wf); focus exact rfl) | ((first | (with_reducible apply SW_run tt_ok hG htb) | ((with_reducible apply SW_draw rfl tt_ok hG htb); (focus kernel_rfl); focus simp only [List.range, List.range.loop, List.size_toArray, List.length_cons, List.length_nil, Nat.reduceAdd])); focus ((repeat' (first | (with_reducible first | exact wg | exact wh) | ((with_reducible first | apply wi | apply wj); focus (simp (discharger := omega) only [go_sem, tStr, hsz, h1, h3', simprocAttr]; with_reducible rfl)))); done)))
    exact (by simp (discharger := omega) only [go_sem, simprocAttr])
  obtain ⟨x0, hx0⟩ : ∃ x, w[0]? = some x := ⟨_, List.getElem?_eq_getElem (by omega)⟩
  have hh : w.head? = some x0 := by rw [List.head?_eq_getElem?]; exact hx0
  have good : ¬ (1 < w.length ∧ w.head? = some 48) → (w.all isDig = false → r = -1) ∧ (w.all isDig = true → r = ((w.foldl (fun n x => n * 10 + (x.toNat - 48)) 0 : Nat) : Int)) := fun q => by
    rw [← hr]
    unfold smallI smallB
    rw [if_neg (by rintro (a | a | a); omega; omega; exact q a)]
    exact ⟨fun a => by rw [if_neg (by rw [a]; decide)], fun a => by rw [if_pos a]⟩
  by_cases h2 : ((w.length : Nat) : Int) > 1
  · have h2' := eq_true h2
    by_cases h0 : x0 = 48
    · subst h0
      rw [bad (.inr (.inr ⟨by omega, hh⟩))]
      have h48 : (((48 : UInt8).toNat : Nat) : Int) = 48 := rfl
      repeat' (first | (with_reducible first | apply w1 | apply w2 | apply w3 | apply w4 | apply w5 | apply w6 | apply w7 | apply w8 | apply w9 | apply wa | apply wb | apply wc) | ((with_reducible apply wd); focus decide) | ((with_reducible apply we); focus exact rfl) | ((with_reducible apply wf); focus exact rfl) | ((first | (with_reducible apply SW_run tt_ok hG htb) | ((with_reducible apply SW_draw rfl tt_ok hG htb); (focus kernel_rfl); focus simp only [List.range, List.range.loop, List.size_toArray, List.length_cons, List.length_nil, Nat.reduceAdd])); focus ((repeat' (first | (with_reducible first | exact wg | exact wh) | ((with_reducible first | apply wi | apply wj); focus (simp (discharger := omega) only [go_sem, tStr, hsz, h1, h3, h2', hx0, h48, simprocAttr]; with_reducible rfl)))); done)))
      exact (by simp (discharger := omega) only [go_sem, simprocAttr])
    · have h0n : ¬ ((x0.toNat : Nat) : Int) = 48 := fun q => h0 (UInt8.toNat_inj.1 (by have : (48 : UInt8).toNat = 48 := rfl; omega))
      have good := good fun q => h0 (by rw [hh] at q; exact Option.some.inj q.2)
      repeat' (first | (with_reducible first | apply w1 | apply w2 | apply w3 | apply w4 | apply w5 | apply w6 | apply w7 | apply w8 | apply w9 | apply wa | apply wb | apply wc) | ((with_reducible apply wd); focus decide) | ((with_reducible apply we); focus exact rfl) | ((with_reducible apply wf); focus exact rfl) | ((first | (with_reducible apply SW_run tt_ok hG htb) | ((with_reducible apply SW_draw rfl tt_ok hG htb); (focus kernel_rfl); focus simp only [List.range, List.range.loop, List.size_toArray, List.length_cons, List.length_nil, Nat.reduceAdd])); focus ((repeat' (first | (with_reducible first | exact wg | exact wh) | ((with_reducible first | apply wi | apply wj); focus (simp (discharger := omega) only [go_sem, tStr, hsz, h1, h3, h2', hx0, h0n, simprocAttr]; with_reducible rfl)))); done)))
      refine SW_loop (fun mm st => ∃ (i k : Nat), mm = w.length - i ∧ st = ⟨43, [(0, .t (tStr w)), (3, .t (tNat k)), (4, .t (tNat i))], []⟩ ∧ i ≤ w.length ∧ (w.take i).all isDig = true ∧ (w.take i).foldl (fun n x => n * 10 + (x.toNat - 48)) 0 = k ∧ k < 10 ^ i) w.length
        ⟨_, Norm.headS (own := []) (keep := [0, 3, 4]) (by refine ⟨?_, ?_⟩; (simp (discharger := omega) only [go_sem, simprocAttr]; with_reducible rfl); refine ⟨?_, ?_, ?_, ?_⟩ <;> (simp only [go_sem, simprocAttr]; with_reducible rfl)), 0, 0, rfl, rfl, Nat.zero_le _, rfl, rfl, by decide⟩ ?_
      rintro mm st ⟨i, k, rfl, rfl, hi, ha, hk, hkb⟩
      have hkb : k < 1000 := Nat.lt_of_lt_of_le hkb (Nat.pow_le_pow_right (n := 10) (by decide) (show i ≤ 3 by omega))
      by_cases hlt : i < w.length
      · obtain ⟨x, hx⟩ : ∃ x, w[i]? = some x := ⟨_, List.getElem?_eq_getElem hlt⟩
        have hxl := x.toNat_lt
        have htk : w.take (i + 1) = w.take i ++ [x] := by rw [List.take_add_one, hx]; rfl
        have cD := Rdigit_snd (G := G) hG x
        cases hd : isDig x with
        | false =>
          rw [hd] at cD
          have hall : w.all isDig = false := by
            rw [← Bool.not_eq_true]
            intro q
            have := List.all_eq_true.1 q x (List.mem_of_getElem? hx)
            rw [hd] at this; cases this
          rw [good.1 hall]
          have htb := Tab.cons cD Tab.nil
          repeat' (first | (with_reducible first | apply w1 | apply w2 | apply w3 | apply w4 | apply w5 | apply w6 | apply w7 | apply w8 | apply w9 | apply wa | apply wb | apply wc) | ((with_reducible apply wd); focus decide) | ((with_reducible apply we); focus exact rfl) | ((with_reducible apply wf); focus exact rfl) | ((first | (with_reducible apply SW_run tt_ok hG htb) | ((with_reducible apply SW_draw rfl tt_ok hG htb); (focus kernel_rfl); focus simp only [List.range, List.range.loop, List.size_toArray, List.length_cons, List.length_nil, Nat.reduceAdd])); focus ((repeat' (first | (with_reducible first | exact wg | exact wh) | ((with_reducible first | apply wi | apply wj); focus (simp (discharger := omega) only [go_sem, tStr, hsz, hx, simprocAttr]; with_reducible rfl)))); done)))
          exact (by simp (discharger := omega) only [go_sem, simprocAttr])
        | true =>
          rw [hd] at cD
          have hd2 : 48 ≤ x.toNat ∧ x.toNat ≤ 57 := of_decide_eq_true hd
          have hnew : ((k : Nat) : Int) * 10 + ((x.toNat : Nat) : Int) - 48 = ((k * 10 + (x.toNat - 48) : Nat) : Int) := by omega
          have htb := Tab.cons cD Tab.nil
          repeat' (first | (with_reducible first | apply w1 | apply w2 | apply w3 | apply w4 | apply w5 | apply w6 | apply w7 | apply w8 | apply w9 | apply wa | apply wb | apply wc) | ((with_reducible apply wd); focus decide) | ((with_reducible apply we); focus exact rfl) | ((with_reducible apply wf); focus exact rfl) | ((first | (with_reducible apply SW_run tt_ok hG htb) | ((with_reducible apply SW_draw rfl tt_ok hG htb); (focus kernel_rfl); focus simp only [List.range, List.range.loop, List.size_toArray, List.length_cons, List.length_nil, Nat.reduceAdd])); focus ((repeat' (first | (with_reducible first | exact wg | exact wh) | ((with_reducible first | apply wi | apply wj); focus (simp (discharger := omega) only [go_sem, tStr, hsz, hx, hnew, simprocAttr]; with_reducible rfl)))); done)))
          exact ⟨w.length - (i + 1), _, by omega, Norm.headS (own := []) (keep := [0, 3, 4]) (by refine ⟨?_, ?_⟩; (simp (discharger := omega) only [go_sem, simprocAttr]; with_reducible rfl); refine ⟨?_, ?_, ?_, ?_⟩ <;> (simp only [go_sem, simprocAttr]; with_reducible rfl)), i + 1, k * 10 + (x.toNat - 48), rfl, rfl, by omega, by rw [htk, List.all_append, ha, List.all_cons, hd]; rfl, by rw [htk, List.foldl_append, hk]; rfl, by rw [Nat.pow_succ]; omega⟩
      · have hiw : w.take i = w := List.take_of_length_le (by omega)
        rw [hiw] at ha hk
        rw [good.2 ha, hk]
        repeat' (first | (with_reducible first | apply w1 | apply w2 | apply w3 | apply w4 | apply w5 | apply w6 | apply w7 | apply w8 | apply w9 | apply wa | apply wb | apply wc) | ((with_reducible apply wd); focus decide) | ((with_reducible apply we); focus exact rfl) | ((with_reducible apply wf); focus exact rfl) | ((first | (with_reducible apply SW_run tt_ok hG htb) | ((with_reducible apply SW_draw rfl tt_ok hG htb); (focus kernel_rfl); focus simp only [List.range, List.range.loop, List.size_toArray, List.length_cons, List.length_nil, Nat.reduceAdd])); focus ((repeat' (first | (with_reducible first | exact wg | exact wh) | ((with_reducible first | apply wi | apply wj); focus (simp (discharger := omega) only [go_sem, tStr, hsz, simprocAttr]; with_reducible rfl)))); done)))
        exact (by simp (discharger := omega) only [go_sem, simprocAttr])
  · have good := good fun q => by omega
    repeat' (first | (with_reducible first | apply w1 | apply w2 | apply w3 | apply w4 | apply w5 | apply w6 | apply w7 | apply w8 | apply w9 | apply wa | apply wb | apply wc) | ((with_reducible apply wd); focus decide) | ((with_reducible apply we); focus exact rfl) | ((with_reducible apply wf); focus exact rfl) | ((first | (with_reducible apply SW_run tt_ok hG htb) | ((with_reducible apply SW_draw rfl tt_ok hG htb); (focus kernel_rfl); focus simp only [List.range, List.range.loop, List.size_toArray, List.length_cons, List.length_nil, Nat.reduceAdd])); focus ((repeat' (first | (with_reducible first | exact wg | exact wh) | ((with_reducible first | apply wi | apply wj); focus (simp (discharger := omega) only [go_sem, tStr, hsz, h1, h3, h2, simprocAttr]; with_reducible rfl)))); done)))
    refine SW_loop (fun mm st => ∃ (i k : Nat), mm = w.length - i ∧ st = ⟨43, [(0, .t (tStr w)), (3, .t (tNat k)), (4, .t (tNat i))], []⟩ ∧ i ≤ w.length ∧ (w.take i).all isDig = true ∧ (w.take i).foldl (fun n x => n * 10 + (x.toNat - 48)) 0 = k ∧ k < 10 ^ i) w.length
      ⟨_, Norm.headS (own := []) (keep := [0, 3, 4]) (by refine ⟨?_, ?_⟩; (simp (discharger := omega) only [go_sem, simprocAttr]; with_reducible rfl); refine ⟨?_, ?_, ?_, ?_⟩ <;> (simp only [go_sem, simprocAttr]; with_reducible rfl)), 0, 0, rfl, rfl, Nat.zero_le _, rfl, rfl, by decide⟩ ?_
    rintro mm st ⟨i, k, rfl, rfl, hi, ha, hk, hkb⟩
    have hkb : k < 1000 := Nat.lt_of_lt_of_le hkb (Nat.pow_le_pow_right (n := 10) (by decide) (show i ≤ 3 by omega))
    by_cases hlt : i < w.length
    · obtain ⟨x, hx⟩ : ∃ x, w[i]? = some x := ⟨_, List.getElem?_eq_getElem hlt⟩
      have hxl := x.toNat_lt
      have htk : w.take (i + 1) = w.take i ++ [x] := by rw [List.take_add_one, hx]; rfl
      have cD := Rdigit_snd (G := G) hG x
      cases hd : isDig x with
      | false =>
        rw [hd] at cD
        have hall : w.all isDig = false := by
          rw [← Bool.not_eq_true]
          intro q
          have := List.all_eq_true.1 q x (List.mem_of_getElem? hx)
          rw [hd] at this; cases this
        rw [good.1 hall]
        have htb := Tab.cons cD Tab.nil
        repeat' (first | (with_reducible first | apply w1 | apply w2 | apply w3 | apply w4 | apply w5 | apply w6 | apply w7 | apply w8 | apply w9 | apply wa | apply wb | apply wc) | ((with_reducible apply wd); focus decide) | ((with_reducible apply we); focus exact rfl) | ((with_reducible apply wf); focus exact rfl) | ((first | (with_reducible apply SW_run tt_ok hG htb) | ((with_reducible apply SW_draw rfl tt_ok hG htb); (focus kernel_rfl); focus simp only [List.range, List.range.loop, List.size_toArray, List.length_cons, List.length_nil, Nat.reduceAdd])); focus ((repeat' (first | (with_reducible first | exact wg | exact wh) | ((with_reducible first | apply wi | apply wj); focus (simp (discharger := omega) only [go_sem, tStr, hsz, hx, simprocAttr]; with_reducible rfl)))); done)))
        exact (by simp (discharger := omega) only [go_sem, simprocAttr])
      | true =>
        rw [hd] at cD
        have hd2 : 48 ≤ x.toNat ∧ x.toNat ≤ 57 := of_decide_eq_true hd
        have hnew : ((k : Nat) : Int) * 10 + ((x.toNat : Nat) : Int) - 48 = ((k * 10 + (x.toNat - 48) : Nat) : Int) := by omega
        have htb := Tab.cons cD Tab.nil
        repeat' (first | (with_reducible first | apply w1 | apply w2 | apply w3 | apply w4 | apply w5 | apply w6 | apply w7 | apply w8 | apply w9 | apply wa | apply wb | apply wc) | ((with_reducible apply wd); focus decide) | ((with_reducible apply we); focus exact rfl) | ((with_reducible apply wf); focus exact rfl) | ((first | (with_reducible apply SW_run tt_ok hG htb) | ((with_reducible apply SW_draw rfl tt_ok hG htb); (focus kernel_rfl); focus simp only [List.range, List.range.loop, List.size_toArray, List.length_cons, List.length_nil, Nat.reduceAdd])); focus ((repeat' (first | (with_reducible first | exact wg | exact wh) | ((with_reducible first | apply wi | apply wj); focus (simp (discharger := omega) only [go_sem, tStr, hsz, hx, hnew, simprocAttr]; with_reducible rfl)))); done)))
        exact ⟨w.length - (i + 1), _, by omega, Norm.headS (own := []) (keep := [0, 3, 4]) (by refine ⟨?_, ?_⟩; (simp (discharger := omega) only [go_sem, simprocAttr]; with_reducible rfl); refine ⟨?_, ?_, ?_, ?_⟩ <;> (simp only [go_sem, simprocAttr]; with_reducible rfl)), i + 1, k * 10 + (x.toNat - 48), rfl, rfl, by omega, by rw [htk, List.all_append, ha, List.all_cons, hd]; rfl, by rw [htk, List.foldl_append, hk]; rfl, by rw [Nat.pow_succ]; omega⟩
    · have hiw : w.take i = w := List.take_of_length_le (by omega)
      rw [hiw] at ha hk
      rw [good.2 ha, hk]
      repeat' (first | (with_reducible first | apply w1 | apply w2 | apply w3 | apply w4 | apply w5 | apply w6 | apply w7 | apply w8 | apply w9 | apply wa | apply wb | apply wc) | ((with_reducible apply wd); focus decide) | ((with_reducible apply we); focus exact rfl) | ((with_reducible apply wf); focus exact rfl) | ((first | (with_reducible apply SW_run tt_ok hG htb) | ((with_reducible apply SW_draw rfl tt_ok hG htb); (focus kernel_rfl); focus simp only [List.range, List.range.loop, List.size_toArray, List.length_cons, List.length_nil, Nat.reduceAdd])); focus ((repeat' (first | (with_reducible first | exact wg | exact wh) | ((with_reducible first | apply wi | apply wj); focus (simp (discharger := omega) only [go_sem, tStr, hsz, simprocAttr]; with_reducible rfl)))); done)))
      exact (by simp (discharger := omega) only [go_sem, simprocAttr])
end
end Go.Proofs.YtpgkpbfefnpagaaGreatDoor
namespace Go.Proofs.YtpgkpbfefnpagaaGreatDoor
open Go.RowKit

def tErr (e : Int) : T := if e = 0 then .nilI else .iface 26 (.int .i64 e)
theorem tErr0 : tErr 0 = .nilI := rfl
theorem tErr_flat (e : Int) : (tErr e).flatData = true := by unfold tErr; split <;> rfl
def tAuto (a : GAuto) : T := .agg [tInt a.base, tInt a.tracks, tIntss a.next, tBools a.ends]
def I64s (l : List Int) : Prop := ∀ x ∈ l, I64 x
structure I64A (a : GAuto) : Prop where
  base : I64 a.base
  tracks : I64 a.tracks
  next : ∀ r ∈ a.next, I64s r
section
variable {P : Program} {G : World → Prop}
theorem enter_of {f : Nat} {fn : Func} {c : Code} (hf : P.funcs[f]? = some fn) (hb : fn.body = some c) (hn : (fn.name == "runtime.NumGoroutine") = false) (vs : Array Value) (w : World) : (callFunc f vs).run P w = .ok (.enter f vs) w := by
  unfold callFunc
  rw [Sem.run_bind, run_program, Result.andThen_ok]
  simp only [hf, hn, hb, Option.isNone_some, Bool.false_eq_true, if_false]
  rfl
theorem snd2 {f : Nat} {fn : Func} {c : Code} {x y r : T} (hf : P.funcs[f]? = some fn) (hb : fn.body = some c) (hn : (fn.name == "runtime.NumGoroutine") = false)
    (h : ∀ (S : Nat → Prop) (w : World) (v u : Value), G w → (∀ b, S b → b < w.heap.size) → RepT S w x v → RepT S w y u → ∃ V, Calls P f #[v, u] w (fun e w' => e = .returned V ∧ Below w.heap.size w w') ∧ ∀ S w, RepT S w r V) : Snd P G f [x, y] r := by
  refine ⟨enter_of hf hb hn, fun S w vs hG hs hr => ?_⟩
  obtain ⟨l⟩ := vs
  match l, hs with
  | [v0, v1], _ =>
    obtain ⟨V, h1, h2⟩ := h (fun b => S b ∧ b < w.heap.size) w v0 v1 hG (fun b hb => hb.2) ((hr 0 _ v0 rfl rfl).keep ⟨Nat.le_refl _, fun b hb hlt => ⟨rfl, hb, hlt⟩⟩) ((hr 1 _ v1 rfl rfl).keep ⟨Nat.le_refl _, fun b hb hlt => ⟨rfl, hb, hlt⟩⟩)
    exact h1.mono fun e w' hq => ⟨V, hq.1, h2 _ _, hq.2⟩
end
theorem intInv {S : Nat → Prop} {w : World} {n : Int} {v : Value} (h : RepT S w (tInt n) v) : v = .int .i64 n := by cases h; rfl
theorem bang_get {α : Type} [Inhabited α] {l : List α} {i : Nat} {x : α} (h : l[i]! = x) (hi : i < l.length) : l[i]? = some x := by rw [← h, getElem!_pos l i hi]; exact List.getElem?_eq_getElem hi
theorem bang_mem {α : Type} [Inhabited α] {l : List α} {i : Nat} {x : α} (h : l[i]! = x) (hi : i < l.length) : x ∈ l := List.mem_of_getElem? (bang_get h hi)
theorem bang_at {α : Type} [Inhabited α] {l : List α} {i : Nat} {x : α} (h : l[i]! = x) (hi : i < l.length) : l[i] = x := by rw [← h, getElem!_pos l i hi]
theorem take_next {α : Type} [Inhabited α] {l : List α} {i : Nat} {x : α} (h : l[i]! = x) (hi : i < l.length) : l.take (i + 1) = l.take i ++ [x] := by
  rw [List.take_succ_eq_append_getElem hi, bang_at h hi]
section
variable {G : World → Prop} (hG : Lasting G)
include hG
theorem Radix_snd (base : Int) : Snd Tryz.prog G 36 [tInt base] (tInt (radix base)) := by
  have htb : Tab.ok Tryz.prog G [] := Tab.nil
  refine snd_of_body (n := 12) (tm := [(0, .t (tInt base))]) (rs := [.tmp 2]) tt_ok Tryz.func36 rfl rfl rfl rfl rfl ?_
  unfold radix
  by_cases h1 : base = 1
  · repeat' (first | (with_reducible first | apply w1 | apply w2 | apply w3 | apply w4 | apply w5 | apply w6 | apply w7 | apply w8 | apply w9 | apply wa | apply wb | apply wc) | ((with_reducible apply wd); focus decide) | ((with_reducible apply we); focus exact rfl) | ((with_reducible apply wf); focus exact rfl) | ((first | (with_reducible apply SW_run tt_ok hG htb) | ((with_reducible apply SW_draw rfl tt_ok hG htb); (focus kernel_rfl); focus simp only [List.range, List.range.loop, List.size_toArray, List.length_cons, List.length_nil, Nat.reduceAdd])); focus ((repeat' (first | (with_reducible first | exact wg | exact wh) | ((with_reducible first | apply wi | apply wj); focus (simp (discharger := omega) only [go_sem, h1, simprocAttr]; with_reducible rfl)))); done)))
    exact (by simp (discharger := omega) only [go_sem, h1, simprocAttr])
  · by_cases h2 : 2 ≤ base
    · by_cases h3 : base ≤ 6
      · repeat' (first | (with_reducible first | apply w1 | apply w2 | apply w3 | apply w4 | apply w5 | apply w6 | apply w7 | apply w8 | apply w9 | apply wa | apply wb | apply wc) | ((with_reducible apply wd); focus decide) | ((with_reducible apply we); focus exact rfl) | ((with_reducible apply wf); focus exact rfl) | ((first | (with_reducible apply SW_run tt_ok hG htb) | ((with_reducible apply SW_draw rfl tt_ok hG htb); (focus kernel_rfl); focus simp only [List.range, List.range.loop, List.size_toArray, List.length_cons, List.length_nil, Nat.reduceAdd])); focus ((repeat' (first | (with_reducible first | exact wg | exact wh) | ((with_reducible first | apply wi | apply wj); focus (simp (discharger := omega) only [go_sem, simprocAttr]; with_reducible rfl)))); done)))
        exact (by simp (discharger := omega) only [go_sem, simprocAttr])
      · repeat' (first | (with_reducible first | apply w1 | apply w2 | apply w3 | apply w4 | apply w5 | apply w6 | apply w7 | apply w8 | apply w9 | apply wa | apply wb | apply wc) | ((with_reducible apply wd); focus decide) | ((with_reducible apply we); focus exact rfl) | ((with_reducible apply wf); focus exact rfl) | ((first | (with_reducible apply SW_run tt_ok hG htb) | ((with_reducible apply SW_draw rfl tt_ok hG htb); (focus kernel_rfl); focus simp only [List.range, List.range.loop, List.size_toArray, List.length_cons, List.length_nil, Nat.reduceAdd])); focus ((repeat' (first | (with_reducible first | exact wg | exact wh) | ((with_reducible first | apply wi | apply wj); focus (simp (discharger := omega) only [go_sem, simprocAttr]; with_reducible rfl)))); done)))
        exact (by simp (discharger := omega) only [go_sem, simprocAttr])
    · repeat' (first | (with_reducible first | apply w1 | apply w2 | apply w3 | apply w4 | apply w5 | apply w6 | apply w7 | apply w8 | apply w9 | apply wa | apply wb | apply wc) | ((with_reducible apply wd); focus decide) | ((with_reducible apply we); focus exact rfl) | ((with_reducible apply wf); focus exact rfl) | ((first | (with_reducible apply SW_run tt_ok hG htb) | ((with_reducible apply SW_draw rfl tt_ok hG htb); (focus kernel_rfl); focus simp only [List.range, List.range.loop, List.size_toArray, List.length_cons, List.length_nil, Nat.reduceAdd])); focus ((repeat' (first | (with_reducible first | exact wg | exact wh) | ((with_reducible first | apply wi | apply wj); focus (simp (discharger := omega) only [go_sem, simprocAttr]; with_reducible rfl)))); done)))
      exact (by simp (discharger := omega) only [go_sem, simprocAttr])
set_option maxHeartbeats 4000000 in
theorem Many_snd (base t : Int) : Snd Tryz.prog G 25 [tInt base, tInt t] (.tup [tInt (manyOf base t), tErr (manyErr base t)]) := by
  have htb := Tab.cons (Radix_snd hG base) Tab.nil
  refine snd_of_body (n := 32) (tm := [(0, .t (tInt base)), (1, .t (tInt t))]) (rs := [.tmp 4, .tmp 5]) tt_ok Tryz.func25 rfl rfl rfl rfl rfl ?_
  unfold manyOf manyErr
  generalize hk : radix base = k at htb ⊢
  by_cases h1 : k = 0
  · subst h1
    repeat' (first | (with_reducible first | apply w1 | apply w2 | apply w3 | apply w4 | apply w5 | apply w6 | apply w7 | apply w8 | apply w9 | apply wa | apply wb | apply wc) | ((with_reducible apply wd); focus decide) | ((with_reducible apply we); focus exact rfl) | ((with_reducible apply wf); focus exact rfl) | ((first | (with_reducible apply SW_run tt_ok hG htb) | ((with_reducible apply SW_draw rfl tt_ok hG htb); (focus kernel_rfl); focus simp only [List.range, List.range.loop, List.size_toArray, List.length_cons, List.length_nil, Nat.reduceAdd])); focus ((repeat' (first | (with_reducible first | exact wg | exact wh) | ((with_reducible first | apply wi | apply wj); focus (simp (discharger := omega) only [go_sem, simprocAttr]; with_reducible rfl)))); done)))
    exact (by simp (discharger := omega) only [go_sem, tErr, simprocAttr])
  · by_cases h2 : t < 0
    · repeat' (first | (with_reducible first | apply w1 | apply w2 | apply w3 | apply w4 | apply w5 | apply w6 | apply w7 | apply w8 | apply w9 | apply wa | apply wb | apply wc) | ((with_reducible apply wd); focus decide) | ((with_reducible apply we); focus exact rfl) | ((with_reducible apply wf); focus exact rfl) | ((first | (with_reducible apply SW_run tt_ok hG htb) | ((with_reducible apply SW_draw rfl tt_ok hG htb); (focus kernel_rfl); focus simp only [List.range, List.range.loop, List.size_toArray, List.length_cons, List.length_nil, Nat.reduceAdd])); focus ((repeat' (first | (with_reducible first | exact wg | exact wh) | ((with_reducible first | apply wi | apply wj); focus (simp (discharger := omega) only [go_sem, simprocAttr]; with_reducible rfl)))); done)))
      exact (by simp (discharger := omega) only [go_sem, tErr, simprocAttr])
    · by_cases h3 : 5 < t
      · repeat' (first | (with_reducible first | apply w1 | apply w2 | apply w3 | apply w4 | apply w5 | apply w6 | apply w7 | apply w8 | apply w9 | apply wa | apply wb | apply wc) | ((with_reducible apply wd); focus decide) | ((with_reducible apply we); focus exact rfl) | ((with_reducible apply wf); focus exact rfl) | ((first | (with_reducible apply SW_run tt_ok hG htb) | ((with_reducible apply SW_draw rfl tt_ok hG htb); (focus kernel_rfl); focus simp only [List.range, List.range.loop, List.size_toArray, List.length_cons, List.length_nil, Nat.reduceAdd])); focus ((repeat' (first | (with_reducible first | exact wg | exact wh) | ((with_reducible first | apply wi | apply wj); focus (simp (discharger := omega) only [go_sem, simprocAttr]; with_reducible rfl)))); done)))
        exact (by simp (discharger := omega) only [go_sem, tErr, simprocAttr])
      · obtain ⟨r2, r6⟩ := radix_two (b := base) (by omega)
        rw [hk] at r2 r6
        obtain ⟨t, rfl⟩ := Int.eq_ofNat_of_zero_le (show 0 ≤ t by omega)
        rw [show (if k = 0 ∨ (t : Int) < 0 ∨ 5 < (t : Int) then (1 : Int) else if 36 < powW k (t : Int).toNat then 3 else 0) = if 36 < powW k t then 3 else 0 by rw [if_neg (by omega)]; rfl]
        repeat' (first | (with_reducible first | apply w1 | apply w2 | apply w3 | apply w4 | apply w5 | apply w6 | apply w7 | apply w8 | apply w9 | apply wa | apply wb | apply wc) | ((with_reducible apply wd); focus decide) | ((with_reducible apply we); focus exact rfl) | ((with_reducible apply wf); focus exact rfl) | ((first | (with_reducible apply SW_run tt_ok hG htb) | ((with_reducible apply SW_draw rfl tt_ok hG htb); (focus kernel_rfl); focus simp only [List.range, List.range.loop, List.size_toArray, List.length_cons, List.length_nil, Nat.reduceAdd])); focus ((repeat' (first | (with_reducible first | exact wg | exact wh) | ((with_reducible first | apply wi | apply wj); focus (simp (discharger := omega) only [go_sem, simprocAttr]; with_reducible rfl)))); done)))
        refine SW_loop (fun m s => ∃ i : Nat, m = t - i ∧ s = ⟨32, [(6, .t (tInt k)), (7, .t (tInt (powW k i))), (21, .t (tInt t)), (22, .t (tInt i))], []⟩ ∧ i ≤ t) t ⟨_, Norm.headS (own := []) (keep := [6, 7, 21, 22]) (by refine ⟨?_, ?_⟩; (simp (discharger := omega) only [go_sem, simprocAttr]; with_reducible rfl); refine ⟨?_, ?_, ?_, ?_⟩ <;> (simp only [go_sem, simprocAttr]; with_reducible rfl)), 0, rfl, rfl, Nat.zero_le _⟩ ?_
        rintro m s ⟨i, rfl, rfl, hi⟩
        have hb := powW_bd r2 r6 (j := i) (by omega)
        by_cases hlt : i < t
        · have hb1 : 1 ≤ powW k i * k ∧ powW k i * k ≤ 7776 := powW_bd r2 r6 (j := i + 1) (by omega)
          repeat' (first | (with_reducible first | apply w1 | apply w2 | apply w3 | apply w4 | apply w5 | apply w6 | apply w7 | apply w8 | apply w9 | apply wa | apply wb | apply wc) | ((with_reducible apply wd); focus decide) | ((with_reducible apply we); focus exact rfl) | ((with_reducible apply wf); focus exact rfl) | ((first | (with_reducible apply SW_run tt_ok hG htb) | ((with_reducible apply SW_draw rfl tt_ok hG htb); (focus kernel_rfl); focus simp only [List.range, List.range.loop, List.size_toArray, List.length_cons, List.length_nil, Nat.reduceAdd])); focus ((repeat' (first | (with_reducible first | exact wg | exact wh) | ((with_reducible first | apply wi | apply wj); focus (simp (discharger := omega) only [go_sem, simprocAttr]; with_reducible rfl)))); done)))
          exact ⟨t - (i + 1), _, by omega, Norm.headS (own := []) (keep := [6, 7, 21, 22]) (by refine ⟨?_, ?_⟩; (simp (discharger := omega) only [go_sem, simprocAttr]; with_reducible rfl); refine ⟨?_, ?_, ?_, ?_⟩ <;> (simp only [go_sem, simprocAttr]; with_reducible rfl)), i + 1, rfl, rfl, by omega⟩
        · obtain rfl : i = t := by omega
          by_cases h36 : 36 < powW k i
          · repeat' (first | (with_reducible first | apply w1 | apply w2 | apply w3 | apply w4 | apply w5 | apply w6 | apply w7 | apply w8 | apply w9 | apply wa | apply wb | apply wc) | ((with_reducible apply wd); focus decide) | ((with_reducible apply we); focus exact rfl) | ((with_reducible apply wf); focus exact rfl) | ((first | (with_reducible apply SW_run tt_ok hG htb) | ((with_reducible apply SW_draw rfl tt_ok hG htb); (focus kernel_rfl); focus simp only [List.range, List.range.loop, List.size_toArray, List.length_cons, List.length_nil, Nat.reduceAdd])); focus ((repeat' (first | (with_reducible first | exact wg | exact wh) | ((with_reducible first | apply wi | apply wj); focus (simp (discharger := omega) only [go_sem, simprocAttr]; with_reducible rfl)))); done)))
            exact (by simp (discharger := omega) only [go_sem, tErr, simprocAttr])
          · repeat' (first | (with_reducible first | apply w1 | apply w2 | apply w3 | apply w4 | apply w5 | apply w6 | apply w7 | apply w8 | apply w9 | apply wa | apply wb | apply wc) | ((with_reducible apply wd); focus decide) | ((with_reducible apply we); focus exact rfl) | ((with_reducible apply wf); focus exact rfl) | ((first | (with_reducible apply SW_run tt_ok hG htb) | ((with_reducible apply SW_draw rfl tt_ok hG htb); (focus kernel_rfl); focus simp only [List.range, List.range.loop, List.size_toArray, List.length_cons, List.length_nil, Nat.reduceAdd])); focus ((repeat' (first | (with_reducible first | exact wg | exact wh) | ((with_reducible first | apply wi | apply wj); focus (simp (discharger := omega) only [go_sem, simprocAttr]; with_reducible rfl)))); done)))
            exact (by simp (discharger := omega) only [go_sem, tErr, simprocAttr])
set_option maxHeartbeats 4000000 in
theorem Check_snd (a : GAuto) : Snd Tryz.prog G 13 [tAuto a] (tErr (autoFault a)) := by
  have htb := Tab.cons (Many_snd hG a.base a.tracks) Tab.nil
  refine snd_of_body (n := 72) (tm := [(0, .t (tAuto a))]) (rs := [.tmp 2]) tt_ok Tryz.func13 rfl rfl rfl rfl rfl ?_
  unfold autoFault
  by_cases h0 : manyErr a.base a.tracks = 0
  · rw [if_neg (by omega)]
    rw [h0] at htb
    have h36 := (many_ok h0).2.2.2.1
    rw [← (many_ok h0).2.2.2.2] at h36
    generalize hmo : manyOf a.base a.tracks = mo at *
    by_cases h1 : a.next.length = 0
    · repeat' (first | (with_reducible first | apply w1 | apply w2 | apply w3 | apply w4 | apply w5 | apply w6 | apply w7 | apply w8 | apply w9 | apply wa | apply wb | apply wc) | ((with_reducible apply wd); focus decide) | ((with_reducible apply we); focus exact rfl) | ((with_reducible apply wf); focus exact rfl) | ((first | (with_reducible apply SW_run tt_ok hG htb) | ((with_reducible apply SW_draw rfl tt_ok hG htb); (focus kernel_rfl); focus simp only [List.range, List.range.loop, List.size_toArray, List.length_cons, List.length_nil, Nat.reduceAdd])); focus ((repeat' (first | (with_reducible first | exact wg | exact wh) | ((with_reducible first | apply wi | apply wj); focus (simp (discharger := omega) only [go_sem, tAuto, tErr, simprocAttr]; with_reducible rfl)))); done)))
      exact (by simp (discharger := omega) only [go_sem, tErr, simprocAttr])
    · by_cases h2 : 80 < a.next.length
      · repeat' (first | (with_reducible first | apply w1 | apply w2 | apply w3 | apply w4 | apply w5 | apply w6 | apply w7 | apply w8 | apply w9 | apply wa | apply wb | apply wc) | ((with_reducible apply wd); focus decide) | ((with_reducible apply we); focus exact rfl) | ((with_reducible apply wf); focus exact rfl) | ((first | (with_reducible apply SW_run tt_ok hG htb) | ((with_reducible apply SW_draw rfl tt_ok hG htb); (focus kernel_rfl); focus simp only [List.range, List.range.loop, List.size_toArray, List.length_cons, List.length_nil, Nat.reduceAdd])); focus ((repeat' (first | (with_reducible first | exact wg | exact wh) | ((with_reducible first | apply wi | apply wj); focus (simp (discharger := omega) only [go_sem, tAuto, tErr, simprocAttr]; with_reducible rfl)))); done)))
        exact (by simp (discharger := omega) only [go_sem, tErr, simprocAttr])
      · by_cases h3 : a.ends.length = a.next.length
        · rw [if_neg h1, if_neg h2, if_neg (by omega)]
          repeat' (first | (with_reducible first | apply w1 | apply w2 | apply w3 | apply w4 | apply w5 | apply w6 | apply w7 | apply w8 | apply w9 | apply wa | apply wb | apply wc) | ((with_reducible apply wd); focus decide) | ((with_reducible apply we); focus exact rfl) | ((with_reducible apply wf); focus exact rfl) | ((first | (with_reducible apply SW_run tt_ok hG htb) | ((with_reducible apply SW_draw rfl tt_ok hG htb); (focus kernel_rfl); focus simp only [List.range, List.range.loop, List.size_toArray, List.length_cons, List.length_nil, Nat.reduceAdd])); focus ((repeat' (first | (with_reducible first | exact wg | exact wh) | ((with_reducible first | apply wi | apply wj); focus (simp (discharger := omega) only [go_sem, tAuto, tErr, h3, simprocAttr]; with_reducible rfl)))); done)))
          refine SW_loop (fun m s => ∃ i : Nat, m = a.next.length - i ∧ s = ⟨72, [(1, .bptr 0 0), (3, .t (tInt mo)), (43, .t (tIntss a.next)), (44, .t (tInt a.next.length)), (45, .t (tInt i))], [.box [.t (tInt a.base), .t (tInt a.tracks), .t (tIntss a.next), .t (tBools a.ends)]]⟩ ∧ i ≤ a.next.length ∧ ∀ j (hj : j < a.next.length), j < i → (a.next[j].length : Int) = mo ∧ ∀ s ∈ a.next[j], 0 ≤ s ∧ s < (a.next.length : Int)) a.next.length
            ⟨_, Norm.headS (own := []) (keep := [1, 3, 43, 44, 45]) (by refine ⟨?_, ?_⟩; (simp (discharger := omega) only [go_sem, simprocAttr]; with_reducible rfl); refine ⟨?_, ?_, ?_, ?_⟩ <;> (simp only [go_sem, simprocAttr]; with_reducible rfl)), 0, rfl, rfl, Nat.zero_le _, fun j hj h => by omega⟩ ?_
          rintro m s ⟨i, rfl, rfl, hi, hA⟩
          by_cases hlt : i < a.next.length
          · obtain ⟨row, hrow⟩ : ∃ row, a.next[i]! = row := ⟨_, rfl⟩
            have hat := bang_at hrow hlt
            obtain ⟨f1, f2⟩ := rowsFault_at hlt hA
            rw [hat] at f1 f2
            by_cases hrl : (row.length : Int) = mo
            · repeat' (first | (with_reducible first | apply w1 | apply w2 | apply w3 | apply w4 | apply w5 | apply w6 | apply w7 | apply w8 | apply w9 | apply wa | apply wb | apply wc) | ((with_reducible apply wd); focus decide) | ((with_reducible apply we); focus exact rfl) | ((with_reducible apply wf); focus exact rfl) | ((first | (with_reducible apply SW_run tt_ok hG htb) | ((with_reducible apply SW_draw rfl tt_ok hG htb); (focus kernel_rfl); focus simp only [List.range, List.range.loop, List.size_toArray, List.length_cons, List.length_nil, Nat.reduceAdd])); focus ((repeat' (first | (with_reducible first | exact wg | exact wh) | ((with_reducible first | apply wi | apply wj); focus (simp (discharger := omega) only [go_sem, hrow, simprocAttr]; with_reducible rfl)))); done)))
              refine SW_loop (fun m s => ∃ l : Nat, m = row.length - l ∧ s = ⟨72, [(1, .bptr 0 0), (3, .t (tInt mo)), (43, .t (tIntss a.next)), (44, .t (tInt a.next.length)), (45, .t (tInt i)), (54, .t (tInts row)), (55, .t (tInt row.length)), (56, .t (tInt l))], [.box [.t (tInt a.base), .t (tInt a.tracks), .t (tIntss a.next), .t (tBools a.ends)]]⟩ ∧ l ≤ row.length ∧ ∀ x ∈ row.take l, 0 ≤ x ∧ x < (a.next.length : Int)) row.length
                ⟨_, Norm.headS (own := []) (keep := [1, 3, 43, 44, 45, 54, 55, 56]) (by refine ⟨?_, ?_⟩; (simp (discharger := omega) only [go_sem, simprocAttr]; with_reducible rfl); refine ⟨?_, ?_, ?_, ?_⟩ <;> (simp only [go_sem, simprocAttr]; with_reducible rfl)), 0, rfl, rfl, Nat.zero_le _, fun x hx => by simp at hx⟩ ?_
              rintro m s ⟨l, rfl, rfl, hl, hB⟩
              by_cases hlt2 : l < row.length
              · obtain ⟨x, hx⟩ : ∃ x, row[l]! = x := ⟨_, rfl⟩
                have htk := take_next hx hlt2
                have hxm := bang_mem hx hlt2
                by_cases hx0 : 0 ≤ x
                · by_cases hxm2 : x < (a.next.length : Int)
                  · repeat' (first | (with_reducible first | apply w1 | apply w2 | apply w3 | apply w4 | apply w5 | apply w6 | apply w7 | apply w8 | apply w9 | apply wa | apply wb | apply wc) | ((with_reducible apply wd); focus decide) | ((with_reducible apply we); focus exact rfl) | ((with_reducible apply wf); focus exact rfl) | ((first | (with_reducible apply SW_run tt_ok hG htb) | ((with_reducible apply SW_draw rfl tt_ok hG htb); (focus kernel_rfl); focus simp only [List.range, List.range.loop, List.size_toArray, List.length_cons, List.length_nil, Nat.reduceAdd])); focus ((repeat' (first | (with_reducible first | exact wg | exact wh) | ((with_reducible first | apply wi | apply wj); focus (simp (discharger := omega) only [go_sem, hx, simprocAttr]; with_reducible rfl)))); done)))
                    exact ⟨row.length - (l + 1), _, by omega, Norm.headS (own := []) (keep := [1, 3, 43, 44, 45, 54, 55, 56]) (by refine ⟨?_, ?_⟩; (simp (discharger := omega) only [go_sem, simprocAttr]; with_reducible rfl); refine ⟨?_, ?_, ?_, ?_⟩ <;> (simp only [go_sem, simprocAttr]; with_reducible rfl)), l + 1, rfl, rfl, by omega, fun y hy => by
                      rw [htk] at hy
                      rcases List.mem_append.1 hy with h | h
                      · exact hB y h
                      · simp at h; subst h; exact ⟨hx0, hxm2⟩⟩
                  · rw [f2 hrl ⟨x, hxm, by omega⟩]
                    repeat' (first | (with_reducible first | apply w1 | apply w2 | apply w3 | apply w4 | apply w5 | apply w6 | apply w7 | apply w8 | apply w9 | apply wa | apply wb | apply wc) | ((with_reducible apply wd); focus decide) | ((with_reducible apply we); focus exact rfl) | ((with_reducible apply wf); focus exact rfl) | ((first | (with_reducible apply SW_run tt_ok hG htb) | ((with_reducible apply SW_draw rfl tt_ok hG htb); (focus kernel_rfl); focus simp only [List.range, List.range.loop, List.size_toArray, List.length_cons, List.length_nil, Nat.reduceAdd])); focus ((repeat' (first | (with_reducible first | exact wg | exact wh) | ((with_reducible first | apply wi | apply wj); focus (simp (discharger := omega) only [go_sem, hx, simprocAttr]; with_reducible rfl)))); done)))
                    exact (by simp (discharger := omega) only [go_sem, tErr, simprocAttr])
                · rw [f2 hrl ⟨x, hxm, by omega⟩]
                  repeat' (first | (with_reducible first | apply w1 | apply w2 | apply w3 | apply w4 | apply w5 | apply w6 | apply w7 | apply w8 | apply w9 | apply wa | apply wb | apply wc) | ((with_reducible apply wd); focus decide) | ((with_reducible apply we); focus exact rfl) | ((with_reducible apply wf); focus exact rfl) | ((first | (with_reducible apply SW_run tt_ok hG htb) | ((with_reducible apply SW_draw rfl tt_ok hG htb); (focus kernel_rfl); focus simp only [List.range, List.range.loop, List.size_toArray, List.length_cons, List.length_nil, Nat.reduceAdd])); focus ((repeat' (first | (with_reducible first | exact wg | exact wh) | ((with_reducible first | apply wi | apply wj); focus (simp (discharger := omega) only [go_sem, hx, simprocAttr]; with_reducible rfl)))); done)))
                  exact (by simp (discharger := omega) only [go_sem, tErr, simprocAttr])
              · obtain rfl : l = row.length := by omega
                rw [List.take_length] at hB
                repeat' (first | (with_reducible first | apply w1 | apply w2 | apply w3 | apply w4 | apply w5 | apply w6 | apply w7 | apply w8 | apply w9 | apply wa | apply wb | apply wc) | ((with_reducible apply wd); focus decide) | ((with_reducible apply we); focus exact rfl) | ((with_reducible apply wf); focus exact rfl) | ((first | (with_reducible apply SW_run tt_ok hG htb) | ((with_reducible apply SW_draw rfl tt_ok hG htb); (focus kernel_rfl); focus simp only [List.range, List.range.loop, List.size_toArray, List.length_cons, List.length_nil, Nat.reduceAdd])); focus ((repeat' (first | (with_reducible first | exact wg | exact wh) | ((with_reducible first | apply wi | apply wj); focus (simp (discharger := omega) only [go_sem, simprocAttr]; with_reducible rfl)))); done)))
                exact ⟨a.next.length - (i + 1), _, by omega, Norm.headS (own := []) (keep := [1, 3, 43, 44, 45]) (by refine ⟨?_, ?_⟩; (simp (discharger := omega) only [go_sem, simprocAttr]; with_reducible rfl); refine ⟨?_, ?_, ?_, ?_⟩ <;> (simp only [go_sem, simprocAttr]; with_reducible rfl)), i + 1, rfl, rfl, by omega, fun j hj h => by
                  by_cases e : j = i
                  · subst e; rw [hat]; exact ⟨hrl, hB⟩
                  · exact hA j hj (by omega)⟩
            · rw [f1 hrl]
              repeat' (first | (with_reducible first | apply w1 | apply w2 | apply w3 | apply w4 | apply w5 | apply w6 | apply w7 | apply w8 | apply w9 | apply wa | apply wb | apply wc) | ((with_reducible apply wd); focus decide) | ((with_reducible apply we); focus exact rfl) | ((with_reducible apply wf); focus exact rfl) | ((first | (with_reducible apply SW_run tt_ok hG htb) | ((with_reducible apply SW_draw rfl tt_ok hG htb); (focus kernel_rfl); focus simp only [List.range, List.range.loop, List.size_toArray, List.length_cons, List.length_nil, Nat.reduceAdd])); focus ((repeat' (first | (with_reducible first | exact wg | exact wh) | ((with_reducible first | apply wi | apply wj); focus (simp (discharger := omega) only [go_sem, hrow, simprocAttr]; with_reducible rfl)))); done)))
              exact (by simp (discharger := omega) only [go_sem, tErr, simprocAttr])
          · obtain rfl : i = a.next.length := by omega
            rw [rowsFault_zero.2 fun r hr => by obtain ⟨j, hj, rfl⟩ := List.mem_iff_getElem.1 hr; exact hA j hj hj]
            repeat' (first | (with_reducible first | apply w1 | apply w2 | apply w3 | apply w4 | apply w5 | apply w6 | apply w7 | apply w8 | apply w9 | apply wa | apply wb | apply wc) | ((with_reducible apply wd); focus decide) | ((with_reducible apply we); focus exact rfl) | ((with_reducible apply wf); focus exact rfl) | ((first | (with_reducible apply SW_run tt_ok hG htb) | ((with_reducible apply SW_draw rfl tt_ok hG htb); (focus kernel_rfl); focus simp only [List.range, List.range.loop, List.size_toArray, List.length_cons, List.length_nil, Nat.reduceAdd])); focus ((repeat' (first | (with_reducible first | exact wg | exact wh) | ((with_reducible first | apply wi | apply wj); focus (simp (discharger := omega) only [go_sem, simprocAttr]; with_reducible rfl)))); done)))
            exact (by simp (discharger := omega) only [go_sem, tErr, simprocAttr])
        · repeat' (first | (with_reducible first | apply w1 | apply w2 | apply w3 | apply w4 | apply w5 | apply w6 | apply w7 | apply w8 | apply w9 | apply wa | apply wb | apply wc) | ((with_reducible apply wd); focus decide) | ((with_reducible apply we); focus exact rfl) | ((with_reducible apply wf); focus exact rfl) | ((first | (with_reducible apply SW_run tt_ok hG htb) | ((with_reducible apply SW_draw rfl tt_ok hG htb); (focus kernel_rfl); focus simp only [List.range, List.range.loop, List.size_toArray, List.length_cons, List.length_nil, Nat.reduceAdd])); focus ((repeat' (first | (with_reducible first | exact wg | exact wh) | ((with_reducible first | apply wi | apply wj); focus (simp (discharger := omega) only [go_sem, tAuto, tErr, h3, simprocAttr]; with_reducible rfl)))); done)))
          exact (by simp (discharger := omega) only [go_sem, tErr, h3, simprocAttr])
  · generalize manyErr a.base a.tracks = e at *
    repeat' (first | (with_reducible first | apply w1 | apply w2 | apply w3 | apply w4 | apply w5 | apply w6 | apply w7 | apply w8 | apply w9 | apply wa | apply wb | apply wc) | ((with_reducible apply wd); focus decide) | ((with_reducible apply we); focus exact rfl) | ((with_reducible apply wf); focus exact rfl) | ((first | (with_reducible apply SW_run tt_ok hG htb) | ((with_reducible apply SW_draw rfl tt_ok hG htb); (focus kernel_rfl); focus simp only [List.range, List.range.loop, List.size_toArray, List.length_cons, List.length_nil, Nat.reduceAdd])); focus ((repeat' (first | (with_reducible first | exact wg | exact wh) | ((with_reducible first | apply wi | apply wj); focus (simp (discharger := omega) only [go_sem, tAuto, tErr, h0, simprocAttr]; with_reducible rfl)))); done)))
    exact (by simp (discharger := omega) only [go_sem, tErr, h0, simprocAttr])
end
end Go.Proofs.YtpgkpbfefnpagaaGreatDoor
namespace Go.Proofs.YtpgkpbfefnpagaaGreatDoor
open Go.RowKit

def tStrs (l : List (List UInt8)) : T := .list (l.map tStr)
section
variable {G : World → Prop} (hG : Lasting G)
include hG
set_option maxHeartbeats 4000000 in
theorem Rsmalls_snd (l : List (List UInt8)) (hl : l.length ≤ 2000000) (hw : ∀ w ∈ l, w.length ≤ 2000000) : Snd Tryz.prog G 21 [tStrs l] (.tup [tInts (smallsL l), .bool (smallsOk l)]) := by
  have htb : Tab.ok Tryz.prog G [] := Tab.nil
  refine snd_of_body (n := 25) (tm := [(0, .t (tStrs l))]) (rs := [.tmp 2, .tmp 3]) tt_ok Tryz.func21 rfl rfl rfl rfl rfl ?_
  obtain ⟨ns, hns⟩ : ∃ ns, smallsL l = ns := ⟨_, rfl⟩
  obtain ⟨ok, hok⟩ : ∃ ok, smallsOk l = ok := ⟨_, rfl⟩
  rw [hns, hok]
  repeat' (first | (with_reducible first | apply w1 | apply w2 | apply w3 | apply w4 | apply w5 | apply w6 | apply w7 | apply w8 | apply w9 | apply wa | apply wb | apply wc) | ((with_reducible apply wd); focus decide) | ((with_reducible apply we); focus exact rfl) | ((with_reducible apply wf); focus exact rfl) | ((first | (with_reducible apply SW_run tt_ok hG htb) | ((with_reducible apply SW_draw rfl tt_ok hG htb); (focus kernel_rfl); focus simp only [List.range, List.range.loop, List.size_toArray, List.length_cons, List.length_nil, Nat.reduceAdd])); focus ((repeat' (first | (with_reducible first | exact wg | exact wh) | ((with_reducible first | apply wi | apply wj); focus (simp (discharger := omega) only [go_sem, tStrs, simprocAttr]; with_reducible rfl)))); done)))
  clear htb
  refine SW_loop (fun mm st => ∃ (i : Nat) (ot : List T), mm = l.length - i ∧ st = ⟨25, [(0, .t (tStrs l)), (4, .sref 0), (5, .t (tNat i))], [.row 3 1 false ot]⟩ ∧ ot = ((l.take i).map smallI).map tInt ∧ i ≤ l.length ∧ (l.take i).all (fun w => decide (0 ≤ smallI w)) = true) l.length
    ⟨_, Norm.headS (own := [(4, 3, 1, false)]) (keep := [0, 4, 5]) (by refine ⟨?_, ?_⟩; (simp (discharger := omega) only [go_sem, simprocAttr]; with_reducible rfl); refine ⟨?_, ?_, ?_, ?_⟩ <;> (simp only [go_sem, simprocAttr]; with_reducible rfl)), 0, _, rfl, rfl, by simp, Nat.zero_le _, rfl⟩ ?_
  rintro mm st ⟨i, ot, rfl, rfl, hot, hi, ha⟩
  have hol : ot.length = i := by rw [hot]; simp; omega
  by_cases hlt : i < l.length
  · obtain ⟨w, hwi⟩ : ∃ w, l[i]! = w := ⟨_, rfl⟩
    have htk := take_next hwi hlt
    have cS := Rsmall_snd (G := G) hG w (hw w (bang_mem hwi hlt))
    obtain ⟨v, hv⟩ : ∃ v, smallI w = v := ⟨_, rfl⟩
    rw [hv] at cS
    have hvb : -1 ≤ v ∧ v < 1000 := by
      rw [← hv]; unfold smallI
      cases h : smallB w with
      | none => simp
      | some n => have := (dec_small h).1; simp only; omega
    have htb := Tab.cons cS Tab.nil
    by_cases h0 : v < 0
    · have h0' := eq_true h0
      have hno : ok = false := by
        rw [← hok, ← Bool.not_eq_true]
        intro q
        have := of_decide_eq_true (List.all_eq_true.1 q w (bang_mem hwi hlt))
        omega
      have hn2 : ns = [] := by rw [← hns]; unfold smallsL; rw [hok, hno]; rfl
      rw [hno, hn2]
      repeat' (first | (with_reducible first | apply w1 | apply w2 | apply w3 | apply w4 | apply w5 | apply w6 | apply w7 | apply w8 | apply w9 | apply wa | apply wb | apply wc) | ((with_reducible apply wd); focus decide) | ((with_reducible apply we); focus exact rfl) | ((with_reducible apply wf); focus exact rfl) | ((first | (with_reducible apply SW_run tt_ok hG htb) | ((with_reducible apply SW_draw rfl tt_ok hG htb); (focus kernel_rfl); focus simp only [List.range, List.range.loop, List.size_toArray, List.length_cons, List.length_nil, Nat.reduceAdd])); focus ((repeat' (first | (with_reducible first | exact wg | exact wh) | ((with_reducible first | apply wi | apply wj); focus (simp (discharger := omega) only [go_sem, tStrs, tStr, hwi, h0', simprocAttr]; with_reducible rfl)))); done)))
      exact (by simp (discharger := omega) only [go_sem, simprocAttr])
    · repeat' (first | (with_reducible first | apply w1 | apply w2 | apply w3 | apply w4 | apply w5 | apply w6 | apply w7 | apply w8 | apply w9 | apply wa | apply wb | apply wc) | ((with_reducible apply wd); focus decide) | ((with_reducible apply we); focus exact rfl) | ((with_reducible apply wf); focus exact rfl) | ((first | (with_reducible apply SW_run tt_ok hG htb) | ((with_reducible apply SW_draw rfl tt_ok hG htb); (focus kernel_rfl); focus simp only [List.range, List.range.loop, List.size_toArray, List.length_cons, List.length_nil, Nat.reduceAdd])); focus ((repeat' (first | (with_reducible first | exact wg | exact wh) | ((with_reducible first | apply wi | apply wj); focus (simp (discharger := omega) only [go_sem, tStrs, tStr, hwi, h0, simprocAttr]; with_reducible rfl)))); done)))
      exact ⟨l.length - (i + 1), _, by omega, Norm.headS (own := [(4, 3, 1, false)]) (keep := [0, 4, 5]) (by refine ⟨?_, ?_⟩; (simp (discharger := omega) only [go_sem, simprocAttr]; with_reducible rfl); refine ⟨?_, ?_, ?_, ?_⟩ <;> (simp only [go_sem, simprocAttr]; with_reducible rfl)), i + 1, _, rfl, rfl, by rw [htk, List.map_append, List.map_append, hot, ← hv]; rfl, by omega, by rw [htk, List.all_append, ha, List.all_cons, hv]; simp; omega⟩
  · have hil : l.take i = l := List.take_of_length_le (by omega)
    rw [hil] at hot ha
    have hy : ok = true := by rw [← hok]; exact ha
    have hn2 : ns = l.map smallI := by rw [← hns]; unfold smallsL; rw [hok, hy]; rfl
    rw [hy, hn2]
    subst hot
    have htb : Tab.ok Tryz.prog G [] := Tab.nil
    repeat' (first | (with_reducible first | apply w1 | apply w2 | apply w3 | apply w4 | apply w5 | apply w6 | apply w7 | apply w8 | apply w9 | apply wa | apply wb | apply wc) | ((with_reducible apply wd); focus decide) | ((with_reducible apply we); focus exact rfl) | ((with_reducible apply wf); focus exact rfl) | ((first | (with_reducible apply SW_run tt_ok hG htb) | ((with_reducible apply SW_draw rfl tt_ok hG htb); (focus kernel_rfl); focus simp only [List.range, List.range.loop, List.size_toArray, List.length_cons, List.length_nil, Nat.reduceAdd])); focus ((repeat' (first | (with_reducible first | exact wg | exact wh) | ((with_reducible first | apply wi | apply wj); focus (simp (discharger := omega) only [go_sem, tStrs, simprocAttr]; with_reducible rfl)))); done)))
    exact (by simp (discharger := omega) only [go_sem, simprocAttr])
end
end Go.Proofs.YtpgkpbfefnpagaaGreatDoor
namespace Go.Proofs.YtpgkpbfefnpagaaGreatDoor
open Go.RowKit

theorem str_extract (s : List UInt8) (a b : Nat) : (⟨s.toArray⟩ : ByteArray).extract a b = ⟨((s.drop a).take (b - a)).toArray⟩ := by
  apply ByteArray.ext
  rw [ByteArray.data_extract]
  simp [List.extract_eq_take_drop]
section
variable {G : World → Prop} (hG : Lasting G)
include hG
set_option maxHeartbeats 8000000 in
theorem RSplit_snd (s : List UInt8) (c : UInt8) (hs : s.length ≤ 2000000) : Snd Tryz.prog G 20 [tStr s, .int .u8 c.toNat] (tStrs (cutB c s)) := by
  have htb : Tab.ok Tryz.prog G [] := Tab.nil
  have hsz : (⟨s.toArray⟩ : ByteArray).size = s.length := by simp [ByteArray.size]
  refine snd_of_body (n := 34) (tm := [(0, .t (tStr s)), (1, .t (.int .u8 c.toNat))]) (rs := [.tmp 4]) tt_ok Tryz.func20 rfl rfl rfl rfl rfl ?_
  obtain ⟨R, hR⟩ : ∃ R, cutB c s = R := ⟨_, rfl⟩
  rw [hR]
  repeat' (first | (with_reducible first | apply w1 | apply w2 | apply w3 | apply w4 | apply w5 | apply w6 | apply w7 | apply w8 | apply w9 | apply wa | apply wb | apply wc) | ((with_reducible apply wd); focus decide) | ((with_reducible apply we); focus exact rfl) | ((with_reducible apply wf); focus exact rfl) | ((first | (with_reducible apply SW_run tt_ok hG htb) | ((with_reducible apply SW_draw rfl tt_ok hG htb); (focus kernel_rfl); focus simp only [List.range, List.range.loop, List.size_toArray, List.length_cons, List.length_nil, Nat.reduceAdd])); focus ((repeat' (first | (with_reducible first | exact wg | exact wh) | ((with_reducible first | apply wi | apply wj); focus (simp (discharger := omega) only [go_sem, tStr, simprocAttr]; with_reducible rfl)))); done)))
  refine SW_loop (fun mm st => ∃ (i f : Nat) (os : List (List UInt8)) (ot : List T), mm = s.length - i ∧ st = ⟨34, [(0, .t (tStr s)), (1, .t (.int .u8 c.toNat)), (5, .sref 0), (6, .t (tNat f)), (7, .t (tNat i))], [.row 9 1 false ot]⟩ ∧ ot = os.map tStr ∧ f ≤ i ∧ i ≤ s.length ∧ os.length ≤ i ∧ R = os ++ cutB c (s.drop f) ∧ c ∉ (s.drop f).take (i - f)) s.length
    ⟨_, Norm.headS (own := [(5, 9, 1, false)]) (keep := [0, 1, 5, 6, 7]) (by refine ⟨?_, ?_⟩; (simp (discharger := omega) only [go_sem, simprocAttr]; with_reducible rfl); refine ⟨?_, ?_, ?_, ?_⟩ <;> (simp only [go_sem, simprocAttr]; with_reducible rfl)), 0, 0, [], _, rfl, rfl, rfl, Nat.le_refl _, Nat.zero_le _, Nat.le_refl _, hR.symm, by simp⟩ ?_
  clear hR
  rintro mm st ⟨i, f, os, ot, rfl, rfl, hot, hfi, hi, hol, hR, hc⟩
  have hotl : ot.length = os.length := by rw [hot, List.length_map]
  by_cases hlt : i < s.length
  · obtain ⟨x, hx⟩ : ∃ x, s[i]? = some x := ⟨_, List.getElem?_eq_getElem hlt⟩
    have hxl := x.toNat_lt
    have hex := str_extract s f i
    have hdi : s.drop i = x :: s.drop (i + 1) := by
      rw [List.drop_eq_getElem_cons hlt, (List.getElem?_eq_some_iff.1 hx).2]
    have hsplit : s.drop f = (s.drop f).take (i - f) ++ x :: s.drop (i + 1) := by
      rw [← hdi]
      have := (List.take_append_drop (i - f) (s.drop f)).symm
      rw [List.drop_drop, show f + (i - f) = i by omega] at this
      exact this
    obtain ⟨w, hw⟩ : ∃ w, (s.drop f).take (i - f) = w := ⟨_, rfl⟩
    rw [hw] at hex hsplit hc
    by_cases he : x = c
    · have he' := eq_true (show ((x.toNat : Nat) : Int) = ((c.toNat : Nat) : Int) by rw [he])
      rw [he] at hsplit
      have hR2 : R = (os ++ [w]) ++ cutB c (s.drop (i + 1)) := by rw [hR, hsplit, cutB_line c hc, List.append_assoc]; rfl
      repeat' (first | (with_reducible first | apply w1 | apply w2 | apply w3 | apply w4 | apply w5 | apply w6 | apply w7 | apply w8 | apply w9 | apply wa | apply wb | apply wc) | ((with_reducible apply wd); focus decide) | ((with_reducible apply we); focus exact rfl) | ((with_reducible apply wf); focus exact rfl) | ((first | (with_reducible apply SW_run tt_ok hG htb) | ((with_reducible apply SW_draw rfl tt_ok hG htb); (focus kernel_rfl); focus simp only [List.range, List.range.loop, List.size_toArray, List.length_cons, List.length_nil, Nat.reduceAdd])); focus ((repeat' (first | (with_reducible first | exact wg | exact wh) | ((with_reducible first | apply wi | apply wj); focus (simp (discharger := omega) only [go_sem, tStr, hsz, hx, he', hex, simprocAttr]; with_reducible rfl)))); done)))
      exact ⟨s.length - (i + 1), _, by omega, Norm.headS (own := [(5, 9, 1, false)]) (keep := [0, 1, 5, 6, 7]) (by refine ⟨?_, ?_⟩; (simp (discharger := omega) only [go_sem, simprocAttr]; with_reducible rfl); refine ⟨?_, ?_, ?_, ?_⟩ <;> (simp only [go_sem, simprocAttr]; with_reducible rfl)), i + 1, i + 1, os ++ [w], _, rfl, rfl, by rw [hot, List.map_append]; rfl, Nat.le_refl _, by omega, by rw [List.length_append]; simp; omega, hR2, by simp⟩
    · have he' : ¬ ((x.toNat : Nat) : Int) = ((c.toNat : Nat) : Int) := fun q => he (UInt8.toNat_inj.1 (by omega))
      have hc2 : c ∉ (s.drop f).take (i + 1 - f) := by
        rw [show i + 1 - f = (i - f) + 1 by omega, List.take_add_one, hw, List.getElem?_drop, show f + (i - f) = i by omega, hx]
        intro q
        rcases List.mem_append.1 q with q | q
        · exact hc q
        · exact he (List.mem_singleton.1 q).symm
      repeat' (first | (with_reducible first | apply w1 | apply w2 | apply w3 | apply w4 | apply w5 | apply w6 | apply w7 | apply w8 | apply w9 | apply wa | apply wb | apply wc) | ((with_reducible apply wd); focus decide) | ((with_reducible apply we); focus exact rfl) | ((with_reducible apply wf); focus exact rfl) | ((first | (with_reducible apply SW_run tt_ok hG htb) | ((with_reducible apply SW_draw rfl tt_ok hG htb); (focus kernel_rfl); focus simp only [List.range, List.range.loop, List.size_toArray, List.length_cons, List.length_nil, Nat.reduceAdd])); focus ((repeat' (first | (with_reducible first | exact wg | exact wh) | ((with_reducible first | apply wi | apply wj); focus (simp (discharger := omega) only [go_sem, tStr, hsz, hx, he', simprocAttr]; with_reducible rfl)))); done)))
      exact ⟨s.length - (i + 1), _, by omega, Norm.headS (own := [(5, 9, 1, false)]) (keep := [0, 1, 5, 6, 7]) (by refine ⟨?_, ?_⟩; (simp (discharger := omega) only [go_sem, simprocAttr]; with_reducible rfl); refine ⟨?_, ?_, ?_, ?_⟩ <;> (simp only [go_sem, simprocAttr]; with_reducible rfl)), i + 1, f, os, ot, rfl, rfl, hot, by omega, by omega, by omega, hR, hc2⟩
  · have hex := str_extract s f s.length
    have htk : (s.drop f).take (s.length - f) = s.drop f := List.take_of_length_le (by rw [List.length_drop]; exact Nat.le_refl _)
    rw [htk] at hex
    rw [show i - f = s.length - f by omega, htk] at hc
    rw [cutB_word c hc] at hR
    rw [hR]
    have hfin : ot ++ [tStr (s.drop f)] = (os ++ [s.drop f]).map tStr := by rw [hot, List.map_append]; rfl
    have e : tStrs (os ++ [s.drop f]) = .list (ot ++ [tStr (s.drop f)]) := by rw [hfin]; rfl
    rw [e]
    repeat' (first | (with_reducible first | apply w1 | apply w2 | apply w3 | apply w4 | apply w5 | apply w6 | apply w7 | apply w8 | apply w9 | apply wa | apply wb | apply wc) | ((with_reducible apply wd); focus decide) | ((with_reducible apply we); focus exact rfl) | ((with_reducible apply wf); focus exact rfl) | ((first | (with_reducible apply SW_run tt_ok hG htb) | ((with_reducible apply SW_draw rfl tt_ok hG htb); (focus kernel_rfl); focus simp only [List.range, List.range.loop, List.size_toArray, List.length_cons, List.length_nil, Nat.reduceAdd])); focus ((repeat' (first | (with_reducible first | exact wg | exact wh) | ((with_reducible first | apply wi | apply wj); focus (simp (discharger := omega) only [go_sem, tStr, hsz, hex, simprocAttr]; with_reducible rfl)))); done)))
    exact (by simp (discharger := omega) only [go_sem, tStr, simprocAttr])
end
end Go.Proofs.YtpgkpbfefnpagaaGreatDoor
namespace Go.Proofs.YtpgkpbfefnpagaaGreatDoor
open Go.RowKit

def decG : Nat → Nat → List UInt8 → List UInt8
  | 0, _, t => t
  | f + 1, m, t => if m ≤ 9 then dig m :: t else decG f (m / 10) (dig (m % 10) :: t)
theorem decG_is : ∀ n, n < 1000 → decG 4 n [] = decB n := by decide +kernel
theorem str_append (a b : List UInt8) : (⟨a.toArray⟩ : ByteArray) ++ ⟨b.toArray⟩ = ⟨(a ++ b).toArray⟩ := by
  apply ByteArray.ext
  rw [ByteArray.data_append]
  simp
theorem digits_at : ∀ k, k < 10 → (⟨#[48, 49, 50, 51, 52, 53, 54, 55, 56, 57]⟩ : ByteArray).extract k (k + 1) = ⟨[dig k].toArray⟩ := by
  have h : ∀ k, k < 10 → ((⟨#[48, 49, 50, 51, 52, 53, 54, 55, 56, 57]⟩ : ByteArray).extract k (k + 1)).data.toList = [dig k] := by decide +kernel
  intro k hk
  apply ByteArray.ext
  rw [← h k hk]
section
variable {G : World → Prop} (hG : Lasting G)
include hG
set_option maxHeartbeats 4000000 in
theorem RDec_snd (n : Nat) (hn : n < 1000) : Snd Tryz.prog G 12 [tNat n] (tStr (decB n)) := by
  have htb : Tab.ok Tryz.prog G [] := Tab.nil
  refine snd_of_body (n := 28) (tm := [(0, .t (tNat n))]) (rs := [.tmp 2]) tt_ok Tryz.func12 rfl rfl rfl rfl rfl ?_
  rw [← decG_is n hn]
  obtain ⟨R, hR⟩ : ∃ R, decG 4 n [] = R := ⟨_, rfl⟩
  rw [hR]
  repeat' (first | (with_reducible first | apply w1 | apply w2 | apply w3 | apply w4 | apply w5 | apply w6 | apply w7 | apply w8 | apply w9 | apply wa | apply wb | apply wc) | ((with_reducible apply wd); focus decide) | ((with_reducible apply we); focus exact rfl) | ((with_reducible apply wf); focus exact rfl) | ((first | (with_reducible apply SW_run tt_ok hG htb) | ((with_reducible apply SW_draw rfl tt_ok hG htb); (focus kernel_rfl); focus simp only [List.range, List.range.loop, List.size_toArray, List.length_cons, List.length_nil, Nat.reduceAdd])); focus ((repeat' (first | (with_reducible first | exact wg | exact wh) | ((with_reducible first | apply wi | apply wj); focus (simp (discharger := omega) only [go_sem, simprocAttr]; with_reducible rfl)))); done)))
  refine SW_loop (fun mm st => ∃ (f m : Nat) (t : List UInt8), mm = m ∧ st = ⟨28, [(0, .t (tNat m)), (3, .t (tStr t))], []⟩ ∧ decG (f + 1) m t = R ∧ m < 10 ^ f ∧ t.length + f ≤ 4) n
    ⟨_, Norm.headS (own := []) (keep := [0, 3]) (by refine ⟨?_, ?_⟩; (simp (discharger := omega) only [go_sem, simprocAttr]; with_reducible rfl); refine ⟨?_, ?_, ?_, ?_⟩ <;> (simp only [go_sem, simprocAttr]; with_reducible rfl)), 3, n, [], rfl, rfl, hR, by omega, by decide⟩ ?_
  clear hR hn
  rintro mm st ⟨f, m, t, rfl, rfl, hR, hm, htl⟩
  have htz : (⟨t.toArray⟩ : ByteArray).size = t.length := by simp [ByteArray.size]
  have h10 : (#[48, 49, 50, 51, 52, 53, 54, 55, 56, 57] : Array UInt8).size = 10 := rfl
  have hs1 : ∀ k, (⟨[dig k].toArray⟩ : ByteArray).size = 1 := fun k => rfl
  by_cases h9 : 9 < mm
  · obtain ⟨g, rfl⟩ : ∃ g, f = g + 1 := ⟨f - 1, by
      have : f ≠ 0 := fun e => by rw [e] at hm; simp at hm; omega
      omega⟩
    obtain ⟨k, hk⟩ : ∃ k, mm % 10 = k := ⟨_, rfl⟩
    obtain ⟨q, hq⟩ : ∃ q, mm / 10 = q := ⟨_, rfl⟩
    have hR2 : decG (g + 1) q (dig k :: t) = R := by
      rw [← hR, ← hk, ← hq]
      show _ = if mm ≤ 9 then _ else _
      rw [if_neg (by omega)]
    have hmod : ((mm : Nat) : Int).tmod 10 = ((k : Nat) : Int) := by rw [Int.tmod_eq_emod_of_nonneg (by omega)]; omega
    have hdiv : ((mm : Nat) : Int).tdiv 10 = ((q : Nat) : Int) := by rw [Int.tdiv_eq_ediv_of_nonneg (by omega)]; omega
    have hk1 : (((k : Nat) : Int) + 1).toNat = k + 1 := by omega
    have hds := digits_at k (by omega)
    have happ := str_append [dig k] t
    have hz := hs1 k
    have hmb : mm < 10000 := Nat.lt_of_lt_of_le hm (Nat.pow_le_pow_right (n := 10) (by decide) (show g + 1 ≤ 4 by omega))
    have hqb : q < 10 ^ g := by rw [Nat.pow_succ] at hm; omega
    repeat' (first | (with_reducible first | apply w1 | apply w2 | apply w3 | apply w4 | apply w5 | apply w6 | apply w7 | apply w8 | apply w9 | apply wa | apply wb | apply wc) | ((with_reducible apply wd); focus decide) | ((with_reducible apply we); focus exact rfl) | ((with_reducible apply wf); focus exact rfl) | ((first | (with_reducible apply SW_run tt_ok hG htb) | ((with_reducible apply SW_draw rfl tt_ok hG htb); (focus kernel_rfl); focus simp only [List.range, List.range.loop, List.size_toArray, List.length_cons, List.length_nil, Nat.reduceAdd])); focus ((repeat' (first | (with_reducible first | exact wg | exact wh) | ((with_reducible first | apply wi | apply wj); focus (simp (discharger := omega) only [go_sem, tStr, hmod, hdiv, hk1, h10, hds, happ, hz, htz, simprocAttr]; with_reducible rfl)))); done)))
    exact ⟨q, _, by omega, Norm.headS (own := []) (keep := [0, 3]) (by refine ⟨?_, ?_⟩; (simp (discharger := omega) only [go_sem, simprocAttr]; with_reducible rfl); refine ⟨?_, ?_, ?_, ?_⟩ <;> (simp only [go_sem, simprocAttr]; with_reducible rfl)), g, q, dig k :: t, rfl, rfl, hR2, hqb, by rw [List.length_cons]; omega⟩
  · have hR2 : dig mm :: t = R := by
      rw [← hR]
      show _ = if mm ≤ 9 then _ else _
      rw [if_pos (by omega)]
    rw [← hR2]
    have hk1 : (((mm : Nat) : Int) + 1).toNat = mm + 1 := by omega
    have hds := digits_at mm (by omega)
    have happ := str_append [dig mm] t
    have hz := hs1 mm
    repeat' (first | (with_reducible first | apply w1 | apply w2 | apply w3 | apply w4 | apply w5 | apply w6 | apply w7 | apply w8 | apply w9 | apply wa | apply wb | apply wc) | ((with_reducible apply wd); focus decide) | ((with_reducible apply we); focus exact rfl) | ((with_reducible apply wf); focus exact rfl) | ((first | (with_reducible apply SW_run tt_ok hG htb) | ((with_reducible apply SW_draw rfl tt_ok hG htb); (focus kernel_rfl); focus simp only [List.range, List.range.loop, List.size_toArray, List.length_cons, List.length_nil, Nat.reduceAdd])); focus ((repeat' (first | (with_reducible first | exact wg | exact wh) | ((with_reducible first | apply wi | apply wj); focus (simp (discharger := omega) only [go_sem, tStr, hk1, h10, hds, happ, hz, htz, simprocAttr]; with_reducible rfl)))); done)))
    exact (by simp (discharger := omega) only [go_sem, tStr, simprocAttr])
end
end Go.Proofs.YtpgkpbfefnpagaaGreatDoor
namespace Go.Proofs.YtpgkpbfefnpagaaGreatDoor
open Go.RowKit

theorem str_size (l : List UInt8) : (⟨l.toArray⟩ : ByteArray).size = l.length := by simp [ByteArray.size]
theorem joinB_flat (c : UInt8) : ∀ (v : List UInt8) (l : List (List UInt8)), joinB c (v :: l) = v ++ l.flatMap (fun x => c :: x)
  | v, [] => by show v = _; simp
  | v, u :: r => by
    show v ++ c :: joinB c (u :: r) = _
    rw [joinB_flat c u r, List.flatMap_cons]; rfl
def cellsB (row : List Int) : List UInt8 := row.flatMap fun t => 32 :: decB t.toNat
theorem rowB_flat (e : Bool) (row : List Int) : rowB e row = (if e then [43] else [45]) ++ cellsB row := by
  unfold rowB cellsB
  rw [joinB_flat, List.flatMap_map]
theorem dec_len (n : Nat) : (decB n).length ≤ 3 := by
  unfold decB
  split
  · simp
  split <;> simp
theorem head_flat (a : GAuto) : headB a = decB a.base.toNat ++ [32] ++ decB a.tracks.toNat ++ [32] ++ decB a.next.length := by
  unfold headB
  rw [joinB_flat]
  simp [List.flatMap_cons]
theorem rows_next {en : List Bool} {nx : List (List Int)} {i : Nat} {e : Bool} {r : List Int} (he : en[i]! = e) (hr : nx[i]! = r) (h1 : i < en.length) (h2 : i < nx.length) : rowsB (en.drop i) (nx.drop i) = (if e then [43] else [45]) ++ cellsB r ++ 10 :: rowsB (en.drop (i + 1)) (nx.drop (i + 1)) := by
  rw [List.drop_eq_getElem_cons h1, List.drop_eq_getElem_cons h2, bang_at he h1, bang_at hr h2]
  show rowB e r ++ 10 :: _ = _
  rw [rowB_flat]
theorem cells_next {r : List Int} {j : Nat} {x : Int} (h : r[j]! = x) (hj : j < r.length) : cellsB (r.drop j) = 32 :: decB x.toNat ++ cellsB (r.drop (j + 1)) := by
  rw [List.drop_eq_getElem_cons hj, bang_at h hj]; rfl
section
variable {G : World → Prop} (hG : Lasting G)
include hG
theorem RDec_int {x : Int} (h0 : 0 ≤ x) (h1 : x < 1000) : Snd Tryz.prog G 12 [tInt x] (tStr (decB x.toNat)) := by
  have c := RDec_snd (G := G) hG x.toNat (by omega)
  have e : tNat x.toNat = tInt x := by unfold tNat tInt; congr 1; omega
  rwa [e] at c
set_option maxHeartbeats 16000000 in
theorem TapeOf_snd {a : GAuto} (h : autoFault a = 0) : Snd Tryz.prog G 5 [tAuto a] (tStr (tapeB a)) := by
  have g := good_of h
  have hfl := head_flat a
  obtain ⟨b, t, nx, en⟩ := a
  obtain ⟨m, hm⟩ : ∃ m, (manyOf b t).toNat = m := ⟨_, rfl⟩
  simp only at g hfl
  rw [hm] at g
  have hmany := g.many
  have h80 := g.m80
  have h0 := g.m0
  have h36 := g.n36
  have hen := g.ends
  simp only at hmany h80 h0 hen
  obtain ⟨hr, t0, t5, _, _⟩ := many_ok hmany
  have hb : 0 < b ∧ b ≤ 6 := by
    rcases radix_pos hr with ⟨h1, _⟩ | ⟨h1, h2, h3⟩ <;> omega
  have htb : Tab.ok Tryz.prog G [] := Tab.nil
  refine snd_of_body (n := 62) (tm := [(0, .t (tAuto ⟨b, t, nx, en⟩))]) (rs := [.tmp 2]) tt_ok Tryz.func5 rfl rfl rfl rfl rfl ?_
  obtain ⟨R, hR⟩ : ∃ R, tapeB ⟨b, t, nx, en⟩ = R := ⟨_, rfl⟩
  rw [hR]
  unfold tapeB at hR
  rw [hfl] at hR
  simp only at hR
  repeat' (first | (with_reducible first | apply w1 | apply w2 | apply w3 | apply w4 | apply w5 | apply w6 | apply w7 | apply w8 | apply w9 | apply wa | apply wb | apply wc) | ((with_reducible apply wd); focus decide) | ((with_reducible apply we); focus exact rfl) | ((with_reducible apply wf); focus exact rfl) | ((first | (with_reducible apply SW_run tt_ok hG htb) | ((with_reducible apply SW_draw rfl tt_ok hG htb); (focus kernel_rfl); focus simp only [List.range, List.range.loop, List.size_toArray, List.length_cons, List.length_nil, Nat.reduceAdd])); focus ((repeat' (first | (with_reducible first | exact wg | exact wh) | ((with_reducible first | apply wi | apply wj); focus (simp (discharger := omega) only [go_sem, tAuto, simprocAttr]; with_reducible rfl)))); done)))
  refine SW_norm (Norm.fixBox 0 rfl rfl) ?_
  obtain ⟨B, hB⟩ : ∃ B, decB b.toNat = B := ⟨_, rfl⟩
  obtain ⟨D, hD⟩ : ∃ D, decB t.toNat = D := ⟨_, rfl⟩
  obtain ⟨N, hN⟩ : ∃ N, decB nx.length = N := ⟨_, rfl⟩
  have l1 := dec_len b.toNat
  have l2 := dec_len t.toNat
  have l3 := dec_len nx.length
  rw [hB] at l1
  rw [hD] at l2
  rw [hN] at l3
  rw [hB, hD, hN] at hR
  refine SW_meetG ⟨62, [(1, .bptr 0 0), (3, .t (tStr (B ++ [32] ++ D ++ [32] ++ N ++ [10])))], [.fbox [tInt b, tInt t, tIntss nx, tBools en]]⟩ Weak.sw ?_ ?_
  · clear hR hfl g hmany
    have cN := RDec_snd (G := G) hG nx.length (by omega)
    have cB := RDec_int (G := G) hG (x := b) (by omega) (by omega)
    have cT := RDec_int (G := G) hG (x := t) (by omega) (by omega)
    rw [hN] at cN
    rw [hB] at cB
    rw [hD] at cT
    obtain ⟨n, hn⟩ : ∃ n : Int, ((nx.length : Nat) : Int) = n := ⟨_, rfl⟩
    unfold tNat at cN
    rw [hn] at cN
    clear htb

    by_cases e1 : b = t
    · subst e1
      obtain rfl : B = D := by rw [← hB, ← hD]
      by_cases e2 : b = n
      · subst e2
        obtain rfl : B = N := by rw [← hB, ← hN]; congr 1; omega
        have htb := Tab.cons cB Tab.nil
        repeat' (first | (with_reducible first | apply w1 | apply w2 | apply w3 | apply w4 | apply w5 | apply w6 | apply w7 | apply w8 | apply w9 | apply wa | apply wb | apply wc) | ((with_reducible apply wd); focus decide) | ((with_reducible apply we); focus exact rfl) | ((with_reducible apply wf); focus exact rfl) | ((first | (with_reducible apply SW_run tt_ok hG htb) | ((with_reducible apply SW_draw rfl tt_ok hG htb); (focus kernel_rfl); focus simp only [List.range, List.range.loop, List.size_toArray, List.length_cons, List.length_nil, Nat.reduceAdd])); focus ((repeat' (first | (with_reducible first | exact wg | exact wh) | ((with_reducible first | apply wi | apply wj); focus (simp (discharger := omega) only [go_sem, hn, tStr, str_append, str_size, List.length_append, List.length_cons, List.length_nil, simprocAttr]; with_reducible rfl)))); done)))
        exact Meet.h ⟨_, Norm.headS (own := []) (keep := [1, 3]) (by refine ⟨?_, ?_⟩; (simp (discharger := omega) only [go_sem, simprocAttr]; with_reducible rfl); refine ⟨?_, ?_, ?_, ?_⟩ <;> (simp only [go_sem, simprocAttr]; with_reducible rfl)), rfl⟩
      · have e3 : ¬ n = b := fun q => e2 q.symm
        have htb := Tab.cons cB (Tab.cons cN Tab.nil)
        repeat' (first | (with_reducible first | apply w1 | apply w2 | apply w3 | apply w4 | apply w5 | apply w6 | apply w7 | apply w8 | apply w9 | apply wa | apply wb | apply wc) | ((with_reducible apply wd); focus decide) | ((with_reducible apply we); focus exact rfl) | ((with_reducible apply wf); focus exact rfl) | ((first | (with_reducible apply SW_run tt_ok hG htb) | ((with_reducible apply SW_draw rfl tt_ok hG htb); (focus kernel_rfl); focus simp only [List.range, List.range.loop, List.size_toArray, List.length_cons, List.length_nil, Nat.reduceAdd])); focus ((repeat' (first | (with_reducible first | exact wg | exact wh) | ((with_reducible first | apply wi | apply wj); focus (simp (discharger := omega) only [go_sem, hn, tStr, str_append, str_size, List.length_append, List.length_cons, List.length_nil, List.cons.injEq, T.int.injEq, e2, e3, simprocAttr]; with_reducible rfl)))); done)))
        exact Meet.h ⟨_, Norm.headS (own := []) (keep := [1, 3]) (by refine ⟨?_, ?_⟩; (simp (discharger := omega) only [go_sem, simprocAttr]; with_reducible rfl); refine ⟨?_, ?_, ?_, ?_⟩ <;> (simp only [go_sem, simprocAttr]; with_reducible rfl)), rfl⟩
    · have f1 : ¬ t = b := fun q => e1 q.symm
      by_cases e2 : b = n
      · subst e2
        obtain rfl : B = N := by rw [← hB, ← hN]; congr 1; omega
        have htb := Tab.cons cB (Tab.cons cT Tab.nil)
        repeat' (first | (with_reducible first | apply w1 | apply w2 | apply w3 | apply w4 | apply w5 | apply w6 | apply w7 | apply w8 | apply w9 | apply wa | apply wb | apply wc) | ((with_reducible apply wd); focus decide) | ((with_reducible apply we); focus exact rfl) | ((with_reducible apply wf); focus exact rfl) | ((first | (with_reducible apply SW_run tt_ok hG htb) | ((with_reducible apply SW_draw rfl tt_ok hG htb); (focus kernel_rfl); focus simp only [List.range, List.range.loop, List.size_toArray, List.length_cons, List.length_nil, Nat.reduceAdd])); focus ((repeat' (first | (with_reducible first | exact wg | exact wh) | ((with_reducible first | apply wi | apply wj); focus (simp (discharger := omega) only [go_sem, hn, tStr, str_append, str_size, List.length_append, List.length_cons, List.length_nil, List.cons.injEq, T.int.injEq, e1, f1, simprocAttr]; with_reducible rfl)))); done)))
        exact Meet.h ⟨_, Norm.headS (own := []) (keep := [1, 3]) (by refine ⟨?_, ?_⟩; (simp (discharger := omega) only [go_sem, simprocAttr]; with_reducible rfl); refine ⟨?_, ?_, ?_, ?_⟩ <;> (simp only [go_sem, simprocAttr]; with_reducible rfl)), rfl⟩
      · have f2 : ¬ n = b := fun q => e2 q.symm
        by_cases e3 : t = n
        · subst e3
          obtain rfl : D = N := by rw [← hD, ← hN]; congr 1; omega
          have htb := Tab.cons cB (Tab.cons cT Tab.nil)
          repeat' (first | (with_reducible first | apply w1 | apply w2 | apply w3 | apply w4 | apply w5 | apply w6 | apply w7 | apply w8 | apply w9 | apply wa | apply wb | apply wc) | ((with_reducible apply wd); focus decide) | ((with_reducible apply we); focus exact rfl) | ((with_reducible apply wf); focus exact rfl) | ((first | (with_reducible apply SW_run tt_ok hG htb) | ((with_reducible apply SW_draw rfl tt_ok hG htb); (focus kernel_rfl); focus simp only [List.range, List.range.loop, List.size_toArray, List.length_cons, List.length_nil, Nat.reduceAdd])); focus ((repeat' (first | (with_reducible first | exact wg | exact wh) | ((with_reducible first | apply wi | apply wj); focus (simp (discharger := omega) only [go_sem, hn, tStr, str_append, str_size, List.length_append, List.length_cons, List.length_nil, List.cons.injEq, T.int.injEq, e1, f1, simprocAttr]; with_reducible rfl)))); done)))
          exact Meet.h ⟨_, Norm.headS (own := []) (keep := [1, 3]) (by refine ⟨?_, ?_⟩; (simp (discharger := omega) only [go_sem, simprocAttr]; with_reducible rfl); refine ⟨?_, ?_, ?_, ?_⟩ <;> (simp only [go_sem, simprocAttr]; with_reducible rfl)), rfl⟩
        · have f3 : ¬ n = t := fun q => e3 q.symm
          have htb := Tab.cons cB (Tab.cons cT (Tab.cons cN Tab.nil))
          repeat' (first | (with_reducible first | apply w1 | apply w2 | apply w3 | apply w4 | apply w5 | apply w6 | apply w7 | apply w8 | apply w9 | apply wa | apply wb | apply wc) | ((with_reducible apply wd); focus decide) | ((with_reducible apply we); focus exact rfl) | ((with_reducible apply wf); focus exact rfl) | ((first | (with_reducible apply SW_run tt_ok hG htb) | ((with_reducible apply SW_draw rfl tt_ok hG htb); (focus kernel_rfl); focus simp only [List.range, List.range.loop, List.size_toArray, List.length_cons, List.length_nil, Nat.reduceAdd])); focus ((repeat' (first | (with_reducible first | exact wg | exact wh) | ((with_reducible first | apply wi | apply wj); focus (simp (discharger := omega) only [go_sem, hn, tStr, str_append, str_size, List.length_append, List.length_cons, List.length_nil, List.cons.injEq, T.int.injEq, e1, f1, e2, f2, e3, f3, simprocAttr]; with_reducible rfl)))); done)))
          exact Meet.h ⟨_, Norm.headS (own := []) (keep := [1, 3]) (by refine ⟨?_, ?_⟩; (simp (discharger := omega) only [go_sem, simprocAttr]; with_reducible rfl); refine ⟨?_, ?_, ?_, ?_⟩ <;> (simp only [go_sem, simprocAttr]; with_reducible rfl)), rfl⟩
  repeat' (with_reducible first | refine SW_seq ?_ | refine SThen_n ?_ | refine SIn_n ?_ | refine SW_skip ?_)
  repeat' (first | (with_reducible first | apply w1 | apply w2 | apply w3 | apply w4 | apply w5 | apply w6 | apply w7 | apply w8 | apply w9 | apply wa | apply wb | apply wc) | ((with_reducible apply wd); focus decide) | ((with_reducible apply we); focus exact rfl) | ((with_reducible apply wf); focus exact rfl) | ((first | (with_reducible apply SW_run tt_ok hG htb) | ((with_reducible apply SW_draw rfl tt_ok hG htb); (focus kernel_rfl); focus simp only [List.range, List.range.loop, List.size_toArray, List.length_cons, List.length_nil, Nat.reduceAdd])); focus ((repeat' (first | (with_reducible first | exact wg | exact wh) | ((with_reducible first | apply wi | apply wj); focus (simp (discharger := omega) only [go_sem, simprocAttr]; with_reducible rfl)))); done)))
  refine SW_loop (fun mm st => ∃ (i : Nat) (u : List UInt8), mm = nx.length - i ∧ st = ⟨62, [(1, .bptr 0 0), (3, .t (tStr u)), (4, .t (tNat i))], [.fbox [tInt b, tInt t, tIntss nx, tBools en]]⟩ ∧ i ≤ nx.length ∧ u.length ≤ 20 + 200 * i ∧ R = u ++ rowsB (en.drop i) (nx.drop i)) nx.length
    ⟨_, Norm.headS (own := []) (keep := [1, 3, 4]) (by refine ⟨?_, ?_⟩; (simp (discharger := omega) only [go_sem, simprocAttr]; with_reducible rfl); refine ⟨?_, ?_, ?_, ?_⟩ <;> (simp only [go_sem, simprocAttr]; with_reducible rfl)), 0, _, rfl, rfl, Nat.zero_le _, ?_, ?_⟩ ?_
  · simp only [List.length_append, List.length_cons, List.length_nil]; omega
  · rw [← hR, List.drop_zero, List.drop_zero]; simp only [List.append_assoc, List.cons_append, List.nil_append]
  clear hR hfl
  rintro mm st ⟨i, u, rfl, rfl, hi, hul, hR⟩
  by_cases hlt : i < nx.length
  · obtain ⟨row, hrow⟩ : ∃ row, nx[i]! = row := ⟨_, rfl⟩
    obtain ⟨e, he⟩ : ∃ e, en[i]! = e := ⟨_, rfl⟩
    have hrn := rows_next he hrow (by omega) hlt
    have hrl := g.rows.row row (bang_mem hrow hlt)
    have hrv := g.rows.ok row (bang_mem hrow hlt)
    rw [hrn] at hR
    obtain ⟨rest, hrest⟩ : ∃ rest, rowsB (en.drop (i + 1)) (nx.drop (i + 1)) = rest := ⟨_, rfl⟩
    rw [hrest] at hR
    obtain ⟨sg, hsg⟩ : ∃ sg : List UInt8, (if e then [43] else [45]) = sg := ⟨_, rfl⟩
    rw [hsg] at hR
    have hsl : sg.length = 1 := by rw [← hsg]; cases e <;> rfl
    have htb : Tab.ok Tryz.prog G [] := Tab.nil
    cases e
    · have hsg : [45] = sg := hsg
      subst hsg
      repeat' (first | (with_reducible first | apply w1 | apply w2 | apply w3 | apply w4 | apply w5 | apply w6 | apply w7 | apply w8 | apply w9 | apply wa | apply wb | apply wc) | ((with_reducible apply wd); focus decide) | ((with_reducible apply we); focus exact rfl) | ((with_reducible apply wf); focus exact rfl) | ((first | (with_reducible apply SW_run tt_ok hG htb) | ((with_reducible apply SW_draw rfl tt_ok hG htb); (focus kernel_rfl); focus simp only [List.range, List.range.loop, List.size_toArray, List.length_cons, List.length_nil, Nat.reduceAdd])); focus ((repeat' (first | (with_reducible first | exact wg | exact wh) | ((with_reducible first | apply wi | apply wj); focus (simp (discharger := omega) only [go_sem, he, tStr, str_append, str_size, List.length_append, List.length_cons, List.length_nil, simprocAttr]; with_reducible rfl)))); done)))
      refine SW_loop (fun mm st => ∃ (j : Nat) (v : List UInt8), mm = row.length - j ∧ st = ⟨62, [(1, .bptr 0 0), (3, .t (tStr v)), (4, .t (tNat i)), (6, .t (tNat j))], [.fbox [tInt b, tInt t, tIntss nx, tBools en]]⟩ ∧ j ≤ row.length ∧ v.length ≤ 21 + 200 * i + 4 * j ∧ R = v ++ (cellsB (row.drop j) ++ 10 :: rest)) row.length
        ⟨_, Norm.headS (own := []) (keep := [1, 3, 4, 6]) (by refine ⟨?_, ?_⟩; (simp (discharger := omega) only [go_sem, simprocAttr]; with_reducible rfl); refine ⟨?_, ?_, ?_, ?_⟩ <;> (simp only [go_sem, simprocAttr]; with_reducible rfl)), 0, _, rfl, rfl, Nat.zero_le _, (by simp only [List.length_append, List.length_cons, List.length_nil]; omega), (by rw [hR, List.drop_zero]; simp only [List.append_assoc, List.cons_append, List.nil_append])⟩ ?_
      clear hR
      rintro mm st ⟨j, v, rfl, rfl, hj, hvl, hR⟩
      by_cases hlt2 : j < row.length
      · obtain ⟨x, hx⟩ : ∃ x, row[j]! = x := ⟨_, rfl⟩
        have hxv := hrv x (bang_mem hx hlt2)
        have cX := RDec_int (G := G) hG (x := x) (by omega) (by omega)
        have lx := dec_len x.toNat
        rw [cells_next hx hlt2] at hR
        have htb := Tab.cons cX Tab.nil
        repeat' (first | (with_reducible first | apply w1 | apply w2 | apply w3 | apply w4 | apply w5 | apply w6 | apply w7 | apply w8 | apply w9 | apply wa | apply wb | apply wc) | ((with_reducible apply wd); focus decide) | ((with_reducible apply we); focus exact rfl) | ((with_reducible apply wf); focus exact rfl) | ((first | (with_reducible apply SW_run tt_ok hG htb) | ((with_reducible apply SW_draw rfl tt_ok hG htb); (focus kernel_rfl); focus simp only [List.range, List.range.loop, List.size_toArray, List.length_cons, List.length_nil, Nat.reduceAdd])); focus ((repeat' (first | (with_reducible first | exact wg | exact wh) | ((with_reducible first | apply wi | apply wj); focus (simp (discharger := omega) only [go_sem, hrow, hx, tStr, str_append, str_size, List.length_append, List.length_cons, List.length_nil, simprocAttr]; with_reducible rfl)))); done)))
        exact ⟨row.length - (j + 1), _, by omega, Norm.headS (own := []) (keep := [1, 3, 4, 6]) (by refine ⟨?_, ?_⟩; (simp (discharger := omega) only [go_sem, simprocAttr]; with_reducible rfl); refine ⟨?_, ?_, ?_, ?_⟩ <;> (simp only [go_sem, simprocAttr]; with_reducible rfl)), j + 1, _, rfl, rfl, by omega, (by simp only [List.length_append, List.length_cons, List.length_nil]; omega), (by rw [hR]; simp only [List.append_assoc, List.cons_append, List.nil_append])⟩
      · obtain rfl : j = row.length := by omega
        rw [List.drop_length] at hR
        repeat' (first | (with_reducible first | apply w1 | apply w2 | apply w3 | apply w4 | apply w5 | apply w6 | apply w7 | apply w8 | apply w9 | apply wa | apply wb | apply wc) | ((with_reducible apply wd); focus decide) | ((with_reducible apply we); focus exact rfl) | ((with_reducible apply wf); focus exact rfl) | ((first | (with_reducible apply SW_run tt_ok hG htb) | ((with_reducible apply SW_draw rfl tt_ok hG htb); (focus kernel_rfl); focus simp only [List.range, List.range.loop, List.size_toArray, List.length_cons, List.length_nil, Nat.reduceAdd])); focus ((repeat' (first | (with_reducible first | exact wg | exact wh) | ((with_reducible first | apply wi | apply wj); focus (simp (discharger := omega) only [go_sem, hrow, tStr, str_append, str_size, List.length_append, List.length_cons, List.length_nil, simprocAttr]; with_reducible rfl)))); done)))
        exact ⟨nx.length - (i + 1), _, by omega, Norm.headS (own := []) (keep := [1, 3, 4]) (by refine ⟨?_, ?_⟩; (simp (discharger := omega) only [go_sem, simprocAttr]; with_reducible rfl); refine ⟨?_, ?_, ?_, ?_⟩ <;> (simp only [go_sem, simprocAttr]; with_reducible rfl)), i + 1, v ++ [10], rfl, rfl, by omega, (by simp only [List.length_append, List.length_cons, List.length_nil]; omega), (by rw [hR, hrest]; show v ++ ([] ++ 10 :: rest) = _; simp only [List.append_assoc, List.cons_append, List.nil_append])⟩
    · have hsg : [43] = sg := hsg
      subst hsg
      repeat' (first | (with_reducible first | apply w1 | apply w2 | apply w3 | apply w4 | apply w5 | apply w6 | apply w7 | apply w8 | apply w9 | apply wa | apply wb | apply wc) | ((with_reducible apply wd); focus decide) | ((with_reducible apply we); focus exact rfl) | ((with_reducible apply wf); focus exact rfl) | ((first | (with_reducible apply SW_run tt_ok hG htb) | ((with_reducible apply SW_draw rfl tt_ok hG htb); (focus kernel_rfl); focus simp only [List.range, List.range.loop, List.size_toArray, List.length_cons, List.length_nil, Nat.reduceAdd])); focus ((repeat' (first | (with_reducible first | exact wg | exact wh) | ((with_reducible first | apply wi | apply wj); focus (simp (discharger := omega) only [go_sem, he, tStr, str_append, str_size, List.length_append, List.length_cons, List.length_nil, simprocAttr]; with_reducible rfl)))); done)))
      refine SW_loop (fun mm st => ∃ (j : Nat) (v : List UInt8), mm = row.length - j ∧ st = ⟨62, [(1, .bptr 0 0), (3, .t (tStr v)), (4, .t (tNat i)), (6, .t (tNat j))], [.fbox [tInt b, tInt t, tIntss nx, tBools en]]⟩ ∧ j ≤ row.length ∧ v.length ≤ 21 + 200 * i + 4 * j ∧ R = v ++ (cellsB (row.drop j) ++ 10 :: rest)) row.length
        ⟨_, Norm.headS (own := []) (keep := [1, 3, 4, 6]) (by refine ⟨?_, ?_⟩; (simp (discharger := omega) only [go_sem, simprocAttr]; with_reducible rfl); refine ⟨?_, ?_, ?_, ?_⟩ <;> (simp only [go_sem, simprocAttr]; with_reducible rfl)), 0, _, rfl, rfl, Nat.zero_le _, (by simp only [List.length_append, List.length_cons, List.length_nil]; omega), (by rw [hR, List.drop_zero]; simp only [List.append_assoc, List.cons_append, List.nil_append])⟩ ?_
      clear hR
      rintro mm st ⟨j, v, rfl, rfl, hj, hvl, hR⟩
      by_cases hlt2 : j < row.length
      · obtain ⟨x, hx⟩ : ∃ x, row[j]! = x := ⟨_, rfl⟩
        have hxv := hrv x (bang_mem hx hlt2)
        have cX := RDec_int (G := G) hG (x := x) (by omega) (by omega)
        have lx := dec_len x.toNat
        rw [cells_next hx hlt2] at hR
        have htb := Tab.cons cX Tab.nil
        repeat' (first | (with_reducible first | apply w1 | apply w2 | apply w3 | apply w4 | apply w5 | apply w6 | apply w7 | apply w8 | apply w9 | apply wa | apply wb | apply wc) | ((with_reducible apply wd); focus decide) | ((with_reducible apply we); focus exact rfl) | ((with_reducible apply wf); focus exact rfl) | ((first | (with_reducible apply SW_run tt_ok hG htb) | ((with_reducible apply SW_draw rfl tt_ok hG htb); (focus kernel_rfl); focus simp only [List.range, List.range.loop, List.size_toArray, List.length_cons, List.length_nil, Nat.reduceAdd])); focus ((repeat' (first | (with_reducible first | exact wg | exact wh) | ((with_reducible first | apply wi | apply wj); focus (simp (discharger := omega) only [go_sem, hrow, hx, tStr, str_append, str_size, List.length_append, List.length_cons, List.length_nil, simprocAttr]; with_reducible rfl)))); done)))
        exact ⟨row.length - (j + 1), _, by omega, Norm.headS (own := []) (keep := [1, 3, 4, 6]) (by refine ⟨?_, ?_⟩; (simp (discharger := omega) only [go_sem, simprocAttr]; with_reducible rfl); refine ⟨?_, ?_, ?_, ?_⟩ <;> (simp only [go_sem, simprocAttr]; with_reducible rfl)), j + 1, _, rfl, rfl, by omega, (by simp only [List.length_append, List.length_cons, List.length_nil]; omega), (by rw [hR]; simp only [List.append_assoc, List.cons_append, List.nil_append])⟩
      · obtain rfl : j = row.length := by omega
        rw [List.drop_length] at hR
        repeat' (first | (with_reducible first | apply w1 | apply w2 | apply w3 | apply w4 | apply w5 | apply w6 | apply w7 | apply w8 | apply w9 | apply wa | apply wb | apply wc) | ((with_reducible apply wd); focus decide) | ((with_reducible apply we); focus exact rfl) | ((with_reducible apply wf); focus exact rfl) | ((first | (with_reducible apply SW_run tt_ok hG htb) | ((with_reducible apply SW_draw rfl tt_ok hG htb); (focus kernel_rfl); focus simp only [List.range, List.range.loop, List.size_toArray, List.length_cons, List.length_nil, Nat.reduceAdd])); focus ((repeat' (first | (with_reducible first | exact wg | exact wh) | ((with_reducible first | apply wi | apply wj); focus (simp (discharger := omega) only [go_sem, hrow, tStr, str_append, str_size, List.length_append, List.length_cons, List.length_nil, simprocAttr]; with_reducible rfl)))); done)))
        exact ⟨nx.length - (i + 1), _, by omega, Norm.headS (own := []) (keep := [1, 3, 4]) (by refine ⟨?_, ?_⟩; (simp (discharger := omega) only [go_sem, simprocAttr]; with_reducible rfl); refine ⟨?_, ?_, ?_, ?_⟩ <;> (simp only [go_sem, simprocAttr]; with_reducible rfl)), i + 1, v ++ [10], rfl, rfl, by omega, (by simp only [List.length_append, List.length_cons, List.length_nil]; omega), (by rw [hR, hrest]; show v ++ ([] ++ 10 :: rest) = _; simp only [List.append_assoc, List.cons_append, List.nil_append])⟩
  · obtain rfl : i = nx.length := by omega
    rw [List.drop_length] at hR
    have hu : R = u := by
      rw [hR]
      have : rowsB (en.drop nx.length) [] = [] := by cases en.drop nx.length <;> rfl
      rw [this, List.append_nil]
    rw [hu]
    repeat' (first | (with_reducible first | apply w1 | apply w2 | apply w3 | apply w4 | apply w5 | apply w6 | apply w7 | apply w8 | apply w9 | apply wa | apply wb | apply wc) | ((with_reducible apply wd); focus decide) | ((with_reducible apply we); focus exact rfl) | ((with_reducible apply wf); focus exact rfl) | ((first | (with_reducible apply SW_run tt_ok hG htb) | ((with_reducible apply SW_draw rfl tt_ok hG htb); (focus kernel_rfl); focus simp only [List.range, List.range.loop, List.size_toArray, List.length_cons, List.length_nil, Nat.reduceAdd])); focus ((repeat' (first | (with_reducible first | exact wg | exact wh) | ((with_reducible first | apply wi | apply wj); focus (simp (discharger := omega) only [go_sem, tStr, simprocAttr]; with_reducible rfl)))); done)))
    exact (by simp (discharger := omega) only [go_sem, tStr, simprocAttr])
end
end Go.Proofs.YtpgkpbfefnpagaaGreatDoor
namespace Go.Proofs.YtpgkpbfefnpagaaGreatDoor
open Go

theorem cutB_len (c : UInt8) : ∀ s, (cutB c s).length ≤ s.length + 1
  | [] => Nat.le_refl _
  | x :: t => by
    have ih := cutB_len c t
    unfold cutB
    split
    · simp only [List.length_cons]; omega
    · split
      · rename_i h; exact absurd h (cutB_ne c t)
      · rename_i h
        rw [h] at ih
        simp only [List.length_cons] at ih ⊢; omega
theorem cutB_mem (c : UInt8) : ∀ s, ∀ w ∈ cutB c s, w.length ≤ s.length
  | [], w, h => by
    simp only [cutB, List.mem_singleton] at h
    subst h; simp
  | x :: t, w, h => by
    have ih := cutB_mem c t
    unfold cutB at h
    by_cases e : x = c
    · rw [if_pos e] at h
      rcases List.mem_cons.1 h with rfl | h
      · simp
      · have := ih w h; simp only [List.length_cons]; omega
    · rw [if_neg e] at h
      cases hc : cutB c t with
      | nil => exact absurd hc (cutB_ne c t)
      | cons u r =>
        rw [hc] at h ih
        rcases List.mem_cons.1 h with rfl | h
        · have := ih u List.mem_cons_self; simp only [List.length_cons]; omega
        · have := ih w (List.mem_cons_of_mem _ h); simp only [List.length_cons]; omega
theorem str_list (l : List UInt8) : (⟨l.toArray⟩ : ByteArray).toList = l := by
  rw [ByteArray.toList_eq]
theorem allStr : ∀ l : List (List UInt8), (l.all fun _ => true) = true := fun l => by simp
theorem three {l : List Int} (h : l.length = 3) : l = [l[0]!, l[1]!, l[2]!] := by
  match l, h with
  | [a, b, c], _ => rfl
end Go.Proofs.YtpgkpbfefnpagaaGreatDoor
namespace Go.Proofs.YtpgkpbfefnpagaaGreatDoor
open Go.RowKit

section
variable {G : World → Prop} (hG : Lasting G)
include hG
theorem RRadix_snd (base : Int) : Snd Tryz.prog G 27 [tInt base] (tInt (radix base)) := by
  have htb : Tab.ok Tryz.prog G [] := Tab.nil
  refine snd_of_body (n := 12) (tm := [(0, .t (tInt base))]) (rs := [.tmp 2]) tt_ok Tryz.func27 rfl rfl rfl rfl rfl ?_
  unfold radix
  by_cases h1 : base = 1
  · repeat' (first | (with_reducible first | apply w1 | apply w2 | apply w3 | apply w4 | apply w5 | apply w6 | apply w7 | apply w8 | apply w9 | apply wa | apply wb | apply wc) | ((with_reducible apply wd); focus decide) | ((with_reducible apply we); focus exact rfl) | ((with_reducible apply wf); focus exact rfl) | ((first | (with_reducible apply SW_run tt_ok hG htb) | ((with_reducible apply SW_draw rfl tt_ok hG htb); (focus kernel_rfl); focus simp only [List.range, List.range.loop, List.size_toArray, List.length_cons, List.length_nil, Nat.reduceAdd])); focus ((repeat' (first | (with_reducible first | exact wg | exact wh) | ((with_reducible first | apply wi | apply wj); focus (simp (discharger := omega) only [go_sem, h1, simprocAttr]; with_reducible rfl)))); done)))
    exact (by simp (discharger := omega) only [go_sem, h1, simprocAttr])
  · by_cases h2 : 2 ≤ base
    · by_cases h3 : base ≤ 6
      · repeat' (first | (with_reducible first | apply w1 | apply w2 | apply w3 | apply w4 | apply w5 | apply w6 | apply w7 | apply w8 | apply w9 | apply wa | apply wb | apply wc) | ((with_reducible apply wd); focus decide) | ((with_reducible apply we); focus exact rfl) | ((with_reducible apply wf); focus exact rfl) | ((first | (with_reducible apply SW_run tt_ok hG htb) | ((with_reducible apply SW_draw rfl tt_ok hG htb); (focus kernel_rfl); focus simp only [List.range, List.range.loop, List.size_toArray, List.length_cons, List.length_nil, Nat.reduceAdd])); focus ((repeat' (first | (with_reducible first | exact wg | exact wh) | ((with_reducible first | apply wi | apply wj); focus (simp (discharger := omega) only [go_sem, simprocAttr]; with_reducible rfl)))); done)))
        exact (by simp (discharger := omega) only [go_sem, simprocAttr])
      · repeat' (first | (with_reducible first | apply w1 | apply w2 | apply w3 | apply w4 | apply w5 | apply w6 | apply w7 | apply w8 | apply w9 | apply wa | apply wb | apply wc) | ((with_reducible apply wd); focus decide) | ((with_reducible apply we); focus exact rfl) | ((with_reducible apply wf); focus exact rfl) | ((first | (with_reducible apply SW_run tt_ok hG htb) | ((with_reducible apply SW_draw rfl tt_ok hG htb); (focus kernel_rfl); focus simp only [List.range, List.range.loop, List.size_toArray, List.length_cons, List.length_nil, Nat.reduceAdd])); focus ((repeat' (first | (with_reducible first | exact wg | exact wh) | ((with_reducible first | apply wi | apply wj); focus (simp (discharger := omega) only [go_sem, simprocAttr]; with_reducible rfl)))); done)))
        exact (by simp (discharger := omega) only [go_sem, simprocAttr])
    · repeat' (first | (with_reducible first | apply w1 | apply w2 | apply w3 | apply w4 | apply w5 | apply w6 | apply w7 | apply w8 | apply w9 | apply wa | apply wb | apply wc) | ((with_reducible apply wd); focus decide) | ((with_reducible apply we); focus exact rfl) | ((with_reducible apply wf); focus exact rfl) | ((first | (with_reducible apply SW_run tt_ok hG htb) | ((with_reducible apply SW_draw rfl tt_ok hG htb); (focus kernel_rfl); focus simp only [List.range, List.range.loop, List.size_toArray, List.length_cons, List.length_nil, Nat.reduceAdd])); focus ((repeat' (first | (with_reducible first | exact wg | exact wh) | ((with_reducible first | apply wi | apply wj); focus (simp (discharger := omega) only [go_sem, simprocAttr]; with_reducible rfl)))); done)))
      exact (by simp (discharger := omega) only [go_sem, simprocAttr])
end
end Go.Proofs.YtpgkpbfefnpagaaGreatDoor
namespace Go.Proofs.YtpgkpbfefnpagaaGreatDoor
open Go.RowKit

section
variable {G : World → Prop} (hG : Lasting G)
include hG
set_option maxHeartbeats 4000000 in
theorem RLetters_snd (base t : Int) : Snd Tryz.prog G 11 [tInt base, tInt t] (.tup [tInt (manyOf base t), tInt (manyErr base t)]) := by
  have htb := Tab.cons (RRadix_snd hG base) Tab.nil
  refine snd_of_body (n := 32) (tm := [(0, .t (tInt base)), (1, .t (tInt t))]) (rs := [.tmp 4, .tmp 5]) tt_ok Tryz.func11 rfl rfl rfl rfl rfl ?_
  unfold manyOf manyErr
  generalize hk : radix base = k at htb ⊢
  by_cases h1 : k = 0
  · subst h1
    repeat' (first | (with_reducible first | apply w1 | apply w2 | apply w3 | apply w4 | apply w5 | apply w6 | apply w7 | apply w8 | apply w9 | apply wa | apply wb | apply wc) | ((with_reducible apply wd); focus decide) | ((with_reducible apply we); focus exact rfl) | ((with_reducible apply wf); focus exact rfl) | ((first | (with_reducible apply SW_run tt_ok hG htb) | ((with_reducible apply SW_draw rfl tt_ok hG htb); (focus kernel_rfl); focus simp only [List.range, List.range.loop, List.size_toArray, List.length_cons, List.length_nil, Nat.reduceAdd])); focus ((repeat' (first | (with_reducible first | exact wg | exact wh) | ((with_reducible first | apply wi | apply wj); focus (simp (discharger := omega) only [go_sem, simprocAttr]; with_reducible rfl)))); done)))
    exact (by simp (discharger := omega) only [go_sem, simprocAttr])
  · by_cases h2 : t < 0
    · repeat' (first | (with_reducible first | apply w1 | apply w2 | apply w3 | apply w4 | apply w5 | apply w6 | apply w7 | apply w8 | apply w9 | apply wa | apply wb | apply wc) | ((with_reducible apply wd); focus decide) | ((with_reducible apply we); focus exact rfl) | ((with_reducible apply wf); focus exact rfl) | ((first | (with_reducible apply SW_run tt_ok hG htb) | ((with_reducible apply SW_draw rfl tt_ok hG htb); (focus kernel_rfl); focus simp only [List.range, List.range.loop, List.size_toArray, List.length_cons, List.length_nil, Nat.reduceAdd])); focus ((repeat' (first | (with_reducible first | exact wg | exact wh) | ((with_reducible first | apply wi | apply wj); focus (simp (discharger := omega) only [go_sem, simprocAttr]; with_reducible rfl)))); done)))
      exact (by simp (discharger := omega) only [go_sem, simprocAttr])
    · by_cases h3 : 5 < t
      · repeat' (first | (with_reducible first | apply w1 | apply w2 | apply w3 | apply w4 | apply w5 | apply w6 | apply w7 | apply w8 | apply w9 | apply wa | apply wb | apply wc) | ((with_reducible apply wd); focus decide) | ((with_reducible apply we); focus exact rfl) | ((with_reducible apply wf); focus exact rfl) | ((first | (with_reducible apply SW_run tt_ok hG htb) | ((with_reducible apply SW_draw rfl tt_ok hG htb); (focus kernel_rfl); focus simp only [List.range, List.range.loop, List.size_toArray, List.length_cons, List.length_nil, Nat.reduceAdd])); focus ((repeat' (first | (with_reducible first | exact wg | exact wh) | ((with_reducible first | apply wi | apply wj); focus (simp (discharger := omega) only [go_sem, simprocAttr]; with_reducible rfl)))); done)))
        exact (by simp (discharger := omega) only [go_sem, simprocAttr])
      · obtain ⟨r2, r6⟩ := radix_two (b := base) (by omega)
        rw [hk] at r2 r6
        obtain ⟨t, rfl⟩ := Int.eq_ofNat_of_zero_le (show 0 ≤ t by omega)
        rw [show (if k = 0 ∨ (t : Int) < 0 ∨ 5 < (t : Int) then (1 : Int) else if 36 < powW k (t : Int).toNat then 3 else 0) = if 36 < powW k t then 3 else 0 by rw [if_neg (by omega)]; rfl]
        repeat' (first | (with_reducible first | apply w1 | apply w2 | apply w3 | apply w4 | apply w5 | apply w6 | apply w7 | apply w8 | apply w9 | apply wa | apply wb | apply wc) | ((with_reducible apply wd); focus decide) | ((with_reducible apply we); focus exact rfl) | ((with_reducible apply wf); focus exact rfl) | ((first | (with_reducible apply SW_run tt_ok hG htb) | ((with_reducible apply SW_draw rfl tt_ok hG htb); (focus kernel_rfl); focus simp only [List.range, List.range.loop, List.size_toArray, List.length_cons, List.length_nil, Nat.reduceAdd])); focus ((repeat' (first | (with_reducible first | exact wg | exact wh) | ((with_reducible first | apply wi | apply wj); focus (simp (discharger := omega) only [go_sem, simprocAttr]; with_reducible rfl)))); done)))
        refine SW_loop (fun m s => ∃ i : Nat, m = t - i ∧ s = ⟨32, [(1, .t (tInt t)), (6, .t (tInt k)), (7, .t (tInt (powW k i))), (8, .t (tInt i))], []⟩ ∧ i ≤ t) t ⟨_, Norm.headS (own := []) (keep := [1, 6, 7, 8]) (by refine ⟨?_, ?_⟩; (simp (discharger := omega) only [go_sem, simprocAttr]; with_reducible rfl); refine ⟨?_, ?_, ?_, ?_⟩ <;> (simp only [go_sem, simprocAttr]; with_reducible rfl)), 0, rfl, rfl, Nat.zero_le _⟩ ?_
        rintro m s ⟨i, rfl, rfl, hi⟩
        have hb := powW_bd r2 r6 (j := i) (by omega)
        by_cases hlt : i < t
        · have hb1 : 1 ≤ powW k i * k ∧ powW k i * k ≤ 7776 := powW_bd r2 r6 (j := i + 1) (by omega)
          repeat' (first | (with_reducible first | apply w1 | apply w2 | apply w3 | apply w4 | apply w5 | apply w6 | apply w7 | apply w8 | apply w9 | apply wa | apply wb | apply wc) | ((with_reducible apply wd); focus decide) | ((with_reducible apply we); focus exact rfl) | ((with_reducible apply wf); focus exact rfl) | ((first | (with_reducible apply SW_run tt_ok hG htb) | ((with_reducible apply SW_draw rfl tt_ok hG htb); (focus kernel_rfl); focus simp only [List.range, List.range.loop, List.size_toArray, List.length_cons, List.length_nil, Nat.reduceAdd])); focus ((repeat' (first | (with_reducible first | exact wg | exact wh) | ((with_reducible first | apply wi | apply wj); focus (simp (discharger := omega) only [go_sem, simprocAttr]; with_reducible rfl)))); done)))
          exact ⟨t - (i + 1), _, by omega, Norm.headS (own := []) (keep := [1, 6, 7, 8]) (by refine ⟨?_, ?_⟩; (simp (discharger := omega) only [go_sem, simprocAttr]; with_reducible rfl); refine ⟨?_, ?_, ?_, ?_⟩ <;> (simp only [go_sem, simprocAttr]; with_reducible rfl)), i + 1, rfl, rfl, by omega⟩
        · obtain rfl : i = t := by omega
          by_cases h36 : 36 < powW k i
          · repeat' (first | (with_reducible first | apply w1 | apply w2 | apply w3 | apply w4 | apply w5 | apply w6 | apply w7 | apply w8 | apply w9 | apply wa | apply wb | apply wc) | ((with_reducible apply wd); focus decide) | ((with_reducible apply we); focus exact rfl) | ((with_reducible apply wf); focus exact rfl) | ((first | (with_reducible apply SW_run tt_ok hG htb) | ((with_reducible apply SW_draw rfl tt_ok hG htb); (focus kernel_rfl); focus simp only [List.range, List.range.loop, List.size_toArray, List.length_cons, List.length_nil, Nat.reduceAdd])); focus ((repeat' (first | (with_reducible first | exact wg | exact wh) | ((with_reducible first | apply wi | apply wj); focus (simp (discharger := omega) only [go_sem, simprocAttr]; with_reducible rfl)))); done)))
            exact (by simp (discharger := omega) only [go_sem, simprocAttr])
          · repeat' (first | (with_reducible first | apply w1 | apply w2 | apply w3 | apply w4 | apply w5 | apply w6 | apply w7 | apply w8 | apply w9 | apply wa | apply wb | apply wc) | ((with_reducible apply wd); focus decide) | ((with_reducible apply we); focus exact rfl) | ((with_reducible apply wf); focus exact rfl) | ((first | (with_reducible apply SW_run tt_ok hG htb) | ((with_reducible apply SW_draw rfl tt_ok hG htb); (focus kernel_rfl); focus simp only [List.range, List.range.loop, List.size_toArray, List.length_cons, List.length_nil, Nat.reduceAdd])); focus ((repeat' (first | (with_reducible first | exact wg | exact wh) | ((with_reducible first | apply wi | apply wj); focus (simp (discharger := omega) only [go_sem, simprocAttr]; with_reducible rfl)))); done)))
            exact (by simp (discharger := omega) only [go_sem, simprocAttr])
end
end Go.Proofs.YtpgkpbfefnpagaaGreatDoor
namespace Go.Proofs.YtpgkpbfefnpagaaGreatDoor
open Go.RowKit

section
variable {G : World → Prop} (hG : Lasting G)
include hG
set_option maxHeartbeats 16000000 in
theorem ReadTape_snd (s : List UInt8) (hs : s.length ≤ 1500000) : Snd Tryz.prog G 8 [tStr s] (.tup [tAuto (readTape s).1, tInt (readTape s).2.1, tInt (readTape s).2.2]) := by
  obtain ⟨lines, hlines⟩ : ∃ l, cutB 10 s = l := ⟨_, rfl⟩
  obtain ⟨hd, ls, hcons⟩ : ∃ hd ls, lines = hd :: ls := by
    cases h : lines with
    | nil => exact absurd (hlines.trans h) (cutB_ne _ _)
    | cons a b => exact ⟨a, b, rfl⟩
  have hll := cutB_len 10 s
  have hlw := cutB_mem 10 s
  rw [hlines] at hll hlw
  have hd0 : lines[0]! = hd := by rw [hcons]; rfl
  have hhd : hd.length ≤ s.length := hlw hd (by rw [hcons]; exact List.mem_cons_self)
  have c1 : Snd Tryz.prog G 20 [tStr s, .int .u8 10] (tStrs (cutB 10 s)) := RSplit_snd hG s 10 (by omega)
  rw [hlines] at c1
  obtain ⟨W, hW⟩ : ∃ l, cutB 32 hd = l := ⟨_, rfl⟩
  have hWl := cutB_len 32 hd
  have hWw := cutB_mem 32 hd
  rw [hW] at hWl hWw
  have c2 : Snd Tryz.prog G 20 [tStr hd, .int .u8 32] (tStrs (cutB 32 hd)) := RSplit_snd hG hd 32 (by omega)
  rw [hW] at c2
  have c3 := Rsmalls_snd (G := G) hG W (by omega) (fun w hw => by have := hWw w hw; omega)
  obtain ⟨ok, hok⟩ : ∃ ok, smallsOk W = ok := ⟨_, rfl⟩
  obtain ⟨h, hh⟩ : ∃ h, smallsL W = h := ⟨_, rfl⟩
  rw [hok, hh] at c3
  have hlt := smallsL_lt (l := W)
  have hhl := smallsL_le W
  rw [hh] at hlt hhl
  have hR1 : readTape s = readHead ls h := by
    unfold readTape
    rw [hlines, hcons]
    simp only [hW, hh]
  obtain ⟨⟨ra, rk, re⟩, hR⟩ : ∃ r, readTape s = r := ⟨_, rfl⟩
  rw [hR] at hR1 ⊢
  simp only
  have bad : ∀ k e, (ra, rk, re) = (GAuto.zero, k, e) → ra = ⟨0, 0, [], []⟩ ∧ rk = k ∧ re = e := fun k e q => by
    injection q with q1 q2
    injection q2 with q2 q3
    exact ⟨q1, q2, q3⟩
  have htb := Tab.cons c1 Tab.nil
  refine snd_of_body (n := 171) (tm := [(0, .t (tStr s))]) (rs := [.cell 2 25, .tmp 3, .tmp 4]) tt_ok Tryz.func8 rfl rfl rfl rfl rfl ?_
  repeat' (first | (with_reducible first | apply w1 | apply w2 | apply w3 | apply w4 | apply w5 | apply w6 | apply w7 | apply w8 | apply w9 | apply wa | apply wb | apply wc) | ((with_reducible apply wd); focus decide) | ((with_reducible apply we); focus exact rfl) | ((with_reducible apply wf); focus exact rfl) | ((first | (with_reducible apply SW_run tt_ok hG htb) | ((with_reducible apply SW_draw rfl tt_ok hG htb); (focus kernel_rfl); focus simp only [List.range, List.range.loop, List.size_toArray, List.length_cons, List.length_nil, Nat.reduceAdd])); focus ((repeat' (first | (with_reducible first | exact wg | exact wh) | ((with_reducible first | apply wi | apply wj); focus (simp (discharger := omega) only [go_sem, tStr, tStrs, simprocAttr]; with_reducible rfl)))); done)))
  clear htb
  have htb := Tab.cons c2 (Tab.cons c3 Tab.nil)
  have hlc : lines.length = ls.length + 1 := by rw [hcons]; rfl
  clear hlines hW hWw c1 c2 c3
  by_cases hok' : ok = true
  rotate_left
  · have hok2 : ok = false := by simpa using hok'
    have hn : h = [] := by rw [← hh]; unfold smallsL; rw [hok, hok2]; rfl
    rw [hn] at hR1
    obtain ⟨rfl, rfl, rfl⟩ := bad 0 5 (hR1.trans (readHead_no (by decide)))
    subst hok2
    repeat' (first | (with_reducible first | apply w1 | apply w2 | apply w3 | apply w4 | apply w5 | apply w6 | apply w7 | apply w8 | apply w9 | apply wa | apply wb | apply wc) | ((with_reducible apply wd); focus decide) | ((with_reducible apply we); focus exact rfl) | ((with_reducible apply wf); focus exact rfl) | ((first | (with_reducible apply SW_run tt_ok hG htb) | ((with_reducible apply SW_draw rfl tt_ok hG htb); (focus kernel_rfl); focus simp only [List.range, List.range.loop, List.size_toArray, List.length_cons, List.length_nil, Nat.reduceAdd])); focus ((repeat' (first | (with_reducible first | exact wg | exact wh) | ((with_reducible first | apply wi | apply wj); focus (simp (discharger := omega) only [go_sem, tStrs, tStr, hd0, simprocAttr]; with_reducible rfl)))); done)))
    exact (by simp (discharger := omega) only [go_sem, tAuto, simprocAttr])
  subst hok'
  by_cases h3 : h.length = 3
  rotate_left
  · have hR2 := hR1.trans (readHead_no h3)
    obtain ⟨rfl, rfl, rfl⟩ := bad _ _ hR2
    repeat' (first | (with_reducible first | apply w1 | apply w2 | apply w3 | apply w4 | apply w5 | apply w6 | apply w7 | apply w8 | apply w9 | apply wa | apply wb | apply wc) | ((with_reducible apply wd); focus decide) | ((with_reducible apply we); focus exact rfl) | ((with_reducible apply wf); focus exact rfl) | ((first | (with_reducible apply SW_run tt_ok hG htb) | ((with_reducible apply SW_draw rfl tt_ok hG htb); (focus kernel_rfl); focus simp only [List.range, List.range.loop, List.size_toArray, List.length_cons, List.length_nil, Nat.reduceAdd])); focus ((repeat' (first | (with_reducible first | exact wg | exact wh) | ((with_reducible first | apply wi | apply wj); focus (simp (discharger := omega) only [go_sem, tStrs, tStr, hd0, simprocAttr]; with_reducible rfl)))); done)))
    exact (by simp (discharger := omega) only [go_sem, tAuto, simprocAttr])
  by_cases h2 : lines.length < 2
  · have hR2 : (ra, rk, re) = (GAuto.zero, 0, 5) := by
      have : ls = [] := List.eq_nil_of_length_eq_zero (by omega)
      rw [hR1, this, readHead_nil]
    obtain ⟨rfl, rfl, rfl⟩ := bad _ _ hR2
    repeat' (first | (with_reducible first | apply w1 | apply w2 | apply w3 | apply w4 | apply w5 | apply w6 | apply w7 | apply w8 | apply w9 | apply wa | apply wb | apply wc) | ((with_reducible apply wd); focus decide) | ((with_reducible apply we); focus exact rfl) | ((with_reducible apply wf); focus exact rfl) | ((first | (with_reducible apply SW_run tt_ok hG htb) | ((with_reducible apply SW_draw rfl tt_ok hG htb); (focus kernel_rfl); focus simp only [List.range, List.range.loop, List.size_toArray, List.length_cons, List.length_nil, Nat.reduceAdd])); focus ((repeat' (first | (with_reducible first | exact wg | exact wh) | ((with_reducible first | apply wi | apply wj); focus (simp (discharger := omega) only [go_sem, tStrs, tStr, hd0, h3, simprocAttr]; with_reducible rfl)))); done)))
    exact (by simp (discharger := omega) only [go_sem, tAuto, simprocAttr])
  obtain ⟨b, hb⟩ : ∃ b, h[0]! = b := ⟨_, rfl⟩
  obtain ⟨t, ht⟩ : ∃ b, h[1]! = b := ⟨_, rfl⟩
  obtain ⟨n, hn⟩ : ∃ b, h[2]! = b := ⟨_, rfl⟩
  have hh3 := three h3
  rw [hb, ht, hn] at hh3
  have hb1 := hlt b (by rw [hh3]; simp)
  have ht1 := hlt t (by rw [hh3]; simp)
  have hn1 := hlt n (by rw [hh3]; simp)
  have hR2 : (ra, rk, re) = if manyErr b t = 0 then (if n = 0 then (GAuto.zero, 0, 4) else if 80 < n then (GAuto.zero, 0, 3) else readRows b t (manyOf b t) n n.toNat 0 ls [] []) else (GAuto.zero, 0, manyErr b t) := by
    rw [hR1, hh3]
    exact readHead_three (fun q => by rw [q] at hlc; simp at hlc; omega) b t n
  clear hR1 hlt hh3
  have c4 := RLetters_snd (G := G) hG b t
  obtain ⟨e, he⟩ : ∃ e, manyErr b t = e := ⟨_, rfl⟩
  obtain ⟨L, hL⟩ : ∃ L, manyOf b t = L := ⟨_, rfl⟩
  rw [he, hL] at c4
  rw [he, hL] at hR2
  repeat' (first | (with_reducible first | apply w1 | apply w2 | apply w3 | apply w4 | apply w5 | apply w6 | apply w7 | apply w8 | apply w9 | apply wa | apply wb | apply wc) | ((with_reducible apply wd); focus decide) | ((with_reducible apply we); focus exact rfl) | ((with_reducible apply wf); focus exact rfl) | ((first | (with_reducible apply SW_run tt_ok hG htb) | ((with_reducible apply SW_draw rfl tt_ok hG htb); (focus kernel_rfl); focus simp only [List.range, List.range.loop, List.size_toArray, List.length_cons, List.length_nil, Nat.reduceAdd])); focus ((repeat' (first | (with_reducible first | exact wg | exact wh) | ((with_reducible first | apply wi | apply wj); focus (simp (discharger := omega) only [go_sem, tStrs, tStr, hd0, h3, simprocAttr]; with_reducible rfl)))); done)))
  clear htb
  have htb := Tab.cons c4 Tab.nil
  by_cases e0 : e = 0
  rotate_left
  · rw [if_neg e0] at hR2
    obtain ⟨rfl, rfl, rfl⟩ := bad _ _ hR2
    repeat' (first | (with_reducible first | apply w1 | apply w2 | apply w3 | apply w4 | apply w5 | apply w6 | apply w7 | apply w8 | apply w9 | apply wa | apply wb | apply wc) | ((with_reducible apply wd); focus decide) | ((with_reducible apply we); focus exact rfl) | ((with_reducible apply wf); focus exact rfl) | ((first | (with_reducible apply SW_run tt_ok hG htb) | ((with_reducible apply SW_draw rfl tt_ok hG htb); (focus kernel_rfl); focus simp only [List.range, List.range.loop, List.size_toArray, List.length_cons, List.length_nil, Nat.reduceAdd])); focus ((repeat' (first | (with_reducible first | exact wg | exact wh) | ((with_reducible first | apply wi | apply wj); focus (simp (discharger := omega) only [go_sem, hb, ht, e0, simprocAttr]; with_reducible rfl)))); done)))
    exact (by simp (discharger := omega) only [go_sem, tAuto, simprocAttr])
  subst e0
  rw [if_pos rfl] at hR2
  by_cases hn0 : n = 0
  · rw [if_pos hn0] at hR2
    obtain ⟨rfl, rfl, rfl⟩ := bad _ _ hR2
    subst hn0
    repeat' (first | (with_reducible first | apply w1 | apply w2 | apply w3 | apply w4 | apply w5 | apply w6 | apply w7 | apply w8 | apply w9 | apply wa | apply wb | apply wc) | ((with_reducible apply wd); focus decide) | ((with_reducible apply we); focus exact rfl) | ((with_reducible apply wf); focus exact rfl) | ((first | (with_reducible apply SW_run tt_ok hG htb) | ((with_reducible apply SW_draw rfl tt_ok hG htb); (focus kernel_rfl); focus simp only [List.range, List.range.loop, List.size_toArray, List.length_cons, List.length_nil, Nat.reduceAdd])); focus ((repeat' (first | (with_reducible first | exact wg | exact wh) | ((with_reducible first | apply wi | apply wj); focus (simp (discharger := omega) only [go_sem, hb, ht, hn, simprocAttr]; with_reducible rfl)))); done)))
    exact (by simp (discharger := omega) only [go_sem, tAuto, simprocAttr])
  rw [if_neg hn0] at hR2
  have hn0' : ¬ (n = 0) := hn0
  by_cases h80 : 80 < n
  · rw [if_pos h80] at hR2
    obtain ⟨rfl, rfl, rfl⟩ := bad _ _ hR2
    repeat' (first | (with_reducible first | apply w1 | apply w2 | apply w3 | apply w4 | apply w5 | apply w6 | apply w7 | apply w8 | apply w9 | apply wa | apply wb | apply wc) | ((with_reducible apply wd); focus decide) | ((with_reducible apply we); focus exact rfl) | ((with_reducible apply wf); focus exact rfl) | ((first | (with_reducible apply SW_run tt_ok hG htb) | ((with_reducible apply SW_draw rfl tt_ok hG htb); (focus kernel_rfl); focus simp only [List.range, List.range.loop, List.size_toArray, List.length_cons, List.length_nil, Nat.reduceAdd])); focus ((repeat' (first | (with_reducible first | exact wg | exact wh) | ((with_reducible first | apply wi | apply wj); focus (simp (discharger := omega) only [go_sem, hb, ht, hn, hn0', simprocAttr]; with_reducible rfl)))); done)))
    exact (by simp (discharger := omega) only [go_sem, tAuto, simprocAttr])
  rw [if_neg h80] at hR2
  repeat' (first | (with_reducible first | apply w1 | apply w2 | apply w3 | apply w4 | apply w5 | apply w6 | apply w7 | apply w8 | apply w9 | apply wa | apply wb | apply wc) | ((with_reducible apply wd); focus decide) | ((with_reducible apply we); focus exact rfl) | ((with_reducible apply wf); focus exact rfl) | ((first | (with_reducible apply SW_run tt_ok hG htb) | ((with_reducible apply SW_draw rfl tt_ok hG htb); (focus kernel_rfl); focus simp only [List.range, List.range.loop, List.size_toArray, List.length_cons, List.length_nil, Nat.reduceAdd])); focus ((repeat' (first | (with_reducible first | exact wg | exact wh) | ((with_reducible first | apply wi | apply wj); focus (simp (discharger := omega) only [go_sem, hb, ht, hn, hn0', simprocAttr]; with_reducible rfl)))); done)))
  have hL36 : L ≤ 36 := by
    rw [← hL, (many_ok he).2.2.2.2]; exact (many_ok he).2.2.2.1
  have hLn : L.toNat ≤ 36 := by omega
  have hmeas := he
  clear hmeas he hb1 ht1 hR c4 htb hb ht
  obtain ⟨N, hN⟩ : ∃ N : Nat, n.toNat = N := ⟨_, rfl⟩
  have hnN : n = (N : Int) := by omega
  have hls : lines.drop 1 = ls := by rw [hcons]; rfl
  rw [hN, ← hls] at hR2
  clear hcons hls hd0 hhd hWl hlc
  refine SW_loop (fun mm st => ∃ (j : Nat) (nx : List (List Int)) (en : List Bool) (nt et : List T), mm = N + 1 - j ∧ st = ⟨171, [(2, .bptr 0 0), (5, .t (tStrs lines)), (6, .t (tInts h)), (8, .t (tInt L)), (10, .bptr 1 0), (11, .t (tNat j))], [.box [.t (tInt 0), .t (tInt 0), .nil, .nil], .box [.t (tInt b), .t (tInt t), .sref 2, .sref 3], .row 42 1 true nt, .row 4 1 true et]⟩ ∧
      nt = nx.map tInts ∧ et = en.map T.bool ∧ nx.length + 1 = j ∧ en.length + 1 = j ∧ j ≤ N + 1 ∧ j < lines.length ∧ (ra, rk, re) = readRows b t L n (N + 1 - j) (j - 1) (lines.drop j) nx en) N
    ⟨_, (Norm.ownB (j := 1) (off := 2) (e := 42) (sz := 1) rfl rfl Nat.one_pos).trans ((Norm.ownB (j := 1) (off := 3) (e := 4) (sz := 1) rfl rfl Nat.one_pos).trans (Norm.headS (own := []) (keep := [2, 5, 6, 8, 10, 11]) (by refine ⟨?_, ?_⟩; (simp (discharger := omega) only [go_sem, simprocAttr]; with_reducible rfl); refine ⟨?_, ?_, ?_, ?_⟩ <;> (simp only [go_sem, simprocAttr]; with_reducible rfl)))), 1, [], [], _, _, rfl, rfl, rfl, rfl, rfl, rfl, by omega, by omega, hR2⟩ ?_
  clear hR2
  rintro mm st ⟨j, nx, en, nt, et, rfl, rfl, hnt, het, hjx, hje, hjN, hjl, hR⟩
  have hntl : nt.length = nx.length := by rw [hnt]; simp
  have hetl : et.length = en.length := by rw [het]; simp
  have htb : Tab.ok Tryz.prog G [] := Tab.nil
  have hdj : lines.drop j = lines[j]! :: lines.drop (j + 1) := by rw [List.drop_eq_getElem_cons hjl, getElem!_pos lines j hjl]
  by_cases hlt : j ≤ N
  · obtain ⟨w, hw⟩ : ∃ w, lines[j]! = w := ⟨_, rfl⟩
    obtain ⟨k, hk⟩ : ∃ k, N + 1 - j = k + 1 := ⟨N - j, by omega⟩
    have hj1 : ((j - 1 : Nat) : Int) + 1 = ((j : Nat) : Int) := by omega
    rw [hdj, hw, hk] at hR
    have hR : (ra, rk, re) = if lines.drop (j + 1) = [] then (GAuto.zero, ((j - 1 : Nat) : Int) + 1, 5) else if lineFault L n w = 0 then readRows b t L n k (j - 1 + 1) (lines.drop (j + 1)) (nx ++ [lineRow w]) (en ++ [lineEnd w]) else (GAuto.zero, ((j - 1 : Nat) : Int) + 1, lineFault L n w) := hR
    rw [hj1] at hR
    by_cases hend : lines.length < j + 2
    · rw [if_pos (List.drop_of_length_le (by omega))] at hR
      obtain ⟨rfl, rfl, rfl⟩ := bad _ _ hR
      repeat' (first | (with_reducible first | apply w1 | apply w2 | apply w3 | apply w4 | apply w5 | apply w6 | apply w7 | apply w8 | apply w9 | apply wa | apply wb | apply wc) | ((with_reducible apply wd); focus decide) | ((with_reducible apply we); focus exact rfl) | ((with_reducible apply wf); focus exact rfl) | ((first | (with_reducible apply SW_run tt_ok hG htb) | ((with_reducible apply SW_draw rfl tt_ok hG htb); (focus kernel_rfl); focus simp only [List.range, List.range.loop, List.size_toArray, List.length_cons, List.length_nil, Nat.reduceAdd])); focus ((repeat' (first | (with_reducible first | exact wg | exact wh) | ((with_reducible first | apply wi | apply wj); focus (simp (discharger := omega) only [go_sem, hn, tStrs, simprocAttr]; with_reducible rfl)))); done)))
      exact (by simp (discharger := omega) only [go_sem, tAuto, simprocAttr])
    · rw [if_neg (fun q => by have := congrArg List.length q; rw [List.length_drop] at this; simp at this; omega)] at hR
      have hwl := hlw w (bang_mem hw hjl)
      obtain ⟨sg, ws, hsw⟩ : ∃ sg ws, cutB 32 w = sg :: ws := by
        cases h : cutB 32 w with
        | nil => exact absurd h (cutB_ne _ _)
        | cons a b => exact ⟨a, b, rfl⟩
      have hwn := cutB_len 32 w
      have hwm := cutB_mem 32 w
      rw [hsw, List.length_cons] at hwn
      rw [hsw] at hwm
      have d1 : Snd Tryz.prog G 20 [tStr w, .int .u8 32] (tStrs (cutB 32 w)) := RSplit_snd hG w 32 (by omega)
      rw [hsw] at d1
      have d2 := Rsmalls_snd (G := G) hG ws (by omega) (fun u hu => by have := hwm u (List.mem_cons_of_mem _ hu); omega)
      have hlF : lineFault L n w = if smallsOk ws = true ∧ ((smallsL ws).length : Int) = L ∧ (sg = [43] ∨ sg = [45]) then (if (smallsL ws).all (fun t => decide (t < n)) = true then 0 else 1) else 5 := by
        unfold lineFault
        simp only [hsw, List.tail_cons, List.head?_cons, Option.some.injEq]
      have hlR : lineRow w = smallsL ws := by unfold lineRow; rw [hsw, List.tail_cons]
      have hlE : lineEnd w = decide (sg = [43]) := by unfold lineEnd; simp only [hsw, List.head?_cons, Option.some.injEq]
      rw [hlR, hlE] at hR
      have htkw : List.take ws.length (List.map tStr ws) = List.map tStr ws := List.take_of_length_le (by simp)
      have hwb := smallsL_lt (l := ws)
      obtain ⟨okr, hokr⟩ : ∃ x, smallsOk ws = x := ⟨_, rfl⟩
      obtain ⟨row, hrow⟩ : ∃ x, smallsL ws = x := ⟨_, rfl⟩
      rw [hokr, hrow] at d2
      rw [hokr, hrow] at hlF
      rw [hrow] at hR hwb
      clear hlR hlE hwm hwn
      obtain ⟨F, hF⟩ : ∃ F, lineFault L n w = F := ⟨_, rfl⟩
      rw [hF] at hR hlF
      have five : ¬ (okr = true ∧ ((row.length : Nat) : Int) = L ∧ (sg = [43] ∨ sg = [45])) → (ra, rk, re) = (GAuto.zero, ((j : Nat) : Int), 5) := fun q => by
        rw [if_neg q] at hlF
        rw [hlF, if_neg (by decide)] at hR
        exact hR
      clear hsw
      have htb := Tab.cons d1 (Tab.cons d2 Tab.nil)
      cases okr
      · obtain ⟨rfl, rfl, rfl⟩ := bad _ _ (five (fun q => by cases q.1))
        repeat' (first | (with_reducible first | apply w1 | apply w2 | apply w3 | apply w4 | apply w5 | apply w6 | apply w7 | apply w8 | apply w9 | apply wa | apply wb | apply wc) | ((with_reducible apply wd); focus decide) | ((with_reducible apply we); focus exact rfl) | ((with_reducible apply wf); focus exact rfl) | ((first | (with_reducible apply SW_run tt_ok hG htb) | ((with_reducible apply SW_draw rfl tt_ok hG htb); (focus kernel_rfl); focus simp only [List.range, List.range.loop, List.size_toArray, List.length_cons, List.length_nil, Nat.reduceAdd])); focus ((repeat' (first | (with_reducible first | exact wg | exact wh) | ((with_reducible first | apply wi | apply wj); focus (simp (discharger := omega) only [go_sem, hn, Function.comp_def, allStr, htkw, tStrs, tStr, hw, simprocAttr]; with_reducible rfl)))); done)))
        exact (by simp (discharger := omega) only [go_sem, tAuto, simprocAttr])
      by_cases hrl : ((row.length : Nat) : Int) = L
      rotate_left
      · obtain ⟨rfl, rfl, rfl⟩ := bad _ _ (five (fun q => hrl q.2.1))
        repeat' (first | (with_reducible first | apply w1 | apply w2 | apply w3 | apply w4 | apply w5 | apply w6 | apply w7 | apply w8 | apply w9 | apply wa | apply wb | apply wc) | ((with_reducible apply wd); focus decide) | ((with_reducible apply we); focus exact rfl) | ((with_reducible apply wf); focus exact rfl) | ((first | (with_reducible apply SW_run tt_ok hG htb) | ((with_reducible apply SW_draw rfl tt_ok hG htb); (focus kernel_rfl); focus simp only [List.range, List.range.loop, List.size_toArray, List.length_cons, List.length_nil, Nat.reduceAdd])); focus ((repeat' (first | (with_reducible first | exact wg | exact wh) | ((with_reducible first | apply wi | apply wj); focus (simp (discharger := omega) only [go_sem, hn, Function.comp_def, allStr, htkw, tStrs, tStr, hw, simprocAttr]; with_reducible rfl)))); done)))
        exact (by simp (discharger := omega) only [go_sem, tAuto, simprocAttr])
      by_cases hsg : ¬ (sg = [43] ∨ sg = [45])
      · obtain ⟨rfl, rfl, rfl⟩ := bad _ _ (five (fun q => hsg q.2.2))
        have hq1 : (sg == [43]) = false := by simpa using fun q => hsg (.inl q)
        have hq2 : (sg == [45]) = false := by simpa using fun q => hsg (.inr q)
        repeat' (first | (with_reducible first | apply w1 | apply w2 | apply w3 | apply w4 | apply w5 | apply w6 | apply w7 | apply w8 | apply w9 | apply wa | apply wb | apply wc) | ((with_reducible apply wd); focus decide) | ((with_reducible apply we); focus exact rfl) | ((with_reducible apply wf); focus exact rfl) | ((first | (with_reducible apply SW_run tt_ok hG htb) | ((with_reducible apply SW_draw rfl tt_ok hG htb); (focus kernel_rfl); focus simp only [List.range, List.range.loop, List.size_toArray, List.length_cons, List.length_nil, Nat.reduceAdd])); focus ((repeat' (first | (with_reducible first | exact wg | exact wh) | ((with_reducible first | apply wi | apply wj); focus (simp (discharger := omega) only [go_sem, hn, Function.comp_def, allStr, htkw, tStrs, tStr, hw, hrl, str_list, hq1, hq2, simprocAttr]; with_reducible rfl)))); done)))
        exact (by simp (discharger := omega) only [go_sem, tAuto, simprocAttr])
      have hsg : sg = [43] ∨ sg = [45] := Decidable.not_not.1 hsg
      rw [if_pos ⟨rfl, hrl, hsg⟩] at hlF
      repeat' (first | (with_reducible first | apply w1 | apply w2 | apply w3 | apply w4 | apply w5 | apply w6 | apply w7 | apply w8 | apply w9 | apply wa | apply wb | apply wc) | ((with_reducible apply wd); focus decide) | ((with_reducible apply we); focus exact rfl) | ((with_reducible apply wf); focus exact rfl) | ((first | (with_reducible apply SW_run tt_ok hG htb) | ((with_reducible apply SW_draw rfl tt_ok hG htb); (focus kernel_rfl); focus simp only [List.range, List.range.loop, List.size_toArray, List.length_cons, List.length_nil, Nat.reduceAdd])); focus ((repeat' (first | (with_reducible first | exact wg | exact wh) | ((with_reducible first | apply wi | apply wj); focus (simp (discharger := omega) only [go_sem, hn, Function.comp_def, allStr, htkw, tStrs, tStr, hw, hrl, simprocAttr]; with_reducible rfl)))); done)))
      refine SW_meet2 ⟨171, [(2, .bptr 0 0), (5, .t (tStrs lines)), (6, .t (tInts h)), (8, .t (tInt L)), (10, .bptr 1 0), (11, .t (tNat j)), (12, .t (tStrs (sg :: ws))), (13, .t (tInts row))], [.box [.t (tInt 0), .t (tInt 0), .nil, .nil], .box [.t (tInt b), .t (tInt t), .sref 2, .sref 3], .row 42 1 true nt, .row 4 1 true et]⟩ Weak.sw ?_ ?_
      · clear hlF hR five
        rcases hsg with rfl | rfl
        · have hq1 : ([43] == ([43] : List UInt8)) = true := rfl
          repeat' (first | (with_reducible first | apply w1 | apply w2 | apply w3 | apply w4 | apply w5 | apply w6 | apply w7 | apply w8 | apply w9 | apply wa | apply wb | apply wc) | ((with_reducible apply wd); focus decide) | ((with_reducible apply we); focus exact rfl) | ((with_reducible apply wf); focus exact rfl) | ((first | (with_reducible apply SW_run tt_ok hG htb) | ((with_reducible apply SW_draw rfl tt_ok hG htb); (focus kernel_rfl); focus simp only [List.range, List.range.loop, List.size_toArray, List.length_cons, List.length_nil, Nat.reduceAdd])); focus ((repeat' (first | (with_reducible first | exact wg | exact wh) | ((with_reducible first | apply wi | apply wj); focus (simp (discharger := omega) only [go_sem, hn, tStrs, tStr, hw, hrl, str_list, hq1, simprocAttr]; with_reducible rfl)))); done)))
          exact Meet.h ⟨_, Norm.headS (own := []) (keep := [2, 5, 6, 8, 10, 11, 12, 13]) (by refine ⟨?_, ?_⟩; (simp (discharger := omega) only [go_sem, simprocAttr]; with_reducible rfl); refine ⟨?_, ?_, ?_, ?_⟩ <;> (simp only [go_sem, simprocAttr]; with_reducible rfl)), rfl⟩
        · have hq1 : ([45] == ([43] : List UInt8)) = false := rfl
          have hq2 : ([45] == ([45] : List UInt8)) = true := rfl
          repeat' (first | (with_reducible first | apply w1 | apply w2 | apply w3 | apply w4 | apply w5 | apply w6 | apply w7 | apply w8 | apply w9 | apply wa | apply wb | apply wc) | ((with_reducible apply wd); focus decide) | ((with_reducible apply we); focus exact rfl) | ((with_reducible apply wf); focus exact rfl) | ((first | (with_reducible apply SW_run tt_ok hG htb) | ((with_reducible apply SW_draw rfl tt_ok hG htb); (focus kernel_rfl); focus simp only [List.range, List.range.loop, List.size_toArray, List.length_cons, List.length_nil, Nat.reduceAdd])); focus ((repeat' (first | (with_reducible first | exact wg | exact wh) | ((with_reducible first | apply wi | apply wj); focus (simp (discharger := omega) only [go_sem, hn, tStrs, tStr, hw, hrl, str_list, hq1, hq2, simprocAttr]; with_reducible rfl)))); done)))
          exact Meet.h ⟨_, Norm.headS (own := []) (keep := [2, 5, 6, 8, 10, 11, 12, 13]) (by refine ⟨?_, ?_⟩; (simp (discharger := omega) only [go_sem, simprocAttr]; with_reducible rfl); refine ⟨?_, ?_, ?_, ?_⟩ <;> (simp only [go_sem, simprocAttr]; with_reducible rfl)), rfl⟩
      · repeat' (with_reducible first | refine SW_seq ?_ | refine SThen_n ?_ | refine SIn_n ?_ | refine SW_skip ?_)
        clear htb
        have htb : Tab.ok Tryz.prog G [] := Tab.nil
        repeat' (first | (with_reducible first | apply w1 | apply w2 | apply w3 | apply w4 | apply w5 | apply w6 | apply w7 | apply w8 | apply w9 | apply wa | apply wb | apply wc) | ((with_reducible apply wd); focus decide) | ((with_reducible apply we); focus exact rfl) | ((with_reducible apply wf); focus exact rfl) | ((first | (with_reducible apply SW_run tt_ok hG htb) | ((with_reducible apply SW_draw rfl tt_ok hG htb); (focus kernel_rfl); focus simp only [List.range, List.range.loop, List.size_toArray, List.length_cons, List.length_nil, Nat.reduceAdd])); focus ((repeat' (first | (with_reducible first | exact wg | exact wh) | ((with_reducible first | apply wi | apply wj); focus (simp (discharger := omega) only [go_sem, simprocAttr]; with_reducible rfl)))); done)))
        refine SW_loop (fun mm st => ∃ l : Nat, mm = row.length - l ∧ st = ⟨171, [(2, .bptr 0 0), (5, .t (tStrs lines)), (6, .t (tInts h)), (8, .t (tInt L)), (10, .bptr 1 0), (11, .t (tNat j)), (12, .t (tStrs (sg :: ws))), (13, .t (tInts row)), (15, .t (tNat l))], [.box [.t (tInt 0), .t (tInt 0), .nil, .nil], .box [.t (tInt b), .t (tInt t), .sref 2, .sref 3], .row 42 1 true nt, .row 4 1 true et]⟩ ∧ l ≤ row.length ∧ ∀ x ∈ row.take l, x < n) row.length
          ⟨_, Norm.headS (own := []) (keep := [2, 5, 6, 8, 10, 11, 12, 13, 15]) (by refine ⟨?_, ?_⟩; (simp (discharger := omega) only [go_sem, simprocAttr]; with_reducible rfl); refine ⟨?_, ?_, ?_, ?_⟩ <;> (simp only [go_sem, simprocAttr]; with_reducible rfl)), 0, rfl, rfl, Nat.zero_le _, fun x hx => by simp at hx⟩ ?_
        rintro mm st ⟨l, rfl, rfl, hl, hla⟩
        by_cases hll2 : l < row.length
        · obtain ⟨x, hx⟩ : ∃ x, row[l]! = x := ⟨_, rfl⟩
          have hxm := bang_mem hx hll2
          have hxb := hwb x hxm
          have hlL : ((l : Nat) : Int) < L := by omega
          by_cases hxn : x < n
          · repeat' (first | (with_reducible first | apply w1 | apply w2 | apply w3 | apply w4 | apply w5 | apply w6 | apply w7 | apply w8 | apply w9 | apply wa | apply wb | apply wc) | ((with_reducible apply wd); focus decide) | ((with_reducible apply we); focus exact rfl) | ((with_reducible apply wf); focus exact rfl) | ((first | (with_reducible apply SW_run tt_ok hG htb) | ((with_reducible apply SW_draw rfl tt_ok hG htb); (focus kernel_rfl); focus simp only [List.range, List.range.loop, List.size_toArray, List.length_cons, List.length_nil, Nat.reduceAdd])); focus ((repeat' (first | (with_reducible first | exact wg | exact wh) | ((with_reducible first | apply wi | apply wj); focus (simp (discharger := omega) only [go_sem, hn, hx, simprocAttr]; with_reducible rfl)))); done)))
            exact ⟨row.length - (l + 1), _, by omega, Norm.headS (own := []) (keep := [2, 5, 6, 8, 10, 11, 12, 13, 15]) (by refine ⟨?_, ?_⟩; (simp (discharger := omega) only [go_sem, simprocAttr]; with_reducible rfl); refine ⟨?_, ?_, ?_, ?_⟩ <;> (simp only [go_sem, simprocAttr]; with_reducible rfl)), l + 1, rfl, rfl, by omega, fun y hy => by
              rw [take_next hx hll2] at hy
              rcases List.mem_append.1 hy with q | q
              · exact hla y q
              · rw [List.mem_singleton.1 q]; exact hxn⟩
          · have hall : ¬ row.all (fun t => decide (t < n)) = true := fun q => hxn (of_decide_eq_true (List.all_eq_true.1 q x hxm))
            rw [if_neg hall] at hlF
            rw [hlF, if_neg (by decide)] at hR
            obtain ⟨rfl, rfl, rfl⟩ := bad _ _ hR
            repeat' (first | (with_reducible first | apply w1 | apply w2 | apply w3 | apply w4 | apply w5 | apply w6 | apply w7 | apply w8 | apply w9 | apply wa | apply wb | apply wc) | ((with_reducible apply wd); focus decide) | ((with_reducible apply we); focus exact rfl) | ((with_reducible apply wf); focus exact rfl) | ((first | (with_reducible apply SW_run tt_ok hG htb) | ((with_reducible apply SW_draw rfl tt_ok hG htb); (focus kernel_rfl); focus simp only [List.range, List.range.loop, List.size_toArray, List.length_cons, List.length_nil, Nat.reduceAdd])); focus ((repeat' (first | (with_reducible first | exact wg | exact wh) | ((with_reducible first | apply wi | apply wj); focus (simp (discharger := omega) only [go_sem, hn, hx, simprocAttr]; with_reducible rfl)))); done)))
            exact (by simp (discharger := omega) only [go_sem, tAuto, simprocAttr])
        · obtain rfl : l = row.length := by omega
          rw [List.take_length] at hla
          have hall : row.all (fun t => decide (t < n)) = true := List.all_eq_true.2 fun x hx => decide_eq_true (hla x hx)
          rw [if_pos hall] at hlF
          rw [if_pos hlF] at hR
          have hjj : j - 1 + 1 = j := by omega
          have hkk : k = N + 1 - (j + 1) := by omega
          rw [hjj, hkk] at hR
          have hnt2 : nt ++ [tInts row] = (nx ++ [row]).map tInts := by rw [hnt, List.map_append]; rfl
          clear hlF hall hla five d1 d2
          obtain ⟨e, he⟩ : ∃ e, decide (sg = [43]) = e := ⟨_, rfl⟩
          rw [he] at hR
          have hq : (sg == [43]) = e := by rw [← he]; rcases hsg with q | q <;> rw [q] <;> decide
          have het2 : et ++ [.bool e] = (en ++ [e]).map T.bool := by rw [het, List.map_append]; rfl
          repeat' (first | (with_reducible first | apply w1 | apply w2 | apply w3 | apply w4 | apply w5 | apply w6 | apply w7 | apply w8 | apply w9 | apply wa | apply wb | apply wc) | ((with_reducible apply wd); focus decide) | ((with_reducible apply we); focus exact rfl) | ((with_reducible apply wf); focus exact rfl) | ((first | (with_reducible apply SW_run tt_ok hG htb) | ((with_reducible apply SW_draw rfl tt_ok hG htb); (focus kernel_rfl); focus simp only [List.range, List.range.loop, List.size_toArray, List.length_cons, List.length_nil, Nat.reduceAdd])); focus ((repeat' (first | (with_reducible first | exact wg | exact wh) | ((with_reducible first | apply wi | apply wj); focus (simp (discharger := omega) only [go_sem, hn, tStrs, tStr, str_list, hq, simprocAttr]; with_reducible rfl)))); done)))
          exact ⟨N + 1 - (j + 1), _, by omega, Norm.headS (own := []) (keep := [2, 5, 6, 8, 10, 11]) (by refine ⟨?_, ?_⟩; (simp (discharger := omega) only [go_sem, simprocAttr]; with_reducible rfl); refine ⟨?_, ?_, ?_, ?_⟩ <;> (simp only [go_sem, simprocAttr]; with_reducible rfl)), j + 1, nx ++ [row], en ++ [e], _, _, rfl, rfl, hnt2, het2, by simp; omega, by simp; omega, by omega, by omega, hR⟩
  · have hjN1 : j = N + 1 := by omega
    have hk0 : N + 1 - j = 0 := by omega
    rw [hk0] at hR
    have hR : (ra, rk, re) = if lines.drop j = [[]] then (⟨b, t, nx, en⟩, 0, 0) else (GAuto.zero, ((j - 1 : Nat) : Int) + 1, 5) := hR
    have hn1j : ((j - 1 : Nat) : Int) + 1 = n + 1 := by omega
    rw [hn1j, hdj] at hR
    obtain ⟨w, hw⟩ : ∃ w, lines[(n + 1).toNat]! = w := ⟨_, rfl⟩
    have hw' : lines[j]! = w := by rw [← hw, hjN1]; congr 1; omega
    rw [hw'] at hR
    by_cases hlen : lines.length = N + 2
    · have hlen' : ((lines.length : Nat) : Int) = n + 2 := by omega
      rw [List.drop_of_length_le (by omega : lines.length ≤ j + 1)] at hR
      by_cases hw0 : w.length = 0
      · obtain rfl : w = [] := List.eq_nil_of_length_eq_zero hw0
        rw [if_pos rfl] at hR
        have q1 : ra = ⟨b, t, nx, en⟩ := congrArg (fun x => x.1) hR
        have q2 : rk = 0 := congrArg (fun x => x.2.1) hR
        have q3 : re = 0 := congrArg (fun x => x.2.2) hR
        subst q1 q2 q3
        subst hnt het
        repeat' (first | (with_reducible first | apply w1 | apply w2 | apply w3 | apply w4 | apply w5 | apply w6 | apply w7 | apply w8 | apply w9 | apply wa | apply wb | apply wc) | ((with_reducible apply wd); focus decide) | ((with_reducible apply we); focus exact rfl) | ((with_reducible apply wf); focus exact rfl) | ((first | (with_reducible apply SW_run tt_ok hG htb) | ((with_reducible apply SW_draw rfl tt_ok hG htb); (focus kernel_rfl); focus simp only [List.range, List.range.loop, List.size_toArray, List.length_cons, List.length_nil, Nat.reduceAdd])); focus ((repeat' (first | (with_reducible first | exact wg | exact wh) | ((with_reducible first | apply wi | apply wj); focus (simp (discharger := omega) only [go_sem, hn, tStrs, tStr, hw, hlen', str_size, List.length_nil, simprocAttr]; with_reducible rfl)))); done)))
        exact (by simp (discharger := omega) only [go_sem, tAuto, tIntss, tBools, simprocAttr])
      · rw [if_neg (fun q => hw0 (by injection q with q _; rw [q]; rfl))] at hR
        obtain ⟨rfl, rfl, rfl⟩ := bad _ _ hR
        repeat' (first | (with_reducible first | refine SW_seq ?_ | refine SW_block ?_ | refine SThen_n ?_ | refine SThen_r ?_ | refine SThen_e ?_ | refine SIn_n ?_ | refine SIn_r ?_ | refine SIn_eq ?_ | refine SW_skip ?_ | refine SW_exit ?_ | refine SW_ret ?_ | refine SPost_r ?_) | ((with_reducible refine SIn_ne ?_ ?_); focus decide) | ((with_reducible refine SW_true ?_ ?_); focus exact rfl) | ((with_reducible refine SW_false ?_ ?_); focus exact rfl) | ((with_reducible apply SW_run tt_ok hG htb); focus ((repeat' (first | (with_reducible exact runX_nil) | ((with_reducible apply runX_cons); focus (simp (discharger := omega) only [go_sem, hn, tStrs, tStr, hw, hlen', str_size, simprocAttr]; with_reducible rfl)))); done)))
        (with_reducible apply SW_drawF [2, 3] [] rfl tt_ok hG htb)
        · kernel_rfl
        · simp only [List.range, List.range.loop, List.size_toArray, List.length_cons, List.length_nil, Nat.reduceAdd]
          repeat' (first | (with_reducible exact runG_nil) | ((with_reducible apply runF_of); (focus rfl); focus (simp (discharger := omega) only [go_sem, hn, simprocAttr]; with_reducible rfl)) | ((apply runF_data rfl rfl rfl); focus (simp (discharger := omega) only [go_sem, hn, simprocAttr]; with_reducible rfl)) | ((apply runF_idx rfl rfl rfl); focus (simp (discharger := omega) only [go_sem, hn, simprocAttr]; with_reducible rfl)))
        repeat' (first | (with_reducible first | refine SW_seq ?_ | refine SW_block ?_ | refine SThen_n ?_ | refine SThen_r ?_ | refine SThen_e ?_ | refine SIn_n ?_ | refine SIn_r ?_ | refine SIn_eq ?_ | refine SW_skip ?_ | refine SW_exit ?_ | refine SW_ret ?_ | refine SPost_r ?_) | ((with_reducible refine SIn_ne ?_ ?_); focus decide) | ((with_reducible refine SW_true ?_ ?_); focus exact rfl) | ((with_reducible refine SW_false ?_ ?_); focus exact rfl) | ((with_reducible apply SW_run tt_ok hG htb); focus ((repeat' (first | (with_reducible exact runX_nil) | ((with_reducible apply runX_cons); focus (simp (discharger := omega) only [go_sem, simprocAttr]; with_reducible rfl)))); done)))
        exact (by simp (discharger := omega) only [go_sem, tAuto, simprocAttr])
    · rw [if_neg (fun q => by have q2 := congrArg List.length q; simp only [List.length_cons, List.length_drop, List.length_nil] at q2; omega)] at hR
      obtain ⟨rfl, rfl, rfl⟩ := bad _ _ hR
      repeat' (first | (with_reducible first | refine SW_seq ?_ | refine SW_block ?_ | refine SThen_n ?_ | refine SThen_r ?_ | refine SThen_e ?_ | refine SIn_n ?_ | refine SIn_r ?_ | refine SIn_eq ?_ | refine SW_skip ?_ | refine SW_exit ?_ | refine SW_ret ?_ | refine SPost_r ?_) | ((with_reducible refine SIn_ne ?_ ?_); focus decide) | ((with_reducible refine SW_true ?_ ?_); focus exact rfl) | ((with_reducible refine SW_false ?_ ?_); focus exact rfl) | ((with_reducible apply SW_run tt_ok hG htb); focus ((repeat' (first | (with_reducible exact runX_nil) | ((with_reducible apply runX_cons); focus (simp (discharger := omega) only [go_sem, hn, tStrs, tStr, simprocAttr]; with_reducible rfl)))); done)))
      (with_reducible apply SW_drawF [2, 3] [] rfl tt_ok hG htb)
      · kernel_rfl
      · simp only [List.range, List.range.loop, List.size_toArray, List.length_cons, List.length_nil, Nat.reduceAdd]
        repeat' (first | (with_reducible exact runG_nil) | ((with_reducible apply runF_of); (focus rfl); focus (simp (discharger := omega) only [go_sem, hn, simprocAttr]; with_reducible rfl)) | ((apply runF_data rfl rfl rfl); focus (simp (discharger := omega) only [go_sem, hn, simprocAttr]; with_reducible rfl)) | ((apply runF_idx rfl rfl rfl); focus (simp (discharger := omega) only [go_sem, hn, simprocAttr]; with_reducible rfl)))
      repeat' (first | (with_reducible first | refine SW_seq ?_ | refine SW_block ?_ | refine SThen_n ?_ | refine SThen_r ?_ | refine SThen_e ?_ | refine SIn_n ?_ | refine SIn_r ?_ | refine SIn_eq ?_ | refine SW_skip ?_ | refine SW_exit ?_ | refine SW_ret ?_ | refine SPost_r ?_) | ((with_reducible refine SIn_ne ?_ ?_); focus decide) | ((with_reducible refine SW_true ?_ ?_); focus exact rfl) | ((with_reducible refine SW_false ?_ ?_); focus exact rfl) | ((with_reducible apply SW_run tt_ok hG htb); focus ((repeat' (first | (with_reducible exact runX_nil) | ((with_reducible apply runX_cons); focus (simp (discharger := omega) only [go_sem, simprocAttr]; with_reducible rfl)))); done)))
      exact (by simp (discharger := omega) only [go_sem, tAuto, simprocAttr])
end
end Go.Proofs.YtpgkpbfefnpagaaGreatDoor
namespace Go.Proofs.YtpgkpbfefnpagaaGreatDoor
open Go

theorem idx_cases (c : UInt8) : ∀ s : List UInt8, (Lib.indexByte s c = -1 ∧ c ∉ s) ∨ ∃ i : Nat, Lib.indexByte s c = i ∧ s = s.take i ++ c :: s.drop (i + 1) ∧ c ∉ s.take i
  | [] => .inl ⟨rfl, by simp⟩
  | x :: t => by
    by_cases e : x = c
    · subst e
      refine .inr ⟨0, ?_, by simp, by simp⟩
      simp [Lib.indexByte]
    · have hb : (x == c) = false := by simpa using e
      rcases idx_cases c t with ⟨h1, h2⟩ | ⟨i, h1, h2, h3⟩
      · refine .inl ⟨?_, fun q => ?_⟩
        · simp [Lib.indexByte, hb, h1]
        · rcases List.mem_cons.1 q with q | q
          · exact e q.symm
          · exact h2 q
      · refine .inr ⟨i + 1, ?_, ?_, fun q => ?_⟩
        · have : ¬ ((i : Int) = -1) := by omega
          simp [Lib.indexByte, hb, h1, this]
        · rw [List.take_succ_cons, List.drop_succ_cons, List.cons_append, ← h2]
        · rw [List.take_succ_cons] at q
          rcases List.mem_cons.1 q with q | q
          · exact e q.symm
          · exact h3 q
theorem splitK_cut (c : UInt8) : ∀ (k : Nat) (s : List UInt8), s.count c = k → Lib.splitK [c] 0 k s = cutB c s
  | 0, s, h => by
    rw [cutB_word c (List.count_eq_zero.1 h)]; rfl
  | k + 1, s, h => by
    unfold Lib.splitK
    rw [Lib.index_one]
    rcases idx_cases c s with ⟨_, h2⟩ | ⟨i, h1, h2, h3⟩
    · rw [List.count_eq_zero.2 h2] at h; omega
    · rw [h1]
      have hne : ((i : Int) == -1) = false := by simp
      rw [hne]
      simp only [Bool.false_eq_true, if_false, Int.toNat_natCast, Nat.add_zero, List.length_cons, List.length_nil, Nat.zero_add]
      have hk : (s.drop (i + 1)).count c = k := by
        rw [h2, List.count_append, List.count_eq_zero.2 h3, List.count_cons_self] at h
        omega
      rw [splitK_cut c k _ hk]
      conv => rhs; rw [h2]
      exact (cutB_line c h3).symm
theorem cut_cut (c : UInt8) (s : List UInt8) : Lib.cut s [c] = ((cutB c s).headD [], joinB c (cutB c s).tail, decide ((cutB c s).tail ≠ [])) := by
  unfold Lib.cut
  rw [Lib.index_one]
  rcases idx_cases c s with ⟨h1, h2⟩ | ⟨i, h1, h2, h3⟩
  · rw [h1, if_neg (by omega), cutB_word c h2]; simp [joinB]
  · rw [h1, if_pos (by omega)]
    have hc : cutB c s = s.take i :: cutB c (s.drop (i + 1)) := by
      conv => lhs; rw [h2]
      exact cutB_line c h3
    rw [hc, List.headD_cons, List.tail_cons, joinB_cut, decide_eq_true (cutB_ne c _)]
    rfl
theorem join_flat (c : UInt8) : ∀ (v : List UInt8) (l : List (List UInt8)), joinB c (v :: l) = v ++ l.flatMap (fun x => c :: x)
  | v, [] => by show v = _; simp
  | v, u :: r => by
    show v ++ c :: joinB c (u :: r) = _
    rw [join_flat c u r, List.flatMap_cons]; rfl
theorem join_lib (c : UInt8) (v : List UInt8) (l : List (List UInt8)) : Lib.join (v :: l) [c] = joinB c (v :: l) := by
  rw [Lib.join_cons, join_flat]
  unfold Lib.joinTail
  rw [List.flatMap_def]; rfl
theorem dec_lib {n : Nat} (h : n < 1000) : Lib.decDigits n = decB n := by
  unfold decB
  by_cases h1 : n < 10
  · rw [if_pos h1, Lib.decDigits_one h1]; rfl
  rw [if_neg h1]
  by_cases h2 : n < 100
  · rw [if_pos h2, Lib.decDigits_two h1 h2]; rfl
  rw [if_neg h2, Lib.decDigits, dif_neg h1, Lib.decDigits_two (by omega) (by omega)]
  have : n / 10 / 10 = n / 100 := by omega
  rw [this]; rfl
theorem dec_long {n : Nat} (h : 1000 ≤ n) : 3 < (Lib.decDigits n).length := by
  have one : ∀ m, 1 ≤ (Lib.decDigits m).length := fun m => by
    rw [Lib.decDigits]
    split
    · simp
    · simp
  have up : ∀ m k, 10 ≤ m → k ≤ (Lib.decDigits (m / 10)).length → k + 1 ≤ (Lib.decDigits m).length := fun m k hm hk => by
    rw [Lib.decDigits, dif_neg (by omega)]
    simp; exact hk
  have a := one (n / 10 / 10 / 10)
  have b := up (n / 10 / 10) 1 (by omega) a
  have c := up (n / 10) 2 (by omega) b
  exact up n 3 (by omega) c
theorem atoi_dec : ∀ n, n < 1000 → Lib.atoiAll (decB n) = .ok (n : Int) := by decide +kernel
/-- What strconv.Atoi gives. -/
def atoiV (s : List UInt8) : Int := match Lib.atoiAll s with
  | .ok v => v
  | .range => Lib.atoiSat s
  | _ => 0
def atoiOk (s : List UInt8) : Bool := match Lib.atoiAll s with
  | .ok _ => true
  | _ => false
theorem dig_inj {x : UInt8} (h : isDig x = true) : x = dig (x.toNat - 48) ∧ 48 ≤ x.toNat ∧ x.toNat ≤ 57 := by
  have h2 : 48 ≤ x.toNat ∧ x.toNat ≤ 57 := of_decide_eq_true h
  refine ⟨UInt8.toNat_inj.1 ?_, h2⟩
  unfold dig
  rw [UInt8.toNat_ofNat']
  omega
theorem small_is {w : List UInt8} {n : Nat} (h : smallB w = some n) : w = decB n := by
  have hn := dec_small h
  unfold smallB at h
  split at h
  · cases h
  rename_i hl
  split at h
  rotate_left
  · cases h
  rename_i ha
  have hz : ∀ {x : UInt8}, x.toNat - 48 = 0 → isDig x = true → x = 48 := fun {x} q1 q2 => by
    obtain ⟨_, q3, q4⟩ := dig_inj q2
    exact UInt8.toNat_inj.1 (by show x.toNat = 48; omega)
  match w, hl, ha, h with
  | [], hl, _, _ => exact absurd (.inl (by decide)) hl
  | [a], hl, ha, h =>
    simp only [List.all_cons, List.all_nil, Bool.and_true] at ha
    obtain ⟨q1, q2, q3⟩ := dig_inj ha
    simp only [List.foldl_cons, List.foldl_nil, Option.some.injEq] at h
    unfold decB
    rw [if_pos (by omega)]
    congr 1
    rw [q1]; congr 1; omega
  | [a, b], hl, ha, h =>
    simp only [List.all_cons, List.all_nil, Bool.and_true, Bool.and_eq_true] at ha
    obtain ⟨q1, q2, q3⟩ := dig_inj ha.1
    obtain ⟨r1, r2, r3⟩ := dig_inj ha.2
    simp only [List.foldl_cons, List.foldl_nil, Option.some.injEq] at h
    have ha0 : a.toNat - 48 ≠ 0 := fun q => hl (.inr (.inr ⟨by simp, by rw [hz q ha.1]; rfl⟩))
    unfold decB
    rw [if_neg (by omega), if_pos (by omega)]
    have e1 : n / 10 = a.toNat - 48 := by omega
    have e2 : n % 10 = b.toNat - 48 := by omega
    rw [e1, e2, ← q1, ← r1]
  | [a, b, c], hl, ha, h =>
    simp only [List.all_cons, List.all_nil, Bool.and_true, Bool.and_eq_true] at ha
    obtain ⟨q1, q2, q3⟩ := dig_inj ha.1
    obtain ⟨r1, r2, r3⟩ := dig_inj ha.2.1
    obtain ⟨s1, s2, s3⟩ := dig_inj ha.2.2
    simp only [List.foldl_cons, List.foldl_nil, Option.some.injEq] at h
    have ha0 : a.toNat - 48 ≠ 0 := fun q => hl (.inr (.inr ⟨by simp, by rw [hz q ha.1]; rfl⟩))
    unfold decB
    rw [if_neg (by omega), if_neg (by omega)]
    have e1 : n / 100 = a.toNat - 48 := by omega
    have e2 : n / 10 % 10 = b.toNat - 48 := by omega
    have e3 : n % 10 = c.toNat - 48 := by omega
    rw [e1, e2, e3, ← q1, ← r1, ← s1]
  | a :: b :: c :: d :: r, hl, _, _ => exact absurd (.inr (.inl (by simp))) hl
/-- A word is a small number just where strconv says so. -/
theorem number_yes {w : List UInt8} (h : 0 ≤ smallI w) : ∃ n : Nat, smallI w = n ∧ n < 1000 ∧ atoiOk w = true ∧ atoiV w = n ∧ w.length ≤ 3 ∧ Lib.itoa (n : Int) = w := by
  unfold smallI at h ⊢
  cases hs : smallB w with
  | none => rw [hs] at h; simp at h
  | some n =>
    have h1 := dec_small hs
    have h2 := small_is hs
    have h3 := atoi_dec n h1.1
    rw [← h2] at h3
    refine ⟨n, rfl, h1.1, by unfold atoiOk; rw [h3], by unfold atoiV; rw [h3], h1.2, ?_⟩
    unfold Lib.itoa
    rw [if_neg (by omega), Int.toNat_natCast, dec_lib h1.1, ← h2]
theorem number_no {w : List UInt8} (h : smallI w < 0) (h3 : w.length ≤ 3) {n : Int} (h0 : 0 ≤ n) : Lib.itoa n ≠ w := by
  intro q
  obtain ⟨m, rfl⟩ := Int.eq_ofNat_of_zero_le h0
  unfold Lib.itoa at q
  rw [if_neg (by omega), Int.toNat_natCast] at q
  by_cases hm : m < 1000
  · rw [dec_lib hm] at q
    have := small_dec m hm
    rw [q] at this
    unfold smallI at h
    rw [this] at h
    simp only at h; omega
  · have := dec_long (n := m) (by omega)
    rw [q] at this
    omega
end Go.Proofs.YtpgkpbfefnpagaaGreatDoor
namespace Go.Proofs.YtpgkpbfefnpagaaGreatDoor
open Go.RowKit
theorem repErr_inv {S : Nat → Prop} {w : World} {v : Value} {e : Int} (h : RepT S w (tErr e) v) : v = errV 26 e := by
  unfold tErr at h; unfold errV
  split at h
  · rename_i h0
    rw [if_pos h0]; cases h; rfl
  · rename_i h0
    rw [if_neg h0]
    cases h with
    | iface t x v h => cases h; rfl
theorem errCell_lasting : Lasting errCell := fun _ _ hb h => errCell.below h hb
theorem Error_snd (e f : Int) : Snd Tryz.prog errCell 7 [tErr e, tInt f] (.bool (e == f)) :=
  snd2 Tryz.func7 rfl rfl fun S w v u hg _ h h' => by
    obtain rfl := repErr_inv h; obtain rfl := intInv h'
    exact ⟨_, Error_calls e f w hg, fun S w => .bool _⟩
end Go.Proofs.YtpgkpbfefnpagaaGreatDoor
namespace Go.Proofs
open Go.Shelf
def Tryz.laySplit_ren : Go.Shelf.Ren := ⟨fun | 146 => 24 | 221 => 35 | 268 => 48 | 138 => 49 | 143 => 50 | 195 => 65 | 197 => 66 | 218 => 67 | 219 => 46 | 260 => 80 | 217 => 59 | 225 => 60 | 224 => 61 | 267 => 62 | 266 => 73 | 314 => 74 | n => n, fun | 9 => 9 | 31 => 49 | 3 => 3 | 4 => 4 | 0 => 0 | 105 => 116 | 21 => 21 | 5 => 5 | 46 => 114 | 119 => 139 | 139 => 142 | 138 => 141 | 146 => 124 | 51 => 120 | n => n, fun | 1 => 1 | 3 => 5 | 4 => 6 | n => n⟩
theorem Tryz.laySplit : Go.Proofs.LaysM.n146 Tryz.prog Tryz.laySplit_ren := {
  mixed := by kernel_rfl
  f138 := Tryz.func49.trans (congrArg some (by kernel_rfl))
  f143 := Tryz.func50.trans (congrArg some (by kernel_rfl))
  f146 := Tryz.func24.trans (congrArg some (by kernel_rfl))
  f195 := Tryz.func65.trans (congrArg some (by kernel_rfl))
  f197 := Tryz.func66.trans (congrArg some (by kernel_rfl))
  f217 := Tryz.func59.trans (congrArg some (by kernel_rfl))
  f218 := Tryz.func67.trans (congrArg some (by kernel_rfl))
  f219 := Tryz.func46.trans (congrArg some (by kernel_rfl))
  f221 := Tryz.func35.trans (congrArg some (by kernel_rfl))
  f224 := Tryz.func61.trans (congrArg some (by kernel_rfl))
  f225 := Tryz.func60.trans (congrArg some (by kernel_rfl))
  f260 := Tryz.func80.trans (congrArg some (by kernel_rfl))
  f266 := Tryz.func73.trans (congrArg some (by kernel_rfl))
  f267 := Tryz.func62.trans (congrArg some (by kernel_rfl))
  f268 := Tryz.func48.trans (congrArg some (by kernel_rfl))
  f314 := Tryz.func74.trans (congrArg some (by kernel_rfl))
  t0 := Tryz.underlying0
  a0 := Tryz.isAgg0
  z0 := Tryz.sizeOf0
  v0 := Tryz.zeroValue0
  t3 := Tryz.underlying3
  a3 := Tryz.isAgg3
  z3 := Tryz.sizeOf3
  v3 := Tryz.zeroValue3
  t4 := Tryz.underlying4
  a4 := Tryz.isAgg4
  z4 := Tryz.sizeOf4
  v4 := Tryz.zeroValue4
  t5 := Tryz.underlying5
  a5 := Tryz.isAgg5
  z5 := Tryz.sizeOf5
  v5 := Tryz.zeroValue5
  t9 := Tryz.underlying9
  a9 := Tryz.isAgg9
  z9 := Tryz.sizeOf9
  v9 := Tryz.zeroValue9
  t21 := Tryz.underlying21
  a21 := Tryz.isAgg21
  z21 := Tryz.sizeOf21
  v21 := Tryz.zeroValue21
  t31 := Tryz.underlying49
  a31 := Tryz.isAgg49
  z31 := Tryz.sizeOf49
  v31 := Tryz.zeroValue49
  t46 := Tryz.underlying114
  a46 := Tryz.isAgg114
  z46 := Tryz.sizeOf114
  v46 := Tryz.zeroValue114
  t51 := Tryz.underlying120
  a51 := Tryz.isAgg120
  z51 := Tryz.sizeOf120
  v51 := Tryz.zeroValue120
  t105 := Tryz.underlying116
  a105 := Tryz.isAgg116
  z105 := Tryz.sizeOf116
  v105 := Tryz.zeroValue116
  t119 := Tryz.underlying139
  a119 := Tryz.isAgg139
  z119 := Tryz.sizeOf139
  t138 := Tryz.underlying141
  a138 := Tryz.isAgg141
  z138 := Tryz.sizeOf141
  v138 := Tryz.zeroValue141
  t139 := Tryz.underlying142
  a139 := Tryz.isAgg142
  z139 := Tryz.sizeOf142
  v139 := Tryz.zeroValue142
  t146 := Tryz.underlying124
  a146 := Tryz.isAgg124
  z146 := Tryz.sizeOf124
  v146 := Tryz.zeroValue124
  g1 := by kernel_rfl
  g3 := by kernel_rfl
  g4 := by kernel_rfl
  i0 := by kernel_rfl
  i3 := by kernel_rfl
  i4 := by kernel_rfl
  i5 := by kernel_rfl
  i9 := by kernel_rfl
  i21 := by kernel_rfl
  i31 := by kernel_rfl
  i46 := by kernel_rfl
  i51 := by kernel_rfl
  i105 := by kernel_rfl
  i138 := by kernel_rfl
  i139 := by kernel_rfl
  i146 := by kernel_rfl
  m1 := by kernel_rfl
  s1_3 := fun w h => Go.Proofs.cell_of_shapedOpen_int (zero := #[.int .i64 0]) (t := 3) h (of_decide_eq_true (by kernel_rfl)) (by kernel_rfl) rfl (by kernel_rfl) (by kernel_rfl) Tryz.underlying3
  m3 := by kernel_rfl
  m4 := by kernel_rfl }
def Tryz.layCut_ren : Go.Shelf.Ren := ⟨fun | 145 => 22 | 220 => 33 | 219 => 46 | 217 => 59 | 225 => 60 | 224 => 61 | 267 => 62 | 266 => 73 | 314 => 74 | n => n, fun | 9 => 9 | 4 => 4 | 59 => 59 | 3 => 3 | 5 => 5 | 46 => 114 | 146 => 124 | 51 => 120 | n => n, fun | 1 => 1 | n => n⟩
theorem Tryz.layCut : Go.Proofs.Lays.n145 Tryz.prog Tryz.layCut_ren := {
  mixed := by kernel_rfl
  f145 := Tryz.func22.trans (congrArg some (by kernel_rfl))
  f217 := Tryz.func59.trans (congrArg some (by kernel_rfl))
  f219 := Tryz.func46.trans (congrArg some (by kernel_rfl))
  f220 := Tryz.func33.trans (congrArg some (by kernel_rfl))
  f224 := Tryz.func61.trans (congrArg some (by kernel_rfl))
  f225 := Tryz.func60.trans (congrArg some (by kernel_rfl))
  f266 := Tryz.func73.trans (congrArg some (by kernel_rfl))
  f267 := Tryz.func62.trans (congrArg some (by kernel_rfl))
  f314 := Tryz.func74.trans (congrArg some (by kernel_rfl))
  t3 := Tryz.underlying3
  a3 := Tryz.isAgg3
  z3 := Tryz.sizeOf3
  v3 := Tryz.zeroValue3
  t4 := Tryz.underlying4
  a4 := Tryz.isAgg4
  z4 := Tryz.sizeOf4
  v4 := Tryz.zeroValue4
  t5 := Tryz.underlying5
  a5 := Tryz.isAgg5
  z5 := Tryz.sizeOf5
  v5 := Tryz.zeroValue5
  t9 := Tryz.underlying9
  a9 := Tryz.isAgg9
  z9 := Tryz.sizeOf9
  v9 := Tryz.zeroValue9
  t46 := Tryz.underlying114
  a46 := Tryz.isAgg114
  z46 := Tryz.sizeOf114
  v46 := Tryz.zeroValue114
  t51 := Tryz.underlying120
  a51 := Tryz.isAgg120
  z51 := Tryz.sizeOf120
  v51 := Tryz.zeroValue120
  t59 := Tryz.underlying59
  a59 := Tryz.isAgg59
  z59 := Tryz.sizeOf59
  v59 := Tryz.zeroValue59
  t146 := Tryz.underlying124
  a146 := Tryz.isAgg124
  z146 := Tryz.sizeOf124
  v146 := Tryz.zeroValue124
  g1 := by kernel_rfl }
def Tryz.layJoin_ren : Go.Shelf.Ren := ⟨fun | 156 => 16 | 165 => 29 | 166 => 15 | 169 => 18 | 240 => 28 | 241 => 39 | 276 => 38 | 277 => 51 | n => n, fun | 31 => 49 | 9 => 9 | 3 => 3 | 4 => 4 | 0 => 0 | 20 => 20 | 72 => 48 | 76 => 50 | 70 => 45 | 37 => 46 | 75 => 30 | 127 => 66 | 164 => 74 | 5 => 5 | 80 => 54 | n => n, fun | n => n⟩
theorem Tryz.layJoin : Go.Proofs.Lays.n156 Tryz.prog Tryz.layJoin_ren := {
  mixed := by kernel_rfl
  f156 := Tryz.func16.trans (congrArg some (by kernel_rfl))
  f165 := Tryz.func29.trans (congrArg some (by kernel_rfl))
  f166 := Tryz.func15.trans (congrArg some (by kernel_rfl))
  f169 := Tryz.func18.trans (congrArg some (by kernel_rfl))
  f240 := Tryz.func28.trans (congrArg some (by kernel_rfl))
  f241 := Tryz.func39.trans (congrArg some (by kernel_rfl))
  f276 := Tryz.func38.trans (congrArg some (by kernel_rfl))
  f277 := Tryz.func51.trans (congrArg some (by kernel_rfl))
  t0 := Tryz.underlying0
  a0 := Tryz.isAgg0
  z0 := Tryz.sizeOf0
  v0 := Tryz.zeroValue0
  t3 := Tryz.underlying3
  a3 := Tryz.isAgg3
  z3 := Tryz.sizeOf3
  v3 := Tryz.zeroValue3
  t4 := Tryz.underlying4
  a4 := Tryz.isAgg4
  z4 := Tryz.sizeOf4
  v4 := Tryz.zeroValue4
  t9 := Tryz.underlying9
  a9 := Tryz.isAgg9
  z9 := Tryz.sizeOf9
  v9 := Tryz.zeroValue9
  t20 := Tryz.underlying20
  a20 := Tryz.isAgg20
  z20 := Tryz.sizeOf20
  v20 := Tryz.zeroValue20
  t31 := Tryz.underlying49
  a31 := Tryz.isAgg49
  z31 := Tryz.sizeOf49
  v31 := Tryz.zeroValue49
  t37 := Tryz.underlying46
  a37 := Tryz.isAgg46
  z37 := Tryz.sizeOf46
  v37 := Tryz.zeroValue46
  t70 := Tryz.underlying45
  a70 := Tryz.isAgg45
  z70 := Tryz.sizeOf45
  v70 := Tryz.zeroValue45
  t72 := Tryz.underlying48
  a72 := Tryz.isAgg48
  z72 := Tryz.sizeOf48
  v72 := Tryz.zeroValue48
  t75 := Tryz.underlying30
  a75 := Tryz.isAgg30
  z75 := Tryz.sizeOf30
  v75 := Tryz.zeroValue30
  t76 := Tryz.underlying50
  a76 := Tryz.isAgg50
  z76 := Tryz.sizeOf50
  v76 := Tryz.zeroValue50
  t127 := Tryz.underlying66
  a127 := Tryz.isAgg66
  z127 := Tryz.sizeOf66
  v127 := Tryz.zeroValue66
  t164 := Tryz.underlying74
  a164 := Tryz.isAgg74
  z164 := Tryz.sizeOf74
  v164 := Tryz.zeroValue74 }
theorem Tryz.bldExtra : Builder.Extra Tryz.prog Tryz.layJoin_ren where
  sizeBuilder := by kernel_rfl
  liesBuilder := by kernel_rfl
  t5 := Tryz.underlying5
  a5 := Tryz.isAgg5
  z5 := Tryz.sizeOf5
  v5 := Tryz.zeroValue5
  infoByte := by kernel_rfl
  cellsByte := by kernel_rfl
  sizeByte := by kernel_rfl
  neB5 := by decide
def Tryz.layItoa_ren : Go.Shelf.Ren := ⟨fun | 171 => 17 | 243 => 30 | 246 => 40 | 283 => 52 | 284 => 53 | 285 => 54 | 286 => 55 | 129 => 69 | 317 => 68 | 318 => 70 | 319 => 71 | 320 => 72 | 337 => 81 | 338 => 82 | n => n, fun | 3 => 3 | 9 => 9 | 2 => 2 | 4 => 4 | 171 => 93 | 0 => 0 | 53 => 94 | 37 => 46 | 5 => 5 | 173 => 97 | 212 => 119 | 51 => 120 | 20 => 20 | 213 => 121 | 46 => 114 | 232 => 143 | 233 => 144 | n => n, fun | 17 => 2 | 18 => 7 | 19 => 8 | n => n⟩
theorem Tryz.layItoa : Go.Proofs.LaysM.n171 Tryz.prog Tryz.layItoa_ren := {
  mixed := by kernel_rfl
  f129 := Tryz.func69.trans (congrArg some (by kernel_rfl))
  f171 := Tryz.func17.trans (congrArg some (by kernel_rfl))
  f243 := Tryz.func30.trans (congrArg some (by kernel_rfl))
  f246 := Tryz.func40.trans (congrArg some (by kernel_rfl))
  f283 := Tryz.func52.trans (congrArg some (by kernel_rfl))
  f284 := Tryz.func53.trans (congrArg some (by kernel_rfl))
  f285 := Tryz.func54.trans (congrArg some (by kernel_rfl))
  f286 := Tryz.func55.trans (congrArg some (by kernel_rfl))
  f317 := Tryz.func68.trans (congrArg some (by kernel_rfl))
  f318 := Tryz.func70.trans (congrArg some (by kernel_rfl))
  f319 := Tryz.func71.trans (congrArg some (by kernel_rfl))
  f320 := Tryz.func72.trans (congrArg some (by kernel_rfl))
  f337 := Tryz.func81.trans (congrArg some (by kernel_rfl))
  f338 := Tryz.func82.trans (congrArg some (by kernel_rfl))
  t0 := Tryz.underlying0
  a0 := Tryz.isAgg0
  z0 := Tryz.sizeOf0
  v0 := Tryz.zeroValue0
  t2 := Tryz.underlying2
  a2 := Tryz.isAgg2
  z2 := Tryz.sizeOf2
  v2 := Tryz.zeroValue2
  t3 := Tryz.underlying3
  a3 := Tryz.isAgg3
  z3 := Tryz.sizeOf3
  v3 := Tryz.zeroValue3
  t4 := Tryz.underlying4
  a4 := Tryz.isAgg4
  z4 := Tryz.sizeOf4
  v4 := Tryz.zeroValue4
  t5 := Tryz.underlying5
  a5 := Tryz.isAgg5
  z5 := Tryz.sizeOf5
  v5 := Tryz.zeroValue5
  t9 := Tryz.underlying9
  a9 := Tryz.isAgg9
  z9 := Tryz.sizeOf9
  v9 := Tryz.zeroValue9
  t20 := Tryz.underlying20
  a20 := Tryz.isAgg20
  z20 := Tryz.sizeOf20
  v20 := Tryz.zeroValue20
  t37 := Tryz.underlying46
  a37 := Tryz.isAgg46
  z37 := Tryz.sizeOf46
  v37 := Tryz.zeroValue46
  t46 := Tryz.underlying114
  a46 := Tryz.isAgg114
  z46 := Tryz.sizeOf114
  v46 := Tryz.zeroValue114
  t51 := Tryz.underlying120
  a51 := Tryz.isAgg120
  z51 := Tryz.sizeOf120
  v51 := Tryz.zeroValue120
  t53 := Tryz.underlying94
  a53 := Tryz.isAgg94
  z53 := Tryz.sizeOf94
  v53 := Tryz.zeroValue94
  t171 := Tryz.underlying93
  a171 := Tryz.isAgg93
  z171 := Tryz.sizeOf93
  v171 := Tryz.zeroValue93
  t173 := Tryz.underlying97
  a173 := Tryz.isAgg97
  z173 := Tryz.sizeOf97
  v173 := Tryz.zeroValue97
  t212 := Tryz.underlying119
  a212 := Tryz.isAgg119
  z212 := Tryz.sizeOf119
  v212 := Tryz.zeroValue119
  t213 := Tryz.underlying121
  a213 := Tryz.isAgg121
  z213 := Tryz.sizeOf121
  t232 := Tryz.underlying143
  a232 := Tryz.isAgg143
  z232 := Tryz.sizeOf143
  v232 := Tryz.zeroValue143
  t233 := Tryz.underlying144
  a233 := Tryz.isAgg144
  z233 := Tryz.sizeOf144
  v233 := Tryz.zeroValue144
  g17 := by kernel_rfl
  g18 := by kernel_rfl
  g19 := by kernel_rfl
  i0 := by kernel_rfl
  i2 := by kernel_rfl
  i3 := by kernel_rfl
  i4 := by kernel_rfl
  i5 := by kernel_rfl
  i9 := by kernel_rfl
  i20 := by kernel_rfl
  i37 := by kernel_rfl
  i46 := by kernel_rfl
  i51 := by kernel_rfl
  i53 := by kernel_rfl
  i171 := by kernel_rfl
  i173 := by kernel_rfl
  i212 := by kernel_rfl
  i232 := by kernel_rfl
  i233 := by kernel_rfl
  m17 := by kernel_rfl
  m18 := by kernel_rfl
  m19 := by kernel_rfl }
def Tryz.layAtoi_ren : Go.Shelf.Ren := ⟨fun | 172 => 47 | 244 => 63 | 245 => 64 | 247 => 75 | 279 => 76 | 280 => 77 | 281 => 78 | 282 => 79 | 287 => 83 | 316 => 84 | 171 => 17 | 205 => 85 | 321 => 86 | 322 => 87 | 243 => 30 | 246 => 40 | 283 => 52 | 284 => 53 | 285 => 54 | 286 => 55 | 129 => 69 | 317 => 68 | 318 => 70 | 319 => 71 | 320 => 72 | 337 => 81 | 338 => 82 | n => n, fun | 9 => 9 | 3 => 3 | 75 => 30 | 76 => 50 | 4 => 4 | 5 => 5 | 167 => 126 | 37 => 46 | 0 => 0 | 85 => 127 | 2 => 2 | 168 => 129 | 53 => 94 | 175 => 133 | 46 => 114 | 210 => 137 | 127 => 66 | 145 => 149 | 143 => 147 | 21 => 21 | 171 => 93 | 173 => 97 | 212 => 119 | 51 => 120 | 20 => 20 | 213 => 121 | 232 => 143 | 233 => 144 | 80 => 54 | n => n, fun | 15 => 3 | 16 => 4 | 17 => 2 | 18 => 7 | 19 => 8 | n => n⟩
theorem Tryz.layAtoi : Go.Proofs.LaysC.n172 Tryz.prog Tryz.layAtoi_ren := {
  mixed := by kernel_rfl
  f129 := Tryz.func69.trans (congrArg some (by kernel_rfl))
  f171 := Tryz.func17.trans (congrArg some (by kernel_rfl))
  f172 := Tryz.func47.trans (congrArg some (by kernel_rfl))
  f205 := Tryz.func85.trans (congrArg some (by kernel_rfl))
  f243 := Tryz.func30.trans (congrArg some (by kernel_rfl))
  f244 := Tryz.func63.trans (congrArg some (by kernel_rfl))
  f245 := Tryz.func64.trans (congrArg some (by kernel_rfl))
  f246 := Tryz.func40.trans (congrArg some (by kernel_rfl))
  f247 := Tryz.func75.trans (congrArg some (by kernel_rfl))
  f279 := Tryz.func76.trans (congrArg some (by kernel_rfl))
  f280 := Tryz.func77.trans (congrArg some (by kernel_rfl))
  f281 := Tryz.func78.trans (congrArg some (by kernel_rfl))
  f282 := Tryz.func79.trans (congrArg some (by kernel_rfl))
  f283 := Tryz.func52.trans (congrArg some (by kernel_rfl))
  f284 := Tryz.func53.trans (congrArg some (by kernel_rfl))
  f285 := Tryz.func54.trans (congrArg some (by kernel_rfl))
  f286 := Tryz.func55.trans (congrArg some (by kernel_rfl))
  f287 := Tryz.func83.trans (congrArg some (by kernel_rfl))
  f316 := Tryz.func84.trans (congrArg some (by kernel_rfl))
  f317 := Tryz.func68.trans (congrArg some (by kernel_rfl))
  f318 := Tryz.func70.trans (congrArg some (by kernel_rfl))
  f319 := Tryz.func71.trans (congrArg some (by kernel_rfl))
  f320 := Tryz.func72.trans (congrArg some (by kernel_rfl))
  f321 := Tryz.func86.trans (congrArg some (by kernel_rfl))
  f322 := Tryz.func87.trans (congrArg some (by kernel_rfl))
  f337 := Tryz.func81.trans (congrArg some (by kernel_rfl))
  f338 := Tryz.func82.trans (congrArg some (by kernel_rfl))
  t0 := Tryz.underlying0
  a0 := Tryz.isAgg0
  z0 := Tryz.sizeOf0
  v0 := Tryz.zeroValue0
  t2 := Tryz.underlying2
  a2 := Tryz.isAgg2
  z2 := Tryz.sizeOf2
  v2 := Tryz.zeroValue2
  t3 := Tryz.underlying3
  a3 := Tryz.isAgg3
  z3 := Tryz.sizeOf3
  v3 := Tryz.zeroValue3
  t4 := Tryz.underlying4
  a4 := Tryz.isAgg4
  z4 := Tryz.sizeOf4
  v4 := Tryz.zeroValue4
  t5 := Tryz.underlying5
  a5 := Tryz.isAgg5
  z5 := Tryz.sizeOf5
  v5 := Tryz.zeroValue5
  t9 := Tryz.underlying9
  a9 := Tryz.isAgg9
  z9 := Tryz.sizeOf9
  v9 := Tryz.zeroValue9
  t20 := Tryz.underlying20
  a20 := Tryz.isAgg20
  z20 := Tryz.sizeOf20
  v20 := Tryz.zeroValue20
  t21 := Tryz.underlying21
  a21 := Tryz.isAgg21
  z21 := Tryz.sizeOf21
  v21 := Tryz.zeroValue21
  t37 := Tryz.underlying46
  a37 := Tryz.isAgg46
  z37 := Tryz.sizeOf46
  v37 := Tryz.zeroValue46
  t46 := Tryz.underlying114
  a46 := Tryz.isAgg114
  z46 := Tryz.sizeOf114
  v46 := Tryz.zeroValue114
  t51 := Tryz.underlying120
  a51 := Tryz.isAgg120
  z51 := Tryz.sizeOf120
  v51 := Tryz.zeroValue120
  t53 := Tryz.underlying94
  a53 := Tryz.isAgg94
  z53 := Tryz.sizeOf94
  v53 := Tryz.zeroValue94
  t75 := Tryz.underlying30
  a75 := Tryz.isAgg30
  z75 := Tryz.sizeOf30
  v75 := Tryz.zeroValue30
  t76 := Tryz.underlying50
  a76 := Tryz.isAgg50
  z76 := Tryz.sizeOf50
  v76 := Tryz.zeroValue50
  t85 := Tryz.underlying127
  a85 := Tryz.isAgg127
  z85 := Tryz.sizeOf127
  v85 := Tryz.zeroValue127
  t127 := Tryz.underlying66
  a127 := Tryz.isAgg66
  z127 := Tryz.sizeOf66
  v127 := Tryz.zeroValue66
  t143 := Tryz.underlying147
  a143 := Tryz.isAgg147
  z143 := Tryz.sizeOf147
  v143 := Tryz.zeroValue147
  t145 := Tryz.underlying149
  a145 := Tryz.isAgg149
  z145 := Tryz.sizeOf149
  v145 := Tryz.zeroValue149
  t167 := Tryz.underlying126
  a167 := Tryz.isAgg126
  z167 := Tryz.sizeOf126
  v167 := Tryz.zeroValue126
  t168 := Tryz.underlying129
  a168 := Tryz.isAgg129
  z168 := Tryz.sizeOf129
  v168 := Tryz.zeroValue129
  t171 := Tryz.underlying93
  a171 := Tryz.isAgg93
  z171 := Tryz.sizeOf93
  v171 := Tryz.zeroValue93
  t173 := Tryz.underlying97
  a173 := Tryz.isAgg97
  z173 := Tryz.sizeOf97
  v173 := Tryz.zeroValue97
  t175 := Tryz.underlying133
  a175 := Tryz.isAgg133
  z175 := Tryz.sizeOf133
  v175 := Tryz.zeroValue133
  t210 := Tryz.underlying137
  a210 := Tryz.isAgg137
  z210 := Tryz.sizeOf137
  v210 := Tryz.zeroValue137
  t212 := Tryz.underlying119
  a212 := Tryz.isAgg119
  z212 := Tryz.sizeOf119
  v212 := Tryz.zeroValue119
  t213 := Tryz.underlying121
  a213 := Tryz.isAgg121
  z213 := Tryz.sizeOf121
  t232 := Tryz.underlying143
  a232 := Tryz.isAgg143
  z232 := Tryz.sizeOf143
  v232 := Tryz.zeroValue143
  t233 := Tryz.underlying144
  a233 := Tryz.isAgg144
  z233 := Tryz.sizeOf144
  v233 := Tryz.zeroValue144
  g15 := by kernel_rfl
  g16 := by kernel_rfl
  g17 := by kernel_rfl
  g18 := by kernel_rfl
  g19 := by kernel_rfl
  t80 := Tryz.underlying54
  a80 := Tryz.isAgg54
  z80 := Tryz.sizeOf54
  v80 := Tryz.zeroValue54
  i0 := by kernel_rfl
  i2 := by kernel_rfl
  i3 := by kernel_rfl
  i4 := by kernel_rfl
  i5 := by kernel_rfl
  i9 := by kernel_rfl
  i20 := by kernel_rfl
  i21 := by kernel_rfl
  i37 := by kernel_rfl
  i46 := by kernel_rfl
  i51 := by kernel_rfl
  i53 := by kernel_rfl
  i75 := by kernel_rfl
  i76 := by kernel_rfl
  i80 := by kernel_rfl
  i85 := by kernel_rfl
  i127 := by kernel_rfl
  i143 := by kernel_rfl
  i145 := by kernel_rfl
  i167 := by kernel_rfl
  i168 := by kernel_rfl
  i171 := by kernel_rfl
  i173 := by kernel_rfl
  i175 := by kernel_rfl
  i210 := by kernel_rfl
  i212 := by kernel_rfl
  i232 := by kernel_rfl
  i233 := by kernel_rfl
  m15 := by kernel_rfl
  m16 := by kernel_rfl
  m17 := by kernel_rfl
  m18 := by kernel_rfl
  m19 := by kernel_rfl
  c0 := by kernel_rfl
  c2 := by kernel_rfl
  c3 := by kernel_rfl
  c4 := by kernel_rfl
  c5 := by kernel_rfl
  c9 := by kernel_rfl
  c20 := by kernel_rfl
  c21 := by kernel_rfl
  c37 := by kernel_rfl
  c46 := by kernel_rfl
  c51 := by kernel_rfl
  c53 := by kernel_rfl
  c75 := by kernel_rfl
  c76 := by kernel_rfl
  c80 := by kernel_rfl
  c85 := by kernel_rfl
  c127 := by kernel_rfl
  c143 := by kernel_rfl
  c145 := by kernel_rfl
  c167 := by kernel_rfl
  c168 := by kernel_rfl
  c171 := by kernel_rfl
  c173 := by kernel_rfl
  c175 := by kernel_rfl
  c210 := by kernel_rfl
  c212 := by kernel_rfl
  c213 := by kernel_rfl
  c232 := by kernel_rfl
  c233 := by kernel_rfl }
end Go.Proofs
namespace Go.Proofs.YtpgkpbfefnpagaaGreatDoor
open Go.RowKit Go.Shelf

/-- What is laid. -/
structure GT (w : World) : Prop where
  err : errCell w
  max : ∃ m, w.cell? ⟨1, 0, none⟩ = some (.int .i64 m)
  tab : Lib.TabIs Tryz.prog w "internal/strconv.uint64pow10" .u64 Lib.pow10Tab
  syn : ∃ ev, w.cell? ⟨3, 0, none⟩ = some ev ∧ (ev = .nilIface ∨ ∃ te pe, ev = .iface te pe)
  rng : ∃ ev, w.cell? ⟨4, 0, none⟩ = some ev ∧ (ev = .nilIface ∨ ∃ te pe, ev = .iface te pe)
theorem GT_lasting : Lasting GT := fun w w' hb h => by
  have cell : ∀ {b : Nat} {v : Value}, w.cell? ⟨b, 0, none⟩ = some v → w'.cell? ⟨b, 0, none⟩ = some v := fun {b v} hc => by
    rw [cellKeep (hb.block b (cellLt hc))]; exact hc
  refine ⟨errCell_lasting w w' hb h.err, ?_, ?_, ?_, ?_⟩
  · obtain ⟨m, hm⟩ := h.max; exact ⟨m, cell hm⟩
  · have ht := h.tab
    unfold Lib.TabIs World.var? at ht ⊢
    obtain ⟨g, hg, h2⟩ := Option.bind_eq_some_iff.1 ht
    rw [hg, Option.bind_some]
    split at h2
    · rename_i cs t fr hc
      have hlt : g < w.heap.size := (Array.getElem?_eq_some_iff.1 hc).1
      rw [hb.block g hlt, hc]
      exact h2
    · cases h2
  · obtain ⟨m, hm, q⟩ := h.syn; exact ⟨m, cell hm, q⟩
  · obtain ⟨m, hm, q⟩ := h.rng; exact ⟨m, cell hm, q⟩
theorem Snd.of {P : Program} {G G' : World → Prop} {f : Nat} {args : List T} {r : T} (h : Snd P G f args r) (hG : ∀ w, G' w → G w) : Snd P G' f args r := ⟨h.enter, fun S w vs hw => h.calls S w vs (hG w hw)⟩
theorem str_inv {S : Nat → Prop} {w : World} {s : ByteArray} {v : Value} (h : RepT S w (.str s) v) : v = .string s := by cases h; rfl
theorem below_drewN (w : World) (n : Nat) : Below w.heap.size w (w.drewN n) := ⟨rfl, rfl, rfl, Nat.le_refl _, fun _ _ => rfl⟩
theorem args1 {vs : Array Value} (h : vs.size = 1) : ∃ v, vs = #[v] := by
  match vs, h with
  | ⟨[v]⟩, _ => exact ⟨v, rfl⟩
theorem args2 {vs : Array Value} (h : vs.size = 2) : ∃ v u, vs = #[v, u] := by
  match vs, h with
  | ⟨[v, u]⟩, _ => exact ⟨v, u, rfl⟩
theorem Cut_snd (s : List UInt8) (c : UInt8) (hs : s.length ≤ 2000000) : Snd Tryz.prog GT 22 [tStr s, .str ⟨#[c]⟩] (.tup [tStr ((cutB c s).headD []), tStr (joinB c (cutB c s).tail), .bool (decide ((cutB c s).tail ≠ []))]) := by
  refine ⟨enter_of Tryz.func22 rfl rfl, fun S w vs hG hsz hr => ?_⟩
  obtain ⟨v0, v1, rfl⟩ := args2 hsz
  obtain rfl := str_inv (hr 0 _ v0 rfl rfl)
  obtain rfl := str_inv (hr 1 _ v1 rfl rfl)
  obtain ⟨m, hm⟩ := hG.max
  refine (Any.strings_Cut Tryz.layCut ⟨s.toArray⟩ ⟨#[c]⟩ m w (by rw [str_size]; omega) hm).mono fun e w' ⟨he, n, hw⟩ => ?_
  subst he hw
  have hc := cut_cut c s
  refine ⟨_, rfl, ?_, below_drewN w n⟩
  refine .tup _ _ rfl fun k y v h1 h2 => ?_
  have hd : Lib.cut (⟨s.toArray⟩ : ByteArray).data.toList (⟨#[c]⟩ : ByteArray).data.toList = _ := hc
  rw [hd] at h2
  match k, h1, h2 with
  | 0, h1, h2 => cases h1; cases h2; exact .str _
  | 1, h1, h2 => cases h1; cases h2; exact .str _
  | 2, h1, h2 => cases h1; cases h2; exact .bool _
/-- A new block of texts. -/
theorem rep_strs (S : Nat → Prop) (w : World) (t : TypeId) (l : List (List UInt8)) (hl : l.length ≤ maxLen) : RepT (fun b => S b ∨ w.heap.size ≤ b) (w.alloc (.cells (l.map fun x => Value.string ⟨x.toArray⟩).toArray t)) (tStrs l) (.slice (some ⟨w.heap.size, 0, none⟩) l.length l.length) := by
  have hfl : flat (l.map tStr) = l.map tStr := flat_isCell fun x hx => by obtain ⟨y, _, rfl⟩ := List.mem_map.1 hx; rfl
  have hlen : (l.map tStr).length = l.length := List.length_map _
  unfold tStrs
  rw [← hlen]
  refine .list (l.map tStr) (some ⟨w.heap.size, 0, none⟩) (l.map tStr).length 1 (fun k => Value.string ⟨(l.getD k []).toArray⟩) (by rw [hlen]; exact hl) Nat.one_pos (fun x hx => by obtain ⟨y, _, rfl⟩ := List.mem_map.1 hx; rfl) (fun _ => ⟨w.heap.size, 0, rfl, .inr (Nat.le_refl _), fun k hk => ?_⟩) (fun k _ => rfl) (fun k y hy => ?_) (Nat.le_refl _)
  · rw [hlen, Nat.mul_one] at hk
    rw [World.cell?_alloc_at _ _ _ _ rfl, Nat.zero_add]
    simp [hk, List.getD_eq_getElem?_getD]
  · rw [hfl, List.getElem?_map, Option.map_eq_some_iff] at hy
    obtain ⟨x, hx, rfl⟩ := hy
    rw [List.getD_eq_getElem?_getD, hx]
    exact .str _
theorem Split_snd (s : List UInt8) (c : UInt8) (hs : s.length ≤ 2000000) : Snd Tryz.prog GT 24 [tStr s, .str ⟨#[c]⟩] (tStrs (cutB c s)) := by
  refine ⟨enter_of Tryz.func24 rfl rfl, fun S w vs hG hsz hr => ?_⟩
  obtain ⟨v0, v1, rfl⟩ := args2 hsz
  obtain rfl := str_inv (hr 0 _ v0 rfl rfl)
  obtain rfl := str_inv (hr 1 _ v1 rfl rfl)
  obtain ⟨m, hm⟩ := hG.max
  have h1 : 1 ≤ (⟨#[c]⟩ : ByteArray).size := Nat.le_refl _
  refine (Any.strings_Split { Tryz.laySplit with } Tryz.laySplit.i9 ⟨s.toArray⟩ ⟨#[c]⟩ m w (by rw [str_size]; omega) hm h1).mono fun e w' ⟨he, hw⟩ => ?_
  have hcount : Lib.countB (⟨s.toArray⟩ : ByteArray) ⟨#[c]⟩ = s.count c := Lib.count_one c s
  have hd : (Lib.splitB ⟨#[c]⟩ 0 (Lib.countB (⟨s.toArray⟩ : ByteArray) ⟨#[c]⟩) ⟨s.toArray⟩).map (fun x => x.data.toList) = cutB c s := by
    rw [Lib.splitB_data, hcount]
    exact splitK_cut c _ s rfl
  have hmap : (Lib.splitB ⟨#[c]⟩ 0 (Lib.countB (⟨s.toArray⟩ : ByteArray) ⟨#[c]⟩) ⟨s.toArray⟩).map Value.string = (cutB c s).map fun x => Value.string ⟨x.toArray⟩ := by
    rw [← hd, List.map_map]
    exact List.map_congr_left fun x _ => rfl
  have hk : Lib.countB (⟨s.toArray⟩ : ByteArray) ⟨#[c]⟩ + 1 = (cutB c s).length := by
    rw [← hd, List.length_map, Lib.splitB_all ⟨#[c]⟩ h1 0 _ _ rfl]
  rw [hmap] at hw
  rw [hk] at he
  subst he hw
  have hl := Lib.countB_le ⟨#[c]⟩ h1 s.length ⟨s.toArray⟩ (by rw [str_size]; exact Nat.le_refl _)
  rw [str_size] at hl
  exact ⟨_, rfl, rep_strs S w _ _ (by unfold maxLen; omega), alloc_below w _⟩
theorem Join_snd {G : World → Prop} (v : List UInt8) (l : List (List UInt8)) (c : UInt8) (hl : (joinB c (v :: l)).length ≤ 2000000) (hn : l.length ≤ 2000000) : Snd Tryz.prog G 16 [tStrs (v :: l), .str ⟨#[c]⟩] (tStr (joinB c (v :: l))) := by
  refine ⟨enter_of Tryz.func16 rfl rfl, fun S w vs hG hsz hr => ?_⟩
  obtain ⟨v0, v1, rfl⟩ := args2 hsz
  obtain rfl := str_inv (hr 1 _ v1 rfl rfl)
  have h0 : RepT S w (tStrs (v :: l)) v0 := hr 0 _ v0 rfl rfl
  have hcp0 := h0
  obtain ⟨a, cap, sz, xs, rfl, _, _, hf, ha, _, hx⟩ := h0.listInv
  have hcap := hcp0.listCap
  clear hcp0
  obtain ⟨b, off, rfl, _, hc⟩ := ha (by simp)
  have hsz1 : sz = 1 := (hf (tStr v) (by simp)).symm
  subst hsz1
  have hfl : flat ((v :: l).map tStr) = (v :: l).map tStr := flat_isCell fun x hx => by obtain ⟨y, _, rfl⟩ := List.mem_map.1 hx; rfl
  rw [hfl] at hx
  have hlen : ((v :: l).map tStr).length = ((v :: l).map fun x => (⟨x.toArray⟩ : ByteArray)).length := by simp
  have hjoin : Lib.join (((v :: l).map fun x => (⟨x.toArray⟩ : ByteArray)).map (·.data.toList)) (⟨#[c]⟩ : ByteArray).data.toList = joinB c (v :: l) := by
    rw [List.map_map]
    have : (v :: l).map ((fun x : ByteArray => x.data.toList) ∘ fun x => (⟨x.toArray⟩ : ByteArray)) = v :: l := by
      conv => rhs; rw [← List.map_id (v :: l)]
      exact List.map_congr_left fun x _ => rfl
    rw [this]
    exact join_lib c v l
  rw [hlen]
  rw [hlen] at hcap
  refine (Any.strings_Join Tryz.layJoin Tryz.bldExtra b off cap _ ⟨#[c]⟩ w (fun j x hj => ?_) ?_ ?_ hcap ?_).mono fun e w' ⟨he, hw⟩ => ?_
  · rw [List.getElem?_map, Option.map_eq_some_iff] at hj
    obtain ⟨y, hy, rfl⟩ := hj
    have hjl := (List.getElem?_eq_some_iff.1 hy).1
    rw [hc j (by rw [List.length_map]; omega)]
    have := hx j (tStr y) (by rw [List.getElem?_map, hy]; rfl)
    rw [str_inv this]
  · exact cellLt (hc 0 (by simp))
  · rw [List.length_map, List.length_cons]; omega
  · rw [hjoin]; omega
  · rw [hjoin] at he
    subst he
    exact ⟨_, rfl, .str _, hw⟩
theorem Itoa_snd (n : Int) (h : I64 n) : Snd Tryz.prog GT 17 [tInt n] (tStr (Lib.itoa n)) := by
  refine ⟨enter_of Tryz.func17 rfl rfl, fun S w vs hG hsz hr => ?_⟩
  obtain ⟨v0, rfl⟩ := args1 hsz
  obtain rfl := intInv (hr 0 _ v0 rfl rfl)
  refine (Any.strconv_Itoa Tryz.layItoa n h.1 h.2 w hG.tab).mono fun e w' ⟨he, k, os, hw⟩ => ?_
  subst he hw
  exact ⟨_, rfl, .str _, Lib.below_grow _ w (Nat.le_refl _) k os⟩
theorem Atoi_snd (s : List UInt8) (hs : s.length ≤ 2000000) : Snd Tryz.prog GT 47 [tStr s] (.tup [tInt (atoiV s), if atoiOk s = true then .nilI else .iface (Tryz.layAtoi_ren.t 168) .undef]) := by
  refine ⟨enter_of Tryz.func47 rfl rfl, fun S w vs hG hsz hr => ?_⟩
  obtain ⟨v0, rfl⟩ := args1 hsz
  obtain rfl := str_inv (hr 0 _ v0 rfl rfl)
  have hz : (⟨s.toArray⟩ : ByteArray).size ≤ 2000000 := by rw [str_size]; exact hs
  unfold atoiV atoiOk
  cases h : Lib.atoiAll s
  · rename_i v
    refine (Any.strconv_Atoi_ok Tryz.layAtoi ⟨s.toArray⟩ (by omega) v h w).mono fun e w' ⟨he, hw⟩ => ?_
    subst he
    refine ⟨_, rfl, .tup _ _ rfl fun k y u h1 h2 => ?_, ?_⟩
    · match k, h1, h2 with
      | 0, h1, h2 => cases h1; cases h2; exact .int _ _
      | 1, h1, h2 => cases h1; cases h2; exact .nilI
    · rcases hw with rfl | ⟨t, rfl⟩
      · exact Below.refl _ _
      · exact Lib.bytesWorld_below _ _ _
  · obtain ⟨ev, hv, hev⟩ := hG.syn
    refine (Any.strconv_Atoi_syntax Tryz.layAtoi ⟨s.toArray⟩ (by omega) h ev w hv hev).mono fun e w' ⟨N, he, _, _, hb⟩ => ?_
    subst he
    refine ⟨_, rfl, .tup _ _ rfl fun k y u h1 h2 => ?_, hb⟩
    match k, h1, h2 with
    | 0, h1, h2 => cases h1; cases h2; exact .int _ _
    | 1, h1, h2 => cases h1; cases h2; exact .iface _ _ _ (.undef _)
  · obtain ⟨ev, hv, hev⟩ := hG.rng
    refine (Any.strconv_Atoi_range Tryz.layAtoi ⟨s.toArray⟩ (by omega) h ev w hv hev).mono fun e w' ⟨N, he, _, _, hb⟩ => ?_
    subst he
    refine ⟨_, rfl, .tup _ _ rfl fun k y u h1 h2 => ?_, hb⟩
    match k, h1, h2 with
    | 0, h1, h2 => cases h1; cases h2; exact .int _ _
    | 1, h1, h2 => cases h1; cases h2; exact .iface _ _ _ (.undef _)
end Go.Proofs.YtpgkpbfefnpagaaGreatDoor
namespace Go.Proofs.YtpgkpbfefnpagaaGreatDoor
open Go.RowKit

theorem atoi_i64 (w : List UInt8) : I64 (atoiV w) := by
  unfold atoiV I64
  cases h : Lib.atoiAll w
  · exact Lib.atoiAll_bounds h
  · exact ⟨by show (-9223372036854775808 : Int) ≤ 0; decide, by show (0 : Int) ≤ 9223372036854775807; decide⟩
  · exact Lib.atoiSat_bounds w
set_option maxHeartbeats 4000000 in
theorem number_snd (w : List UInt8) (hw : w.length ≤ 2000000) : Snd Tryz.prog GT 34 [tStr w] (.tup [tInt (atoiV w), .bool (decide (0 ≤ smallI w))]) := by
  have hG := GT_lasting
  have cA := Atoi_snd w hw
  refine snd_of_body (n := 29) (tm := [(0, .t (tStr w))]) (rs := [.tmp 2, .tmp 3]) tt_ok Tryz.func34 rfl rfl rfl rfl rfl ?_
  have hsz := str_size w
  have hI := atoi_i64 w
  by_cases h : 0 ≤ smallI w
  · obtain ⟨n, h1, h2, h3, h4, h5, h6⟩ := number_yes h
    rw [decide_eq_true h]
    rw [h3, if_pos rfl, h4] at cA
    rw [h4]
    have cI := Itoa_snd (n : Int) (by unfold I64; omega)
    rw [h6] at cI
    have hq : (w == w) = true := by simp
    have htb := Tab.cons cA (Tab.cons cI Tab.nil)
    repeat' (first | (with_reducible first | apply w1 | apply w2 | apply w3 | apply w4 | apply w5 | apply w6 | apply w7 | apply w8 | apply w9 | apply wa | apply wb | apply wc) | ((with_reducible apply wd); focus decide) | ((with_reducible apply we); focus exact rfl) | ((with_reducible apply wf); focus exact rfl) | ((first | (with_reducible apply SW_run tt_ok hG htb) | ((with_reducible apply SW_draw rfl tt_ok hG htb); (focus kernel_rfl); focus simp only [List.range, List.range.loop, List.size_toArray, List.length_cons, List.length_nil, Nat.reduceAdd])); focus ((repeat' (first | (with_reducible first | exact wg | exact wh) | ((with_reducible first | apply wi | apply wj); focus (simp (discharger := omega) only [go_sem, tStr, hsz, str_list, hq, simprocAttr]; with_reducible rfl)))); done)))
    exact (by simp (discharger := omega) only [go_sem, simprocAttr])
  · rw [decide_eq_false h]
    obtain ⟨v, hv⟩ : ∃ v, atoiV w = v := ⟨_, rfl⟩
    rw [hv] at cA hI ⊢
    cases h3 : atoiOk w
    · rw [h3, if_neg (by decide)] at cA
      have htb := Tab.cons cA Tab.nil
      repeat' (first | (with_reducible first | apply w1 | apply w2 | apply w3 | apply w4 | apply w5 | apply w6 | apply w7 | apply w8 | apply w9 | apply wa | apply wb | apply wc) | ((with_reducible apply wd); focus decide) | ((with_reducible apply we); focus exact rfl) | ((with_reducible apply wf); focus exact rfl) | ((first | (with_reducible apply SW_run tt_ok hG htb) | ((with_reducible apply SW_draw rfl tt_ok hG htb); (focus kernel_rfl); focus simp only [List.range, List.range.loop, List.size_toArray, List.length_cons, List.length_nil, Nat.reduceAdd])); focus ((repeat' (first | (with_reducible first | exact wg | exact wh) | ((with_reducible first | apply wi | apply wj); focus (simp (discharger := omega) only [go_sem, tStr, hsz, simprocAttr]; with_reducible rfl)))); done)))
      exact (by simp (discharger := omega) only [go_sem, simprocAttr])
    · rw [h3, if_pos rfl] at cA
      have cI := Itoa_snd v hI
      have htb := Tab.cons cA (Tab.cons cI Tab.nil)
      by_cases h5 : w.length ≤ 3
      · by_cases h0 : 0 ≤ v
        · have hne := number_no (by omega) h5 h0
          obtain ⟨u, hu⟩ : ∃ u, Lib.itoa v = u := ⟨_, rfl⟩
          rw [hu] at htb hne
          have hq : (u == w) = false := by simpa using hne
          repeat' (first | (with_reducible first | apply w1 | apply w2 | apply w3 | apply w4 | apply w5 | apply w6 | apply w7 | apply w8 | apply w9 | apply wa | apply wb | apply wc) | ((with_reducible apply wd); focus decide) | ((with_reducible apply we); focus exact rfl) | ((with_reducible apply wf); focus exact rfl) | ((first | (with_reducible apply SW_run tt_ok hG htb) | ((with_reducible apply SW_draw rfl tt_ok hG htb); (focus kernel_rfl); focus simp only [List.range, List.range.loop, List.size_toArray, List.length_cons, List.length_nil, Nat.reduceAdd])); focus ((repeat' (first | (with_reducible first | exact wg | exact wh) | ((with_reducible first | apply wi | apply wj); focus (simp (discharger := omega) only [go_sem, tStr, hsz, str_list, hq, simprocAttr]; with_reducible rfl)))); done)))
          exact (by simp (discharger := omega) only [go_sem, simprocAttr])
        · repeat' (first | (with_reducible first | apply w1 | apply w2 | apply w3 | apply w4 | apply w5 | apply w6 | apply w7 | apply w8 | apply w9 | apply wa | apply wb | apply wc) | ((with_reducible apply wd); focus decide) | ((with_reducible apply we); focus exact rfl) | ((with_reducible apply wf); focus exact rfl) | ((first | (with_reducible apply SW_run tt_ok hG htb) | ((with_reducible apply SW_draw rfl tt_ok hG htb); (focus kernel_rfl); focus simp only [List.range, List.range.loop, List.size_toArray, List.length_cons, List.length_nil, Nat.reduceAdd])); focus ((repeat' (first | (with_reducible first | exact wg | exact wh) | ((with_reducible first | apply wi | apply wj); focus (simp (discharger := omega) only [go_sem, tStr, hsz, simprocAttr]; with_reducible rfl)))); done)))
          exact (by simp (discharger := omega) only [go_sem, simprocAttr])
      · repeat' (first | (with_reducible first | apply w1 | apply w2 | apply w3 | apply w4 | apply w5 | apply w6 | apply w7 | apply w8 | apply w9 | apply wa | apply wb | apply wc) | ((with_reducible apply wd); focus decide) | ((with_reducible apply we); focus exact rfl) | ((with_reducible apply wf); focus exact rfl) | ((first | (with_reducible apply SW_run tt_ok hG htb) | ((with_reducible apply SW_draw rfl tt_ok hG htb); (focus kernel_rfl); focus simp only [List.range, List.range.loop, List.size_toArray, List.length_cons, List.length_nil, Nat.reduceAdd])); focus ((repeat' (first | (with_reducible first | exact wg | exact wh) | ((with_reducible first | apply wi | apply wj); focus (simp (discharger := omega) only [go_sem, tStr, hsz, simprocAttr]; with_reducible rfl)))); done)))
        exact (by simp (discharger := omega) only [go_sem, simprocAttr])
set_option maxHeartbeats 4000000 in
theorem numbers_snd (l : List (List UInt8)) (hl : l.length ≤ 2000000) (hw : ∀ w ∈ l, w.length ≤ 2000000) : Snd Tryz.prog GT 23 [tStrs l] (.tup [tInts (smallsL l), .bool (smallsOk l)]) := by
  have hG := GT_lasting
  have htb : Tab.ok Tryz.prog GT [] := Tab.nil
  refine snd_of_body (n := 28) (tm := [(0, .t (tStrs l))]) (rs := [.tmp 2, .tmp 3]) tt_ok Tryz.func23 rfl rfl rfl rfl rfl ?_
  obtain ⟨ns, hns⟩ : ∃ ns, smallsL l = ns := ⟨_, rfl⟩
  obtain ⟨ok, hok⟩ : ∃ ok, smallsOk l = ok := ⟨_, rfl⟩
  rw [hns, hok]
  repeat' (first | (with_reducible first | apply w1 | apply w2 | apply w3 | apply w4 | apply w5 | apply w6 | apply w7 | apply w8 | apply w9 | apply wa | apply wb | apply wc) | ((with_reducible apply wd); focus decide) | ((with_reducible apply we); focus exact rfl) | ((with_reducible apply wf); focus exact rfl) | ((first | (with_reducible apply SW_run tt_ok hG htb) | ((with_reducible apply SW_draw rfl tt_ok hG htb); (focus kernel_rfl); focus simp only [List.range, List.range.loop, List.size_toArray, List.length_cons, List.length_nil, Nat.reduceAdd])); focus ((repeat' (first | (with_reducible first | exact wg | exact wh) | ((with_reducible first | apply wi | apply wj); focus (simp (discharger := omega) only [go_sem, tStrs, simprocAttr]; with_reducible rfl)))); done)))
  clear htb
  refine SW_loop (fun mm st => ∃ (i : Nat) (ot : List T), mm = l.length - i ∧ st = ⟨28, [(4, .sref 0), (9, .t (tStrs l)), (10, .t (tNat l.length)), (11, .t (tNat i))], [.row 3 1 false ot]⟩ ∧ ot = ((l.take i).map smallI).map tInt ∧ i ≤ l.length ∧ (l.take i).all (fun w => decide (0 ≤ smallI w)) = true) l.length
    ⟨_, Norm.headS (own := [(4, 3, 1, false)]) (keep := [4, 9, 10, 11]) (by refine ⟨?_, ?_⟩; (simp (discharger := omega) only [go_sem, simprocAttr]; with_reducible rfl); refine ⟨?_, ?_, ?_, ?_⟩ <;> (simp only [go_sem, simprocAttr]; with_reducible rfl)), 0, _, rfl, rfl, by simp, Nat.zero_le _, rfl⟩ ?_
  rintro mm st ⟨i, ot, rfl, rfl, hot, hi, ha⟩
  have hol : ot.length = i := by rw [hot]; simp; omega
  by_cases hlt : i < l.length
  · obtain ⟨w, hwi⟩ : ∃ w, l[i]! = w := ⟨_, rfl⟩
    have htk := take_next hwi hlt
    have hmem := bang_mem hwi hlt
    have cS := number_snd w (hw w hmem)
    by_cases h0 : 0 ≤ smallI w
    · obtain ⟨n, h1, h2, _, h4, _, _⟩ := number_yes h0
      rw [decide_eq_true h0, h4] at cS
      have htb := Tab.cons cS Tab.nil
      repeat' (first | (with_reducible first | apply w1 | apply w2 | apply w3 | apply w4 | apply w5 | apply w6 | apply w7 | apply w8 | apply w9 | apply wa | apply wb | apply wc) | ((with_reducible apply wd); focus decide) | ((with_reducible apply we); focus exact rfl) | ((with_reducible apply wf); focus exact rfl) | ((first | (with_reducible apply SW_run tt_ok hG htb) | ((with_reducible apply SW_draw rfl tt_ok hG htb); (focus kernel_rfl); focus simp only [List.range, List.range.loop, List.size_toArray, List.length_cons, List.length_nil, Nat.reduceAdd])); focus ((repeat' (first | (with_reducible first | exact wg | exact wh) | ((with_reducible first | apply wi | apply wj); focus (simp (discharger := omega) only [go_sem, tStrs, tStr, hwi, simprocAttr]; with_reducible rfl)))); done)))
      exact ⟨l.length - (i + 1), _, by omega, Norm.headS (own := [(4, 3, 1, false)]) (keep := [4, 9, 10, 11]) (by refine ⟨?_, ?_⟩; (simp (discharger := omega) only [go_sem, simprocAttr]; with_reducible rfl); refine ⟨?_, ?_, ?_, ?_⟩ <;> (simp only [go_sem, simprocAttr]; with_reducible rfl)), i + 1, _, rfl, rfl, by rw [htk, List.map_append, List.map_append, hot, ← h1]; rfl, by omega, by rw [htk, List.all_append, ha, List.all_cons, decide_eq_true h0]; rfl⟩
    · rw [decide_eq_false h0] at cS
      have hno : ok = false := by
        rw [← hok, ← Bool.not_eq_true]
        intro q
        exact h0 (of_decide_eq_true (List.all_eq_true.1 q w hmem))
      have hn2 : ns = [] := by rw [← hns]; unfold smallsL; rw [hok, hno]; rfl
      rw [hno, hn2]
      have htb := Tab.cons cS Tab.nil
      repeat' (first | (with_reducible first | apply w1 | apply w2 | apply w3 | apply w4 | apply w5 | apply w6 | apply w7 | apply w8 | apply w9 | apply wa | apply wb | apply wc) | ((with_reducible apply wd); focus decide) | ((with_reducible apply we); focus exact rfl) | ((with_reducible apply wf); focus exact rfl) | ((first | (with_reducible apply SW_run tt_ok hG htb) | ((with_reducible apply SW_draw rfl tt_ok hG htb); (focus kernel_rfl); focus simp only [List.range, List.range.loop, List.size_toArray, List.length_cons, List.length_nil, Nat.reduceAdd])); focus ((repeat' (first | (with_reducible first | exact wg | exact wh) | ((with_reducible first | apply wi | apply wj); focus (simp (discharger := omega) only [go_sem, tStrs, tStr, hwi, simprocAttr]; with_reducible rfl)))); done)))
      exact (by simp (discharger := omega) only [go_sem, simprocAttr])
  · obtain rfl : i = l.length := by omega
    rw [List.take_length] at hot ha
    have hy : ok = true := by rw [← hok]; exact ha
    have hn2 : ns = l.map smallI := by rw [← hns]; unfold smallsL; rw [hok, hy]; rfl
    rw [hy, hn2]
    subst hot
    have htb : Tab.ok Tryz.prog GT [] := Tab.nil
    repeat' (first | (with_reducible first | apply w1 | apply w2 | apply w3 | apply w4 | apply w5 | apply w6 | apply w7 | apply w8 | apply w9 | apply wa | apply wb | apply wc) | ((with_reducible apply wd); focus decide) | ((with_reducible apply we); focus exact rfl) | ((with_reducible apply wf); focus exact rfl) | ((first | (with_reducible apply SW_run tt_ok hG htb) | ((with_reducible apply SW_draw rfl tt_ok hG htb); (focus kernel_rfl); focus simp only [List.range, List.range.loop, List.size_toArray, List.length_cons, List.length_nil, Nat.reduceAdd])); focus ((repeat' (first | (with_reducible first | exact wg | exact wh) | ((with_reducible first | apply wi | apply wj); focus (simp (discharger := omega) only [go_sem, tStrs, simprocAttr]; with_reducible rfl)))); done)))
    exact (by simp (discharger := omega) only [go_sem, simprocAttr])
end Go.Proofs.YtpgkpbfefnpagaaGreatDoor
namespace Go.Proofs.YtpgkpbfefnpagaaGreatDoor
open Go.RowKit

set_option maxHeartbeats 16000000 in
theorem Parse_snd (s : List UInt8) (hs : s.length ≤ 1500000) : Snd Tryz.prog GT 9 [tStr s] (.tup [tAuto (readTape s).1, tInt (readTape s).2.1, tErr (readTape s).2.2]) := by
  have hG := GT_lasting
  obtain ⟨lines, hlines⟩ : ∃ l, cutB 10 s = l := ⟨_, rfl⟩
  obtain ⟨hd, ls, hcons⟩ : ∃ hd ls, lines = hd :: ls := by
    cases h : lines with
    | nil => exact absurd (hlines.trans h) (cutB_ne _ _)
    | cons a b => exact ⟨a, b, rfl⟩
  have hhd : hd.length ≤ s.length := cutB_mem 10 s hd (by rw [hlines, hcons]; exact List.mem_cons_self)
  have hclean : ∀ w ∈ ls, (10 : UInt8) ∉ w := fun w hw => cutB_clean 10 s w (by rw [hlines, hcons]; exact List.mem_cons_of_mem _ hw)
  have hrl : (joinB 10 ls).length ≤ s.length := by
    have q := joinB_cut 10 s
    rw [hlines, hcons] at q
    cases hl : ls with
    | nil => exact Nat.zero_le _
    | cons v r =>
      rw [hl] at q
      have q : hd ++ 10 :: joinB 10 (v :: r) = s := q
      rw [← q]; simp; omega
  have c1 := Cut_snd s 10 (by omega)
  rw [hlines, hcons, List.headD_cons, List.tail_cons] at c1
  obtain ⟨ended, hended⟩ : ∃ x, decide (ls ≠ []) = x := ⟨_, rfl⟩
  obtain ⟨rest, hrest⟩ : ∃ x, joinB 10 ls = x := ⟨_, rfl⟩
  rw [hended, hrest] at c1
  rw [hrest] at hrl
  obtain ⟨W, hW⟩ : ∃ l, cutB 32 hd = l := ⟨_, rfl⟩
  have hWl := cutB_len 32 hd
  have hWw := cutB_mem 32 hd
  rw [hW] at hWl hWw
  have c2 := Split_snd hd 32 (by omega)
  rw [hW] at c2
  have c3 := numbers_snd W (by omega) (fun w hw => by have := hWw w hw; omega)
  obtain ⟨ok, hok⟩ : ∃ ok, smallsOk W = ok := ⟨_, rfl⟩
  obtain ⟨h, hh⟩ : ∃ h, smallsL W = h := ⟨_, rfl⟩
  rw [hok, hh] at c3
  have hlt := smallsL_lt (l := W)
  rw [hh] at hlt
  have hR1 : readTape s = readHead ls h := by
    unfold readTape
    rw [hlines, hcons]
    simp only [hW, hh]
  obtain ⟨⟨ra, rk, re⟩, hR⟩ : ∃ r, readTape s = r := ⟨_, rfl⟩
  rw [hR] at hR1 ⊢
  simp only
  have bad : ∀ k e, (ra, rk, re) = (GAuto.zero, k, e) → ra = ⟨0, 0, [], []⟩ ∧ rk = k ∧ re = e := fun k e q => by
    injection q with q1 q2
    injection q2 with q2 q3
    exact ⟨q1, q2, q3⟩
  have htb := Tab.cons c1 (Tab.cons c2 (Tab.cons c3 Tab.nil))
  refine snd_of_body (n := 170) (tm := [(0, .t (tStr s))]) (rs := [.cell 2 25, .tmp 3, .tmp 4]) tt_ok Tryz.func9 rfl rfl rfl rfl rfl ?_
  clear hW hWw c1 c2 c3
  by_cases hok' : ok = true
  rotate_left
  · have hok2 : ok = false := by simpa using hok'
    have hn : h = [] := by rw [← hh]; unfold smallsL; rw [hok, hok2]; rfl
    rw [hn] at hR1
    obtain ⟨rfl, rfl, rfl⟩ := bad 0 5 (hR1.trans (readHead_no (by decide)))
    subst hok2
    repeat' (first | (with_reducible first | apply w1 | apply w2 | apply w3 | apply w4 | apply w5 | apply w6 | apply w7 | apply w8 | apply w9 | apply wa | apply wb | apply wc) | ((with_reducible apply wd); focus decide) | ((with_reducible apply we); focus exact rfl) | ((with_reducible apply wf); focus exact rfl) | ((first | (with_reducible apply SW_run tt_ok hG htb) | ((with_reducible apply SW_draw rfl tt_ok hG htb); (focus kernel_rfl); focus simp only [List.range, List.range.loop, List.size_toArray, List.length_cons, List.length_nil, Nat.reduceAdd])); focus ((repeat' (first | (with_reducible first | exact wg | exact wh) | ((with_reducible first | apply wi | apply wj); focus (simp (discharger := omega) only [go_sem, tStrs, tStr, simprocAttr]; with_reducible rfl)))); done)))
    exact (by simp (discharger := omega) only [go_sem, tAuto, tErr, simprocAttr])
  subst hok'
  by_cases h3 : h.length = 3
  rotate_left
  · have hR2 := hR1.trans (readHead_no h3)
    obtain ⟨rfl, rfl, rfl⟩ := bad _ _ hR2
    repeat' (first | (with_reducible first | apply w1 | apply w2 | apply w3 | apply w4 | apply w5 | apply w6 | apply w7 | apply w8 | apply w9 | apply wa | apply wb | apply wc) | ((with_reducible apply wd); focus decide) | ((with_reducible apply we); focus exact rfl) | ((with_reducible apply wf); focus exact rfl) | ((first | (with_reducible apply SW_run tt_ok hG htb) | ((with_reducible apply SW_draw rfl tt_ok hG htb); (focus kernel_rfl); focus simp only [List.range, List.range.loop, List.size_toArray, List.length_cons, List.length_nil, Nat.reduceAdd])); focus ((repeat' (first | (with_reducible first | exact wg | exact wh) | ((with_reducible first | apply wi | apply wj); focus (simp (discharger := omega) only [go_sem, tStrs, tStr, simprocAttr]; with_reducible rfl)))); done)))
    exact (by simp (discharger := omega) only [go_sem, tAuto, tErr, simprocAttr])
  by_cases h2 : ls = []
  · have hR2 : (ra, rk, re) = (GAuto.zero, 0, 5) := by
      rw [hR1, h2, readHead_nil]
    obtain ⟨rfl, rfl, rfl⟩ := bad _ _ hR2
    obtain rfl : ended = false := by rw [← hended]; exact decide_eq_false (fun q => q h2)
    repeat' (first | (with_reducible first | apply w1 | apply w2 | apply w3 | apply w4 | apply w5 | apply w6 | apply w7 | apply w8 | apply w9 | apply wa | apply wb | apply wc) | ((with_reducible apply wd); focus decide) | ((with_reducible apply we); focus exact rfl) | ((with_reducible apply wf); focus exact rfl) | ((first | (with_reducible apply SW_run tt_ok hG htb) | ((with_reducible apply SW_draw rfl tt_ok hG htb); (focus kernel_rfl); focus simp only [List.range, List.range.loop, List.size_toArray, List.length_cons, List.length_nil, Nat.reduceAdd])); focus ((repeat' (first | (with_reducible first | exact wg | exact wh) | ((with_reducible first | apply wi | apply wj); focus (simp (discharger := omega) only [go_sem, tStrs, tStr, h3, simprocAttr]; with_reducible rfl)))); done)))
    exact (by simp (discharger := omega) only [go_sem, tAuto, tErr, simprocAttr])
  obtain rfl : ended = true := by rw [← hended]; exact decide_eq_true h2
  obtain ⟨b, hb⟩ : ∃ b, h[0]! = b := ⟨_, rfl⟩
  obtain ⟨t, ht⟩ : ∃ b, h[1]! = b := ⟨_, rfl⟩
  obtain ⟨n, hn⟩ : ∃ b, h[2]! = b := ⟨_, rfl⟩
  have hh3 := three h3
  rw [hb, ht, hn] at hh3
  have hb1 := hlt b (by rw [hh3]; simp)
  have ht1 := hlt t (by rw [hh3]; simp)
  have hn1 := hlt n (by rw [hh3]; simp)
  have hR2 : (ra, rk, re) = if manyErr b t = 0 then (if n = 0 then (GAuto.zero, 0, 4) else if 80 < n then (GAuto.zero, 0, 3) else readRows b t (manyOf b t) n n.toNat 0 ls [] []) else (GAuto.zero, 0, manyErr b t) := by
    rw [hR1, hh3]
    exact readHead_three h2 b t n
  clear hR1 hlt hh3
  have c4 := Many_snd hG b t
  obtain ⟨e, he⟩ : ∃ e, manyErr b t = e := ⟨_, rfl⟩
  obtain ⟨L, hL⟩ : ∃ L, manyOf b t = L := ⟨_, rfl⟩
  rw [he, hL] at c4
  rw [he, hL] at hR2
  repeat' (first | (with_reducible first | apply w1 | apply w2 | apply w3 | apply w4 | apply w5 | apply w6 | apply w7 | apply w8 | apply w9 | apply wa | apply wb | apply wc) | ((with_reducible apply wd); focus decide) | ((with_reducible apply we); focus exact rfl) | ((with_reducible apply wf); focus exact rfl) | ((first | (with_reducible apply SW_run tt_ok hG htb) | ((with_reducible apply SW_draw rfl tt_ok hG htb); (focus kernel_rfl); focus simp only [List.range, List.range.loop, List.size_toArray, List.length_cons, List.length_nil, Nat.reduceAdd])); focus ((repeat' (first | (with_reducible first | exact wg | exact wh) | ((with_reducible first | apply wi | apply wj); focus (simp (discharger := omega) only [go_sem, tStrs, tStr, h3, simprocAttr]; with_reducible rfl)))); done)))
  clear htb
  have htb := Tab.cons c4 Tab.nil
  by_cases e0 : e = 0
  rotate_left
  · rw [if_neg e0] at hR2
    obtain ⟨rfl, rfl, rfl⟩ := bad _ _ hR2
    repeat' (first | (with_reducible first | apply w1 | apply w2 | apply w3 | apply w4 | apply w5 | apply w6 | apply w7 | apply w8 | apply w9 | apply wa | apply wb | apply wc) | ((with_reducible apply wd); focus decide) | ((with_reducible apply we); focus exact rfl) | ((with_reducible apply wf); focus exact rfl) | ((first | (with_reducible apply SW_run tt_ok hG htb) | ((with_reducible apply SW_draw rfl tt_ok hG htb); (focus kernel_rfl); focus simp only [List.range, List.range.loop, List.size_toArray, List.length_cons, List.length_nil, Nat.reduceAdd])); focus ((repeat' (first | (with_reducible first | exact wg | exact wh) | ((with_reducible first | apply wi | apply wj); focus (simp (discharger := omega) only [go_sem, hb, ht, tErr, e0, simprocAttr]; with_reducible rfl)))); done)))
    exact (by simp (discharger := omega) only [go_sem, tAuto, tErr, e0, simprocAttr])
  subst e0
  rw [if_pos rfl] at hR2
  rw [tErr0] at htb
  by_cases hn0 : n = 0
  · rw [if_pos hn0] at hR2
    obtain ⟨rfl, rfl, rfl⟩ := bad _ _ hR2
    subst hn0
    repeat' (first | (with_reducible first | apply w1 | apply w2 | apply w3 | apply w4 | apply w5 | apply w6 | apply w7 | apply w8 | apply w9 | apply wa | apply wb | apply wc) | ((with_reducible apply wd); focus decide) | ((with_reducible apply we); focus exact rfl) | ((with_reducible apply wf); focus exact rfl) | ((first | (with_reducible apply SW_run tt_ok hG htb) | ((with_reducible apply SW_draw rfl tt_ok hG htb); (focus kernel_rfl); focus simp only [List.range, List.range.loop, List.size_toArray, List.length_cons, List.length_nil, Nat.reduceAdd])); focus ((repeat' (first | (with_reducible first | exact wg | exact wh) | ((with_reducible first | apply wi | apply wj); focus (simp (discharger := omega) only [go_sem, hb, ht, hn, simprocAttr]; with_reducible rfl)))); done)))
    exact (by simp (discharger := omega) only [go_sem, tAuto, tErr, simprocAttr])
  rw [if_neg hn0] at hR2
  have hn0' : ¬ (n = 0) := hn0
  by_cases h80 : 80 < n
  · rw [if_pos h80] at hR2
    obtain ⟨rfl, rfl, rfl⟩ := bad _ _ hR2
    repeat' (first | (with_reducible first | apply w1 | apply w2 | apply w3 | apply w4 | apply w5 | apply w6 | apply w7 | apply w8 | apply w9 | apply wa | apply wb | apply wc) | ((with_reducible apply wd); focus decide) | ((with_reducible apply we); focus exact rfl) | ((with_reducible apply wf); focus exact rfl) | ((first | (with_reducible apply SW_run tt_ok hG htb) | ((with_reducible apply SW_draw rfl tt_ok hG htb); (focus kernel_rfl); focus simp only [List.range, List.range.loop, List.size_toArray, List.length_cons, List.length_nil, Nat.reduceAdd])); focus ((repeat' (first | (with_reducible first | exact wg | exact wh) | ((with_reducible first | apply wi | apply wj); focus (simp (discharger := omega) only [go_sem, hb, ht, hn, hn0', simprocAttr]; with_reducible rfl)))); done)))
    exact (by simp (discharger := omega) only [go_sem, tAuto, tErr, simprocAttr])
  rw [if_neg h80] at hR2
  repeat' (first | (with_reducible first | apply w1 | apply w2 | apply w3 | apply w4 | apply w5 | apply w6 | apply w7 | apply w8 | apply w9 | apply wa | apply wb | apply wc) | ((with_reducible apply wd); focus decide) | ((with_reducible apply we); focus exact rfl) | ((with_reducible apply wf); focus exact rfl) | ((first | (with_reducible apply SW_run tt_ok hG htb) | ((with_reducible apply SW_draw rfl tt_ok hG htb); (focus kernel_rfl); focus simp only [List.range, List.range.loop, List.size_toArray, List.length_cons, List.length_nil, Nat.reduceAdd])); focus ((repeat' (first | (with_reducible first | exact wg | exact wh) | ((with_reducible first | apply wi | apply wj); focus (simp (discharger := omega) only [go_sem, hb, ht, hn, hn0', simprocAttr]; with_reducible rfl)))); done)))
  have hL36 : L ≤ 36 := by
    rw [← hL, (many_ok he).2.2.2.2]; exact (many_ok he).2.2.2.1
  have hLn : L.toNat ≤ 36 := by omega
  clear he hb1 ht1 hR c4 htb hb ht
  obtain ⟨N, hN⟩ : ∃ N : Nat, n.toNat = N := ⟨_, rfl⟩
  have hnN : n = (N : Int) := by omega
  have hls : cutB 10 rest = ls := by rw [← hrest]; exact cutB_join 10 ls h2 hclean
  rw [hN, ← hls] at hR2
  clear hcons hls hhd hWl hrest hclean hended h2
  refine SW_loop (fun mm st => ∃ (j : Nat) (rest : List UInt8) (nx : List (List Int)) (en : List Bool) (nt et : List T), mm = N - j ∧ st = ⟨170, [(2, .bptr 0 0), (6, .t (tStr rest)), (8, .t (tInts h)), (10, .t (tInt L)), (12, .bptr 1 0), (83, .t (tInt n)), (84, .t (tNat j))], [.box [.t (tInt 0), .t (tInt 0), .nil, .nil], .box [.t (tInt b), .t (tInt t), .sref 2, .sref 3], .row 42 1 true nt, .row 4 1 true et]⟩ ∧
      nt = nx.map tInts ∧ et = en.map T.bool ∧ nx.length = j ∧ en.length = j ∧ j ≤ N ∧ rest.length ≤ s.length ∧ (ra, rk, re) = readRows b t L n (N - j) j (cutB 10 rest) nx en) N
    ⟨_, (Norm.ownB (j := 1) (off := 2) (e := 42) (sz := 1) rfl rfl Nat.one_pos).trans ((Norm.ownB (j := 1) (off := 3) (e := 4) (sz := 1) rfl rfl Nat.one_pos).trans (Norm.headS (own := []) (keep := [2, 6, 8, 10, 12, 83, 84]) (by refine ⟨?_, ?_⟩; (simp (discharger := omega) only [go_sem, simprocAttr]; with_reducible rfl); refine ⟨?_, ?_, ?_, ?_⟩ <;> (simp only [go_sem, simprocAttr]; with_reducible rfl)))), 0, rest, [], [], _, _, rfl, rfl, rfl, rfl, rfl, rfl, Nat.zero_le _, hrl, hR2⟩ ?_
  clear hR2 hrl
  rintro mm st ⟨j, rest, nx, en, nt, et, rfl, rfl, hnt, het, hjx, hje, hjN, hrl, hR⟩
  have hntl : nt.length = nx.length := by rw [hnt]; simp
  have hetl : et.length = en.length := by rw [het]; simp
  have htb : Tab.ok Tryz.prog GT [] := Tab.nil
  by_cases hlt : j < N
  · obtain ⟨k, hk⟩ : ∃ k, N - j = k + 1 := ⟨N - j - 1, by omega⟩
    obtain ⟨w, r, hwr⟩ : ∃ w r, cutB 10 rest = w :: r := by
      cases h : cutB 10 rest with
      | nil => exact absurd h (cutB_ne _ _)
      | cons a b => exact ⟨a, b, rfl⟩
    have hwl : w.length ≤ rest.length := cutB_mem 10 rest w (by rw [hwr]; exact List.mem_cons_self)
    have hclean : ∀ u ∈ r, (10 : UInt8) ∉ u := fun u hu => cutB_clean 10 rest u (by rw [hwr]; exact List.mem_cons_of_mem _ hu)
    have hrr : (joinB 10 r).length ≤ rest.length := by
      have q := joinB_cut 10 rest
      rw [hwr] at q
      cases hl : r with
      | nil => exact Nat.zero_le _
      | cons v r' =>
        rw [hl] at q
        have q : w ++ 10 :: joinB 10 (v :: r') = rest := q
        rw [← q]; simp; omega
    rw [hwr, hk] at hR
    have hR : (ra, rk, re) = if r = [] then (GAuto.zero, ((j : Nat) : Int) + 1, 5) else if lineFault L n w = 0 then readRows b t L n k (j + 1) r (nx ++ [lineRow w]) (en ++ [lineEnd w]) else (GAuto.zero, ((j : Nat) : Int) + 1, lineFault L n w) := hR
    have d0 := Cut_snd rest 10 (by omega)
    rw [hwr, List.headD_cons, List.tail_cons] at d0
    obtain ⟨ended, hended⟩ : ∃ x, decide (r ≠ []) = x := ⟨_, rfl⟩
    obtain ⟨rest2, hrest2⟩ : ∃ x, joinB 10 r = x := ⟨_, rfl⟩
    rw [hended, hrest2] at d0
    rw [hrest2] at hrr
    obtain ⟨sg, ws, hsw⟩ : ∃ sg ws, cutB 32 w = sg :: ws := by
      cases h : cutB 32 w with
      | nil => exact absurd h (cutB_ne _ _)
      | cons a b => exact ⟨a, b, rfl⟩
    have hwn := cutB_len 32 w
    have hwm := cutB_mem 32 w
    rw [hsw, List.length_cons] at hwn
    rw [hsw] at hwm
    have d1 := Split_snd w 32 (by omega)
    rw [hsw] at d1
    have d2 := numbers_snd ws (by omega) (fun u hu => by have := hwm u (List.mem_cons_of_mem _ hu); omega)
    have hlF : lineFault L n w = if smallsOk ws = true ∧ ((smallsL ws).length : Int) = L ∧ (sg = [43] ∨ sg = [45]) then (if (smallsL ws).all (fun t => decide (t < n)) = true then 0 else 1) else 5 := by
      unfold lineFault
      simp only [hsw, List.tail_cons, List.head?_cons, Option.some.injEq]
    have hlR : lineRow w = smallsL ws := by unfold lineRow; rw [hsw, List.tail_cons]
    have hlE : lineEnd w = decide (sg = [43]) := by unfold lineEnd; simp only [hsw, List.head?_cons, Option.some.injEq]
    rw [hlR, hlE] at hR
    have htkw : List.take ws.length (List.map tStr ws) = List.map tStr ws := List.take_of_length_le (by simp)
    have hwb := smallsL_lt (l := ws)
    obtain ⟨okr, hokr⟩ : ∃ x, smallsOk ws = x := ⟨_, rfl⟩
    obtain ⟨row, hrow⟩ : ∃ x, smallsL ws = x := ⟨_, rfl⟩
    rw [hokr, hrow] at d2
    rw [hokr, hrow] at hlF
    rw [hrow] at hR hwb
    clear hlR hlE hwm hwn
    obtain ⟨F, hF⟩ : ∃ F, lineFault L n w = F := ⟨_, rfl⟩
    rw [hF] at hR hlF
    clear hsw
    have htb := Tab.cons d0 (Tab.cons d1 (Tab.cons d2 Tab.nil))
    by_cases hrn : r = []
    · obtain rfl : ended = false := by rw [← hended]; exact decide_eq_false (fun q => q hrn)
      rw [if_pos hrn] at hR
      obtain ⟨rfl, rfl, rfl⟩ := bad _ _ hR
      repeat' (first | (with_reducible first | apply w1 | apply w2 | apply w3 | apply w4 | apply w5 | apply w6 | apply w7 | apply w8 | apply w9 | apply wa | apply wb | apply wc) | ((with_reducible apply wd); focus decide) | ((with_reducible apply we); focus exact rfl) | ((with_reducible apply wf); focus exact rfl) | ((first | (with_reducible apply SW_run tt_ok hG htb) | ((with_reducible apply SW_draw rfl tt_ok hG htb); (focus kernel_rfl); focus simp only [List.range, List.range.loop, List.size_toArray, List.length_cons, List.length_nil, Nat.reduceAdd])); focus ((repeat' (first | (with_reducible first | exact wg | exact wh) | ((with_reducible first | apply wi | apply wj); focus (simp (discharger := omega) only [go_sem, Function.comp_def, allStr, htkw, tStrs, tStr, simprocAttr]; with_reducible rfl)))); done)))
      exact (by simp (discharger := omega) only [go_sem, tAuto, tErr, simprocAttr])
    obtain rfl : ended = true := by rw [← hended]; exact decide_eq_true hrn
    rw [if_neg hrn] at hR
    have five : ¬ (okr = true ∧ ((row.length : Nat) : Int) = L ∧ (sg = [43] ∨ sg = [45])) → (ra, rk, re) = (GAuto.zero, ((j : Nat) : Int) + 1, 5) := fun q => by
      rw [if_neg q] at hlF
      rw [hlF, if_neg (by decide)] at hR
      exact hR
    cases okr
    · obtain ⟨rfl, rfl, rfl⟩ := bad _ _ (five (fun q => by cases q.1))
      repeat' (first | (with_reducible first | apply w1 | apply w2 | apply w3 | apply w4 | apply w5 | apply w6 | apply w7 | apply w8 | apply w9 | apply wa | apply wb | apply wc) | ((with_reducible apply wd); focus decide) | ((with_reducible apply we); focus exact rfl) | ((with_reducible apply wf); focus exact rfl) | ((first | (with_reducible apply SW_run tt_ok hG htb) | ((with_reducible apply SW_draw rfl tt_ok hG htb); (focus kernel_rfl); focus simp only [List.range, List.range.loop, List.size_toArray, List.length_cons, List.length_nil, Nat.reduceAdd])); focus ((repeat' (first | (with_reducible first | exact wg | exact wh) | ((with_reducible first | apply wi | apply wj); focus (simp (discharger := omega) only [go_sem, Function.comp_def, allStr, htkw, tStrs, tStr, simprocAttr]; with_reducible rfl)))); done)))
      exact (by simp (discharger := omega) only [go_sem, tAuto, tErr, simprocAttr])
    by_cases hrl2 : ((row.length : Nat) : Int) = L
    rotate_left
    · obtain ⟨rfl, rfl, rfl⟩ := bad _ _ (five (fun q => hrl2 q.2.1))
      repeat' (first | (with_reducible first | apply w1 | apply w2 | apply w3 | apply w4 | apply w5 | apply w6 | apply w7 | apply w8 | apply w9 | apply wa | apply wb | apply wc) | ((with_reducible apply wd); focus decide) | ((with_reducible apply we); focus exact rfl) | ((with_reducible apply wf); focus exact rfl) | ((first | (with_reducible apply SW_run tt_ok hG htb) | ((with_reducible apply SW_draw rfl tt_ok hG htb); (focus kernel_rfl); focus simp only [List.range, List.range.loop, List.size_toArray, List.length_cons, List.length_nil, Nat.reduceAdd])); focus ((repeat' (first | (with_reducible first | exact wg | exact wh) | ((with_reducible first | apply wi | apply wj); focus (simp (discharger := omega) only [go_sem, Function.comp_def, allStr, htkw, tStrs, tStr, simprocAttr]; with_reducible rfl)))); done)))
      exact (by simp (discharger := omega) only [go_sem, tAuto, tErr, simprocAttr])
    by_cases hsg : ¬ (sg = [43] ∨ sg = [45])
    · obtain ⟨rfl, rfl, rfl⟩ := bad _ _ (five (fun q => hsg q.2.2))
      have hq1 : (sg == [43]) = false := by simpa using fun q => hsg (.inl q)
      have hq2 : (sg == [45]) = false := by simpa using fun q => hsg (.inr q)
      repeat' (first | (with_reducible first | apply w1 | apply w2 | apply w3 | apply w4 | apply w5 | apply w6 | apply w7 | apply w8 | apply w9 | apply wa | apply wb | apply wc) | ((with_reducible apply wd); focus decide) | ((with_reducible apply we); focus exact rfl) | ((with_reducible apply wf); focus exact rfl) | ((first | (with_reducible apply SW_run tt_ok hG htb) | ((with_reducible apply SW_draw rfl tt_ok hG htb); (focus kernel_rfl); focus simp only [List.range, List.range.loop, List.size_toArray, List.length_cons, List.length_nil, Nat.reduceAdd])); focus ((repeat' (first | (with_reducible first | exact wg | exact wh) | ((with_reducible first | apply wi | apply wj); focus (simp (discharger := omega) only [go_sem, Function.comp_def, allStr, htkw, tStrs, tStr, hrl2, str_list, hq1, hq2, simprocAttr]; with_reducible rfl)))); done)))
      exact (by simp (discharger := omega) only [go_sem, tAuto, tErr, simprocAttr])
    have hsg : sg = [43] ∨ sg = [45] := Decidable.not_not.1 hsg
    rw [if_pos ⟨rfl, hrl2, hsg⟩] at hlF
    repeat' (first | (with_reducible first | apply w1 | apply w2 | apply w3 | apply w4 | apply w5 | apply w6 | apply w7 | apply w8 | apply w9 | apply wa | apply wb | apply wc) | ((with_reducible apply wd); focus decide) | ((with_reducible apply we); focus exact rfl) | ((with_reducible apply wf); focus exact rfl) | ((first | (with_reducible apply SW_run tt_ok hG htb) | ((with_reducible apply SW_draw rfl tt_ok hG htb); (focus kernel_rfl); focus simp only [List.range, List.range.loop, List.size_toArray, List.length_cons, List.length_nil, Nat.reduceAdd])); focus ((repeat' (first | (with_reducible first | exact wg | exact wh) | ((with_reducible first | apply wi | apply wj); focus (simp (discharger := omega) only [go_sem, Function.comp_def, allStr, htkw, tStrs, tStr, hrl2, simprocAttr]; with_reducible rfl)))); done)))
    refine SW_meet2 ⟨170, [(2, .bptr 0 0), (6, .t (tStr rest2)), (8, .t (tInts h)), (10, .t (tInt L)), (12, .bptr 1 0), (13, .t (tNat j)), (15, .t (tStrs (sg :: ws))), (16, .t (tInts row)), (83, .t (tInt n)), (84, .t (tNat j))], [.box [.t (tInt 0), .t (tInt 0), .nil, .nil], .box [.t (tInt b), .t (tInt t), .sref 2, .sref 3], .row 42 1 true nt, .row 4 1 true et]⟩ Weak.sw ?_ ?_
    · clear hlF hR five
      rcases hsg with rfl | rfl
      · have hq1 : ([43] == ([43] : List UInt8)) = true := rfl
        repeat' (first | (with_reducible first | apply w1 | apply w2 | apply w3 | apply w4 | apply w5 | apply w6 | apply w7 | apply w8 | apply w9 | apply wa | apply wb | apply wc) | ((with_reducible apply wd); focus decide) | ((with_reducible apply we); focus exact rfl) | ((with_reducible apply wf); focus exact rfl) | ((first | (with_reducible apply SW_run tt_ok hG htb) | ((with_reducible apply SW_draw rfl tt_ok hG htb); (focus kernel_rfl); focus simp only [List.range, List.range.loop, List.size_toArray, List.length_cons, List.length_nil, Nat.reduceAdd])); focus ((repeat' (first | (with_reducible first | exact wg | exact wh) | ((with_reducible first | apply wi | apply wj); focus (simp (discharger := omega) only [go_sem, tStrs, tStr, hrl2, str_list, hq1, simprocAttr]; with_reducible rfl)))); done)))
        exact Meet.h ⟨_, Norm.headS (own := []) (keep := [2, 6, 8, 10, 12, 13, 15, 16, 83, 84]) (by refine ⟨?_, ?_⟩; (simp (discharger := omega) only [go_sem, simprocAttr]; with_reducible rfl); refine ⟨?_, ?_, ?_, ?_⟩ <;> (simp only [go_sem, simprocAttr]; with_reducible rfl)), rfl⟩
      · have hq1 : ([45] == ([43] : List UInt8)) = false := rfl
        have hq2 : ([45] == ([45] : List UInt8)) = true := rfl
        repeat' (first | (with_reducible first | apply w1 | apply w2 | apply w3 | apply w4 | apply w5 | apply w6 | apply w7 | apply w8 | apply w9 | apply wa | apply wb | apply wc) | ((with_reducible apply wd); focus decide) | ((with_reducible apply we); focus exact rfl) | ((with_reducible apply wf); focus exact rfl) | ((first | (with_reducible apply SW_run tt_ok hG htb) | ((with_reducible apply SW_draw rfl tt_ok hG htb); (focus kernel_rfl); focus simp only [List.range, List.range.loop, List.size_toArray, List.length_cons, List.length_nil, Nat.reduceAdd])); focus ((repeat' (first | (with_reducible first | exact wg | exact wh) | ((with_reducible first | apply wi | apply wj); focus (simp (discharger := omega) only [go_sem, tStrs, tStr, hrl2, str_list, hq1, hq2, simprocAttr]; with_reducible rfl)))); done)))
        exact Meet.h ⟨_, Norm.headS (own := []) (keep := [2, 6, 8, 10, 12, 13, 15, 16, 83, 84]) (by refine ⟨?_, ?_⟩; (simp (discharger := omega) only [go_sem, simprocAttr]; with_reducible rfl); refine ⟨?_, ?_, ?_, ?_⟩ <;> (simp only [go_sem, simprocAttr]; with_reducible rfl)), rfl⟩
    · repeat' (with_reducible first | refine SW_seq ?_ | refine SThen_n ?_ | refine SIn_n ?_ | refine SW_skip ?_)
      clear htb
      have htb : Tab.ok Tryz.prog GT [] := Tab.nil
      repeat' (first | (with_reducible first | apply w1 | apply w2 | apply w3 | apply w4 | apply w5 | apply w6 | apply w7 | apply w8 | apply w9 | apply wa | apply wb | apply wc) | ((with_reducible apply wd); focus decide) | ((with_reducible apply we); focus exact rfl) | ((with_reducible apply wf); focus exact rfl) | ((first | (with_reducible apply SW_run tt_ok hG htb) | ((with_reducible apply SW_draw rfl tt_ok hG htb); (focus kernel_rfl); focus simp only [List.range, List.range.loop, List.size_toArray, List.length_cons, List.length_nil, Nat.reduceAdd])); focus ((repeat' (first | (with_reducible first | exact wg | exact wh) | ((with_reducible first | apply wi | apply wj); focus (simp (discharger := omega) only [go_sem, tInts, simprocAttr]; with_reducible rfl)))); done)))
      refine SW_loop (fun mm st => ∃ l : Nat, mm = row.length - l ∧ st = ⟨170, [(2, .bptr 0 0), (6, .t (tStr rest2)), (8, .t (tInts h)), (10, .t (tInt L)), (12, .bptr 1 0), (13, .t (tNat j)), (15, .t (tStrs (sg :: ws))), (16, .t (tInts row)), (83, .t (tInt n)), (84, .t (tNat j)), (129, .t (tInts row)), (130, .t (tNat row.length)), (131, .t (tNat l))], [.box [.t (tInt 0), .t (tInt 0), .nil, .nil], .box [.t (tInt b), .t (tInt t), .sref 2, .sref 3], .row 42 1 true nt, .row 4 1 true et]⟩ ∧ l ≤ row.length ∧ ∀ x ∈ row.take l, x < n) row.length
        ⟨_, Norm.headS (own := []) (keep := [2, 6, 8, 10, 12, 13, 15, 16, 83, 84, 129, 130, 131]) (by refine ⟨?_, ?_⟩; (simp (discharger := omega) only [go_sem, simprocAttr]; with_reducible rfl); refine ⟨?_, ?_, ?_, ?_⟩ <;> (simp only [go_sem, simprocAttr]; with_reducible rfl)), 0, rfl, rfl, Nat.zero_le _, fun x hx => by simp at hx⟩ ?_
      rintro mm st ⟨l, rfl, rfl, hl, hla⟩
      by_cases hll2 : l < row.length
      · obtain ⟨x, hx⟩ : ∃ x, row[l]! = x := ⟨_, rfl⟩
        have hxm := bang_mem hx hll2
        have hxb := hwb x hxm
        by_cases hxn : x < n
        · repeat' (first | (with_reducible first | apply w1 | apply w2 | apply w3 | apply w4 | apply w5 | apply w6 | apply w7 | apply w8 | apply w9 | apply wa | apply wb | apply wc) | ((with_reducible apply wd); focus decide) | ((with_reducible apply we); focus exact rfl) | ((with_reducible apply wf); focus exact rfl) | ((first | (with_reducible apply SW_run tt_ok hG htb) | ((with_reducible apply SW_draw rfl tt_ok hG htb); (focus kernel_rfl); focus simp only [List.range, List.range.loop, List.size_toArray, List.length_cons, List.length_nil, Nat.reduceAdd])); focus ((repeat' (first | (with_reducible first | exact wg | exact wh) | ((with_reducible first | apply wi | apply wj); focus (simp (discharger := omega) only [go_sem, hn, hx, simprocAttr]; with_reducible rfl)))); done)))
          exact ⟨row.length - (l + 1), _, by omega, Norm.headS (own := []) (keep := [2, 6, 8, 10, 12, 13, 15, 16, 83, 84, 129, 130, 131]) (by refine ⟨?_, ?_⟩; (simp (discharger := omega) only [go_sem, simprocAttr]; with_reducible rfl); refine ⟨?_, ?_, ?_, ?_⟩ <;> (simp only [go_sem, simprocAttr]; with_reducible rfl)), l + 1, rfl, rfl, by omega, fun y hy => by
            rw [take_next hx hll2] at hy
            rcases List.mem_append.1 hy with q | q
            · exact hla y q
            · rw [List.mem_singleton.1 q]; exact hxn⟩
        · have hall : ¬ row.all (fun t => decide (t < n)) = true := fun q => hxn (of_decide_eq_true (List.all_eq_true.1 q x hxm))
          rw [if_neg hall] at hlF
          rw [hlF, if_neg (by decide)] at hR
          obtain ⟨rfl, rfl, rfl⟩ := bad _ _ hR
          repeat' (first | (with_reducible first | apply w1 | apply w2 | apply w3 | apply w4 | apply w5 | apply w6 | apply w7 | apply w8 | apply w9 | apply wa | apply wb | apply wc) | ((with_reducible apply wd); focus decide) | ((with_reducible apply we); focus exact rfl) | ((with_reducible apply wf); focus exact rfl) | ((first | (with_reducible apply SW_run tt_ok hG htb) | ((with_reducible apply SW_draw rfl tt_ok hG htb); (focus kernel_rfl); focus simp only [List.range, List.range.loop, List.size_toArray, List.length_cons, List.length_nil, Nat.reduceAdd])); focus ((repeat' (first | (with_reducible first | exact wg | exact wh) | ((with_reducible first | apply wi | apply wj); focus (simp (discharger := omega) only [go_sem, hn, hx, simprocAttr]; with_reducible rfl)))); done)))
          exact (by simp (discharger := omega) only [go_sem, tAuto, tErr, simprocAttr])
      · obtain rfl : l = row.length := by omega
        rw [List.take_length] at hla
        have hall : row.all (fun t => decide (t < n)) = true := List.all_eq_true.2 fun x hx => decide_eq_true (hla x hx)
        rw [if_pos hall] at hlF
        rw [if_pos hlF] at hR
        have hkk : k = N - (j + 1) := by omega
        rw [hkk, ← cutB_join 10 r hrn hclean, hrest2] at hR
        have hnt2 : nt ++ [tInts row] = (nx ++ [row]).map tInts := by rw [hnt, List.map_append]; rfl
        clear hlF hall hla five d0 d1 d2
        repeat' (first | (with_reducible first | apply w1 | apply w2 | apply w3 | apply w4 | apply w5 | apply w6 | apply w7 | apply w8 | apply w9 | apply wa | apply wb | apply wc) | ((with_reducible apply wd); focus decide) | ((with_reducible apply we); focus exact rfl) | ((with_reducible apply wf); focus exact rfl) | ((first | (with_reducible apply SW_run tt_ok hG htb) | ((with_reducible apply SW_draw rfl tt_ok hG htb); (focus kernel_rfl); focus simp only [List.range, List.range.loop, List.size_toArray, List.length_cons, List.length_nil, Nat.reduceAdd])); focus ((repeat' (first | (with_reducible first | exact wg | exact wh) | ((with_reducible first | apply wi | apply wj); focus (simp (discharger := omega) only [go_sem, hn, simprocAttr]; with_reducible rfl)))); done)))
        obtain ⟨e, he⟩ : ∃ e, decide (sg = [43]) = e := ⟨_, rfl⟩
        rw [he] at hR
        have hq : (sg == [43]) = e := by rw [← he]; rcases hsg with q | q <;> rw [q] <;> decide
        have het2 : et ++ [.bool e] = (en ++ [e]).map T.bool := by rw [het, List.map_append]; rfl
        repeat' (first | (with_reducible first | apply w1 | apply w2 | apply w3 | apply w4 | apply w5 | apply w6 | apply w7 | apply w8 | apply w9 | apply wa | apply wb | apply wc) | ((with_reducible apply wd); focus decide) | ((with_reducible apply we); focus exact rfl) | ((with_reducible apply wf); focus exact rfl) | ((first | (with_reducible apply SW_run tt_ok hG htb) | ((with_reducible apply SW_draw rfl tt_ok hG htb); (focus kernel_rfl); focus simp only [List.range, List.range.loop, List.size_toArray, List.length_cons, List.length_nil, Nat.reduceAdd])); focus ((repeat' (first | (with_reducible first | exact wg | exact wh) | ((with_reducible first | apply wi | apply wj); focus (simp (discharger := omega) only [go_sem, hn, tStrs, tStr, str_list, hq, simprocAttr]; with_reducible rfl)))); done)))
        exact ⟨N - (j + 1), _, by omega, Norm.headS (own := []) (keep := [2, 6, 8, 10, 12, 83, 84]) (by refine ⟨?_, ?_⟩; (simp (discharger := omega) only [go_sem, simprocAttr]; with_reducible rfl); refine ⟨?_, ?_, ?_, ?_⟩ <;> (simp only [go_sem, simprocAttr]; with_reducible rfl)), j + 1, rest2, nx ++ [row], en ++ [e], _, _, rfl, rfl, hnt2, het2, by simp; omega, by simp; omega, by omega, by omega, hR⟩
  · have hjN1 : j = N := by omega
    have hk0 : N - j = 0 := by omega
    rw [hk0] at hR
    have hR : (ra, rk, re) = if cutB 10 rest = [[]] then (⟨b, t, nx, en⟩, 0, 0) else (GAuto.zero, ((j : Nat) : Int) + 1, 5) := hR
    have hjn : ((j : Nat) : Int) + 1 = n + 1 := by omega
    rw [hjn] at hR
    by_cases hr0 : rest = []
    · subst hr0
      rw [if_pos (show cutB 10 [] = [[]] from rfl)] at hR
      have q1 : ra = ⟨b, t, nx, en⟩ := congrArg (fun x => x.1) hR
      have q2 : rk = 0 := congrArg (fun x => x.2.1) hR
      have q3 : re = 0 := congrArg (fun x => x.2.2) hR
      subst q1 q2 q3
      subst hnt het
      have hq : (([] : List UInt8) == []) = true := rfl
      repeat' (first | (with_reducible first | apply w1 | apply w2 | apply w3 | apply w4 | apply w5 | apply w6 | apply w7 | apply w8 | apply w9 | apply wa | apply wb | apply wc) | ((with_reducible apply wd); focus decide) | ((with_reducible apply we); focus exact rfl) | ((with_reducible apply wf); focus exact rfl) | ((first | (with_reducible apply SW_run tt_ok hG htb) | ((with_reducible apply SW_draw rfl tt_ok hG htb); (focus kernel_rfl); focus simp only [List.range, List.range.loop, List.size_toArray, List.length_cons, List.length_nil, Nat.reduceAdd])); focus ((repeat' (first | (with_reducible first | exact wg | exact wh) | ((with_reducible first | apply wi | apply wj); focus (simp (discharger := omega) only [go_sem, hn, tStr, str_list, hq, simprocAttr]; with_reducible rfl)))); done)))
      exact (by simp (discharger := omega) only [go_sem, tAuto, tIntss, tBools, tErr, simprocAttr])
    · rw [if_neg (fun q => hr0 (by rw [← joinB_cut 10 rest, q]; rfl))] at hR
      obtain ⟨rfl, rfl, rfl⟩ := bad _ _ hR
      have hq : (rest == []) = false := by simpa using hr0
      repeat' (first | (with_reducible first | refine SW_seq ?_ | refine SW_block ?_ | refine SThen_n ?_ | refine SThen_r ?_ | refine SThen_e ?_ | refine SIn_n ?_ | refine SIn_r ?_ | refine SIn_eq ?_ | refine SW_skip ?_ | refine SW_exit ?_ | refine SW_ret ?_ | refine SPost_r ?_) | ((with_reducible refine SIn_ne ?_ ?_); focus decide) | ((with_reducible refine SW_true ?_ ?_); focus exact rfl) | ((with_reducible refine SW_false ?_ ?_); focus exact rfl) | ((with_reducible apply SW_run tt_ok hG htb); focus ((repeat' (first | (with_reducible exact runX_nil) | ((with_reducible apply runX_cons); focus (simp (discharger := omega) only [go_sem, tStr, str_list, hq, simprocAttr]; with_reducible rfl)))); done)))
      (with_reducible apply SW_drawF [2, 3] [] rfl tt_ok hG htb)
      · kernel_rfl
      · simp only [List.range, List.range.loop, List.size_toArray, List.length_cons, List.length_nil, Nat.reduceAdd]
        repeat' (first | (with_reducible exact runG_nil) | ((with_reducible apply runF_of); (focus rfl); focus (simp (discharger := omega) only [go_sem, hn, simprocAttr]; with_reducible rfl)) | ((apply runF_data rfl rfl rfl); focus (simp (discharger := omega) only [go_sem, hn, simprocAttr]; with_reducible rfl)) | ((apply runF_idx rfl rfl rfl); focus (simp (discharger := omega) only [go_sem, hn, simprocAttr]; with_reducible rfl)))
      repeat' (first | (with_reducible first | refine SW_seq ?_ | refine SW_block ?_ | refine SThen_n ?_ | refine SThen_r ?_ | refine SThen_e ?_ | refine SIn_n ?_ | refine SIn_r ?_ | refine SIn_eq ?_ | refine SW_skip ?_ | refine SW_exit ?_ | refine SW_ret ?_ | refine SPost_r ?_) | ((with_reducible refine SIn_ne ?_ ?_); focus decide) | ((with_reducible refine SW_true ?_ ?_); focus exact rfl) | ((with_reducible refine SW_false ?_ ?_); focus exact rfl) | ((with_reducible apply SW_run tt_ok hG htb); focus ((repeat' (first | (with_reducible exact runX_nil) | ((with_reducible apply runX_cons); focus (simp (discharger := omega) only [go_sem, simprocAttr]; with_reducible rfl)))); done)))
      exact (by simp (discharger := omega) only [go_sem, tAuto, tErr, simprocAttr])
end Go.Proofs.YtpgkpbfefnpagaaGreatDoor
namespace Go.Proofs.YtpgkpbfefnpagaaGreatDoor
open Go.RowKit Go.Shelf Go.Lib

/-- A builder in block b, that holds these bytes; what it owns lies from B on. -/
structure BF (B b : Nat) (bs : List UInt8) (p vb : Value) (w : World) : Prop where
  le : B ≤ b
  blk : w.heap[b]? = some (.cells #[p, vb] 48 (0, 0))
  own : w.ownsRow B 5 1 vb bs.length (byteCells bs)
  ne : vb.ownBlock ≠ some b
def selfP (b : Nat) : Value := .pointer (some ⟨b, 0, none⟩)
/-- Nothing but the builder and its buffer is written. -/
structure BFrame (b : Nat) (o : Option Nat) (w w' : World) : Prop where
  os : w'.os = w.os
  tape : w'.tape = w.tape
  output : w'.output = w.output
  size : w.heap.size ≤ w'.heap.size
  block : ∀ k, k < w.heap.size → k ≠ b → o ≠ some k → w'.heap[k]? = w.heap[k]?
theorem app_block {P : Program} (w : World) (base : Nat) (t u ty e : TypeId) (i : TypeInfo) (ht : P.underlying t = some (.slice e)) (hu : P.underlying u = some .string) (hi : P.info? e = some i) (hz : i.zero = some (.int .u8 0))
    (hsize : i.size = 1) (hby : i.bytes = 1) (v : Value) (n : Nat) (xs : List Value) (hown : w.ownsRow base e 1 v n xs) (s : ByteArray)
    (h63 : n + s.size ≤ maxLen) (hbytes : n + s.size ≤ 140737488355328) {v' : Value} {w' : World} (hr : (Builtin.append_ #[t, u] ty #[v, .string s]).run P w = .ok v' w') : v'.ownBlock = v.ownBlock ∨ v'.ownBlock = some w.heap.size := by
  have hmx : n + s.size ≤ 9223372036854775807 := by omega
  have hxl : xs.length = n := by simpa using hown.1
  rcases hown.2 with ⟨rfl, rfl⟩ | ⟨g, cap, cur, rfl, hbg, hg, hnc, hcm, hcs, htake⟩
  · by_cases hm : s.size = 0
    · obtain ⟨v2, w2, q1, _, _, q4⟩ := run_append_own_string (P := P) w 0 t u ty e i ht hu hi hz hsize hby (.slice none 0 0) 0 [] (World.ownsRow_nil _ _ _ _) s h63 hbytes (Nat.zero_le _)
      rw [q1] at hr
      cases hr
      rw [q4.2 ⟨rfl, hm⟩]
      exact .inl rfl
    · have q := run_append_nil_string (P := P) w t u ty e i (.int .u8 0) ht hu hi hz s (by omega) (by omega) (by rw [hby]; omega)
      rw [q] at hr
      cases hr
      exact .inr rfl
  · by_cases hroom : n + s.size ≤ cap
    · have q := run_append_room_string (P := P) w t u ty e i ht hu hi hsize g n cap cur hg s hroom (by simp at hcs; omega)
      rw [q] at hr
      cases hr
      exact .inl rfl
    · have holds : ∀ j u, xs[j]? = some u → w.cell? ((⟨g, 0, none⟩ : Addr).add j) = some u := hown.cells (g := g) rfl
      have q := run_append_grow_string (P := P) w t u ty e i (.int .u8 0) ht hu hi hz ⟨g, 0, none⟩ n cap xs (by rw [hsize]; simpa using hxl) holds s (by omega) (by omega) (by rw [hby]; exact growslice_fits (by omega) (by omega))
      rw [q] at hr
      cases hr
      exact .inr rfl
theorem copy_calls {B b : Nat} {bs : List UInt8} {p vb : Value} {w : World} (h : BF B b bs p vb w) (hp : p = .pointer none ∨ p = selfP b) : Calls Tryz.prog 28 #[selfP b] w fun e w' => e = .returned (.tuple #[]) ∧ BF B b bs (selfP b) vb w' ∧ w'.heap.size = w.heap.size ∧ BFrame b none w w' := by
  have c0 : w.cell? ⟨b, 0, none⟩ = some p := by rw [Lib.cell_of_heap h.blk]; rfl
  rcases hp with rfl | rfl
  · refine (Any.Builder_copyCheck_fresh { Tryz.layJoin with } Tryz.bldExtra.toX72 b w c0 (by simp [World.shape?, h.blk]; rfl) (Lib.frozen_of_heap h.blk 0)).mono ?_
    rintro e w' ⟨rfl, rfl⟩
    have hblt : b < w.heap.size := cellLt c0
    have hoth : ∀ k, k ≠ b → (w.setCell ⟨b, 0, none⟩ (selfP b)).heap[k]? = w.heap[k]? := fun k hk => Below.heap_setCell _ _ _ k (by simp; omega)
    refine ⟨rfl, ⟨h.le, ?_, ownsRow_same h.own fun k hk => hoth k (fun e => h.ne (by rw [hk, e])), h.ne⟩, by simp, ⟨rfl, rfl, rfl, by simp, fun k hk hkb _ => hoth k hkb⟩⟩
    unfold World.setCell
    simp only [Array.getElem?_modify, if_true, h.blk, Option.map_some]
    rfl
  · refine (Any.Builder_copyCheck_used { Tryz.layJoin with } Tryz.bldExtra.toX72 b w c0).mono ?_
    rintro e w' ⟨rfl, rfl⟩
    exact ⟨rfl, h, rfl, ⟨rfl, rfl, rfl, Nat.le_refl _, fun _ _ _ _ => rfl⟩⟩
/-- The append of a text's bytes, as an operation. -/
theorem app_op {P : Program} {w : World} {ops : Array Oper} {rest : List Oper} {o : Oper} {a : Act} {Q : Exit → Act → World → Prop} (hgd : o.guard = none) (sl x : Operand) (t u : TypeId)
    (ho : o.op = .call { callee := .builtin .append, args := #[sl, x], argTypes := #[t, u] })
    (base : Nat) (e : TypeId) (i : TypeInfo) (ht : P.underlying t = some (.slice e)) (hu : P.underlying u = some .string) (hi : P.info? e = some i) (hz : i.zero = some (.int .u8 0)) (hsize : i.size = 1) (hby : i.bytes = 1)
    (v : Value) (n : Nat) (xs : List Value) (hs : a.eval sl = v) (hown : w.ownsRow base e 1 v n xs) (s : ByteArray) (hx : a.eval x = .string s)
    (h63 : n + s.size ≤ maxLen) (hbytes : n + s.size ≤ 140737488355328) (hbase : base ≤ w.heap.size)
    (h : ∀ v' w', w'.ownsRow base e 1 v' (n + s.size) (xs ++ strCells s) → w.grownBy w' v.ownBlock → (v'.ownBlock = v.ownBlock ∨ v'.ownBlock = some w.heap.size) → wpList P ops Q rest (a.put o.dst v') w') : wpList P ops Q (o :: rest) a w := by
  refine wpList_plain hgd fun K hK => ?_
  obtain ⟨v', w', q1, q2, q3, _⟩ := run_append_own_string (P := P) w base t u o.type e i ht hu hi hz hsize hby v n xs hown s h63 hbytes hbase
  have q5 := app_block w base t u o.type e i ht hu hi hz hsize hby v n xs hown s h63 hbytes q1
  unfold Oper.wp execOp
  simp only [ho, resolve, invoke, builtin, Sem.run_bind, Sem.run_pure, Result.andThen_ok, List.map_toArray, List.map_cons, List.map_nil, hs, hx, q1]
  exact hK _ _ (h v' w' q2 q3 q5)
set_option maxHeartbeats 2000000 in
set_option maxRecDepth 100000 in
theorem Write_calls {B b : Nat} {bs : List UInt8} {p vb : Value} {w : World} (h : BF B b bs p vb w) (hp : p = .pointer none ∨ p = selfP b) (s : List UInt8) (hlen : bs.length + s.length ≤ 100000000) (hBw : B ≤ w.heap.size) :
    Calls Tryz.prog 15 #[selfP b, .string ⟨s.toArray⟩] w fun e w' => e = .returned (.tuple #[.int .i64 s.length, .nilIface]) ∧ ∃ vb', BF B b (bs ++ s) (selfP b) vb' w' ∧ BFrame b vb.ownBlock w w' ∧ (vb'.ownBlock = vb.ownBlock ∨ ∃ g, vb'.ownBlock = some g ∧ w.heap.size ≤ g) := by
  obtain ⟨i0, hi, hz0, hz1, hz2⟩ := info_parts Tryz.bldExtra.infoByte
  have hss : (⟨s.toArray⟩ : ByteArray).size = s.length := str_size s
  unfold selfP
  go_enter Tryz.func15, Tryz.ntmps15
  go_wp2_with (go_at_call 28; refine (copy_calls h hp).mono ?_)
  rintro e w1 ⟨rfl, h1, hsz1, hf1⟩
  have hblk := h1.blk
  have hown := h1.own
  have c0 : w1.cell? ⟨b, 0, none⟩ = some (selfP b) := by rw [Lib.cell_of_heap hblk]; rfl
  have c1 : w1.cell? ⟨b, 1, none⟩ = some vb := by rw [Lib.cell_of_heap hblk]; rfl
  go_wp2_with (at_builtin; refine app_op rfl _ _ 46 9 rfl B 5 i0 Tryz.underlying46 Tryz.underlying9 hi hz0 hz1 hz2 _ _ _ rfl hown ⟨s.toArray⟩ rfl ?c3 ?c4 ?c5 ?_)
  case c3 => rw [hss]; unfold maxLen; omega
  case c4 => rw [hss]; omega
  case c5 => omega
  intro v' w2 hown' hgrow hblk'
  try rw [hss] at hown'
  have hlt : b < w1.heap.size := cellLt c0
  have hb2 : w2.heap[b]? = some (.cells #[selfP b, vb] 48 (0, 0)) := by
    rw [hgrow.block b hlt (fun e => h1.ne e.symm)]
    exact hblk
  have d0 : w2.cell? ⟨b, 0, none⟩ = some (selfP b) := by rw [Lib.cell_of_heap hb2]; rfl
  have d1 : w2.cell? ⟨b, 1, none⟩ = some vb := by rw [Lib.cell_of_heap hb2]; rfl
  have f1 : w2.frozen? ⟨b, 1, none⟩ = false := Lib.frozen_of_heap hb2 1
  obtain ⟨ao, n', cap, rfl⟩ : ∃ ao n' cap, v' = .slice ao n' cap := by
    rcases hown'.2 with ⟨hv, _⟩ | ⟨g, cap, cur, hv, _⟩
    · exact ⟨_, _, _, hv⟩
    · exact ⟨_, _, _, hv⟩
  unfold selfP at d0
  go_wp2
  try rw [hss]
  go_ret2
  have hnb : (Value.slice ao n' cap).ownBlock ≠ some b := by
    rcases hblk' with q | q
    · rw [q]; exact h1.ne
    · rw [q]; intro e; injection e; omega
  have hoth : ∀ k, k ≠ b → (w2.setCell ⟨b, 1, none⟩ (.slice ao n' cap)).heap[k]? = w2.heap[k]? := fun k hk => Below.heap_setCell _ _ _ k (by simp; omega)
  refine ⟨rfl, _, ⟨h.le, ?_, ?_, hnb⟩, ⟨?_, ?_, ?_, ?_, fun k hk hkb hko => ?_⟩, ?_⟩
  · unfold World.setCell
    simp only [Array.getElem?_modify, if_true, hb2, Option.map_some]
    rfl
  · have hl : (bs ++ s).length = bs.length + s.length := List.length_append
    rw [hl]
    have hc : byteCells (bs ++ s) = byteCells bs ++ strCells ⟨s.toArray⟩ := by
      unfold byteCells strCells
      rw [List.map_append]
    rw [hc]
    exact ownsRow_same hown' fun k hk => hoth k (fun e => hnb (by rw [hk, e]))
  · exact (hgrow.os).trans hf1.os
  · exact (hgrow.tape).trans hf1.tape
  · exact (hgrow.output).trans hf1.output
  · have := hgrow.size; rw [World.size_setCell]; omega
  · rw [hoth k hkb, hgrow.block k (by omega) (fun e => hko e.symm)]
    exact hf1.block k hk hkb (by simp)
  · rcases hblk' with q | q
    · exact .inl q
    · exact .inr ⟨_, q, by omega⟩
end Go.Proofs.YtpgkpbfefnpagaaGreatDoor
namespace Go.Proofs.YtpgkpbfefnpagaaGreatDoor
open Go.RowKit Go.Shelf Go.Lib

theorem BF.below {B b : Nat} {bs : List UInt8} {p vb : Value} {w w' : World} (h : BF B b bs p vb w) (hb : Below w.heap.size w w') : BF B b bs p vb w' := by
  have hlt : b < w.heap.size := (Array.getElem?_eq_some_iff.1 h.blk).1
  exact ⟨h.le, by rw [hb.block b hlt]; exact h.blk, ownsRow_same h.own fun k hk => hb.block k (h.own.lt k hk).2, h.ne⟩
set_option maxHeartbeats 2000000 in
theorem line_calls {B b : Nat} {bs : List UInt8} {p vb : Value} {w : World} (h : BF B b bs p vb w) (hp : p = .pointer none ∨ p = selfP b) (v : List UInt8) (l : List (List UInt8)) {S : Nat → Prop} {vw : Value} (hw : RepT S w (tStrs (v :: l)) vw)
    (hlen : bs.length + (joinB 32 (v :: l)).length ≤ 1000000) (hl : l.length ≤ 1000000) (hBw : B ≤ w.heap.size) :
    Calls Tryz.prog 14 #[vw, selfP b] w fun e w' => e = .returned (.tuple #[]) ∧ ∃ vb', BF B b (bs ++ (joinB 32 (v :: l) ++ [10])) (selfP b) vb' w' ∧ BFrame b vb.ownBlock w w' ∧ (vb'.ownBlock = vb.ownBlock ∨ ∃ g, vb'.ownBlock = some g ∧ w.heap.size ≤ g) := by
  have cJ := Join_snd (G := fun _ => True) v l 32 (by omega) (by omega)
  obtain ⟨J, hJ⟩ : ∃ J, joinB 32 (v :: l) = J := ⟨_, rfl⟩
  rw [hJ] at cJ hlen ⊢
  have hss : (⟨J.toArray⟩ : ByteArray).size = J.length := str_size J
  obtain ⟨av, n, cv, rfl⟩ : ∃ a n c, vw = .slice a n c := by
    obtain ⟨a, c, _, _, e, _⟩ := hw.listInv
    exact ⟨a, _, c, e⟩
  unfold selfP
  go_enter Tryz.func14, Tryz.ntmps14
  go_wp2_with (go_at_call 16; refine (cJ.calls S w #[_, _] trivial rfl fun k y u hy hu => ?_).mono ?_)
  · match k, hy, hu with
    | 0, hy, hu => cases hy; cases hu; exact hw
    | 1, hy, hu => cases hy; cases hu; exact .str _
  rintro e w1 ⟨u, rfl, hu, hb1⟩
  obtain rfl := str_inv hu
  have h1 := h.below hb1
  have hap : (⟨J.toArray⟩ : ByteArray) ++ ⟨#[10]⟩ = ⟨(J ++ [10]).toArray⟩ := str_append J [10]
  go_wp2_with (go_at_call 15; (try rw [hap]); refine (Write_calls h1 hp (J ++ [10]) (by simp; omega) (by have := hb1.size; omega)).mono ?_)
  rintro e w2 ⟨rfl, vb', h2, hf, ho⟩
  go_wp2
  go_end0
  have hlt : b < w.heap.size := (Array.getElem?_eq_some_iff.1 h.blk).1
  refine ⟨rfl, vb', h2, ⟨hf.os.trans hb1.os, hf.tape.trans hb1.tape, hf.output.trans hb1.output, Nat.le_trans hb1.size hf.size, fun k hk hkb hko => ?_⟩, ?_⟩
  · rw [hf.block k (Nat.lt_of_lt_of_le hk hb1.size) hkb hko]
    exact hb1.block k hk
  · rcases ho with q | ⟨g, q1, q2⟩
    · exact .inl q
    · exact .inr ⟨g, q1, Nat.le_trans hb1.size q2⟩
end Go.Proofs.YtpgkpbfefnpagaaGreatDoor
