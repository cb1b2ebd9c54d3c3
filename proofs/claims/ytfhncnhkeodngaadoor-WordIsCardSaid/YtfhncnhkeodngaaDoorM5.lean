/- Plain laws, data behind worlds, and contracts of functions, for the last text. No conditions. -/
import Derived.Test.YtfhncnhkeodngaaDoorM4
import Derived.Test.YtfhncnhkeodngaaDoorChecked
import Derived.StillTailTactics
set_option linter.unusedSimpArgs false
set_option linter.unusedVariables false
set_option linter.unnecessarySimpa false
set_option linter.unusedSectionVars false
namespace Go.Proofs.YtfhncnhkeodngaaDoor

def walkOk (c : Nat → Nat → Bool) : Nat → List Nat → Bool
  | _, [] => true
  | s, l :: w => !c s l && walkOk c l w
def chain (c : Nat → Nat → Bool) : List Nat → Bool
  | [] => true
  | x :: w => walkOk c x w
theorem walkOk_congr {c c' : Nat → Nat → Bool} {n : Nat} (h : ∀ s l, s < n → l < n → c s l = c' s l) : ∀ (w : List Nat) (s : Nat), s < n → Ltr n w → walkOk c s w = walkOk c' s w
  | [], _, _, _ => rfl
  | l :: w, s, hs, hw => by
    have hl := hw l List.mem_cons_self
    show (!c s l && walkOk c l w) = (!c' s l && walkOk c' l w)
    rw [h s l hs hl, walkOk_congr h w l hl fun x hx => hw x (List.mem_cons_of_mem _ hx)]
theorem chain_congr {c c' : Nat → Nat → Bool} {n : Nat} (h : ∀ s l, s < n → l < n → c s l = c' s l) {w : List Nat} (hw : Ltr n w) : chain c w = chain c' w := by
  cases w with
  | nil => rfl
  | cons x w => exact walkOk_congr h w x (hw x List.mem_cons_self) fun y hy => hw y (List.mem_cons_of_mem _ hy)
theorem walkOk_free {c : Nat → Nat → Bool} (h : ∀ s l, c s l = false) : ∀ (w : List Nat) (s : Nat), walkOk c s w = true
  | [], _ => rfl
  | l :: w, s => by rw [walkOk, h, walkOk_free h w l]; rfl
theorem chain_free {c : Nat → Nat → Bool} (h : ∀ s l, c s l = false) (w : List Nat) : chain c w = true := by
  cases w with
  | nil => rfl
  | cons x w => exact walkOk_free h w x

theorem map_range_take {α : Type} (f : Nat → α) {m k : Nat} (h : k < m) : ((List.range m).map f).take (k + 1) = ((List.range m).map f).take k ++ [f k] := by
  rw [List.take_succ_eq_append_getElem (by simpa using h)]; simp
/-- Rows out of a function. -/
def tabN (m n : Nat) (d : Nat → Nat → Nat) : List (List Int) := (List.range m).map fun s => (List.range n).map fun l => (d s l : Int)
def tabE (m : Nat) (e : Nat → Bool) : List Bool := (List.range m).map e
theorem tab_rows {m n : Nat} {d : Nat → Nat → Nat} (h : ∀ s l, s < m → l < n → d s l < m) : Rows0 n m (tabN m n d) := by
  refine ⟨by simp [tabN], fun r hr => ?_, fun r hr x hx => ?_⟩
  · obtain ⟨s, _, rfl⟩ := List.mem_map.1 hr
    simp
  · obtain ⟨s, hs, rfl⟩ := List.mem_map.1 hr
    obtain ⟨l, hl, rfl⟩ := List.mem_map.1 hx
    have := h s l (List.mem_range.1 hs) (List.mem_range.1 hl)
    omega
theorem tab_nx {m n : Nat} {d : Nat → Nat → Nat} {s l : Nat} (hs : s < m) (hl : l < n) : nx (tabN m n d) (s : Int) l = (d s l : Nat) := by
  unfold nx rowOf tabN
  have e : ((List.range m).map fun s => (List.range n).map fun l => (d s l : Int)).getD s [] = (List.range n).map fun l => (d s l : Int) := by
    rw [getD_lt (by simpa using hs)]; simp
  rw [Int.toNat_natCast, e, getD_lt (by simpa using hl)]
  simp
theorem tab_run {m n : Nat} {d : Nat → Nat → Nat} (h : ∀ s l, s < m → l < n → d s l < m) : ∀ (w : List Nat) (s : Nat), s < m → Ltr n w → runS (tabN m n d) (s : Int) w = (runN d s w : Nat) ∧ runN d s w < m
  | [], s, hs, _ => ⟨rfl, hs⟩
  | l :: w, s, hs, hw => by
    have hl := hw l List.mem_cons_self
    show runS (tabN m n d) (nx (tabN m n d) (s : Int) l) w = (runN d (d s l) w : Nat) ∧ runN d (d s l) w < m
    rw [tab_nx hs hl]
    exact tab_run h w _ (h s l hs hl) fun x hx => hw x (List.mem_cons_of_mem _ hx)
theorem tab_lang {m n : Nat} {d : Nat → Nat → Nat} {e : Nat → Bool} (h : ∀ s l, s < m → l < n → d s l < m) {s : Nat} (hs : s < m) {w : List Nat} (hw : Ltr n w) : lang (tabN m n d) (tabE m e) (s : Int) w = e (runN d s w) := by
  obtain ⟨h1, h2⟩ := tab_run h w s hs hw
  unfold lang endOf
  rw [h1, Int.toNat_natCast, getD_lt (by simpa [tabE] using h2)]
  simp [tabE]

/-- The program's machine: a state is the last letter; one more is where it went wrong. -/
def rightD (n : Nat) (c : Nat → Nat → Bool) (s l : Nat) : Nat := if s = n ∨ c s l = true then n else l
theorem rightD_lt {n : Nat} {c : Nat → Nat → Bool} (s l : Nat) (_hs : s < n + 1) (hl : l < n) : rightD n c s l < n + 1 := by unfold rightD; split <;> omega
theorem rightD_dead {n : Nat} {c : Nat → Nat → Bool} : ∀ w : List Nat, runN (rightD n c) n w = n
  | [] => rfl
  | l :: w => by show runN _ (rightD n c n l) w = n; rw [show rightD n c n l = n by simp [rightD]]; exact rightD_dead w
theorem rightD_walk {n : Nat} {c : Nat → Nat → Bool} : ∀ (w : List Nat) (s : Nat), s < n → Ltr n w → decide (runN (rightD n c) s w < n) = walkOk c s w
  | [], s, hs, _ => by simp [runN, walkOk, hs]
  | l :: w, s, hs, hw => by
    have hl := hw l List.mem_cons_self
    show decide (runN _ (rightD n c s l) w < n) = (!c s l && walkOk c l w)
    cases hc : c s l with
    | true =>
      rw [show rightD n c s l = n by simp [rightD, hc], rightD_dead]; simp
    | false =>
      rw [show rightD n c s l = l by rw [rightD, if_neg]; simp [hc]; omega, rightD_walk w l hl fun x hx => hw x (List.mem_cons_of_mem _ hx)]; simp
/-- The reference's: a state for none, for each last letter, and for what went wrong. -/
def allD (n : Nat) (c : Nat → Nat → Bool) (s l : Nat) : Nat := if s = n + 1 ∨ (0 < s ∧ c (s - 1) l = true) then n + 1 else l + 1
theorem allD_lt {n : Nat} {c : Nat → Nat → Bool} (s l : Nat) (_hs : s < n + 2) (hl : l < n) : allD n c s l < n + 2 := by unfold allD; split <;> omega
theorem allD_dead {n : Nat} {c : Nat → Nat → Bool} : ∀ w : List Nat, runN (allD n c) (n + 1) w = n + 1
  | [] => rfl
  | l :: w => by show runN _ (allD n c (n + 1) l) w = n + 1; rw [show allD n c (n + 1) l = n + 1 by simp [allD]]; exact allD_dead w
theorem allD_walk {n : Nat} {c : Nat → Nat → Bool} : ∀ (w : List Nat) (s : Nat), s < n → Ltr n w → decide (runN (allD n c) (s + 1) w ≤ n) = walkOk c s w
  | [], s, hs, _ => decide_eq_true (show s + 1 ≤ n from hs)
  | l :: w, s, hs, hw => by
    have hl := hw l List.mem_cons_self
    show decide (runN _ (allD n c (s + 1) l) w ≤ n) = (!c s l && walkOk c l w)
    cases hc : c s l with
    | true =>
      rw [show allD n c (s + 1) l = n + 1 by simp [allD, hc], allD_dead]; simp
    | false =>
      rw [show allD n c (s + 1) l = l + 1 by rw [allD, if_neg]; simp [hc]; omega, allD_walk w l hl fun x hx => hw x (List.mem_cons_of_mem _ hx)]; simp
theorem allD_chain {n : Nat} {c : Nat → Nat → Bool} {w : List Nat} (hw : Ltr n w) : decide (runN (allD n c) 0 w ≤ n) = chain c w := by
  cases w with
  | nil => simp [runN, chain]
  | cons x w =>
    have hx := hw x List.mem_cons_self
    show decide (runN _ (allD n c 0 x) w ≤ n) = walkOk c x w
    rw [show allD n c 0 x = x + 1 by simp [allD]]
    exact allD_walk w x hx fun y hy => hw y (List.mem_cons_of_mem _ hy)

/-- Two letters that have a digit 1 on the same track, in base Fib. -/
def clash (base : Int) (t s l : Nat) : Bool := base == 1 && (List.range t).any fun k => digitAt (radix base) t (s : Int) k == 1 && digitAt (radix base) t (l : Int) k == 1
theorem clash_chk : ((List.range 6).all fun t => (List.range (2 ^ t)).all fun s => (List.range (2 ^ t)).all fun l => ((s &&& l) != 0) == clash 1 t s l) = true := by kernel_rfl
theorem clash_and {t s l : Nat} (ht : t ≤ 5) (hs : s < 2 ^ t) (hl : l < 2 ^ t) : ((s &&& l) != 0) = clash 1 t s l := by
  have h := clash_chk
  simp only [List.all_eq_true, List.mem_range, beq_iff_eq] at h
  exact h t (by omega) s hs l hl
theorem clash_other {base : Int} (h : base ≠ 1) (t s l : Nat) : clash base t s l = false := by simp [clash, h]

/-- A word whose digits are right on each track. -/
def rightWd (base : Int) (t : Nat) (w : List Nat) : Bool := chain (clash base t) w

def rightNext (n : Nat) : List (List Int) := tabN (n + 1) n (rightD n fun s l => s &&& l != 0)
def rightEnds (n : Nat) : List Bool := tabE (n + 1) fun s => decide (s < n)
theorem right_rows (n : Nat) : Rows0 n (n + 1) (rightNext n) := tab_rows rightD_lt
theorem right_lang {t n : Nat} (ht : t ≤ 5) (hn : n = 2 ^ t) {w : List Nat} (hw : Ltr n w) : lang (rightNext n) (rightEnds n) 0 w = rightWd 1 t w := by
  have hp : 0 < n := by rw [hn]; exact Nat.two_pow_pos t
  have h := tab_lang (e := fun s => decide (s < n)) (rightD_lt (n := n) (c := fun s l => s &&& l != 0)) (s := 0) (by omega) hw
  refine h.trans ?_
  show decide (runN _ 0 w < n) = _
  rw [rightD_walk w 0 hp hw]
  unfold rightWd
  rw [chain_congr (c' := fun s l => s &&& l != 0) (n := n) (fun s l hs hl => (clash_and ht (by omega) (by omega)).symm) hw]
  cases w with
  | nil => rfl
  | cons x w => show (!(0 &&& x != 0) && walkOk _ x w) = walkOk _ x w; simp
noncomputable def allRE (base : Int) (n : Nat) : List (List Int) × List Bool := if base = 1 then leastRE n (rightNext n) (rightEnds n) else ([List.replicate n 0], [true])
noncomputable def allA (base tracks : Int) : GAuto := if manyErr base tracks = 0 then ⟨base, tracks, (allRE base (manyOf base tracks).toNat).1, (allRE base (manyOf base tracks).toNat).2⟩ else GAuto.zero
theorem powW_two (t : Nat) : powW 2 t = ((2 ^ t : Nat) : Int) := by
  induction t with
  | zero => rfl
  | succ t ih => show powW 2 t * 2 = _; rw [ih]; rw [Nat.pow_succ]; omega
/-- All right words: what it is. -/
theorem allA_isLeast {base : Int} {t n : Nat} (h0 : manyErr base t = 0) (hn : manyOf base t = n) : IsLeast (allA base t) n base t (rightWd base t) ∧ (allA base t).next.length ≤ 37 := by
  obtain ⟨r0, t0, t5, p36, hm⟩ := many_ok h0
  have hn36 : n ≤ 36 := by omega
  unfold allA
  rw [if_pos h0, hn, Int.toNat_natCast]
  by_cases h1 : base = 1
  · subst h1
    have e : n = 2 ^ t := by
      have h2 : radix 1 = 2 := rfl
      rw [h2, powW_two, Int.toNat_natCast] at hm; omega
    have h := leastRE_spec (ends := rightEnds n) (right_rows n) (by omega)
    unfold allRE
    rw [if_pos rfl]
    exact ⟨⟨rfl, rfl, h.1.lang_congr fun w hw => right_lang (by omega) e hw⟩, by have := h.2; simp only; omega⟩
  · unfold allRE
    rw [if_neg h1]
    exact ⟨⟨rfl, rfl, (least_const n true).lang_congr fun w _ => (chain_free (clash_other h1 t) w).symm⟩, by simp⟩
theorem many_nat {base tracks : Int} (h0 : manyErr base tracks = 0) : ∃ t n : Nat, tracks = t ∧ manyOf base t = n ∧ t ≤ 5 ∧ 0 < n ∧ n ≤ 36 := by
  obtain ⟨r0, t0, t5, p36, hm⟩ := many_ok h0
  obtain ⟨t, rfl⟩ := Int.eq_ofNat_of_zero_le t0
  have := powW_pos (radix_two r0).1 (t : Int).toNat
  exact ⟨t, (manyOf base t).toNat, rfl, by omega, by omega, by omega, by omega⟩
theorem allA_good {base : Int} {t n : Nat} (h0 : manyErr base t = 0) (hn : manyOf base t = n) : Good (allA base t) n (allA base t).next.length := by
  obtain ⟨h, h37⟩ := allA_isLeast h0 hn
  obtain ⟨r0, t0, t5, p36, hm⟩ := many_ok h0
  have hp := powW_pos (radix_two r0).1 (t : Int).toNat
  exact ⟨by rw [h.base, h.tracks]; exact h0, by rw [h.base, h.tracks]; exact hn, by omega, by omega, h.least.length_pos, by omega, h.least.len, h.least.rows⟩
/-- The reference's rows. -/
def allNext (base : Int) (t n : Nat) : List (List Int) := tabN (n + 2) n (allD n (clash base t))
def allEnds (n : Nat) : List Bool := tabE (n + 2) fun s => decide (s ≤ n)
theorem all_rows (base : Int) (t n : Nat) : Rows0 n (n + 2) (allNext base t n) := tab_rows allD_lt
theorem all_lang (base : Int) (t : Nat) {n : Nat} {w : List Nat} (hw : Ltr n w) : lang (allNext base t n) (allEnds n) 0 w = rightWd base t w :=
  (tab_lang (e := fun s => decide (s ≤ n)) (allD_lt (n := n) (c := clash base t)) (s := 0) (by omega) hw).trans (allD_chain hw)
theorem all_least {base : Int} {t n : Nat} (h0 : manyErr base t = 0) (hn : manyOf base t = n) : leastRE n (allNext base t n) (allEnds n) = ((allA base t).next, (allA base t).ends) :=
  leastRE_eq (all_rows base t n) (by omega) ((allA_isLeast h0 hn).1.least.lang_congr fun _ hw => (all_lang base t hw).symm)
end Go.Proofs.YtfhncnhkeodngaaDoor
namespace Go.Proofs.YtfhncnhkeodngaaDoor
open Go.RowKit

theorem and64' {s l : Nat} (hs : s < 1000) (hl : l < 1000) : IntKind.i64.wrap ((BitVec.ofInt 64 (s : Int) &&& BitVec.ofInt 64 (l : Int)).toNat : Int) = ((s &&& l : Nat) : Int) := by
  have h1 : (BitVec.ofInt 64 (s : Int) &&& BitVec.ofInt 64 (l : Int)).toNat = s &&& l := by
    rw [BitVec.ofInt_natCast, BitVec.ofInt_natCast, BitVec.toNat_and, BitVec.toNat_ofNat, BitVec.toNat_ofNat, Nat.mod_eq_of_lt (by omega), Nat.mod_eq_of_lt (by omega)]
  rw [h1]
  have : s &&& l ≤ s := Nat.and_le_left
  exact wrap_i64 _ (by omega)
/-- The same, as the walk writes it. -/
theorem and64 {s l : Nat} (hs : s < 1000) (hl : l < 1000) : IntKind.i64.wrap ((@BitVec.toNat 64 (@HAnd.hAnd (BitVec 64) (BitVec 64) (BitVec 64) (@instHAndOfAndOp (BitVec IntKind.i64.bits) (@BitVec.instAndOp IntKind.i64.bits)) (BitVec.ofInt 64 (s : Int)) (BitVec.ofInt 64 (l : Int))) : Nat) : Int) = ((s &&& l : Nat) : Int) := and64' hs hl
section
variable {G : World → Prop} (hG : Lasting G)
include hG
set_option maxHeartbeats 4000000 in
set_option maxRecDepth 100000 in
theorem All_snd (base tracks : Int) : Snd Tryd.prog G 95 [tInt base, tInt tracks] (.tup [tAuto (allA base tracks), tErr (manyErr base tracks)]) := by
  have c1 := Many_snd hG base tracks
  refine snd_of_body (n := 81) (tm := [(0, .t (tInt base)), (1, .t (tInt tracks))]) (rs := [.cell 4 51, .tmp 5]) tt_ok Tryd.func95 rfl rfl rfl rfl rfl ?_
  unfold allA
  by_cases h0 : manyErr base tracks = 0
  · obtain ⟨t, n, rfl, hn, ht5, hn0, hn36⟩ := many_nat h0
    rw [h0, hn] at c1
    rw [if_pos h0, h0, hn, Int.toNat_natCast]
    have htb := Tab.cons c1 Tab.nil
    by_cases h1 : base = 1
    · subst h1
      have hS := Shrink_snd (G := G) (ends := rightEnds n) hG 1 t (right_rows n) (by omega) (by omega) (by simp [rightEnds, tabE]) (by omega)
      have hle := (leastRE_spec (ends := rightEnds n) (right_rows n) (by omega)).2
      have hT : shrinkT 1 t n (rightNext n) (rightEnds n) = .tup [tAuto ⟨1, t, (leastRE n (rightNext n) (rightEnds n)).1, (leastRE n (rightNext n) (rightEnds n)).2⟩, .bool true] := by
        unfold shrinkT; rw [if_pos (by omega)]
      rw [hT] at hS
      unfold allRE
      rw [if_pos rfl]
      generalize (⟨1, t, (leastRE n (rightNext n) (rightEnds n)).1, (leastRE n (rightNext n) (rightEnds n)).2⟩ : GAuto) = c at hS
      repeat' (first | (with_reducible first | refine SW_seq ?_ | refine SW_block ?_ | refine SThen_n ?_ | refine SThen_r ?_ | refine SThen_e ?_ | refine SIn_n ?_ | refine SIn_r ?_ | refine SIn_eq ?_ | refine SW_skip ?_ | refine SW_exit ?_ | refine SW_ret ?_ | refine SPost_r ?_) | ((with_reducible refine SIn_ne ?_ ?_); focus decide) | ((with_reducible refine SW_true ?_ ?_); focus exact rfl) | ((with_reducible refine SW_false ?_ ?_); focus exact rfl) | ((first | (with_reducible apply SW_run tt_ok hG htb) | ((with_reducible apply SW_draw rfl tt_ok hG htb); (focus kernel_rfl); (focus (simp only [List.range, List.range.loop, List.size_toArray, List.length_cons, List.length_nil, Nat.reduceAdd])))); focus ((repeat' (first | (with_reducible exact runX_nil) | (with_reducible exact runI_nil) | ((first | (with_reducible apply runX_cons) | (with_reducible apply runI_cons)); focus (simp (discharger := omega) only [go_sem, tErr, ↓reduceIte, reduceIte, Nat.reduceEqDiff, Nat.reduceLT, Nat.reduceLeDiff, Nat.reduceAdd, Nat.reduceSub, Nat.reduceMul, Nat.reduceDiv, Nat.reduceMod, Nat.reduceBEq, Int.reduceEq, Int.reduceLT, Int.reduceLE, Int.reduceNeg, Int.reduceToNat, reduceCtorEq]; with_reducible rfl)))); done)))
      refine SW_loop (fun k s => ∃ (i : Nat) (nt et : List T), k = n + 1 - i ∧ s = ⟨81, [(0, .t (tInt 1)), (1, .t (tInt t)), (4, .bptr 0 0), (6, .t (tInt n)), (8, .sref 1), (9, .sref 2), (35, .t (tInt (n + 1))), (36, .t (tInt i))], [.box [.t (tInt 0), .t (tInt 0), .nil, .nil], .row 22 1 false nt, .row 4 1 false et]⟩ ∧
          nt = ((rightNext n).take i).map tInts ∧ et = ((rightEnds n).take i).map T.bool ∧ i ≤ n + 1) (n + 1)
        ⟨_, Norm.headS (own := [(8, 22, 1, false), (9, 4, 1, false)]) (keep := [0, 1, 4, 6, 8, 9, 35, 36]) (by simp (discharger := omega) only [go_sem, ↓reduceIte, reduceIte, Nat.reduceEqDiff, Nat.reduceLT, Nat.reduceLeDiff, Nat.reduceAdd, Nat.reduceSub, Nat.reduceMul, Nat.reduceDiv, Nat.reduceMod, Nat.reduceBEq, Int.reduceEq, Int.reduceLT, Int.reduceLE, Int.reduceNeg, Int.reduceToNat, reduceCtorEq]; with_reducible rfl) (by simp only [go_sem, ↓reduceIte, reduceIte, Nat.reduceEqDiff, Nat.reduceLT, Nat.reduceLeDiff, Nat.reduceAdd, Nat.reduceSub, Nat.reduceMul, Nat.reduceDiv, Nat.reduceMod, Nat.reduceBEq, Int.reduceEq, Int.reduceLT, Int.reduceLE, Int.reduceNeg, Int.reduceToNat, reduceCtorEq]; with_reducible rfl) (by simp only [go_sem, ↓reduceIte, reduceIte, Nat.reduceEqDiff, Nat.reduceLT, Nat.reduceLeDiff, Nat.reduceAdd, Nat.reduceSub, Nat.reduceMul, Nat.reduceDiv, Nat.reduceMod, Nat.reduceBEq, Int.reduceEq, Int.reduceLT, Int.reduceLE, Int.reduceNeg, Int.reduceToNat, reduceCtorEq]; with_reducible rfl) (by simp only [go_sem, ↓reduceIte, reduceIte, Nat.reduceEqDiff, Nat.reduceLT, Nat.reduceLeDiff, Nat.reduceAdd, Nat.reduceSub, Nat.reduceMul, Nat.reduceDiv, Nat.reduceMod, Nat.reduceBEq, Int.reduceEq, Int.reduceLT, Int.reduceLE, Int.reduceNeg, Int.reduceToNat, reduceCtorEq]; with_reducible rfl) (by simp only [go_sem, ↓reduceIte, reduceIte, Nat.reduceEqDiff, Nat.reduceLT, Nat.reduceLeDiff, Nat.reduceAdd, Nat.reduceSub, Nat.reduceMul, Nat.reduceDiv, Nat.reduceMod, Nat.reduceBEq, Int.reduceEq, Int.reduceLT, Int.reduceLE, Int.reduceNeg, Int.reduceToNat, reduceCtorEq]; with_reducible rfl), 0, _, _, rfl, rfl, rfl, rfl, Nat.zero_le _⟩ ?_
      clear htb
      have htb := Tab.cons hS Tab.nil
      rintro k s ⟨i, nt, et, rfl, rfl, hnt, het, hi⟩
      have hntl : nt.length = i := by rw [hnt]; simp [rightNext, tabN]; omega
      have hetl : et.length = i := by rw [het]; simp [rightEnds, tabE]; omega
      by_cases hlt : i < n + 1
      · repeat' (first | (with_reducible first | refine SW_seq ?_ | refine SW_block ?_ | refine SThen_n ?_ | refine SThen_r ?_ | refine SThen_e ?_ | refine SIn_n ?_ | refine SIn_r ?_ | refine SIn_eq ?_ | refine SW_skip ?_ | refine SW_exit ?_ | refine SW_ret ?_ | refine SPost_r ?_) | ((with_reducible refine SIn_ne ?_ ?_); focus decide) | ((with_reducible refine SW_true ?_ ?_); focus exact rfl) | ((with_reducible refine SW_false ?_ ?_); focus exact rfl) | ((first | (with_reducible apply SW_run tt_ok hG htb) | ((with_reducible apply SW_draw rfl tt_ok hG htb); (focus kernel_rfl); (focus (simp only [List.range, List.range.loop, List.size_toArray, List.length_cons, List.length_nil, Nat.reduceAdd])))); focus ((repeat' (first | (with_reducible exact runX_nil) | (with_reducible exact runI_nil) | ((first | (with_reducible apply runX_cons) | (with_reducible apply runI_cons)); focus (simp (discharger := omega) only [go_sem, ↓reduceIte, reduceIte, Nat.reduceEqDiff, Nat.reduceLT, Nat.reduceLeDiff, Nat.reduceAdd, Nat.reduceSub, Nat.reduceMul, Nat.reduceDiv, Nat.reduceMod, Nat.reduceBEq, Int.reduceEq, Int.reduceLT, Int.reduceLE, Int.reduceNeg, Int.reduceToNat, reduceCtorEq]; with_reducible rfl)))); done)))
        refine SW_loop (fun k s => ∃ (l : Nat) (rt : List T), k = n - l ∧ s = ⟨81, [(0, .t (tInt 1)), (1, .t (tInt t)), (4, .bptr 0 0), (6, .t (tInt n)), (8, .sref 1), (9, .sref 2), (10, .t (tInt i)), (11, .sref 3), (35, .t (tInt (n + 1))), (36, .t (tInt i)), (39, .t (tInt n)), (40, .t (tInt l))], [.box [.t (tInt 0), .t (tInt 0), .nil, .nil], .row 22 1 false nt, .row 4 1 false et, .row 3 1 false rt]⟩ ∧
            rt = (((List.range n).map fun l => (rightD n (fun s l => s &&& l != 0) i l : Int)).take l).map tInt ∧ l ≤ n) n
          ⟨_, Norm.headS (own := [(8, 22, 1, false), (9, 4, 1, false), (11, 3, 1, false)]) (keep := [0, 1, 4, 6, 8, 9, 10, 11, 35, 36, 39, 40]) (by simp (discharger := omega) only [go_sem, ↓reduceIte, reduceIte, Nat.reduceEqDiff, Nat.reduceLT, Nat.reduceLeDiff, Nat.reduceAdd, Nat.reduceSub, Nat.reduceMul, Nat.reduceDiv, Nat.reduceMod, Nat.reduceBEq, Int.reduceEq, Int.reduceLT, Int.reduceLE, Int.reduceNeg, Int.reduceToNat, reduceCtorEq]; with_reducible rfl) (by simp only [go_sem, ↓reduceIte, reduceIte, Nat.reduceEqDiff, Nat.reduceLT, Nat.reduceLeDiff, Nat.reduceAdd, Nat.reduceSub, Nat.reduceMul, Nat.reduceDiv, Nat.reduceMod, Nat.reduceBEq, Int.reduceEq, Int.reduceLT, Int.reduceLE, Int.reduceNeg, Int.reduceToNat, reduceCtorEq]; with_reducible rfl) (by simp only [go_sem, ↓reduceIte, reduceIte, Nat.reduceEqDiff, Nat.reduceLT, Nat.reduceLeDiff, Nat.reduceAdd, Nat.reduceSub, Nat.reduceMul, Nat.reduceDiv, Nat.reduceMod, Nat.reduceBEq, Int.reduceEq, Int.reduceLT, Int.reduceLE, Int.reduceNeg, Int.reduceToNat, reduceCtorEq]; with_reducible rfl) (by simp only [go_sem, ↓reduceIte, reduceIte, Nat.reduceEqDiff, Nat.reduceLT, Nat.reduceLeDiff, Nat.reduceAdd, Nat.reduceSub, Nat.reduceMul, Nat.reduceDiv, Nat.reduceMod, Nat.reduceBEq, Int.reduceEq, Int.reduceLT, Int.reduceLE, Int.reduceNeg, Int.reduceToNat, reduceCtorEq]; with_reducible rfl) (by simp only [go_sem, ↓reduceIte, reduceIte, Nat.reduceEqDiff, Nat.reduceLT, Nat.reduceLeDiff, Nat.reduceAdd, Nat.reduceSub, Nat.reduceMul, Nat.reduceDiv, Nat.reduceMod, Nat.reduceBEq, Int.reduceEq, Int.reduceLT, Int.reduceLE, Int.reduceNeg, Int.reduceToNat, reduceCtorEq]; with_reducible rfl), 0, _, rfl, rfl, rfl, Nat.zero_le _⟩ ?_
        rintro k s ⟨l, rt, rfl, rfl, hrt, hl⟩
        have hrtl : rt.length = l := by rw [hrt]; simp; omega
        by_cases hlt2 : l < n
        · have hand := and64 (s := i) (l := l) (by omega) (by omega)
          have htk := map_range_take (fun l => (rightD n (fun s l => s &&& l != 0) i l : Int)) hlt2
          by_cases hin : i = n
          · have hv : rightD n (fun s l => s &&& l != 0) i l = n := by simp [rightD, hin]
            repeat' (first | (with_reducible first | refine SW_seq ?_ | refine SW_block ?_ | refine SThen_n ?_ | refine SThen_r ?_ | refine SThen_e ?_ | refine SIn_n ?_ | refine SIn_r ?_ | refine SIn_eq ?_ | refine SW_skip ?_ | refine SW_exit ?_ | refine SW_ret ?_ | refine SPost_r ?_) | ((with_reducible refine SIn_ne ?_ ?_); focus decide) | ((with_reducible refine SW_true ?_ ?_); focus exact rfl) | ((with_reducible refine SW_false ?_ ?_); focus exact rfl) | ((first | (with_reducible apply SW_run tt_ok hG htb) | ((with_reducible apply SW_draw rfl tt_ok hG htb); (focus kernel_rfl); (focus (simp only [List.range, List.range.loop, List.size_toArray, List.length_cons, List.length_nil, Nat.reduceAdd])))); focus ((repeat' (first | (with_reducible exact runX_nil) | (with_reducible exact runI_nil) | ((first | (with_reducible apply runX_cons) | (with_reducible apply runI_cons)); focus (simp (discharger := omega) only [go_sem, hand, ↓reduceIte, reduceIte, Nat.reduceEqDiff, Nat.reduceLT, Nat.reduceLeDiff, Nat.reduceAdd, Nat.reduceSub, Nat.reduceMul, Nat.reduceDiv, Nat.reduceMod, Nat.reduceBEq, Int.reduceEq, Int.reduceLT, Int.reduceLE, Int.reduceNeg, Int.reduceToNat, reduceCtorEq]; with_reducible rfl)))); done)))
            exact ⟨n - (l + 1), _, by omega, Norm.headS (own := [(8, 22, 1, false), (9, 4, 1, false), (11, 3, 1, false)]) (keep := [0, 1, 4, 6, 8, 9, 10, 11, 35, 36, 39, 40]) (by simp (discharger := omega) only [go_sem, ↓reduceIte, reduceIte, Nat.reduceEqDiff, Nat.reduceLT, Nat.reduceLeDiff, Nat.reduceAdd, Nat.reduceSub, Nat.reduceMul, Nat.reduceDiv, Nat.reduceMod, Nat.reduceBEq, Int.reduceEq, Int.reduceLT, Int.reduceLE, Int.reduceNeg, Int.reduceToNat, reduceCtorEq]; with_reducible rfl) (by simp only [go_sem, ↓reduceIte, reduceIte, Nat.reduceEqDiff, Nat.reduceLT, Nat.reduceLeDiff, Nat.reduceAdd, Nat.reduceSub, Nat.reduceMul, Nat.reduceDiv, Nat.reduceMod, Nat.reduceBEq, Int.reduceEq, Int.reduceLT, Int.reduceLE, Int.reduceNeg, Int.reduceToNat, reduceCtorEq]; with_reducible rfl) (by simp only [go_sem, ↓reduceIte, reduceIte, Nat.reduceEqDiff, Nat.reduceLT, Nat.reduceLeDiff, Nat.reduceAdd, Nat.reduceSub, Nat.reduceMul, Nat.reduceDiv, Nat.reduceMod, Nat.reduceBEq, Int.reduceEq, Int.reduceLT, Int.reduceLE, Int.reduceNeg, Int.reduceToNat, reduceCtorEq]; with_reducible rfl) (by simp only [go_sem, ↓reduceIte, reduceIte, Nat.reduceEqDiff, Nat.reduceLT, Nat.reduceLeDiff, Nat.reduceAdd, Nat.reduceSub, Nat.reduceMul, Nat.reduceDiv, Nat.reduceMod, Nat.reduceBEq, Int.reduceEq, Int.reduceLT, Int.reduceLE, Int.reduceNeg, Int.reduceToNat, reduceCtorEq]; with_reducible rfl) (by simp only [go_sem, ↓reduceIte, reduceIte, Nat.reduceEqDiff, Nat.reduceLT, Nat.reduceLeDiff, Nat.reduceAdd, Nat.reduceSub, Nat.reduceMul, Nat.reduceDiv, Nat.reduceMod, Nat.reduceBEq, Int.reduceEq, Int.reduceLT, Int.reduceLE, Int.reduceNeg, Int.reduceToNat, reduceCtorEq]; with_reducible rfl), l + 1, _, rfl, rfl, by rw [htk, List.map_append, ← hrt, hv]; rfl, by omega⟩
          · by_cases ha : i &&& l = 0
            · have hv : rightD n (fun s l => s &&& l != 0) i l = l := by simp [rightD, hin, ha]
              replace hand := hand.trans (show ((i &&& l : Nat) : Int) = 0 by rw [ha]; rfl)
              repeat' (first | (with_reducible first | refine SW_seq ?_ | refine SW_block ?_ | refine SThen_n ?_ | refine SThen_r ?_ | refine SThen_e ?_ | refine SIn_n ?_ | refine SIn_r ?_ | refine SIn_eq ?_ | refine SW_skip ?_ | refine SW_exit ?_ | refine SW_ret ?_ | refine SPost_r ?_) | ((with_reducible refine SIn_ne ?_ ?_); focus decide) | ((with_reducible refine SW_true ?_ ?_); focus exact rfl) | ((with_reducible refine SW_false ?_ ?_); focus exact rfl) | ((first | (with_reducible apply SW_run tt_ok hG htb) | ((with_reducible apply SW_draw rfl tt_ok hG htb); (focus kernel_rfl); (focus (simp only [List.range, List.range.loop, List.size_toArray, List.length_cons, List.length_nil, Nat.reduceAdd])))); focus ((repeat' (first | (with_reducible exact runX_nil) | (with_reducible exact runI_nil) | ((first | (with_reducible apply runX_cons) | (with_reducible apply runI_cons)); focus (simp (discharger := omega) only [go_sem, hand, ↓reduceIte, reduceIte, Nat.reduceEqDiff, Nat.reduceLT, Nat.reduceLeDiff, Nat.reduceAdd, Nat.reduceSub, Nat.reduceMul, Nat.reduceDiv, Nat.reduceMod, Nat.reduceBEq, Int.reduceEq, Int.reduceLT, Int.reduceLE, Int.reduceNeg, Int.reduceToNat, reduceCtorEq]; with_reducible rfl)))); done)))
              exact ⟨n - (l + 1), _, by omega, Norm.headS (own := [(8, 22, 1, false), (9, 4, 1, false), (11, 3, 1, false)]) (keep := [0, 1, 4, 6, 8, 9, 10, 11, 35, 36, 39, 40]) (by simp (discharger := omega) only [go_sem, ↓reduceIte, reduceIte, Nat.reduceEqDiff, Nat.reduceLT, Nat.reduceLeDiff, Nat.reduceAdd, Nat.reduceSub, Nat.reduceMul, Nat.reduceDiv, Nat.reduceMod, Nat.reduceBEq, Int.reduceEq, Int.reduceLT, Int.reduceLE, Int.reduceNeg, Int.reduceToNat, reduceCtorEq]; with_reducible rfl) (by simp only [go_sem, ↓reduceIte, reduceIte, Nat.reduceEqDiff, Nat.reduceLT, Nat.reduceLeDiff, Nat.reduceAdd, Nat.reduceSub, Nat.reduceMul, Nat.reduceDiv, Nat.reduceMod, Nat.reduceBEq, Int.reduceEq, Int.reduceLT, Int.reduceLE, Int.reduceNeg, Int.reduceToNat, reduceCtorEq]; with_reducible rfl) (by simp only [go_sem, ↓reduceIte, reduceIte, Nat.reduceEqDiff, Nat.reduceLT, Nat.reduceLeDiff, Nat.reduceAdd, Nat.reduceSub, Nat.reduceMul, Nat.reduceDiv, Nat.reduceMod, Nat.reduceBEq, Int.reduceEq, Int.reduceLT, Int.reduceLE, Int.reduceNeg, Int.reduceToNat, reduceCtorEq]; with_reducible rfl) (by simp only [go_sem, ↓reduceIte, reduceIte, Nat.reduceEqDiff, Nat.reduceLT, Nat.reduceLeDiff, Nat.reduceAdd, Nat.reduceSub, Nat.reduceMul, Nat.reduceDiv, Nat.reduceMod, Nat.reduceBEq, Int.reduceEq, Int.reduceLT, Int.reduceLE, Int.reduceNeg, Int.reduceToNat, reduceCtorEq]; with_reducible rfl) (by simp only [go_sem, ↓reduceIte, reduceIte, Nat.reduceEqDiff, Nat.reduceLT, Nat.reduceLeDiff, Nat.reduceAdd, Nat.reduceSub, Nat.reduceMul, Nat.reduceDiv, Nat.reduceMod, Nat.reduceBEq, Int.reduceEq, Int.reduceLT, Int.reduceLE, Int.reduceNeg, Int.reduceToNat, reduceCtorEq]; with_reducible rfl), l + 1, _, rfl, rfl, by rw [htk, List.map_append, ← hrt, hv]; rfl, by omega⟩
            · have hv : rightD n (fun s l => s &&& l != 0) i l = n := by simp [rightD, ha]
              have ha2 : ¬ (((i &&& l : Nat) : Int) = 0) := by omega
              repeat' (first | (with_reducible first | refine SW_seq ?_ | refine SW_block ?_ | refine SThen_n ?_ | refine SThen_r ?_ | refine SThen_e ?_ | refine SIn_n ?_ | refine SIn_r ?_ | refine SIn_eq ?_ | refine SW_skip ?_ | refine SW_exit ?_ | refine SW_ret ?_ | refine SPost_r ?_) | ((with_reducible refine SIn_ne ?_ ?_); focus decide) | ((with_reducible refine SW_true ?_ ?_); focus exact rfl) | ((with_reducible refine SW_false ?_ ?_); focus exact rfl) | ((first | (with_reducible apply SW_run tt_ok hG htb) | ((with_reducible apply SW_draw rfl tt_ok hG htb); (focus kernel_rfl); (focus (simp only [List.range, List.range.loop, List.size_toArray, List.length_cons, List.length_nil, Nat.reduceAdd])))); focus ((repeat' (first | (with_reducible exact runX_nil) | (with_reducible exact runI_nil) | ((first | (with_reducible apply runX_cons) | (with_reducible apply runI_cons)); focus (simp (discharger := omega) only [go_sem, hand, ha2, ↓reduceIte, reduceIte, Nat.reduceEqDiff, Nat.reduceLT, Nat.reduceLeDiff, Nat.reduceAdd, Nat.reduceSub, Nat.reduceMul, Nat.reduceDiv, Nat.reduceMod, Nat.reduceBEq, Int.reduceEq, Int.reduceLT, Int.reduceLE, Int.reduceNeg, Int.reduceToNat, reduceCtorEq]; with_reducible rfl)))); done)))
              exact ⟨n - (l + 1), _, by omega, Norm.headS (own := [(8, 22, 1, false), (9, 4, 1, false), (11, 3, 1, false)]) (keep := [0, 1, 4, 6, 8, 9, 10, 11, 35, 36, 39, 40]) (by simp (discharger := omega) only [go_sem, ↓reduceIte, reduceIte, Nat.reduceEqDiff, Nat.reduceLT, Nat.reduceLeDiff, Nat.reduceAdd, Nat.reduceSub, Nat.reduceMul, Nat.reduceDiv, Nat.reduceMod, Nat.reduceBEq, Int.reduceEq, Int.reduceLT, Int.reduceLE, Int.reduceNeg, Int.reduceToNat, reduceCtorEq]; with_reducible rfl) (by simp only [go_sem, ↓reduceIte, reduceIte, Nat.reduceEqDiff, Nat.reduceLT, Nat.reduceLeDiff, Nat.reduceAdd, Nat.reduceSub, Nat.reduceMul, Nat.reduceDiv, Nat.reduceMod, Nat.reduceBEq, Int.reduceEq, Int.reduceLT, Int.reduceLE, Int.reduceNeg, Int.reduceToNat, reduceCtorEq]; with_reducible rfl) (by simp only [go_sem, ↓reduceIte, reduceIte, Nat.reduceEqDiff, Nat.reduceLT, Nat.reduceLeDiff, Nat.reduceAdd, Nat.reduceSub, Nat.reduceMul, Nat.reduceDiv, Nat.reduceMod, Nat.reduceBEq, Int.reduceEq, Int.reduceLT, Int.reduceLE, Int.reduceNeg, Int.reduceToNat, reduceCtorEq]; with_reducible rfl) (by simp only [go_sem, ↓reduceIte, reduceIte, Nat.reduceEqDiff, Nat.reduceLT, Nat.reduceLeDiff, Nat.reduceAdd, Nat.reduceSub, Nat.reduceMul, Nat.reduceDiv, Nat.reduceMod, Nat.reduceBEq, Int.reduceEq, Int.reduceLT, Int.reduceLE, Int.reduceNeg, Int.reduceToNat, reduceCtorEq]; with_reducible rfl) (by simp only [go_sem, ↓reduceIte, reduceIte, Nat.reduceEqDiff, Nat.reduceLT, Nat.reduceLeDiff, Nat.reduceAdd, Nat.reduceSub, Nat.reduceMul, Nat.reduceDiv, Nat.reduceMod, Nat.reduceBEq, Int.reduceEq, Int.reduceLT, Int.reduceLE, Int.reduceNeg, Int.reduceToNat, reduceCtorEq]; with_reducible rfl), l + 1, _, rfl, rfl, by rw [htk, List.map_append, ← hrt, hv]; rfl, by omega⟩
        · obtain rfl : l = n := by omega
          rw [List.take_of_length_le (by simp)] at hrt
          have htk := map_range_take (fun s => (List.range l).map fun k => (rightD l (fun s l => s &&& l != 0) s k : Int)) hlt
          have htk2 := map_range_take (fun s => decide (s < l)) hlt
          by_cases hin : i < l
          · repeat' (first | (with_reducible first | refine SW_seq ?_ | refine SW_block ?_ | refine SThen_n ?_ | refine SThen_r ?_ | refine SThen_e ?_ | refine SIn_n ?_ | refine SIn_r ?_ | refine SIn_eq ?_ | refine SW_skip ?_ | refine SW_exit ?_ | refine SW_ret ?_ | refine SPost_r ?_) | ((with_reducible refine SIn_ne ?_ ?_); focus decide) | ((with_reducible refine SW_true ?_ ?_); focus exact rfl) | ((with_reducible refine SW_false ?_ ?_); focus exact rfl) | ((first | (with_reducible apply SW_run tt_ok hG htb) | ((with_reducible apply SW_draw rfl tt_ok hG htb); (focus kernel_rfl); (focus (simp only [List.range, List.range.loop, List.size_toArray, List.length_cons, List.length_nil, Nat.reduceAdd])))); focus ((repeat' (first | (with_reducible exact runX_nil) | (with_reducible exact runI_nil) | ((first | (with_reducible apply runX_cons) | (with_reducible apply runI_cons)); focus (simp (discharger := omega) only [go_sem, ↓reduceIte, reduceIte, Nat.reduceEqDiff, Nat.reduceLT, Nat.reduceLeDiff, Nat.reduceAdd, Nat.reduceSub, Nat.reduceMul, Nat.reduceDiv, Nat.reduceMod, Nat.reduceBEq, Int.reduceEq, Int.reduceLT, Int.reduceLE, Int.reduceNeg, Int.reduceToNat, reduceCtorEq]; with_reducible rfl)))); done)))
            exact ⟨l + 1 - (i + 1), _, by omega, Norm.headS (own := [(8, 22, 1, false), (9, 4, 1, false)]) (keep := [0, 1, 4, 6, 8, 9, 35, 36]) (by simp (discharger := omega) only [go_sem, ↓reduceIte, reduceIte, Nat.reduceEqDiff, Nat.reduceLT, Nat.reduceLeDiff, Nat.reduceAdd, Nat.reduceSub, Nat.reduceMul, Nat.reduceDiv, Nat.reduceMod, Nat.reduceBEq, Int.reduceEq, Int.reduceLT, Int.reduceLE, Int.reduceNeg, Int.reduceToNat, reduceCtorEq]; with_reducible rfl) (by simp only [go_sem, ↓reduceIte, reduceIte, Nat.reduceEqDiff, Nat.reduceLT, Nat.reduceLeDiff, Nat.reduceAdd, Nat.reduceSub, Nat.reduceMul, Nat.reduceDiv, Nat.reduceMod, Nat.reduceBEq, Int.reduceEq, Int.reduceLT, Int.reduceLE, Int.reduceNeg, Int.reduceToNat, reduceCtorEq]; with_reducible rfl) (by simp only [go_sem, ↓reduceIte, reduceIte, Nat.reduceEqDiff, Nat.reduceLT, Nat.reduceLeDiff, Nat.reduceAdd, Nat.reduceSub, Nat.reduceMul, Nat.reduceDiv, Nat.reduceMod, Nat.reduceBEq, Int.reduceEq, Int.reduceLT, Int.reduceLE, Int.reduceNeg, Int.reduceToNat, reduceCtorEq]; with_reducible rfl) (by simp only [go_sem, ↓reduceIte, reduceIte, Nat.reduceEqDiff, Nat.reduceLT, Nat.reduceLeDiff, Nat.reduceAdd, Nat.reduceSub, Nat.reduceMul, Nat.reduceDiv, Nat.reduceMod, Nat.reduceBEq, Int.reduceEq, Int.reduceLT, Int.reduceLE, Int.reduceNeg, Int.reduceToNat, reduceCtorEq]; with_reducible rfl) (by simp only [go_sem, ↓reduceIte, reduceIte, Nat.reduceEqDiff, Nat.reduceLT, Nat.reduceLeDiff, Nat.reduceAdd, Nat.reduceSub, Nat.reduceMul, Nat.reduceDiv, Nat.reduceMod, Nat.reduceBEq, Int.reduceEq, Int.reduceLT, Int.reduceLE, Int.reduceNeg, Int.reduceToNat, reduceCtorEq]; with_reducible rfl), i + 1, _, _, rfl, rfl, by rw [rightNext, tabN, htk, List.map_append, hnt, hrt]; rfl, by rw [rightEnds, tabE, htk2, List.map_append, het, decide_eq_true hin]; rfl, by omega⟩
          · repeat' (first | (with_reducible first | refine SW_seq ?_ | refine SW_block ?_ | refine SThen_n ?_ | refine SThen_r ?_ | refine SThen_e ?_ | refine SIn_n ?_ | refine SIn_r ?_ | refine SIn_eq ?_ | refine SW_skip ?_ | refine SW_exit ?_ | refine SW_ret ?_ | refine SPost_r ?_) | ((with_reducible refine SIn_ne ?_ ?_); focus decide) | ((with_reducible refine SW_true ?_ ?_); focus exact rfl) | ((with_reducible refine SW_false ?_ ?_); focus exact rfl) | ((first | (with_reducible apply SW_run tt_ok hG htb) | ((with_reducible apply SW_draw rfl tt_ok hG htb); (focus kernel_rfl); (focus (simp only [List.range, List.range.loop, List.size_toArray, List.length_cons, List.length_nil, Nat.reduceAdd])))); focus ((repeat' (first | (with_reducible exact runX_nil) | (with_reducible exact runI_nil) | ((first | (with_reducible apply runX_cons) | (with_reducible apply runI_cons)); focus (simp (discharger := omega) only [go_sem, ↓reduceIte, reduceIte, Nat.reduceEqDiff, Nat.reduceLT, Nat.reduceLeDiff, Nat.reduceAdd, Nat.reduceSub, Nat.reduceMul, Nat.reduceDiv, Nat.reduceMod, Nat.reduceBEq, Int.reduceEq, Int.reduceLT, Int.reduceLE, Int.reduceNeg, Int.reduceToNat, reduceCtorEq]; with_reducible rfl)))); done)))
            exact ⟨l + 1 - (i + 1), _, by omega, Norm.headS (own := [(8, 22, 1, false), (9, 4, 1, false)]) (keep := [0, 1, 4, 6, 8, 9, 35, 36]) (by simp (discharger := omega) only [go_sem, ↓reduceIte, reduceIte, Nat.reduceEqDiff, Nat.reduceLT, Nat.reduceLeDiff, Nat.reduceAdd, Nat.reduceSub, Nat.reduceMul, Nat.reduceDiv, Nat.reduceMod, Nat.reduceBEq, Int.reduceEq, Int.reduceLT, Int.reduceLE, Int.reduceNeg, Int.reduceToNat, reduceCtorEq]; with_reducible rfl) (by simp only [go_sem, ↓reduceIte, reduceIte, Nat.reduceEqDiff, Nat.reduceLT, Nat.reduceLeDiff, Nat.reduceAdd, Nat.reduceSub, Nat.reduceMul, Nat.reduceDiv, Nat.reduceMod, Nat.reduceBEq, Int.reduceEq, Int.reduceLT, Int.reduceLE, Int.reduceNeg, Int.reduceToNat, reduceCtorEq]; with_reducible rfl) (by simp only [go_sem, ↓reduceIte, reduceIte, Nat.reduceEqDiff, Nat.reduceLT, Nat.reduceLeDiff, Nat.reduceAdd, Nat.reduceSub, Nat.reduceMul, Nat.reduceDiv, Nat.reduceMod, Nat.reduceBEq, Int.reduceEq, Int.reduceLT, Int.reduceLE, Int.reduceNeg, Int.reduceToNat, reduceCtorEq]; with_reducible rfl) (by simp only [go_sem, ↓reduceIte, reduceIte, Nat.reduceEqDiff, Nat.reduceLT, Nat.reduceLeDiff, Nat.reduceAdd, Nat.reduceSub, Nat.reduceMul, Nat.reduceDiv, Nat.reduceMod, Nat.reduceBEq, Int.reduceEq, Int.reduceLT, Int.reduceLE, Int.reduceNeg, Int.reduceToNat, reduceCtorEq]; with_reducible rfl) (by simp only [go_sem, ↓reduceIte, reduceIte, Nat.reduceEqDiff, Nat.reduceLT, Nat.reduceLeDiff, Nat.reduceAdd, Nat.reduceSub, Nat.reduceMul, Nat.reduceDiv, Nat.reduceMod, Nat.reduceBEq, Int.reduceEq, Int.reduceLT, Int.reduceLE, Int.reduceNeg, Int.reduceToNat, reduceCtorEq]; with_reducible rfl), i + 1, _, _, rfl, rfl, by rw [rightNext, tabN, htk, List.map_append, hnt, hrt]; rfl, by rw [rightEnds, tabE, htk2, List.map_append, het, decide_eq_false hin]; rfl, by omega⟩
      · obtain rfl : i = n + 1 := by omega
        rw [List.take_of_length_le (by simp [rightNext, tabN])] at hnt
        rw [List.take_of_length_le (by simp [rightEnds, tabE])] at het
        subst hnt het
        refine SW_norm (Norm.frz 8 rfl rfl) ?_
        refine SW_norm (Norm.frz 9 rfl rfl) ?_
        repeat' (first | (with_reducible first | refine SW_seq ?_ | refine SW_block ?_ | refine SThen_n ?_ | refine SThen_r ?_ | refine SThen_e ?_ | refine SIn_n ?_ | refine SIn_r ?_ | refine SIn_eq ?_ | refine SW_skip ?_ | refine SW_exit ?_ | refine SW_ret ?_ | refine SPost_r ?_) | ((with_reducible refine SIn_ne ?_ ?_); focus decide) | ((with_reducible refine SW_true ?_ ?_); focus exact rfl) | ((with_reducible refine SW_false ?_ ?_); focus exact rfl) | ((first | (with_reducible apply SW_run tt_ok hG htb) | ((with_reducible apply SW_draw rfl tt_ok hG htb); (focus kernel_rfl); (focus (simp only [List.range, List.range.loop, List.size_toArray, List.length_cons, List.length_nil, Nat.reduceAdd])))); focus ((repeat' (first | (with_reducible exact runX_nil) | (with_reducible exact runI_nil) | ((first | (with_reducible apply runX_cons) | (with_reducible apply runI_cons)); focus (simp (discharger := omega) only [go_sem, tAuto, tErr, ↓reduceIte, reduceIte, Nat.reduceEqDiff, Nat.reduceLT, Nat.reduceLeDiff, Nat.reduceAdd, Nat.reduceSub, Nat.reduceMul, Nat.reduceDiv, Nat.reduceMod, Nat.reduceBEq, Int.reduceEq, Int.reduceLT, Int.reduceLE, Int.reduceNeg, Int.reduceToNat, reduceCtorEq]; with_reducible rfl)))); done)))
        exact (by simp (discharger := omega) only [go_sem, tAuto, tErr, ↓reduceIte, reduceIte, Nat.reduceEqDiff, Nat.reduceLT, Nat.reduceLeDiff, Nat.reduceAdd, Nat.reduceSub, Nat.reduceMul, Nat.reduceDiv, Nat.reduceMod, Nat.reduceBEq, Int.reduceEq, Int.reduceLT, Int.reduceLE, Int.reduceNeg, Int.reduceToNat, reduceCtorEq])
    · unfold allRE
      rw [if_neg h1]
      repeat' (first | (with_reducible first | refine SW_seq ?_ | refine SW_block ?_ | refine SThen_n ?_ | refine SThen_r ?_ | refine SThen_e ?_ | refine SIn_n ?_ | refine SIn_r ?_ | refine SIn_eq ?_ | refine SW_skip ?_ | refine SW_exit ?_ | refine SW_ret ?_ | refine SPost_r ?_) | ((with_reducible refine SIn_ne ?_ ?_); focus decide) | ((with_reducible refine SW_true ?_ ?_); focus exact rfl) | ((with_reducible refine SW_false ?_ ?_); focus exact rfl) | ((first | (with_reducible apply SW_run tt_ok hG htb) | ((with_reducible apply SW_draw rfl tt_ok hG htb); (focus kernel_rfl); (focus (simp only [List.range, List.range.loop, List.size_toArray, List.length_cons, List.length_nil, Nat.reduceAdd])))); focus ((repeat' (first | (with_reducible exact runX_nil) | (with_reducible exact runI_nil) | ((first | (with_reducible apply runX_cons) | (with_reducible apply runI_cons)); focus (simp (discharger := omega) only [go_sem, tErr, h1, ↓reduceIte, reduceIte, Nat.reduceEqDiff, Nat.reduceLT, Nat.reduceLeDiff, Nat.reduceAdd, Nat.reduceSub, Nat.reduceMul, Nat.reduceDiv, Nat.reduceMod, Nat.reduceBEq, Int.reduceEq, Int.reduceLT, Int.reduceLE, Int.reduceNeg, Int.reduceToNat, reduceCtorEq]; with_reducible rfl)))); done)))
      exact (by simp (discharger := omega) only [go_sem, tAuto, tErr, List.map_replicate, ↓reduceIte, reduceIte, Nat.reduceEqDiff, Nat.reduceLT, Nat.reduceLeDiff, Nat.reduceAdd, Nat.reduceSub, Nat.reduceMul, Nat.reduceDiv, Nat.reduceMod, Nat.reduceBEq, Int.reduceEq, Int.reduceLT, Int.reduceLE, Int.reduceNeg, Int.reduceToNat, reduceCtorEq])
  · generalize manyErr base tracks = f at c1 h0
    rw [if_neg h0]
    have htb := Tab.cons c1 Tab.nil
    repeat' (first | (with_reducible first | refine SW_seq ?_ | refine SW_block ?_ | refine SThen_n ?_ | refine SThen_r ?_ | refine SThen_e ?_ | refine SIn_n ?_ | refine SIn_r ?_ | refine SIn_eq ?_ | refine SW_skip ?_ | refine SW_exit ?_ | refine SW_ret ?_ | refine SPost_r ?_) | ((with_reducible refine SIn_ne ?_ ?_); focus decide) | ((with_reducible refine SW_true ?_ ?_); focus exact rfl) | ((with_reducible refine SW_false ?_ ?_); focus exact rfl) | ((first | (with_reducible apply SW_run tt_ok hG htb) | ((with_reducible apply SW_draw rfl tt_ok hG htb); (focus kernel_rfl); (focus (simp only [List.range, List.range.loop, List.size_toArray, List.length_cons, List.length_nil, Nat.reduceAdd])))); focus ((repeat' (first | (with_reducible exact runX_nil) | (with_reducible exact runI_nil) | ((first | (with_reducible apply runX_cons) | (with_reducible apply runI_cons)); focus (simp (discharger := omega) only [go_sem, tErr, h0, ↓reduceIte, reduceIte, Nat.reduceEqDiff, Nat.reduceLT, Nat.reduceLeDiff, Nat.reduceAdd, Nat.reduceSub, Nat.reduceMul, Nat.reduceDiv, Nat.reduceMod, Nat.reduceBEq, Int.reduceEq, Int.reduceLT, Int.reduceLE, Int.reduceNeg, Int.reduceToNat, reduceCtorEq]; with_reducible rfl)))); done)))
    exact (by simp (discharger := omega) only [go_sem, tAuto, tErr, GAuto.zero, h0, ↓reduceIte, reduceIte, Nat.reduceEqDiff, Nat.reduceLT, Nat.reduceLeDiff, Nat.reduceAdd, Nat.reduceSub, Nat.reduceMul, Nat.reduceDiv, Nat.reduceMod, Nat.reduceBEq, Int.reduceEq, Int.reduceLT, Int.reduceLE, Int.reduceNeg, Int.reduceToNat, reduceCtorEq])
end
end Go.Proofs.YtfhncnhkeodngaaDoor
namespace Go.Proofs.YtfhncnhkeodngaaDoor
open Go.RowKit

section
variable {G : World → Prop} (hG : Lasting G)
include hG
end
end Go.Proofs.YtfhncnhkeodngaaDoor
namespace Go.Proofs.YtfhncnhkeodngaaDoor
open Go.RowKit

def allVal (base : Int) (t n s l k : Nat) : Int := if base = 1 ∧ 0 < s ∧ s ≤ n ∧ (List.range k).any (fun j => digitAt (radix base) t ((s - 1 : Nat) : Int) j == 1 && digitAt (radix base) t (l : Int) j == 1) = true then ((n + 1 : Nat) : Int) else ((l + 1 : Nat) : Int)
theorem allVal_zero {base : Int} {t n s l : Nat} : (l : Int) + 1 = allVal base t n s l 0 := by simp [allVal]
theorem allVal_off {base : Int} {t n s l k : Nat} (h : ¬ (base = 1 ∧ 0 < s ∧ s ≤ n)) : allVal base t n s l (k + 1) = allVal base t n s l k := by
  unfold allVal
  rw [if_neg (fun e => h ⟨e.1, e.2.1, e.2.2.1⟩), if_neg (fun e => h ⟨e.1, e.2.1, e.2.2.1⟩)]
theorem allVal_no {base : Int} {t n s l k q : Nat} (hq : s = q + 1) (h : ¬ (digitAt (radix base) t (q : Int) k = 1 ∧ digitAt (radix base) t (l : Int) k = 1)) : allVal base t n s l (k + 1) = allVal base t n s l k := by
  subst hq
  unfold allVal
  rw [List.range_succ, List.any_append]
  have e : ([k].any fun j => digitAt (radix base) t ((q + 1 - 1 : Nat) : Int) j == 1 && digitAt (radix base) t (l : Int) j == 1) = false := by
    simp only [List.any_cons, List.any_nil, Bool.or_false, Nat.add_sub_cancel, Bool.and_eq_false_iff, beq_eq_false_iff_ne]
    exact Classical.not_and_iff_not_or_not.1 h
  rw [e, Bool.or_false]
theorem allVal_yes {base : Int} {t n s l k q : Nat} (hb : base = 1) (hq : s = q + 1) (hn : s ≤ n) (h : digitAt (radix base) t (q : Int) k = 1 ∧ digitAt (radix base) t (l : Int) k = 1) : (n : Int) + 1 = allVal base t n s l (k + 1) := by
  subst hq
  unfold allVal
  rw [if_pos ⟨hb, by omega, hn, by rw [List.any_eq_true]; exact ⟨k, List.mem_range.2 (by omega), by simp only [Nat.add_sub_cancel, Bool.and_eq_true, beq_iff_eq]; exact h⟩⟩]
  omega
theorem allVal_end {base : Int} {t n s l : Nat} (hn : s ≤ n) : allVal base t n s l t = (allD n (clash base t) s l : Nat) := by
  unfold allVal allD clash
  by_cases h : base = 1 ∧ 0 < s ∧ (List.range t).any (fun j => digitAt (radix base) t ((s - 1 : Nat) : Int) j == 1 && digitAt (radix base) t (l : Int) j == 1) = true
  · rw [if_pos ⟨h.1, h.2.1, hn, h.2.2⟩, if_pos (.inr ⟨h.2.1, by rw [Bool.and_eq_true, beq_iff_eq]; exact ⟨h.1, h.2.2⟩⟩)]
  · rw [if_neg fun e => h ⟨e.1, e.2.1, e.2.2.2⟩, if_neg]
    rintro (e | ⟨e1, e2⟩)
    · omega
    · rw [Bool.and_eq_true, beq_iff_eq] at e2
      exact h ⟨e2.1, e1, e2.2⟩
section
variable {G : World → Prop} (hG : Lasting G)
include hG
set_option maxHeartbeats 4000000 in
set_option maxRecDepth 100000 in
theorem AllOf_snd (base : Int) (t : Nat) (h0 : manyErr base t = 0) : Snd Tryd.prog G 93 [tInt base, tInt t] (tAuto (allA base t)) := by
  have c1 := RLetters_snd hG base t
  obtain ⟨t', n, e, hn, ht5, hn0, hn36⟩ := many_nat h0
  obtain rfl : t = t' := by omega
  have hr := (many_ok h0).1
  rw [h0, hn] at c1
  have hS := Shrunk_snd (G := G) (ends := allEnds n) hG base t (all_rows base t n) (by omega) (by omega) (by simp [allEnds, tabE]) (by omega)
  have hle := (allA_isLeast h0 hn).2
  have hT : shrinkT base t n (allNext base t n) (allEnds n) = .tup [tAuto (allA base t), .bool true] := by
    have hal := all_least h0 hn
    have hl := (allA_isLeast h0 hn).1
    unfold shrinkT
    rw [hal, if_pos (by simp only; omega)]
    have e1 := hl.base
    have e2 := hl.tracks
    generalize allA base t = c at *
    cases c
    simp only at e1 e2 ⊢
    rw [e1, e2]
  rw [hT] at hS
  clear hT hle
  generalize allA base t = c at hS
  refine snd_of_body (n := 99) (tm := [(0, .t (tInt base)), (1, .t (tInt t))]) (rs := [.cell 4 51]) tt_ok Tryd.func93 rfl rfl rfl rfl rfl ?_
  have htb := Tab.cons c1 Tab.nil
  repeat' (first | (with_reducible first | refine SW_seq ?_ | refine SW_block ?_ | refine SThen_n ?_ | refine SThen_r ?_ | refine SThen_e ?_ | refine SIn_n ?_ | refine SIn_r ?_ | refine SIn_eq ?_ | refine SW_skip ?_ | refine SW_exit ?_ | refine SW_ret ?_ | refine SPost_r ?_) | ((with_reducible refine SIn_ne ?_ ?_); focus decide) | ((with_reducible refine SW_true ?_ ?_); focus exact rfl) | ((with_reducible refine SW_false ?_ ?_); focus exact rfl) | ((first | (with_reducible apply SW_run tt_ok hG htb) | ((with_reducible apply SW_draw rfl tt_ok hG htb); (focus kernel_rfl); (focus (simp only [List.range, List.range.loop, List.size_toArray, List.length_cons, List.length_nil, Nat.reduceAdd])))); focus ((repeat' (first | (with_reducible exact runX_nil) | (with_reducible exact runI_nil) | ((first | (with_reducible apply runX_cons) | (with_reducible apply runI_cons)); focus (simp (discharger := omega) only [go_sem, ↓reduceIte, reduceIte, Nat.reduceEqDiff, Nat.reduceLT, Nat.reduceLeDiff, Nat.reduceAdd, Nat.reduceSub, Nat.reduceMul, Nat.reduceDiv, Nat.reduceMod, Nat.reduceBEq, Int.reduceEq, Int.reduceLT, Int.reduceLE, Int.reduceNeg, Int.reduceToNat, reduceCtorEq]; with_reducible rfl)))); done)))
  clear htb
  refine SW_loop (fun m s => ∃ (i : Nat) (nt et : List T), m = n + 2 - i ∧ s = ⟨99, [(0, .t (tInt base)), (1, .t (tInt t)), (4, .bptr 0 0), (5, .t (tInt n)), (7, .sref 1), (8, .sref 2), (9, .t (tInt i))], [.box [.t (tInt 0), .t (tInt 0), .nil, .nil], .row 22 1 false nt, .row 4 1 false et]⟩ ∧
      nt = ((allNext base t n).take i).map tInts ∧ et = ((allEnds n).take i).map T.bool ∧ i ≤ n + 2) (n + 2)
    ⟨_, Norm.headS (own := [(7, 22, 1, false), (8, 4, 1, false)]) (keep := [0, 1, 4, 5, 7, 8, 9]) (by simp (discharger := omega) only [go_sem, ↓reduceIte, reduceIte, Nat.reduceEqDiff, Nat.reduceLT, Nat.reduceLeDiff, Nat.reduceAdd, Nat.reduceSub, Nat.reduceMul, Nat.reduceDiv, Nat.reduceMod, Nat.reduceBEq, Int.reduceEq, Int.reduceLT, Int.reduceLE, Int.reduceNeg, Int.reduceToNat, reduceCtorEq]; with_reducible rfl) (by simp only [go_sem, ↓reduceIte, reduceIte, Nat.reduceEqDiff, Nat.reduceLT, Nat.reduceLeDiff, Nat.reduceAdd, Nat.reduceSub, Nat.reduceMul, Nat.reduceDiv, Nat.reduceMod, Nat.reduceBEq, Int.reduceEq, Int.reduceLT, Int.reduceLE, Int.reduceNeg, Int.reduceToNat, reduceCtorEq]; with_reducible rfl) (by simp only [go_sem, ↓reduceIte, reduceIte, Nat.reduceEqDiff, Nat.reduceLT, Nat.reduceLeDiff, Nat.reduceAdd, Nat.reduceSub, Nat.reduceMul, Nat.reduceDiv, Nat.reduceMod, Nat.reduceBEq, Int.reduceEq, Int.reduceLT, Int.reduceLE, Int.reduceNeg, Int.reduceToNat, reduceCtorEq]; with_reducible rfl) (by simp only [go_sem, ↓reduceIte, reduceIte, Nat.reduceEqDiff, Nat.reduceLT, Nat.reduceLeDiff, Nat.reduceAdd, Nat.reduceSub, Nat.reduceMul, Nat.reduceDiv, Nat.reduceMod, Nat.reduceBEq, Int.reduceEq, Int.reduceLT, Int.reduceLE, Int.reduceNeg, Int.reduceToNat, reduceCtorEq]; with_reducible rfl) (by simp only [go_sem, ↓reduceIte, reduceIte, Nat.reduceEqDiff, Nat.reduceLT, Nat.reduceLeDiff, Nat.reduceAdd, Nat.reduceSub, Nat.reduceMul, Nat.reduceDiv, Nat.reduceMod, Nat.reduceBEq, Int.reduceEq, Int.reduceLT, Int.reduceLE, Int.reduceNeg, Int.reduceToNat, reduceCtorEq]; with_reducible rfl), 0, _, _, rfl, rfl, rfl, rfl, Nat.zero_le _⟩ ?_
  rintro m s ⟨i, nt, et, rfl, rfl, hnt, het, hi⟩
  have hntl : nt.length = i := by rw [hnt]; simp [allNext, tabN]; omega
  have hetl : et.length = i := by rw [het]; simp [allEnds, tabE]; omega
  by_cases hlt : i < n + 2
  · have htb : Tab.ok Tryd.prog G [] := Tab.nil
    repeat' (first | (with_reducible first | refine SW_seq ?_ | refine SW_block ?_ | refine SThen_n ?_ | refine SThen_r ?_ | refine SThen_e ?_ | refine SIn_n ?_ | refine SIn_r ?_ | refine SIn_eq ?_ | refine SW_skip ?_ | refine SW_exit ?_ | refine SW_ret ?_ | refine SPost_r ?_) | ((with_reducible refine SIn_ne ?_ ?_); focus decide) | ((with_reducible refine SW_true ?_ ?_); focus exact rfl) | ((with_reducible refine SW_false ?_ ?_); focus exact rfl) | ((first | (with_reducible apply SW_run tt_ok hG htb) | ((with_reducible apply SW_draw rfl tt_ok hG htb); (focus kernel_rfl); (focus (simp only [List.range, List.range.loop, List.size_toArray, List.length_cons, List.length_nil, Nat.reduceAdd])))); focus ((repeat' (first | (with_reducible exact runX_nil) | (with_reducible exact runI_nil) | ((first | (with_reducible apply runX_cons) | (with_reducible apply runI_cons)); focus (simp (discharger := omega) only [go_sem, ↓reduceIte, reduceIte, Nat.reduceEqDiff, Nat.reduceLT, Nat.reduceLeDiff, Nat.reduceAdd, Nat.reduceSub, Nat.reduceMul, Nat.reduceDiv, Nat.reduceMod, Nat.reduceBEq, Int.reduceEq, Int.reduceLT, Int.reduceLE, Int.reduceNeg, Int.reduceToNat, reduceCtorEq]; with_reducible rfl)))); done)))
    clear htb
    refine SW_loop (fun m s => ∃ (l : Nat) (rt : List T), m = n - l ∧ s = ⟨99, [(0, .t (tInt base)), (1, .t (tInt t)), (4, .bptr 0 0), (5, .t (tInt n)), (7, .sref 1), (8, .sref 2), (9, .t (tInt i)), (10, .sref 3), (11, .t (tInt l))], [.box [.t (tInt 0), .t (tInt 0), .nil, .nil], .row 22 1 false nt, .row 4 1 false et, .row 3 1 false rt]⟩ ∧
        rt = (((List.range n).map fun l => (allD n (clash base t) i l : Int)).take l).map tInt ∧ l ≤ n) n
      ⟨_, Norm.headS (own := [(7, 22, 1, false), (8, 4, 1, false), (10, 3, 1, false)]) (keep := [0, 1, 4, 5, 7, 8, 9, 10, 11]) (by simp (discharger := omega) only [go_sem, ↓reduceIte, reduceIte, Nat.reduceEqDiff, Nat.reduceLT, Nat.reduceLeDiff, Nat.reduceAdd, Nat.reduceSub, Nat.reduceMul, Nat.reduceDiv, Nat.reduceMod, Nat.reduceBEq, Int.reduceEq, Int.reduceLT, Int.reduceLE, Int.reduceNeg, Int.reduceToNat, reduceCtorEq]; with_reducible rfl) (by simp only [go_sem, ↓reduceIte, reduceIte, Nat.reduceEqDiff, Nat.reduceLT, Nat.reduceLeDiff, Nat.reduceAdd, Nat.reduceSub, Nat.reduceMul, Nat.reduceDiv, Nat.reduceMod, Nat.reduceBEq, Int.reduceEq, Int.reduceLT, Int.reduceLE, Int.reduceNeg, Int.reduceToNat, reduceCtorEq]; with_reducible rfl) (by simp only [go_sem, ↓reduceIte, reduceIte, Nat.reduceEqDiff, Nat.reduceLT, Nat.reduceLeDiff, Nat.reduceAdd, Nat.reduceSub, Nat.reduceMul, Nat.reduceDiv, Nat.reduceMod, Nat.reduceBEq, Int.reduceEq, Int.reduceLT, Int.reduceLE, Int.reduceNeg, Int.reduceToNat, reduceCtorEq]; with_reducible rfl) (by simp only [go_sem, ↓reduceIte, reduceIte, Nat.reduceEqDiff, Nat.reduceLT, Nat.reduceLeDiff, Nat.reduceAdd, Nat.reduceSub, Nat.reduceMul, Nat.reduceDiv, Nat.reduceMod, Nat.reduceBEq, Int.reduceEq, Int.reduceLT, Int.reduceLE, Int.reduceNeg, Int.reduceToNat, reduceCtorEq]; with_reducible rfl) (by simp only [go_sem, ↓reduceIte, reduceIte, Nat.reduceEqDiff, Nat.reduceLT, Nat.reduceLeDiff, Nat.reduceAdd, Nat.reduceSub, Nat.reduceMul, Nat.reduceDiv, Nat.reduceMod, Nat.reduceBEq, Int.reduceEq, Int.reduceLT, Int.reduceLE, Int.reduceNeg, Int.reduceToNat, reduceCtorEq]; with_reducible rfl), 0, _, rfl, rfl, rfl, Nat.zero_le _⟩ ?_
    rintro m s ⟨l, rt, rfl, rfl, hrt, hl⟩
    have hrtl : rt.length = l := by rw [hrt]; simp; omega
    by_cases hlt2 : l < n
    · have htk := map_range_take (fun l => (allD n (clash base t) i l : Int)) hlt2
      have htb : Tab.ok Tryd.prog G [] := Tab.nil
      repeat' (first | (with_reducible first | refine SW_seq ?_ | refine SW_block ?_ | refine SThen_n ?_ | refine SThen_r ?_ | refine SThen_e ?_ | refine SIn_n ?_ | refine SIn_r ?_ | refine SIn_eq ?_ | refine SW_skip ?_ | refine SW_exit ?_ | refine SW_ret ?_ | refine SPost_r ?_) | ((with_reducible refine SIn_ne ?_ ?_); focus decide) | ((with_reducible refine SW_true ?_ ?_); focus exact rfl) | ((with_reducible refine SW_false ?_ ?_); focus exact rfl) | ((first | (with_reducible apply SW_run tt_ok hG htb) | ((with_reducible apply SW_draw rfl tt_ok hG htb); (focus kernel_rfl); (focus (simp only [List.range, List.range.loop, List.size_toArray, List.length_cons, List.length_nil, Nat.reduceAdd])))); focus ((repeat' (first | (with_reducible exact runX_nil) | (with_reducible exact runI_nil) | ((first | (with_reducible apply runX_cons) | (with_reducible apply runI_cons)); focus (simp (discharger := omega) only [go_sem, ↓reduceIte, reduceIte, Nat.reduceEqDiff, Nat.reduceLT, Nat.reduceLeDiff, Nat.reduceAdd, Nat.reduceSub, Nat.reduceMul, Nat.reduceDiv, Nat.reduceMod, Nat.reduceBEq, Int.reduceEq, Int.reduceLT, Int.reduceLE, Int.reduceNeg, Int.reduceToNat, reduceCtorEq]; with_reducible rfl)))); done)))
      clear htb
      refine SW_loop (fun m s => ∃ (k : Nat) (v : Int), m = t - k ∧ s = ⟨99, [(0, .t (tInt base)), (1, .t (tInt t)), (4, .bptr 0 0), (5, .t (tInt n)), (7, .sref 1), (8, .sref 2), (9, .t (tInt i)), (10, .sref 3), (11, .t (tInt l)), (12, .t (tInt v)), (13, .t (tInt k))], [.box [.t (tInt 0), .t (tInt 0), .nil, .nil], .row 22 1 false nt, .row 4 1 false et, .row 3 1 false rt]⟩ ∧ k ≤ t ∧ v = allVal base t n i l k) t
        ⟨_, Norm.headS (own := [(7, 22, 1, false), (8, 4, 1, false), (10, 3, 1, false)]) (keep := [0, 1, 4, 5, 7, 8, 9, 10, 11, 12, 13]) (by simp (discharger := omega) only [go_sem, ↓reduceIte, reduceIte, Nat.reduceEqDiff, Nat.reduceLT, Nat.reduceLeDiff, Nat.reduceAdd, Nat.reduceSub, Nat.reduceMul, Nat.reduceDiv, Nat.reduceMod, Nat.reduceBEq, Int.reduceEq, Int.reduceLT, Int.reduceLE, Int.reduceNeg, Int.reduceToNat, reduceCtorEq]; with_reducible rfl) (by simp only [go_sem, ↓reduceIte, reduceIte, Nat.reduceEqDiff, Nat.reduceLT, Nat.reduceLeDiff, Nat.reduceAdd, Nat.reduceSub, Nat.reduceMul, Nat.reduceDiv, Nat.reduceMod, Nat.reduceBEq, Int.reduceEq, Int.reduceLT, Int.reduceLE, Int.reduceNeg, Int.reduceToNat, reduceCtorEq]; with_reducible rfl) (by simp only [go_sem, ↓reduceIte, reduceIte, Nat.reduceEqDiff, Nat.reduceLT, Nat.reduceLeDiff, Nat.reduceAdd, Nat.reduceSub, Nat.reduceMul, Nat.reduceDiv, Nat.reduceMod, Nat.reduceBEq, Int.reduceEq, Int.reduceLT, Int.reduceLE, Int.reduceNeg, Int.reduceToNat, reduceCtorEq]; with_reducible rfl) (by simp only [go_sem, ↓reduceIte, reduceIte, Nat.reduceEqDiff, Nat.reduceLT, Nat.reduceLeDiff, Nat.reduceAdd, Nat.reduceSub, Nat.reduceMul, Nat.reduceDiv, Nat.reduceMod, Nat.reduceBEq, Int.reduceEq, Int.reduceLT, Int.reduceLE, Int.reduceNeg, Int.reduceToNat, reduceCtorEq]; with_reducible rfl) (by simp only [go_sem, ↓reduceIte, reduceIte, Nat.reduceEqDiff, Nat.reduceLT, Nat.reduceLeDiff, Nat.reduceAdd, Nat.reduceSub, Nat.reduceMul, Nat.reduceDiv, Nat.reduceMod, Nat.reduceBEq, Int.reduceEq, Int.reduceLT, Int.reduceLE, Int.reduceNeg, Int.reduceToNat, reduceCtorEq]; with_reducible rfl), 0, _, rfl, rfl, Nat.zero_le _, allVal_zero⟩ ?_
      rintro m s ⟨k, v, rfl, rfl, hk, hv⟩
      by_cases hkt : k < t
      · by_cases hon : base = 1 ∧ 0 < i ∧ i ≤ n
        · obtain ⟨hb, hi0, hin⟩ := hon
          subst hb
          obtain ⟨q, hq⟩ : ∃ q, i = q + 1 := ⟨i - 1, by omega⟩
          have hsq : (i : Int) - 1 = (q : Nat) := by omega
          have d1 := RDigitOf_snd hG 1 t (q : Nat) k hr ht5 (by omega) (by omega) hkt
          have d2 := RDigitOf_snd hG 1 t (l : Nat) k hr ht5 (by omega) (by omega) hkt
          have hno := allVal_no (base := 1) (t := t) (n := n) (l := l) (k := k) hq
          have hyes := allVal_yes (base := 1) (t := t) (n := n) (l := l) (k := k) rfl hq hin
          by_cases hql : q = l
          · subst hql
            have htb := Tab.cons d1 Tab.nil
            generalize digitAt (radix 1) t (q : Int) k = x at *
            by_cases hx : x = 1
            · repeat' (first | (with_reducible first | refine SW_seq ?_ | refine SW_block ?_ | refine SThen_n ?_ | refine SThen_r ?_ | refine SThen_e ?_ | refine SIn_n ?_ | refine SIn_r ?_ | refine SIn_eq ?_ | refine SW_skip ?_ | refine SW_exit ?_ | refine SW_ret ?_ | refine SPost_r ?_) | ((with_reducible refine SIn_ne ?_ ?_); focus decide) | ((with_reducible refine SW_true ?_ ?_); focus exact rfl) | ((with_reducible refine SW_false ?_ ?_); focus exact rfl) | ((first | (with_reducible apply SW_run tt_ok hG htb) | ((with_reducible apply SW_draw rfl tt_ok hG htb); (focus kernel_rfl); (focus (simp only [List.range, List.range.loop, List.size_toArray, List.length_cons, List.length_nil, Nat.reduceAdd])))); focus ((repeat' (first | (with_reducible exact runX_nil) | (with_reducible exact runI_nil) | ((first | (with_reducible apply runX_cons) | (with_reducible apply runI_cons)); focus (simp (discharger := omega) only [go_sem, hsq, hx, ↓reduceIte, reduceIte, Nat.reduceEqDiff, Nat.reduceLT, Nat.reduceLeDiff, Nat.reduceAdd, Nat.reduceSub, Nat.reduceMul, Nat.reduceDiv, Nat.reduceMod, Nat.reduceBEq, Int.reduceEq, Int.reduceLT, Int.reduceLE, Int.reduceNeg, Int.reduceToNat, reduceCtorEq]; with_reducible rfl)))); done)))
              exact ⟨t - (k + 1), _, by omega, Norm.headS (own := [(7, 22, 1, false), (8, 4, 1, false), (10, 3, 1, false)]) (keep := [0, 1, 4, 5, 7, 8, 9, 10, 11, 12, 13]) (by simp (discharger := omega) only [go_sem, ↓reduceIte, reduceIte, Nat.reduceEqDiff, Nat.reduceLT, Nat.reduceLeDiff, Nat.reduceAdd, Nat.reduceSub, Nat.reduceMul, Nat.reduceDiv, Nat.reduceMod, Nat.reduceBEq, Int.reduceEq, Int.reduceLT, Int.reduceLE, Int.reduceNeg, Int.reduceToNat, reduceCtorEq]; with_reducible rfl) (by simp only [go_sem, ↓reduceIte, reduceIte, Nat.reduceEqDiff, Nat.reduceLT, Nat.reduceLeDiff, Nat.reduceAdd, Nat.reduceSub, Nat.reduceMul, Nat.reduceDiv, Nat.reduceMod, Nat.reduceBEq, Int.reduceEq, Int.reduceLT, Int.reduceLE, Int.reduceNeg, Int.reduceToNat, reduceCtorEq]; with_reducible rfl) (by simp only [go_sem, ↓reduceIte, reduceIte, Nat.reduceEqDiff, Nat.reduceLT, Nat.reduceLeDiff, Nat.reduceAdd, Nat.reduceSub, Nat.reduceMul, Nat.reduceDiv, Nat.reduceMod, Nat.reduceBEq, Int.reduceEq, Int.reduceLT, Int.reduceLE, Int.reduceNeg, Int.reduceToNat, reduceCtorEq]; with_reducible rfl) (by simp only [go_sem, ↓reduceIte, reduceIte, Nat.reduceEqDiff, Nat.reduceLT, Nat.reduceLeDiff, Nat.reduceAdd, Nat.reduceSub, Nat.reduceMul, Nat.reduceDiv, Nat.reduceMod, Nat.reduceBEq, Int.reduceEq, Int.reduceLT, Int.reduceLE, Int.reduceNeg, Int.reduceToNat, reduceCtorEq]; with_reducible rfl) (by simp only [go_sem, ↓reduceIte, reduceIte, Nat.reduceEqDiff, Nat.reduceLT, Nat.reduceLeDiff, Nat.reduceAdd, Nat.reduceSub, Nat.reduceMul, Nat.reduceDiv, Nat.reduceMod, Nat.reduceBEq, Int.reduceEq, Int.reduceLT, Int.reduceLE, Int.reduceNeg, Int.reduceToNat, reduceCtorEq]; with_reducible rfl), k + 1, _, rfl, rfl, by omega, hyes ⟨hx, hx⟩⟩
            · repeat' (first | (with_reducible first | refine SW_seq ?_ | refine SW_block ?_ | refine SThen_n ?_ | refine SThen_r ?_ | refine SThen_e ?_ | refine SIn_n ?_ | refine SIn_r ?_ | refine SIn_eq ?_ | refine SW_skip ?_ | refine SW_exit ?_ | refine SW_ret ?_ | refine SPost_r ?_) | ((with_reducible refine SIn_ne ?_ ?_); focus decide) | ((with_reducible refine SW_true ?_ ?_); focus exact rfl) | ((with_reducible refine SW_false ?_ ?_); focus exact rfl) | ((first | (with_reducible apply SW_run tt_ok hG htb) | ((with_reducible apply SW_draw rfl tt_ok hG htb); (focus kernel_rfl); (focus (simp only [List.range, List.range.loop, List.size_toArray, List.length_cons, List.length_nil, Nat.reduceAdd])))); focus ((repeat' (first | (with_reducible exact runX_nil) | (with_reducible exact runI_nil) | ((first | (with_reducible apply runX_cons) | (with_reducible apply runI_cons)); focus (simp (discharger := omega) only [go_sem, hsq, hx, ↓reduceIte, reduceIte, Nat.reduceEqDiff, Nat.reduceLT, Nat.reduceLeDiff, Nat.reduceAdd, Nat.reduceSub, Nat.reduceMul, Nat.reduceDiv, Nat.reduceMod, Nat.reduceBEq, Int.reduceEq, Int.reduceLT, Int.reduceLE, Int.reduceNeg, Int.reduceToNat, reduceCtorEq]; with_reducible rfl)))); done)))
              exact ⟨t - (k + 1), _, by omega, Norm.headS (own := [(7, 22, 1, false), (8, 4, 1, false), (10, 3, 1, false)]) (keep := [0, 1, 4, 5, 7, 8, 9, 10, 11, 12, 13]) (by simp (discharger := omega) only [go_sem, ↓reduceIte, reduceIte, Nat.reduceEqDiff, Nat.reduceLT, Nat.reduceLeDiff, Nat.reduceAdd, Nat.reduceSub, Nat.reduceMul, Nat.reduceDiv, Nat.reduceMod, Nat.reduceBEq, Int.reduceEq, Int.reduceLT, Int.reduceLE, Int.reduceNeg, Int.reduceToNat, reduceCtorEq]; with_reducible rfl) (by simp only [go_sem, ↓reduceIte, reduceIte, Nat.reduceEqDiff, Nat.reduceLT, Nat.reduceLeDiff, Nat.reduceAdd, Nat.reduceSub, Nat.reduceMul, Nat.reduceDiv, Nat.reduceMod, Nat.reduceBEq, Int.reduceEq, Int.reduceLT, Int.reduceLE, Int.reduceNeg, Int.reduceToNat, reduceCtorEq]; with_reducible rfl) (by simp only [go_sem, ↓reduceIte, reduceIte, Nat.reduceEqDiff, Nat.reduceLT, Nat.reduceLeDiff, Nat.reduceAdd, Nat.reduceSub, Nat.reduceMul, Nat.reduceDiv, Nat.reduceMod, Nat.reduceBEq, Int.reduceEq, Int.reduceLT, Int.reduceLE, Int.reduceNeg, Int.reduceToNat, reduceCtorEq]; with_reducible rfl) (by simp only [go_sem, ↓reduceIte, reduceIte, Nat.reduceEqDiff, Nat.reduceLT, Nat.reduceLeDiff, Nat.reduceAdd, Nat.reduceSub, Nat.reduceMul, Nat.reduceDiv, Nat.reduceMod, Nat.reduceBEq, Int.reduceEq, Int.reduceLT, Int.reduceLE, Int.reduceNeg, Int.reduceToNat, reduceCtorEq]; with_reducible rfl) (by simp only [go_sem, ↓reduceIte, reduceIte, Nat.reduceEqDiff, Nat.reduceLT, Nat.reduceLeDiff, Nat.reduceAdd, Nat.reduceSub, Nat.reduceMul, Nat.reduceDiv, Nat.reduceMod, Nat.reduceBEq, Int.reduceEq, Int.reduceLT, Int.reduceLE, Int.reduceNeg, Int.reduceToNat, reduceCtorEq]; with_reducible rfl), k + 1, _, rfl, rfl, by omega, by rw [hno fun e => hx e.1]; exact hv⟩
          · have hne : ¬ ((q : Int) = (l : Int)) := by omega
            have htb := Tab.cons d1 (Tab.cons d2 Tab.nil)
            generalize digitAt (radix 1) t (q : Int) k = x at *
            generalize digitAt (radix 1) t (l : Int) k = y at *
            by_cases hx : x = 1
            · by_cases hy : y = 1
              · repeat' (first | (with_reducible first | refine SW_seq ?_ | refine SW_block ?_ | refine SThen_n ?_ | refine SThen_r ?_ | refine SThen_e ?_ | refine SIn_n ?_ | refine SIn_r ?_ | refine SIn_eq ?_ | refine SW_skip ?_ | refine SW_exit ?_ | refine SW_ret ?_ | refine SPost_r ?_) | ((with_reducible refine SIn_ne ?_ ?_); focus decide) | ((with_reducible refine SW_true ?_ ?_); focus exact rfl) | ((with_reducible refine SW_false ?_ ?_); focus exact rfl) | ((first | (with_reducible apply SW_run tt_ok hG htb) | ((with_reducible apply SW_draw rfl tt_ok hG htb); (focus kernel_rfl); (focus (simp only [List.range, List.range.loop, List.size_toArray, List.length_cons, List.length_nil, Nat.reduceAdd])))); focus ((repeat' (first | (with_reducible exact runX_nil) | (with_reducible exact runI_nil) | ((first | (with_reducible apply runX_cons) | (with_reducible apply runI_cons)); focus (simp (discharger := omega) only [go_sem, hsq, List.cons.injEq, T.int.injEq, hne, hx, hy, ↓reduceIte, reduceIte, Nat.reduceEqDiff, Nat.reduceLT, Nat.reduceLeDiff, Nat.reduceAdd, Nat.reduceSub, Nat.reduceMul, Nat.reduceDiv, Nat.reduceMod, Nat.reduceBEq, Int.reduceEq, Int.reduceLT, Int.reduceLE, Int.reduceNeg, Int.reduceToNat, reduceCtorEq]; with_reducible rfl)))); done)))
                exact ⟨t - (k + 1), _, by omega, Norm.headS (own := [(7, 22, 1, false), (8, 4, 1, false), (10, 3, 1, false)]) (keep := [0, 1, 4, 5, 7, 8, 9, 10, 11, 12, 13]) (by simp (discharger := omega) only [go_sem, ↓reduceIte, reduceIte, Nat.reduceEqDiff, Nat.reduceLT, Nat.reduceLeDiff, Nat.reduceAdd, Nat.reduceSub, Nat.reduceMul, Nat.reduceDiv, Nat.reduceMod, Nat.reduceBEq, Int.reduceEq, Int.reduceLT, Int.reduceLE, Int.reduceNeg, Int.reduceToNat, reduceCtorEq]; with_reducible rfl) (by simp only [go_sem, ↓reduceIte, reduceIte, Nat.reduceEqDiff, Nat.reduceLT, Nat.reduceLeDiff, Nat.reduceAdd, Nat.reduceSub, Nat.reduceMul, Nat.reduceDiv, Nat.reduceMod, Nat.reduceBEq, Int.reduceEq, Int.reduceLT, Int.reduceLE, Int.reduceNeg, Int.reduceToNat, reduceCtorEq]; with_reducible rfl) (by simp only [go_sem, ↓reduceIte, reduceIte, Nat.reduceEqDiff, Nat.reduceLT, Nat.reduceLeDiff, Nat.reduceAdd, Nat.reduceSub, Nat.reduceMul, Nat.reduceDiv, Nat.reduceMod, Nat.reduceBEq, Int.reduceEq, Int.reduceLT, Int.reduceLE, Int.reduceNeg, Int.reduceToNat, reduceCtorEq]; with_reducible rfl) (by simp only [go_sem, ↓reduceIte, reduceIte, Nat.reduceEqDiff, Nat.reduceLT, Nat.reduceLeDiff, Nat.reduceAdd, Nat.reduceSub, Nat.reduceMul, Nat.reduceDiv, Nat.reduceMod, Nat.reduceBEq, Int.reduceEq, Int.reduceLT, Int.reduceLE, Int.reduceNeg, Int.reduceToNat, reduceCtorEq]; with_reducible rfl) (by simp only [go_sem, ↓reduceIte, reduceIte, Nat.reduceEqDiff, Nat.reduceLT, Nat.reduceLeDiff, Nat.reduceAdd, Nat.reduceSub, Nat.reduceMul, Nat.reduceDiv, Nat.reduceMod, Nat.reduceBEq, Int.reduceEq, Int.reduceLT, Int.reduceLE, Int.reduceNeg, Int.reduceToNat, reduceCtorEq]; with_reducible rfl), k + 1, _, rfl, rfl, by omega, hyes ⟨hx, hy⟩⟩
              · repeat' (first | (with_reducible first | refine SW_seq ?_ | refine SW_block ?_ | refine SThen_n ?_ | refine SThen_r ?_ | refine SThen_e ?_ | refine SIn_n ?_ | refine SIn_r ?_ | refine SIn_eq ?_ | refine SW_skip ?_ | refine SW_exit ?_ | refine SW_ret ?_ | refine SPost_r ?_) | ((with_reducible refine SIn_ne ?_ ?_); focus decide) | ((with_reducible refine SW_true ?_ ?_); focus exact rfl) | ((with_reducible refine SW_false ?_ ?_); focus exact rfl) | ((first | (with_reducible apply SW_run tt_ok hG htb) | ((with_reducible apply SW_draw rfl tt_ok hG htb); (focus kernel_rfl); (focus (simp only [List.range, List.range.loop, List.size_toArray, List.length_cons, List.length_nil, Nat.reduceAdd])))); focus ((repeat' (first | (with_reducible exact runX_nil) | (with_reducible exact runI_nil) | ((first | (with_reducible apply runX_cons) | (with_reducible apply runI_cons)); focus (simp (discharger := omega) only [go_sem, hsq, List.cons.injEq, T.int.injEq, hne, hx, hy, ↓reduceIte, reduceIte, Nat.reduceEqDiff, Nat.reduceLT, Nat.reduceLeDiff, Nat.reduceAdd, Nat.reduceSub, Nat.reduceMul, Nat.reduceDiv, Nat.reduceMod, Nat.reduceBEq, Int.reduceEq, Int.reduceLT, Int.reduceLE, Int.reduceNeg, Int.reduceToNat, reduceCtorEq]; with_reducible rfl)))); done)))
                exact ⟨t - (k + 1), _, by omega, Norm.headS (own := [(7, 22, 1, false), (8, 4, 1, false), (10, 3, 1, false)]) (keep := [0, 1, 4, 5, 7, 8, 9, 10, 11, 12, 13]) (by simp (discharger := omega) only [go_sem, ↓reduceIte, reduceIte, Nat.reduceEqDiff, Nat.reduceLT, Nat.reduceLeDiff, Nat.reduceAdd, Nat.reduceSub, Nat.reduceMul, Nat.reduceDiv, Nat.reduceMod, Nat.reduceBEq, Int.reduceEq, Int.reduceLT, Int.reduceLE, Int.reduceNeg, Int.reduceToNat, reduceCtorEq]; with_reducible rfl) (by simp only [go_sem, ↓reduceIte, reduceIte, Nat.reduceEqDiff, Nat.reduceLT, Nat.reduceLeDiff, Nat.reduceAdd, Nat.reduceSub, Nat.reduceMul, Nat.reduceDiv, Nat.reduceMod, Nat.reduceBEq, Int.reduceEq, Int.reduceLT, Int.reduceLE, Int.reduceNeg, Int.reduceToNat, reduceCtorEq]; with_reducible rfl) (by simp only [go_sem, ↓reduceIte, reduceIte, Nat.reduceEqDiff, Nat.reduceLT, Nat.reduceLeDiff, Nat.reduceAdd, Nat.reduceSub, Nat.reduceMul, Nat.reduceDiv, Nat.reduceMod, Nat.reduceBEq, Int.reduceEq, Int.reduceLT, Int.reduceLE, Int.reduceNeg, Int.reduceToNat, reduceCtorEq]; with_reducible rfl) (by simp only [go_sem, ↓reduceIte, reduceIte, Nat.reduceEqDiff, Nat.reduceLT, Nat.reduceLeDiff, Nat.reduceAdd, Nat.reduceSub, Nat.reduceMul, Nat.reduceDiv, Nat.reduceMod, Nat.reduceBEq, Int.reduceEq, Int.reduceLT, Int.reduceLE, Int.reduceNeg, Int.reduceToNat, reduceCtorEq]; with_reducible rfl) (by simp only [go_sem, ↓reduceIte, reduceIte, Nat.reduceEqDiff, Nat.reduceLT, Nat.reduceLeDiff, Nat.reduceAdd, Nat.reduceSub, Nat.reduceMul, Nat.reduceDiv, Nat.reduceMod, Nat.reduceBEq, Int.reduceEq, Int.reduceLT, Int.reduceLE, Int.reduceNeg, Int.reduceToNat, reduceCtorEq]; with_reducible rfl), k + 1, _, rfl, rfl, by omega, by rw [hno fun e => hy e.2]; exact hv⟩
            · repeat' (first | (with_reducible first | refine SW_seq ?_ | refine SW_block ?_ | refine SThen_n ?_ | refine SThen_r ?_ | refine SThen_e ?_ | refine SIn_n ?_ | refine SIn_r ?_ | refine SIn_eq ?_ | refine SW_skip ?_ | refine SW_exit ?_ | refine SW_ret ?_ | refine SPost_r ?_) | ((with_reducible refine SIn_ne ?_ ?_); focus decide) | ((with_reducible refine SW_true ?_ ?_); focus exact rfl) | ((with_reducible refine SW_false ?_ ?_); focus exact rfl) | ((first | (with_reducible apply SW_run tt_ok hG htb) | ((with_reducible apply SW_draw rfl tt_ok hG htb); (focus kernel_rfl); (focus (simp only [List.range, List.range.loop, List.size_toArray, List.length_cons, List.length_nil, Nat.reduceAdd])))); focus ((repeat' (first | (with_reducible exact runX_nil) | (with_reducible exact runI_nil) | ((first | (with_reducible apply runX_cons) | (with_reducible apply runI_cons)); focus (simp (discharger := omega) only [go_sem, hsq, List.cons.injEq, T.int.injEq, hne, hx, ↓reduceIte, reduceIte, Nat.reduceEqDiff, Nat.reduceLT, Nat.reduceLeDiff, Nat.reduceAdd, Nat.reduceSub, Nat.reduceMul, Nat.reduceDiv, Nat.reduceMod, Nat.reduceBEq, Int.reduceEq, Int.reduceLT, Int.reduceLE, Int.reduceNeg, Int.reduceToNat, reduceCtorEq]; with_reducible rfl)))); done)))
              exact ⟨t - (k + 1), _, by omega, Norm.headS (own := [(7, 22, 1, false), (8, 4, 1, false), (10, 3, 1, false)]) (keep := [0, 1, 4, 5, 7, 8, 9, 10, 11, 12, 13]) (by simp (discharger := omega) only [go_sem, ↓reduceIte, reduceIte, Nat.reduceEqDiff, Nat.reduceLT, Nat.reduceLeDiff, Nat.reduceAdd, Nat.reduceSub, Nat.reduceMul, Nat.reduceDiv, Nat.reduceMod, Nat.reduceBEq, Int.reduceEq, Int.reduceLT, Int.reduceLE, Int.reduceNeg, Int.reduceToNat, reduceCtorEq]; with_reducible rfl) (by simp only [go_sem, ↓reduceIte, reduceIte, Nat.reduceEqDiff, Nat.reduceLT, Nat.reduceLeDiff, Nat.reduceAdd, Nat.reduceSub, Nat.reduceMul, Nat.reduceDiv, Nat.reduceMod, Nat.reduceBEq, Int.reduceEq, Int.reduceLT, Int.reduceLE, Int.reduceNeg, Int.reduceToNat, reduceCtorEq]; with_reducible rfl) (by simp only [go_sem, ↓reduceIte, reduceIte, Nat.reduceEqDiff, Nat.reduceLT, Nat.reduceLeDiff, Nat.reduceAdd, Nat.reduceSub, Nat.reduceMul, Nat.reduceDiv, Nat.reduceMod, Nat.reduceBEq, Int.reduceEq, Int.reduceLT, Int.reduceLE, Int.reduceNeg, Int.reduceToNat, reduceCtorEq]; with_reducible rfl) (by simp only [go_sem, ↓reduceIte, reduceIte, Nat.reduceEqDiff, Nat.reduceLT, Nat.reduceLeDiff, Nat.reduceAdd, Nat.reduceSub, Nat.reduceMul, Nat.reduceDiv, Nat.reduceMod, Nat.reduceBEq, Int.reduceEq, Int.reduceLT, Int.reduceLE, Int.reduceNeg, Int.reduceToNat, reduceCtorEq]; with_reducible rfl) (by simp only [go_sem, ↓reduceIte, reduceIte, Nat.reduceEqDiff, Nat.reduceLT, Nat.reduceLeDiff, Nat.reduceAdd, Nat.reduceSub, Nat.reduceMul, Nat.reduceDiv, Nat.reduceMod, Nat.reduceBEq, Int.reduceEq, Int.reduceLT, Int.reduceLE, Int.reduceNeg, Int.reduceToNat, reduceCtorEq]; with_reducible rfl), k + 1, _, rfl, rfl, by omega, by rw [hno fun e => hx e.1]; exact hv⟩
        · have htb : Tab.ok Tryd.prog G [] := Tab.nil
          rw [← allVal_off hon] at hv
          by_cases hb : base = 1
          · subst hb
            by_cases hi0 : 0 < i
            · have hin : n < i := by omega
              repeat' (first | (with_reducible first | refine SW_seq ?_ | refine SW_block ?_ | refine SThen_n ?_ | refine SThen_r ?_ | refine SThen_e ?_ | refine SIn_n ?_ | refine SIn_r ?_ | refine SIn_eq ?_ | refine SW_skip ?_ | refine SW_exit ?_ | refine SW_ret ?_ | refine SPost_r ?_) | ((with_reducible refine SIn_ne ?_ ?_); focus decide) | ((with_reducible refine SW_true ?_ ?_); focus exact rfl) | ((with_reducible refine SW_false ?_ ?_); focus exact rfl) | ((first | (with_reducible apply SW_run tt_ok hG htb) | ((with_reducible apply SW_draw rfl tt_ok hG htb); (focus kernel_rfl); (focus (simp only [List.range, List.range.loop, List.size_toArray, List.length_cons, List.length_nil, Nat.reduceAdd])))); focus ((repeat' (first | (with_reducible exact runX_nil) | (with_reducible exact runI_nil) | ((first | (with_reducible apply runX_cons) | (with_reducible apply runI_cons)); focus (simp (discharger := omega) only [go_sem, ↓reduceIte, reduceIte, Nat.reduceEqDiff, Nat.reduceLT, Nat.reduceLeDiff, Nat.reduceAdd, Nat.reduceSub, Nat.reduceMul, Nat.reduceDiv, Nat.reduceMod, Nat.reduceBEq, Int.reduceEq, Int.reduceLT, Int.reduceLE, Int.reduceNeg, Int.reduceToNat, reduceCtorEq]; with_reducible rfl)))); done)))
              exact ⟨t - (k + 1), _, by omega, Norm.headS (own := [(7, 22, 1, false), (8, 4, 1, false), (10, 3, 1, false)]) (keep := [0, 1, 4, 5, 7, 8, 9, 10, 11, 12, 13]) (by simp (discharger := omega) only [go_sem, ↓reduceIte, reduceIte, Nat.reduceEqDiff, Nat.reduceLT, Nat.reduceLeDiff, Nat.reduceAdd, Nat.reduceSub, Nat.reduceMul, Nat.reduceDiv, Nat.reduceMod, Nat.reduceBEq, Int.reduceEq, Int.reduceLT, Int.reduceLE, Int.reduceNeg, Int.reduceToNat, reduceCtorEq]; with_reducible rfl) (by simp only [go_sem, ↓reduceIte, reduceIte, Nat.reduceEqDiff, Nat.reduceLT, Nat.reduceLeDiff, Nat.reduceAdd, Nat.reduceSub, Nat.reduceMul, Nat.reduceDiv, Nat.reduceMod, Nat.reduceBEq, Int.reduceEq, Int.reduceLT, Int.reduceLE, Int.reduceNeg, Int.reduceToNat, reduceCtorEq]; with_reducible rfl) (by simp only [go_sem, ↓reduceIte, reduceIte, Nat.reduceEqDiff, Nat.reduceLT, Nat.reduceLeDiff, Nat.reduceAdd, Nat.reduceSub, Nat.reduceMul, Nat.reduceDiv, Nat.reduceMod, Nat.reduceBEq, Int.reduceEq, Int.reduceLT, Int.reduceLE, Int.reduceNeg, Int.reduceToNat, reduceCtorEq]; with_reducible rfl) (by simp only [go_sem, ↓reduceIte, reduceIte, Nat.reduceEqDiff, Nat.reduceLT, Nat.reduceLeDiff, Nat.reduceAdd, Nat.reduceSub, Nat.reduceMul, Nat.reduceDiv, Nat.reduceMod, Nat.reduceBEq, Int.reduceEq, Int.reduceLT, Int.reduceLE, Int.reduceNeg, Int.reduceToNat, reduceCtorEq]; with_reducible rfl) (by simp only [go_sem, ↓reduceIte, reduceIte, Nat.reduceEqDiff, Nat.reduceLT, Nat.reduceLeDiff, Nat.reduceAdd, Nat.reduceSub, Nat.reduceMul, Nat.reduceDiv, Nat.reduceMod, Nat.reduceBEq, Int.reduceEq, Int.reduceLT, Int.reduceLE, Int.reduceNeg, Int.reduceToNat, reduceCtorEq]; with_reducible rfl), k + 1, _, rfl, rfl, by omega, hv⟩
            · repeat' (first | (with_reducible first | refine SW_seq ?_ | refine SW_block ?_ | refine SThen_n ?_ | refine SThen_r ?_ | refine SThen_e ?_ | refine SIn_n ?_ | refine SIn_r ?_ | refine SIn_eq ?_ | refine SW_skip ?_ | refine SW_exit ?_ | refine SW_ret ?_ | refine SPost_r ?_) | ((with_reducible refine SIn_ne ?_ ?_); focus decide) | ((with_reducible refine SW_true ?_ ?_); focus exact rfl) | ((with_reducible refine SW_false ?_ ?_); focus exact rfl) | ((first | (with_reducible apply SW_run tt_ok hG htb) | ((with_reducible apply SW_draw rfl tt_ok hG htb); (focus kernel_rfl); (focus (simp only [List.range, List.range.loop, List.size_toArray, List.length_cons, List.length_nil, Nat.reduceAdd])))); focus ((repeat' (first | (with_reducible exact runX_nil) | (with_reducible exact runI_nil) | ((first | (with_reducible apply runX_cons) | (with_reducible apply runI_cons)); focus (simp (discharger := omega) only [go_sem, ↓reduceIte, reduceIte, Nat.reduceEqDiff, Nat.reduceLT, Nat.reduceLeDiff, Nat.reduceAdd, Nat.reduceSub, Nat.reduceMul, Nat.reduceDiv, Nat.reduceMod, Nat.reduceBEq, Int.reduceEq, Int.reduceLT, Int.reduceLE, Int.reduceNeg, Int.reduceToNat, reduceCtorEq]; with_reducible rfl)))); done)))
              exact ⟨t - (k + 1), _, by omega, Norm.headS (own := [(7, 22, 1, false), (8, 4, 1, false), (10, 3, 1, false)]) (keep := [0, 1, 4, 5, 7, 8, 9, 10, 11, 12, 13]) (by simp (discharger := omega) only [go_sem, ↓reduceIte, reduceIte, Nat.reduceEqDiff, Nat.reduceLT, Nat.reduceLeDiff, Nat.reduceAdd, Nat.reduceSub, Nat.reduceMul, Nat.reduceDiv, Nat.reduceMod, Nat.reduceBEq, Int.reduceEq, Int.reduceLT, Int.reduceLE, Int.reduceNeg, Int.reduceToNat, reduceCtorEq]; with_reducible rfl) (by simp only [go_sem, ↓reduceIte, reduceIte, Nat.reduceEqDiff, Nat.reduceLT, Nat.reduceLeDiff, Nat.reduceAdd, Nat.reduceSub, Nat.reduceMul, Nat.reduceDiv, Nat.reduceMod, Nat.reduceBEq, Int.reduceEq, Int.reduceLT, Int.reduceLE, Int.reduceNeg, Int.reduceToNat, reduceCtorEq]; with_reducible rfl) (by simp only [go_sem, ↓reduceIte, reduceIte, Nat.reduceEqDiff, Nat.reduceLT, Nat.reduceLeDiff, Nat.reduceAdd, Nat.reduceSub, Nat.reduceMul, Nat.reduceDiv, Nat.reduceMod, Nat.reduceBEq, Int.reduceEq, Int.reduceLT, Int.reduceLE, Int.reduceNeg, Int.reduceToNat, reduceCtorEq]; with_reducible rfl) (by simp only [go_sem, ↓reduceIte, reduceIte, Nat.reduceEqDiff, Nat.reduceLT, Nat.reduceLeDiff, Nat.reduceAdd, Nat.reduceSub, Nat.reduceMul, Nat.reduceDiv, Nat.reduceMod, Nat.reduceBEq, Int.reduceEq, Int.reduceLT, Int.reduceLE, Int.reduceNeg, Int.reduceToNat, reduceCtorEq]; with_reducible rfl) (by simp only [go_sem, ↓reduceIte, reduceIte, Nat.reduceEqDiff, Nat.reduceLT, Nat.reduceLeDiff, Nat.reduceAdd, Nat.reduceSub, Nat.reduceMul, Nat.reduceDiv, Nat.reduceMod, Nat.reduceBEq, Int.reduceEq, Int.reduceLT, Int.reduceLE, Int.reduceNeg, Int.reduceToNat, reduceCtorEq]; with_reducible rfl), k + 1, _, rfl, rfl, by omega, hv⟩
          · repeat' (first | (with_reducible first | refine SW_seq ?_ | refine SW_block ?_ | refine SThen_n ?_ | refine SThen_r ?_ | refine SThen_e ?_ | refine SIn_n ?_ | refine SIn_r ?_ | refine SIn_eq ?_ | refine SW_skip ?_ | refine SW_exit ?_ | refine SW_ret ?_ | refine SPost_r ?_) | ((with_reducible refine SIn_ne ?_ ?_); focus decide) | ((with_reducible refine SW_true ?_ ?_); focus exact rfl) | ((with_reducible refine SW_false ?_ ?_); focus exact rfl) | ((first | (with_reducible apply SW_run tt_ok hG htb) | ((with_reducible apply SW_draw rfl tt_ok hG htb); (focus kernel_rfl); (focus (simp only [List.range, List.range.loop, List.size_toArray, List.length_cons, List.length_nil, Nat.reduceAdd])))); focus ((repeat' (first | (with_reducible exact runX_nil) | (with_reducible exact runI_nil) | ((first | (with_reducible apply runX_cons) | (with_reducible apply runI_cons)); focus (simp (discharger := omega) only [go_sem, hb, ↓reduceIte, reduceIte, Nat.reduceEqDiff, Nat.reduceLT, Nat.reduceLeDiff, Nat.reduceAdd, Nat.reduceSub, Nat.reduceMul, Nat.reduceDiv, Nat.reduceMod, Nat.reduceBEq, Int.reduceEq, Int.reduceLT, Int.reduceLE, Int.reduceNeg, Int.reduceToNat, reduceCtorEq]; with_reducible rfl)))); done)))
            exact ⟨t - (k + 1), _, by omega, Norm.headS (own := [(7, 22, 1, false), (8, 4, 1, false), (10, 3, 1, false)]) (keep := [0, 1, 4, 5, 7, 8, 9, 10, 11, 12, 13]) (by simp (discharger := omega) only [go_sem, ↓reduceIte, reduceIte, Nat.reduceEqDiff, Nat.reduceLT, Nat.reduceLeDiff, Nat.reduceAdd, Nat.reduceSub, Nat.reduceMul, Nat.reduceDiv, Nat.reduceMod, Nat.reduceBEq, Int.reduceEq, Int.reduceLT, Int.reduceLE, Int.reduceNeg, Int.reduceToNat, reduceCtorEq]; with_reducible rfl) (by simp only [go_sem, ↓reduceIte, reduceIte, Nat.reduceEqDiff, Nat.reduceLT, Nat.reduceLeDiff, Nat.reduceAdd, Nat.reduceSub, Nat.reduceMul, Nat.reduceDiv, Nat.reduceMod, Nat.reduceBEq, Int.reduceEq, Int.reduceLT, Int.reduceLE, Int.reduceNeg, Int.reduceToNat, reduceCtorEq]; with_reducible rfl) (by simp only [go_sem, ↓reduceIte, reduceIte, Nat.reduceEqDiff, Nat.reduceLT, Nat.reduceLeDiff, Nat.reduceAdd, Nat.reduceSub, Nat.reduceMul, Nat.reduceDiv, Nat.reduceMod, Nat.reduceBEq, Int.reduceEq, Int.reduceLT, Int.reduceLE, Int.reduceNeg, Int.reduceToNat, reduceCtorEq]; with_reducible rfl) (by simp only [go_sem, ↓reduceIte, reduceIte, Nat.reduceEqDiff, Nat.reduceLT, Nat.reduceLeDiff, Nat.reduceAdd, Nat.reduceSub, Nat.reduceMul, Nat.reduceDiv, Nat.reduceMod, Nat.reduceBEq, Int.reduceEq, Int.reduceLT, Int.reduceLE, Int.reduceNeg, Int.reduceToNat, reduceCtorEq]; with_reducible rfl) (by simp only [go_sem, ↓reduceIte, reduceIte, Nat.reduceEqDiff, Nat.reduceLT, Nat.reduceLeDiff, Nat.reduceAdd, Nat.reduceSub, Nat.reduceMul, Nat.reduceDiv, Nat.reduceMod, Nat.reduceBEq, Int.reduceEq, Int.reduceLT, Int.reduceLE, Int.reduceNeg, Int.reduceToNat, reduceCtorEq]; with_reducible rfl), k + 1, _, rfl, rfl, by omega, hv⟩
      · obtain rfl : k = t := by omega
        have htb : Tab.ok Tryd.prog G [] := Tab.nil
        by_cases hin : i = n + 1
        · have hD : allD n (clash base k) i l = n + 1 := by simp [allD, hin]
          repeat' (first | (with_reducible first | refine SW_seq ?_ | refine SW_block ?_ | refine SThen_n ?_ | refine SThen_r ?_ | refine SThen_e ?_ | refine SIn_n ?_ | refine SIn_r ?_ | refine SIn_eq ?_ | refine SW_skip ?_ | refine SW_exit ?_ | refine SW_ret ?_ | refine SPost_r ?_) | ((with_reducible refine SIn_ne ?_ ?_); focus decide) | ((with_reducible refine SW_true ?_ ?_); focus exact rfl) | ((with_reducible refine SW_false ?_ ?_); focus exact rfl) | ((first | (with_reducible apply SW_run tt_ok hG htb) | ((with_reducible apply SW_draw rfl tt_ok hG htb); (focus kernel_rfl); (focus (simp only [List.range, List.range.loop, List.size_toArray, List.length_cons, List.length_nil, Nat.reduceAdd])))); focus ((repeat' (first | (with_reducible exact runX_nil) | (with_reducible exact runI_nil) | ((first | (with_reducible apply runX_cons) | (with_reducible apply runI_cons)); focus (simp (discharger := omega) only [go_sem, ↓reduceIte, reduceIte, Nat.reduceEqDiff, Nat.reduceLT, Nat.reduceLeDiff, Nat.reduceAdd, Nat.reduceSub, Nat.reduceMul, Nat.reduceDiv, Nat.reduceMod, Nat.reduceBEq, Int.reduceEq, Int.reduceLT, Int.reduceLE, Int.reduceNeg, Int.reduceToNat, reduceCtorEq]; with_reducible rfl)))); done)))
          exact ⟨n - (l + 1), _, by omega, Norm.headS (own := [(7, 22, 1, false), (8, 4, 1, false), (10, 3, 1, false)]) (keep := [0, 1, 4, 5, 7, 8, 9, 10, 11]) (by simp (discharger := omega) only [go_sem, ↓reduceIte, reduceIte, Nat.reduceEqDiff, Nat.reduceLT, Nat.reduceLeDiff, Nat.reduceAdd, Nat.reduceSub, Nat.reduceMul, Nat.reduceDiv, Nat.reduceMod, Nat.reduceBEq, Int.reduceEq, Int.reduceLT, Int.reduceLE, Int.reduceNeg, Int.reduceToNat, reduceCtorEq]; with_reducible rfl) (by simp only [go_sem, ↓reduceIte, reduceIte, Nat.reduceEqDiff, Nat.reduceLT, Nat.reduceLeDiff, Nat.reduceAdd, Nat.reduceSub, Nat.reduceMul, Nat.reduceDiv, Nat.reduceMod, Nat.reduceBEq, Int.reduceEq, Int.reduceLT, Int.reduceLE, Int.reduceNeg, Int.reduceToNat, reduceCtorEq]; with_reducible rfl) (by simp only [go_sem, ↓reduceIte, reduceIte, Nat.reduceEqDiff, Nat.reduceLT, Nat.reduceLeDiff, Nat.reduceAdd, Nat.reduceSub, Nat.reduceMul, Nat.reduceDiv, Nat.reduceMod, Nat.reduceBEq, Int.reduceEq, Int.reduceLT, Int.reduceLE, Int.reduceNeg, Int.reduceToNat, reduceCtorEq]; with_reducible rfl) (by simp only [go_sem, ↓reduceIte, reduceIte, Nat.reduceEqDiff, Nat.reduceLT, Nat.reduceLeDiff, Nat.reduceAdd, Nat.reduceSub, Nat.reduceMul, Nat.reduceDiv, Nat.reduceMod, Nat.reduceBEq, Int.reduceEq, Int.reduceLT, Int.reduceLE, Int.reduceNeg, Int.reduceToNat, reduceCtorEq]; with_reducible rfl) (by simp only [go_sem, ↓reduceIte, reduceIte, Nat.reduceEqDiff, Nat.reduceLT, Nat.reduceLeDiff, Nat.reduceAdd, Nat.reduceSub, Nat.reduceMul, Nat.reduceDiv, Nat.reduceMod, Nat.reduceBEq, Int.reduceEq, Int.reduceLT, Int.reduceLE, Int.reduceNeg, Int.reduceToNat, reduceCtorEq]; with_reducible rfl), l + 1, _, rfl, rfl, by rw [htk, List.map_append, ← hrt, hD]; rfl, by omega⟩
        · rw [allVal_end (by omega)] at hv
          repeat' (first | (with_reducible first | refine SW_seq ?_ | refine SW_block ?_ | refine SThen_n ?_ | refine SThen_r ?_ | refine SThen_e ?_ | refine SIn_n ?_ | refine SIn_r ?_ | refine SIn_eq ?_ | refine SW_skip ?_ | refine SW_exit ?_ | refine SW_ret ?_ | refine SPost_r ?_) | ((with_reducible refine SIn_ne ?_ ?_); focus decide) | ((with_reducible refine SW_true ?_ ?_); focus exact rfl) | ((with_reducible refine SW_false ?_ ?_); focus exact rfl) | ((first | (with_reducible apply SW_run tt_ok hG htb) | ((with_reducible apply SW_draw rfl tt_ok hG htb); (focus kernel_rfl); (focus (simp only [List.range, List.range.loop, List.size_toArray, List.length_cons, List.length_nil, Nat.reduceAdd])))); focus ((repeat' (first | (with_reducible exact runX_nil) | (with_reducible exact runI_nil) | ((first | (with_reducible apply runX_cons) | (with_reducible apply runI_cons)); focus (simp (discharger := omega) only [go_sem, ↓reduceIte, reduceIte, Nat.reduceEqDiff, Nat.reduceLT, Nat.reduceLeDiff, Nat.reduceAdd, Nat.reduceSub, Nat.reduceMul, Nat.reduceDiv, Nat.reduceMod, Nat.reduceBEq, Int.reduceEq, Int.reduceLT, Int.reduceLE, Int.reduceNeg, Int.reduceToNat, reduceCtorEq]; with_reducible rfl)))); done)))
          exact ⟨n - (l + 1), _, by omega, Norm.headS (own := [(7, 22, 1, false), (8, 4, 1, false), (10, 3, 1, false)]) (keep := [0, 1, 4, 5, 7, 8, 9, 10, 11]) (by simp (discharger := omega) only [go_sem, ↓reduceIte, reduceIte, Nat.reduceEqDiff, Nat.reduceLT, Nat.reduceLeDiff, Nat.reduceAdd, Nat.reduceSub, Nat.reduceMul, Nat.reduceDiv, Nat.reduceMod, Nat.reduceBEq, Int.reduceEq, Int.reduceLT, Int.reduceLE, Int.reduceNeg, Int.reduceToNat, reduceCtorEq]; with_reducible rfl) (by simp only [go_sem, ↓reduceIte, reduceIte, Nat.reduceEqDiff, Nat.reduceLT, Nat.reduceLeDiff, Nat.reduceAdd, Nat.reduceSub, Nat.reduceMul, Nat.reduceDiv, Nat.reduceMod, Nat.reduceBEq, Int.reduceEq, Int.reduceLT, Int.reduceLE, Int.reduceNeg, Int.reduceToNat, reduceCtorEq]; with_reducible rfl) (by simp only [go_sem, ↓reduceIte, reduceIte, Nat.reduceEqDiff, Nat.reduceLT, Nat.reduceLeDiff, Nat.reduceAdd, Nat.reduceSub, Nat.reduceMul, Nat.reduceDiv, Nat.reduceMod, Nat.reduceBEq, Int.reduceEq, Int.reduceLT, Int.reduceLE, Int.reduceNeg, Int.reduceToNat, reduceCtorEq]; with_reducible rfl) (by simp only [go_sem, ↓reduceIte, reduceIte, Nat.reduceEqDiff, Nat.reduceLT, Nat.reduceLeDiff, Nat.reduceAdd, Nat.reduceSub, Nat.reduceMul, Nat.reduceDiv, Nat.reduceMod, Nat.reduceBEq, Int.reduceEq, Int.reduceLT, Int.reduceLE, Int.reduceNeg, Int.reduceToNat, reduceCtorEq]; with_reducible rfl) (by simp only [go_sem, ↓reduceIte, reduceIte, Nat.reduceEqDiff, Nat.reduceLT, Nat.reduceLeDiff, Nat.reduceAdd, Nat.reduceSub, Nat.reduceMul, Nat.reduceDiv, Nat.reduceMod, Nat.reduceBEq, Int.reduceEq, Int.reduceLT, Int.reduceLE, Int.reduceNeg, Int.reduceToNat, reduceCtorEq]; with_reducible rfl), l + 1, _, rfl, rfl, by rw [htk, List.map_append, ← hrt, hv]; rfl, by omega⟩
    · obtain rfl : l = n := by omega
      rw [List.take_of_length_le (by simp)] at hrt
      have htk := map_range_take (fun s => (List.range l).map fun k => (allD l (clash base t) s k : Int)) hlt
      have htk2 := map_range_take (fun s => decide (s ≤ l)) hlt
      have htb : Tab.ok Tryd.prog G [] := Tab.nil
      by_cases hin : i ≤ l
      · repeat' (first | (with_reducible first | refine SW_seq ?_ | refine SW_block ?_ | refine SThen_n ?_ | refine SThen_r ?_ | refine SThen_e ?_ | refine SIn_n ?_ | refine SIn_r ?_ | refine SIn_eq ?_ | refine SW_skip ?_ | refine SW_exit ?_ | refine SW_ret ?_ | refine SPost_r ?_) | ((with_reducible refine SIn_ne ?_ ?_); focus decide) | ((with_reducible refine SW_true ?_ ?_); focus exact rfl) | ((with_reducible refine SW_false ?_ ?_); focus exact rfl) | ((first | (with_reducible apply SW_run tt_ok hG htb) | ((with_reducible apply SW_draw rfl tt_ok hG htb); (focus kernel_rfl); (focus (simp only [List.range, List.range.loop, List.size_toArray, List.length_cons, List.length_nil, Nat.reduceAdd])))); focus ((repeat' (first | (with_reducible exact runX_nil) | (with_reducible exact runI_nil) | ((first | (with_reducible apply runX_cons) | (with_reducible apply runI_cons)); focus (simp (discharger := omega) only [go_sem, ↓reduceIte, reduceIte, Nat.reduceEqDiff, Nat.reduceLT, Nat.reduceLeDiff, Nat.reduceAdd, Nat.reduceSub, Nat.reduceMul, Nat.reduceDiv, Nat.reduceMod, Nat.reduceBEq, Int.reduceEq, Int.reduceLT, Int.reduceLE, Int.reduceNeg, Int.reduceToNat, reduceCtorEq]; with_reducible rfl)))); done)))
        exact ⟨l + 2 - (i + 1), _, by omega, Norm.headS (own := [(7, 22, 1, false), (8, 4, 1, false)]) (keep := [0, 1, 4, 5, 7, 8, 9]) (by simp (discharger := omega) only [go_sem, ↓reduceIte, reduceIte, Nat.reduceEqDiff, Nat.reduceLT, Nat.reduceLeDiff, Nat.reduceAdd, Nat.reduceSub, Nat.reduceMul, Nat.reduceDiv, Nat.reduceMod, Nat.reduceBEq, Int.reduceEq, Int.reduceLT, Int.reduceLE, Int.reduceNeg, Int.reduceToNat, reduceCtorEq]; with_reducible rfl) (by simp only [go_sem, ↓reduceIte, reduceIte, Nat.reduceEqDiff, Nat.reduceLT, Nat.reduceLeDiff, Nat.reduceAdd, Nat.reduceSub, Nat.reduceMul, Nat.reduceDiv, Nat.reduceMod, Nat.reduceBEq, Int.reduceEq, Int.reduceLT, Int.reduceLE, Int.reduceNeg, Int.reduceToNat, reduceCtorEq]; with_reducible rfl) (by simp only [go_sem, ↓reduceIte, reduceIte, Nat.reduceEqDiff, Nat.reduceLT, Nat.reduceLeDiff, Nat.reduceAdd, Nat.reduceSub, Nat.reduceMul, Nat.reduceDiv, Nat.reduceMod, Nat.reduceBEq, Int.reduceEq, Int.reduceLT, Int.reduceLE, Int.reduceNeg, Int.reduceToNat, reduceCtorEq]; with_reducible rfl) (by simp only [go_sem, ↓reduceIte, reduceIte, Nat.reduceEqDiff, Nat.reduceLT, Nat.reduceLeDiff, Nat.reduceAdd, Nat.reduceSub, Nat.reduceMul, Nat.reduceDiv, Nat.reduceMod, Nat.reduceBEq, Int.reduceEq, Int.reduceLT, Int.reduceLE, Int.reduceNeg, Int.reduceToNat, reduceCtorEq]; with_reducible rfl) (by simp only [go_sem, ↓reduceIte, reduceIte, Nat.reduceEqDiff, Nat.reduceLT, Nat.reduceLeDiff, Nat.reduceAdd, Nat.reduceSub, Nat.reduceMul, Nat.reduceDiv, Nat.reduceMod, Nat.reduceBEq, Int.reduceEq, Int.reduceLT, Int.reduceLE, Int.reduceNeg, Int.reduceToNat, reduceCtorEq]; with_reducible rfl), i + 1, _, _, rfl, rfl, by rw [allNext, tabN, htk, List.map_append, hnt, hrt]; rfl, by rw [allEnds, tabE, htk2, List.map_append, het, decide_eq_true hin]; rfl, by omega⟩
      · repeat' (first | (with_reducible first | refine SW_seq ?_ | refine SW_block ?_ | refine SThen_n ?_ | refine SThen_r ?_ | refine SThen_e ?_ | refine SIn_n ?_ | refine SIn_r ?_ | refine SIn_eq ?_ | refine SW_skip ?_ | refine SW_exit ?_ | refine SW_ret ?_ | refine SPost_r ?_) | ((with_reducible refine SIn_ne ?_ ?_); focus decide) | ((with_reducible refine SW_true ?_ ?_); focus exact rfl) | ((with_reducible refine SW_false ?_ ?_); focus exact rfl) | ((first | (with_reducible apply SW_run tt_ok hG htb) | ((with_reducible apply SW_draw rfl tt_ok hG htb); (focus kernel_rfl); (focus (simp only [List.range, List.range.loop, List.size_toArray, List.length_cons, List.length_nil, Nat.reduceAdd])))); focus ((repeat' (first | (with_reducible exact runX_nil) | (with_reducible exact runI_nil) | ((first | (with_reducible apply runX_cons) | (with_reducible apply runI_cons)); focus (simp (discharger := omega) only [go_sem, ↓reduceIte, reduceIte, Nat.reduceEqDiff, Nat.reduceLT, Nat.reduceLeDiff, Nat.reduceAdd, Nat.reduceSub, Nat.reduceMul, Nat.reduceDiv, Nat.reduceMod, Nat.reduceBEq, Int.reduceEq, Int.reduceLT, Int.reduceLE, Int.reduceNeg, Int.reduceToNat, reduceCtorEq]; with_reducible rfl)))); done)))
        exact ⟨l + 2 - (i + 1), _, by omega, Norm.headS (own := [(7, 22, 1, false), (8, 4, 1, false)]) (keep := [0, 1, 4, 5, 7, 8, 9]) (by simp (discharger := omega) only [go_sem, ↓reduceIte, reduceIte, Nat.reduceEqDiff, Nat.reduceLT, Nat.reduceLeDiff, Nat.reduceAdd, Nat.reduceSub, Nat.reduceMul, Nat.reduceDiv, Nat.reduceMod, Nat.reduceBEq, Int.reduceEq, Int.reduceLT, Int.reduceLE, Int.reduceNeg, Int.reduceToNat, reduceCtorEq]; with_reducible rfl) (by simp only [go_sem, ↓reduceIte, reduceIte, Nat.reduceEqDiff, Nat.reduceLT, Nat.reduceLeDiff, Nat.reduceAdd, Nat.reduceSub, Nat.reduceMul, Nat.reduceDiv, Nat.reduceMod, Nat.reduceBEq, Int.reduceEq, Int.reduceLT, Int.reduceLE, Int.reduceNeg, Int.reduceToNat, reduceCtorEq]; with_reducible rfl) (by simp only [go_sem, ↓reduceIte, reduceIte, Nat.reduceEqDiff, Nat.reduceLT, Nat.reduceLeDiff, Nat.reduceAdd, Nat.reduceSub, Nat.reduceMul, Nat.reduceDiv, Nat.reduceMod, Nat.reduceBEq, Int.reduceEq, Int.reduceLT, Int.reduceLE, Int.reduceNeg, Int.reduceToNat, reduceCtorEq]; with_reducible rfl) (by simp only [go_sem, ↓reduceIte, reduceIte, Nat.reduceEqDiff, Nat.reduceLT, Nat.reduceLeDiff, Nat.reduceAdd, Nat.reduceSub, Nat.reduceMul, Nat.reduceDiv, Nat.reduceMod, Nat.reduceBEq, Int.reduceEq, Int.reduceLT, Int.reduceLE, Int.reduceNeg, Int.reduceToNat, reduceCtorEq]; with_reducible rfl) (by simp only [go_sem, ↓reduceIte, reduceIte, Nat.reduceEqDiff, Nat.reduceLT, Nat.reduceLeDiff, Nat.reduceAdd, Nat.reduceSub, Nat.reduceMul, Nat.reduceDiv, Nat.reduceMod, Nat.reduceBEq, Int.reduceEq, Int.reduceLT, Int.reduceLE, Int.reduceNeg, Int.reduceToNat, reduceCtorEq]; with_reducible rfl), i + 1, _, _, rfl, rfl, by rw [allNext, tabN, htk, List.map_append, hnt, hrt]; rfl, by rw [allEnds, tabE, htk2, List.map_append, het, decide_eq_false hin]; rfl, by omega⟩
  · obtain rfl : i = n + 2 := by omega
    rw [List.take_of_length_le (by simp [allNext, tabN])] at hnt
    rw [List.take_of_length_le (by simp [allEnds, tabE])] at het
    subst hnt het
    have htb := Tab.cons hS Tab.nil
    refine SW_norm (Norm.frz 7 rfl rfl) ?_
    refine SW_norm (Norm.frz 8 rfl rfl) ?_
    repeat' (first | (with_reducible first | refine SW_seq ?_ | refine SW_block ?_ | refine SThen_n ?_ | refine SThen_r ?_ | refine SThen_e ?_ | refine SIn_n ?_ | refine SIn_r ?_ | refine SIn_eq ?_ | refine SW_skip ?_ | refine SW_exit ?_ | refine SW_ret ?_ | refine SPost_r ?_) | ((with_reducible refine SIn_ne ?_ ?_); focus decide) | ((with_reducible refine SW_true ?_ ?_); focus exact rfl) | ((with_reducible refine SW_false ?_ ?_); focus exact rfl) | ((first | (with_reducible apply SW_run tt_ok hG htb) | ((with_reducible apply SW_draw rfl tt_ok hG htb); (focus kernel_rfl); (focus (simp only [List.range, List.range.loop, List.size_toArray, List.length_cons, List.length_nil, Nat.reduceAdd])))); focus ((repeat' (first | (with_reducible exact runX_nil) | (with_reducible exact runI_nil) | ((first | (with_reducible apply runX_cons) | (with_reducible apply runI_cons)); focus (simp (discharger := omega) only [go_sem, tAuto, ↓reduceIte, reduceIte, Nat.reduceEqDiff, Nat.reduceLT, Nat.reduceLeDiff, Nat.reduceAdd, Nat.reduceSub, Nat.reduceMul, Nat.reduceDiv, Nat.reduceMod, Nat.reduceBEq, Int.reduceEq, Int.reduceLT, Int.reduceLE, Int.reduceNeg, Int.reduceToNat, reduceCtorEq]; with_reducible rfl)))); done)))
    exact (by simp (discharger := omega) only [go_sem, tAuto, ↓reduceIte, reduceIte, Nat.reduceEqDiff, Nat.reduceLT, Nat.reduceLeDiff, Nat.reduceAdd, Nat.reduceSub, Nat.reduceMul, Nat.reduceDiv, Nat.reduceMod, Nat.reduceBEq, Int.reduceEq, Int.reduceLT, Int.reduceLE, Int.reduceNeg, Int.reduceToNat, reduceCtorEq])
end
end Go.Proofs.YtfhncnhkeodngaaDoor
namespace Go.Proofs.YtfhncnhkeodngaaDoor
open Go.RowKit

section
variable {σ : Type} {f : σ → T}
def keyEntries (f : σ → T) (l : List σ) : List (T × T) := l.zipIdx.map fun p => (f p.1, tNat p.2)
theorem keyEntries_length (l : List σ) : (keyEntries f l).length = l.length := by simp [keyEntries]
theorem keyEntries_mem {l : List σ} {p : T × T} (h : p ∈ keyEntries f l) : ∃ r ∈ l, p.1 = f r := by
  obtain ⟨q, hq, rfl⟩ := List.mem_map.1 h
  have := (List.mem_zipIdx_iff_getElem?.1 (show (q.1, q.2) ∈ l.zipIdx from hq))
  exact ⟨q.1, List.mem_of_getElem? this, rfl⟩
theorem keyEntries_none (hf : ∀ p q, f p = f q → p = q) {l : List σ} {s : σ} (h : s ∉ l) : ∀ p ∈ keyEntries f l, p.1 ≠ f s := fun p hp e => by
  obtain ⟨r, hr, e2⟩ := keyEntries_mem hp
  rw [e2] at e
  exact h (hf _ _ e ▸ hr)
theorem keyEntries_get_none (hf : ∀ p q, f p = f q → p = q) {l : List σ} {s : σ} (h : s ∉ l) : mapGet (keyEntries f l) (f s) = none := mapGet_none (keyEntries_none hf h)
theorem keyEntries_set (hf : ∀ p q, f p = f q → p = q) {l : List σ} {s : σ} (h : s ∉ l) : mapSet (keyEntries f l) (f s) (tNat l.length) = keyEntries f (l ++ [s]) := by
  rw [mapSet_none (keyEntries_none hf h)]; simp [keyEntries, List.zipIdx_append]
theorem keyEntries_get_some (hf : ∀ p q, f p = f q → p = q) {l : List σ} {s : σ} {k : Nat} (hd : l.Nodup) (hk : l[k]? = some s) : mapGet (keyEntries f l) (f s) = some (tNat k) := by
  refine mapGet_some (j := k) (p := (f s, tNat k)) ?_ ?_ rfl
  · rw [List.pairwise_iff_getElem]
    intro i j hi hj hij e
    simp only [keyEntries, List.getElem_map, List.getElem_zipIdx] at e
    rw [keyEntries_length] at hi hj
    have := nodup_inj hd hi hj (hf _ _ e)
    omega
  · simp [keyEntries, List.getElem?_map, List.getElem?_zipIdx, hk]
theorem nodup_snoc {l : List σ} {s : σ} (h : l.Nodup) (hs : s ∉ l) : (l ++ [s]).Nodup := by
  rw [List.nodup_append]
  exact ⟨h, by simp, fun c hc d hd => by simp at hd; subst hd; rintro rfl; exact hs hc⟩
end
/-- What a round over letters has met: numbers of what the letters lead to. -/
structure Met1 {σ : Type} (δ : σ → Nat → σ) (s : σ) (met met' : List σ) (q : List Nat) (l : Nat) : Prop where
  pre : met <+: met'
  len : q.length = l
  at' : ∀ j, j < l → ∃ k : Nat, q[j]? = some k ∧ met'[k]? = some (δ s j)
section
variable {σ : Type} {δ : σ → Nat → σ} {s : σ} {met met' : List σ} {q : List Nat} {l : Nat}
theorem Met1.start : Met1 δ s met met [] 0 := ⟨List.prefix_refl _, rfl, fun j hj => by omega⟩
theorem Met1.old (h : Met1 δ s met met' q l) {k : Nat} (hk : met'[k]? = some (δ s l)) : Met1 δ s met met' (q ++ [k]) (l + 1) :=
  ⟨h.pre, by simp [h.len], fun j hj => by
    by_cases e : j = l
    · subst e; exact ⟨k, by rw [List.getElem?_append_right (by rw [h.len]; exact Nat.le_refl _), h.len, Nat.sub_self]; rfl, hk⟩
    · obtain ⟨k', h1, h2⟩ := h.at' j (by omega)
      exact ⟨k', by rw [List.getElem?_append_left (by rw [h.len]; omega)]; exact h1, h2⟩⟩
theorem Met1.new (h : Met1 δ s met met' q l) : Met1 δ s met (met' ++ [δ s l]) (q ++ [met'.length]) (l + 1) :=
  ⟨h.pre.trans (List.prefix_append _ _), by simp [h.len], fun j hj => by
    by_cases e : j = l
    · subst e; exact ⟨met'.length, by rw [List.getElem?_append_right (by rw [h.len]; exact Nat.le_refl _), h.len, Nat.sub_self]; rfl, by simp⟩
    · obtain ⟨k', h1, h2⟩ := h.at' j (by omega)
      exact ⟨k', by rw [List.getElem?_append_left (by rw [h.len]; omega)]; exact h1, by rw [List.getElem?_append_left (List.getElem?_eq_some_iff.1 h2).1]; exact h2⟩⟩
theorem Met1.fin {rows : List (List Int)} {n i : Nat} (h : Met1 δ s met met' q n) (hex : Expl δ n met rows) (hi : rows.length = i) (hs : met[i]? = some s) : Expl δ n met' (rows ++ [q.map fun (k : Nat) => (k : Int)]) :=
  (hex.grow h.pre).snoc (by simpa using h.len) (s := s) (by rw [hi]; exact pre_get h.pre hs) fun j hj => by
    obtain ⟨k, h1, h2⟩ := h.at' j hj
    exact ⟨k, by rw [List.getElem?_map, h1]; rfl, h2⟩
theorem Met1.take (h : Met1 δ s met met' q l) {i : Nat} (hs : met[i]? = some s) : met'.take (i + 1) = met.take i ++ [s] := by
  have h1 := pre_get h.pre hs
  have hlt := (List.getElem?_eq_some_iff.1 h1).1
  have hlt0 := (List.getElem?_eq_some_iff.1 hs).1
  rw [List.take_succ_eq_append_getElem hlt]
  rw [List.getElem?_eq_getElem hlt] at h1
  rw [Option.some.inj h1]
  obtain ⟨t, rfl⟩ := h.pre
  rw [List.take_append_of_le_length (by omega)]
end
end Go.Proofs.YtfhncnhkeodngaaDoor
namespace Go.Proofs.YtfhncnhkeodngaaDoor
open Go.RowKit

theorem shrinkT_L {base tracks : Int} {n m : Nat} {next : List (List Int)} {ends : List Bool} {L : List Nat → Bool} (hR : Rows0 n m next) (hm : 0 < m) (h : ∀ w, Ltr n w → lang next ends 0 w = L w) :
    shrinkT base tracks n next ends = .tup [tAuto (autoL base tracks n L), .bool (decide (errL n L = 0))] := by
  by_cases h80 : 80 < (leastL n L).1.length
  · have e : errL n L = 3 := by unfold errL; rw [if_pos h80]
    unfold shrinkT autoL
    rw [leastRE_L hR hm h, if_neg (by omega), e, if_neg (show ¬ (3 : Int) = 0 by decide)]; rfl
  · have e : errL n L = 0 := by unfold errL; rw [if_neg h80]
    unfold shrinkT autoL
    rw [leastRE_L hR hm h, if_pos (by omega), e, if_pos rfl]; rfl
end Go.Proofs.YtfhncnhkeodngaaDoor
namespace Go.Proofs.YtfhncnhkeodngaaDoor
open Go.RowKit

set_option maxHeartbeats 400000 in
theorem Radix_calls (base : Int) (w : World) :
    Calls Tryd.prog 83 #[.int .i64 base] w (RetS (.int .i64 (radix base)) w) := by
  by_cases h1 : base = 1
  · subst h1
    go_enter Tryd.func83, Tryd.ntmps83
    go_wp2
    go_ret
    exact RetS.mk rfl
  · have hr := Lib.hid (show radix base = if 2 ≤ base ∧ base ≤ 6 then base else 0 by simp [radix, h1])
    have h1' : (base == 1) = false := by simp [h1]
    clear h1
    by_cases h2 : 2 ≤ base
    · by_cases h3 : base ≤ 6
      · have hr' := Lib.hid (show radix base = base by rw [hr.out, if_pos ⟨h2, h3⟩])
        go_enter Tryd.func83, Tryd.ntmps83
        go_wp2
        go_ret
        exact RetS.mk (by rw [hr'.out]; rfl)
      · have hr' := Lib.hid (show radix base = 0 by rw [hr.out, if_neg (by omega)])
        go_enter Tryd.func83, Tryd.ntmps83
        go_wp2
        go_ret
        exact RetS.mk (by rw [hr'.out]; rfl)
    · have hr' := Lib.hid (show radix base = 0 by rw [hr.out, if_neg (by omega)])
      go_enter Tryd.func83, Tryd.ntmps83
      go_wp2
      go_ret
      exact RetS.mk (by rw [hr'.out]; rfl)

end Go.Proofs.YtfhncnhkeodngaaDoor
namespace Go.Proofs.YtfhncnhkeodngaaDoor
open Go.RowKit

theorem repNilInts (S : Nat → Prop) (w : World) : RepT S w (tInts []) (.slice none 0 0) :=
  .list [] none 0 1 (fun _ => undef) (Nat.zero_le _) Nat.one_pos (fun x hx => by simp at hx) (fun h => (h rfl).elim) (fun k hk => by simp at hk) (fun k y hy => by simp [flat] at hy) (Nat.le_refl _)
theorem repOwnInts {w : World} {B e n : Nat} {v : Value} {l : List Int} (h : w.ownsRow B e 1 v n (l.map (Value.int .i64))) (hl : l.length = n) (_ : ∀ x ∈ l, I64 x) : RepT (B ≤ ·) w (tInts l) v := by
  subst hl
  rcases h.2 with ⟨rfl, h0⟩ | ⟨g, cap, cur, rfl, h1, h2, h3, h4, h5, h6⟩
  · obtain rfl : l = [] := List.length_eq_zero_iff.1 h0
    exact repNilInts _ _
  · have hfl : ∀ l : List Int, flat (l.map tInt) = l.map tInt := fun l => by
      induction l with
      | nil => rfl
      | cons x t ih =>
        simp only [flat, List.map_cons, List.flatMap_cons] at ih ⊢
        rw [ih]; rfl
    have hlen : (l.map tInt).length = l.length := by simp
    have hcell : ∀ k (hk : k < l.length), cur[k]? = some (Value.int .i64 l[k]) := fun k hk => by
      have h7 : (cur.toList.take (l.length * 1))[k]? = some (Value.int .i64 l[k]) := by rw [h6]; simp [hk]
      rw [List.getElem?_take_of_lt (by omega)] at h7
      simpa using h7
    have := RepT.list (S := (B ≤ ·)) (w := w) (l.map tInt) (some ⟨g, 0, none⟩) cap 1 (fun k => if h : k < l.length then Value.int .i64 l[k] else undef) (by simp; omega) Nat.one_pos (fun x hx => by obtain ⟨n, _, rfl⟩ := List.mem_map.1 hx; rfl)
      (fun _ => ⟨g, 0, rfl, h1, fun k hk => by
        have hk2 : k < l.length := by simpa using hk
        rw [Nat.zero_add, World.cell?, h2]
        simp only [hk2, dif_pos]
        exact hcell k hk2⟩)
      (fun k hk => by
        have hk2 : k < l.length := by simpa using hk
        simp only [hk2, dif_pos]; rfl)
      (fun k y hy => by
        rw [hfl, List.getElem?_map, Option.map_eq_some_iff] at hy
        obtain ⟨n, hn, rfl⟩ := hy
        obtain ⟨hk2, rfl⟩ := List.getElem?_eq_some_iff.1 hn
        simp only [hk2, dif_pos]
        exact .int _ _) (by simp; omega)
    rw [hlen] at this
    exact this

set_option maxHeartbeats 1000000 in
set_option maxRecDepth 100000 in
theorem Of_baseT (base n : Int) (w : World) (hb2 : 2 ≤ base) (hb6 : base ≤ 6) (hn0 : 0 < n) (hn1 : n ≤ 1099511627776) :
    Calls Tryd.prog 88 #[.int .i64 base, .int .i64 n] w
      (RetQ (fun v w' => ∃ x l, v = .tuple #[x, .nilIface] ∧ RepT (w.heap.size ≤ ·) w' (tInts l) x ∧ IsOf base n l) w) := by
  have hr : radix base = base := by simp [radix]; omega
  have e0 : (base == 0) = false := by simp; omega
  have e1 : (base != 1) = true := by simp; omega
  have e2 : decide (n < 0) = false := by simp; omega
  have e3 : decide (1099511627776 < n) = false := by simp; omega
  have Hr := Lib.hid hr; clear hr
  have Hrz := Lib.hid (show radix base ≠ 0 by rw [Hr.out]; omega)
  have Hb1 := Lib.hid (show base ≠ 1 by omega)
  go_enter Tryd.func88, Tryd.ntmps88
  go_wp2_with (go_at_call 83; refine (Radix_calls _ _).mono ?_; rintro e w' ⟨rfl, rfl⟩; rw [Hr.out])
  go_loopw [1, 8] (fun q at_ wr => ∃ (k : Nat) (m : Int) (t : List Int) (C : Array Value), at_ = .int .i64 k ∧ q = .int .i64 m ∧ 0 ≤ m ∧ m ≤ 1099511627776 ∧ k + t.length = 64 ∧ k ≤ 64 ∧ Hid (m * W base t.length + wv base t = n ∧ okDigits base t ∧ (m = 0 → noLead t ∧ t ≠ [])) ∧
      Hid (wr.heap[w.heap.size]? = some (.cells C 169 (0, 0)) ∧ C.toList.drop k = t.map (Value.int .i64) ∧ C.size = 64) ∧ Hid (Below w.heap.size w wr)) (fun q _ _ => (intOf q).toNat)
  case atStart => exact ⟨64, n, [], _, rfl, rfl, by omega, by omega, rfl, by omega, ⟨by simp [W, powW, wv, Hb1.out], by simp [okDigits], fun h => by omega⟩, ⟨heap_alloc_new w _, rfl, rfl⟩, (Below.refl _ _).alloc (Nat.le_refl _) _⟩
  case round =>
    obtain ⟨k, m, t, C, rfl, rfl, hm0, hm1, hkt, hk64, Hm, HC, HB⟩ := hrel
    by_cases hlt : 0 < m
    · have hk : 1 ≤ k := by
        have h1 := Hm.out.1
        have h2 := wv_nonneg Hrz.out Hm.out.2.1
        rcases Nat.lt_or_ge t.length 58 with c | c
        · omega
        · have := W_big Hrz.out c
          have : 1 * W base t.length ≤ m * W base t.length := Int.mul_le_mul_of_nonneg_right (by omega) (by omega)
          omega
      obtain ⟨j, rfl⟩ : ∃ j, k = j + 1 := ⟨k - 1, by omega⟩
      have q0 : 0 ≤ m % base := Int.emod_nonneg _ (by omega)
      have q1 : m % base < base := Int.emod_lt_of_pos _ (by omega)
      have q2 : 0 ≤ m / base := Int.ediv_nonneg hm0 (by omega)
      have q3 : m / base < m := Int.ediv_lt_self_of_pos_of_ne_one (by omega) (by omega)
      have q5 : m / base ≤ 1099511627776 := by omega
      have Q4 := Lib.hid (show m = base * (m / base) + m % base from (Int.mul_ediv_add_emod m base).symm)
      have hcell : wr.cell? ⟨w.heap.size, j, none⟩ = some (C[j]'(by have := HC.out.2.2; omega)) := by
        rw [cell_of_row wr _ j C 169 (0, 0) HC.out.1]; exact Array.getElem?_eq_getElem _
      have hfr : wr.frozen? ⟨w.heap.size, j, none⟩ = false := frozen_of_block HC.out.1 j
      go_wp2
      go_roundw
      case rel =>
        refine ⟨j, m / base, (m % base) :: t, C.setIfInBounds j (.int .i64 (m % base)), by go_num, rfl, q2, q5, by simp at hkt ⊢; omega, by omega, ⟨?_, ?_, ?_⟩, ⟨?_, ?_, ?_⟩, ?_⟩
        · have h1 := Hm.out.1
          have e : W base ((m % base) :: t).length = W base t.length * base := by simp [W, Hb1.out, powW]
          rw [e]
          show m / base * (W base t.length * base) + (m % base * W base t.length + wv base t) = n
          have : m * W base t.length = (base * (m / base) + m % base) * W base t.length := by rw [← Q4.out]
          rw [this, Int.add_mul] at h1
          rw [← Int.mul_assoc, Int.mul_comm (m / base * W base t.length) base, ← Int.mul_assoc]
          omega
        · intro x hx
          rcases List.mem_cons.1 hx with rfl | hx
          · rw [Hr.out]; exact ⟨q0, q1⟩
          · exact Hm.out.2.1 x hx
        · intro hz
          refine ⟨?_, by simp⟩
          intro hl
          have h4 := Q4.out
          simp at hl
          rw [hz, hl] at h4
          simp at h4
          omega
        · exact heap_setCell_at HC.out.1 _
        · have h2 := HC.out.2.1
          have h3 := HC.out.2.2
          rw [List.map_cons, ← h2, Array.toList_setIfInBounds, List.drop_set]
          simp
          rw [List.drop_eq_getElem_cons (by simp; omega)]
          simp
        · have := HC.out.2.2; simp; omega
        · exact HB.out.setCell (Nat.le_refl _) _
      case measure => (simp [intOf] <;> omega)
    · obtain rfl : m = 0 := by omega
      have ht0 : t ≠ [] := (Hm.out.2.2 rfl).2
      have hk' : (k : Int) < 64 := by
        have : 0 < t.length := List.length_pos_iff.2 ht0
        omega
      clear ht0
      obtain ⟨i0, hi, hz0, hz1, hz2⟩ := info_parts infoInt
      have hsl := slice64 wr w.heap.size k (by omega)
      go_wp2_with (at_builtin; go_loud (refine wpList_append_own _ rfl _ _ 22 rfl w.heap.size 3 i0 (.int .i64 0) 1 8 Tryd.underlying22 hi hz0 hz1 hz2 rfl (by decide) _ _ _ rfl (World.ownsRow_nil _ _ _ _) ⟨w.heap.size, k, none⟩ (64 - k) (64 - k) (t.map (Value.int .i64)) rfl ?c1 ?c2 ?c3 ?c4 ?c5 ?c6 ?_))
      case c1 => omega
      case c2 =>
        intro j u hj
        have h2 := HC.out.2.1
        rw [cell_of_row wr _ (k + j) C 169 (0, 0) HC.out.1, ← Array.getElem?_toList, ← List.getElem?_drop, h2]
        simp [hj]
      case c3 => intro u _; rfl
      case c4 => simp only [maxLen]; omega
      case c5 => omega
      case c6 => exact HB.out.size
      intro v' w' hown hgrow hnil
      go_wp2
      go_ret2
      refine RetQ.mk ⟨_, t, rfl, repOwnInts hown (by omega) ?_, ⟨Hm.out.2.1, ?_, (Hm.out.2.2 (by trivial)).1, ?_⟩⟩ (HB.out.grown hgrow HB.out.size (by simp [Value.ownBlock]))
      · intro x hx
        have := Hm.out.2.1 x hx
        rw [Hr.out] at this
        exact ⟨by omega, by omega⟩
      · simp [rightOf, Hb1.out]
      · have := Hm.out.1; omega

set_option maxHeartbeats 1000000 in
set_option maxRecDepth 100000 in
theorem Of_fibT (n : Int) (w : World) (hn0 : 0 ≤ n) (hn1 : n ≤ 1099511627776) :
    Calls Tryd.prog 88 #[.int .i64 1, .int .i64 n] w
      (RetQ (fun v w' => ∃ x l, v = .tuple #[x, .nilIface] ∧ RepT (w.heap.size ≤ ·) w' (tInts l) x ∧ IsOf 1 n l) w) := by
  have Hr := Lib.hid (show radix 1 = 2 from rfl)
  have e2 : decide (n < 0) = false := by simp; omega
  have e3 : decide (1099511627776 < n) = false := by simp; omega
  go_enter Tryd.func88, Tryd.ntmps88
  go_wp2_with (go_at_call 83; refine (Radix_calls _ _).mono ?_; rintro e w' ⟨rfl, rfl⟩; rw [Hr.out])
  go_loopw [10] (fun q wr => ∃ (m : Nat) (C : Array Value), q = .int .i64 ((m : Int) + 2) ∧ Hid (m = 0 ∨ fibW m ≤ n) ∧
      Hid (wr.heap[w.heap.size + 1]? = some (.cells C 169 (0, 0)) ∧ C.size = 64 ∧ ∀ i, i < m + 2 → C[i]? = some (.int .i64 (fibW i))) ∧ Hid (Below w.heap.size w wr)) (fun q _ => 64 - (intOf q).toNat)
  case atStart => 
    refine ⟨0, _, rfl, .inl rfl, ⟨heap_alloc_at _ _ (by simp), by simp, ?_⟩, ?_⟩
    · intro i hi
      have : i = 0 ∨ i = 1 := by omega
      rcases this with rfl | rfl <;> rfl
    · exact ((Below.refl _ _).alloc (Nat.le_refl _) _).alloc (by simp) _
  case round =>
    obtain ⟨m, C, rfl, Hm, HC, HB⟩ := hrel
    have hm : m ≤ 57 := by
      rcases Hm.out with h | h
      · omega
      · exact fibW_small h hn1
    have hcell : wr.cell? ⟨w.heap.size + 1, m + 1, none⟩ = some (.int .i64 (fibW (m + 1))) := by
      rw [cell_of_row wr _ _ C 169 (0, 0) HC.out.1]; exact HC.out.2.2 _ (by omega)
    have hcell0 : wr.cell? ⟨w.heap.size + 1, m, none⟩ = some (.int .i64 (fibW m)) := by
      rw [cell_of_row wr _ _ C 169 (0, 0) HC.out.1]; exact HC.out.2.2 _ (by omega)
    by_cases hle : fibW (m + 1) ≤ n
    · have hp := (fibW_pos m)
      have hp1 := hp.1
      have hp2 := hp.2
      clear hp
      have hcell2 : wr.cell? ⟨w.heap.size + 1, m + 2, none⟩ = some (C[m + 2]'(by have := HC.out.2.1; omega)) := by
        rw [cell_of_row wr _ _ C 169 (0, 0) HC.out.1]; exact Array.getElem?_eq_getElem _
      have hfr : wr.frozen? ⟨w.heap.size + 1, m + 2, none⟩ = false := frozen_of_block HC.out.1 _
      go_wp2
      go_region
      go_wp2
      go_roundw
      case rel =>
        refine ⟨m + 1, C.setIfInBounds (m + 2) (.int .i64 (fibW (m + 2))), by go_num, .inr hle, ⟨?_, ?_, ?_⟩, ?_⟩
        · exact heap_setCell_at HC.out.1 _
        · simpa using HC.out.2.1
        · intro i hi
          rw [Array.getElem?_setIfInBounds]
          by_cases e : m + 2 = i
          · subst e; rw [if_pos rfl, if_pos (by have := HC.out.2.1; omega)]
          · rw [if_neg e]; exact HC.out.2.2 i (by omega)
        · exact (HB.out.setCell (p := ⟨w.heap.size + 1, m + 2, none⟩) (by simp) _).drew
      case measure => (simp [intOf] <;> omega)
    · have G := Lib.hid (Greedy.start hn0 (show n < fibW (m + 1) by omega) (by omega))
      have H0 := Lib.hid (And.intro hn0 hn1)
      clear hcell0 e2 e3
      obtain ⟨i0, hi, hz0, hz1, hz2⟩ := info_parts infoInt
      go_wp2_with fail
      clear hcell hle hn0 hn1
      go_loopw [1, 11, 12] (fun q out i wr' => ∃ (j : Nat) (r : Int) (l : List Int), q = .int .i64 r ∧ i = .int .i64 ((j : Int) - 1) ∧ j ≤ m + 2 ∧ Hid (Greedy n j r l) ∧ wr'.ownsRow (w.heap.size + 2) 3 1 out l.length (l.map (Value.int .i64)) ∧
        Hid (wr'.heap[w.heap.size + 1]? = some (.cells C 169 (0, 0))) ∧ Hid (Below w.heap.size w wr')) (fun _ _ i _ => (intOf i + 1).toNat)
      case atStart => exact ⟨m + 2, n, [], rfl, by go_num, Nat.le_refl _, G.out, World.ownsRow_nil _ _ _ _, HC.out.1, HB.out⟩
      case round =>
        obtain ⟨j, r, l, rfl, rfl, hj, HG, hown, HC', HB'⟩ := hrel
        obtain ⟨a, cap, rfl⟩ := own_form hown
        have hbase : w.heap.size + 2 ≤ wr.heap.size := by have := block_lt HC'.out; omega
        rcases Nat.eq_zero_or_pos j with hj0 | hj0
        · subst hj0
          have D := Lib.hid HG.out.done
          go_wp2
          go_ret2
          refine RetQ.mk ⟨_, l, rfl, ?_, D.out⟩ HB'.out
          refine (repOwnInts hown rfl ?_).mono (fun b (hb : w.heap.size + 2 ≤ b) => show w.heap.size ≤ b by omega)
          intro x hx
          have := D.out.ok x hx
          simp [radix] at this
          exact ⟨by omega, by omega⟩
        · obtain ⟨j', rfl⟩ : ∃ j', j = j' + 1 := ⟨j - 1, by omega⟩
          have hpos : (0 : Int) ≤ ((j' + 1 : Nat) : Int) - 1 := by omega
          have hj64 : ((j' + 1 : Nat) : Int) - 1 < 64 := by omega
          have hcell : wr.cell? ⟨w.heap.size + 1, j', none⟩ = some (.int .i64 (fibW j')) := by
            rw [cell_of_row wr _ _ C 169 (0, 0) HC'.out]; exact HC.out.2.2 _ (by omega)
          have hr0 := HG.out.r0
          have hr1 : r ≤ 1099511627776 := by
            have h1 := HG.out.val
            have h2 := wv_nonneg (b := 1) (d := l ++ List.replicate (j' + 1) 0) (by simp [radix]) (by
              intro x hx
              rcases List.mem_append.1 hx with hx | hx
              · exact HG.out.ok x hx
              · have := List.eq_of_mem_replicate hx; subst this; simp [radix])
            have := H0.out
            omega
          have hf1 := (fibW_pos j').1
          by_cases hle : fibW j' ≤ r
          · have D := Lib.hid (HG.out.one hle)
            have hlen64 := HG.out.len
            go_wp2_with (at_builtin; go_loud (refine wpList_append_own _ rfl _ _ 22 rfl (w.heap.size + 2) 3 i0 (.int .i64 0) 1 8 Tryd.underlying22 hi hz0 hz1 hz2 rfl (by decide) _ _ _ rfl (hown.alloc _) ⟨wr.heap.size, 0, none⟩ 1 1 [.int .i64 1] rfl rfl ?c1 ?c2 ?c3 ?c4 ?c5 ?_))
            case c1 => exact cell_one_new _ _ _
            case c2 => simp [Value.oneCell']
            case c3 => simp only [maxLen]; omega
            case c4 => omega
            case c5 => simp; omega
            intro v' w' hown' hgrow _
            have HBn := Lib.hid ((HB'.out.alloc HB'.out.size _).grown hgrow (by have := HB'.out.size; simp; omega) (fun k hk => by have := hown.lt k (by rw [hk]); omega))
            have HCn := Lib.hid (show w'.heap[w.heap.size + 1]? = some (.cells C 169 (0, 0)) by
              rw [hgrow.block _ (by simp; omega) (fun e => by have := hown.lt _ e.symm; omega), Below.heap_alloc _ _ _ (by omega)]; exact HC'.out)
            clear hgrow hown
            go_wp2
            go_roundw
            case rel => exact ⟨j', _, l ++ [1], rfl, by go_num, by omega, D.out, by simpa using hown', HCn.out, HBn.out⟩
            case measure => (simp [intOf] <;> omega)
          · have hlt : r < fibW j' := by omega
            clear hle
            by_cases hl : l = []
            · have D := Lib.hid (show Greedy n j' r l by subst hl; exact HG.out.none hlt)
              have hz : (l.length : Int) ≤ 0 := by subst hl; simp
              clear hl
              go_wp2
              go_roundw
              case rel => exact ⟨j', r, l, rfl, by go_num, by omega, D.out, hown, HC'.out, HB'.out⟩
              case measure => (simp [intOf] <;> omega)
            · have D := Lib.hid (HG.out.zero hlt hl)
              have hz : (0 : Int) < (l.length : Int) := by have := List.length_pos_iff.2 hl; omega
              have hlen64 := HG.out.len
              clear hl
              go_wp2_with (at_builtin; go_loud (refine wpList_append_own _ rfl _ _ 22 rfl (w.heap.size + 2) 3 i0 (.int .i64 0) 1 8 Tryd.underlying22 hi hz0 hz1 hz2 rfl (by decide) _ _ _ rfl (hown.alloc _) ⟨wr.heap.size, 0, none⟩ 1 1 [.int .i64 0] rfl rfl ?c1 ?c2 ?c3 ?c4 ?c5 ?_))
              case c1 => exact cell_one_new _ _ _
              case c2 => simp [Value.oneCell']
              case c3 => simp only [maxLen]; omega
              case c4 => omega
              case c5 => simp; omega
              intro v' w' hown' hgrow _
              have HBn := Lib.hid ((HB'.out.alloc HB'.out.size _).grown hgrow (by have := HB'.out.size; simp; omega) (fun k hk => by have := hown.lt k (by rw [hk]); omega))
              have HCn := Lib.hid (show w'.heap[w.heap.size + 1]? = some (.cells C 169 (0, 0)) by
                rw [hgrow.block _ (by simp; omega) (fun e => by have := hown.lt _ e.symm; omega), Below.heap_alloc _ _ _ (by omega)]; exact HC'.out)
              clear hgrow hown
              go_wp2
              go_roundw
              case rel => exact ⟨j', _, l ++ [0], rfl, by go_num, by omega, D.out, by simpa using hown', HCn.out, HBn.out⟩
              case measure => (simp [intOf] <;> omega)

theorem isOf_zeroT (b : Int) : IsOf b 0 [] := ⟨by simp [okDigits], by simp [rightOf, noTwo], by simp [noLead], rfl⟩

set_option maxHeartbeats 1000000 in
set_option maxRecDepth 100000 in
theorem Of_zeroT (base : Int) (w : World) (hb2 : 2 ≤ base) (hb6 : base ≤ 6) :
    Calls Tryd.prog 88 #[.int .i64 base, .int .i64 0] w
      (RetQ (fun v w' => ∃ x l, v = .tuple #[x, .nilIface] ∧ RepT (w.heap.size ≤ ·) w' (tInts l) x ∧ IsOf base 0 l) w) := by
  have hr : radix base = base := by simp [radix]; omega
  have e0 : (base == 0) = false := by simp; omega
  have e1 : (base != 1) = true := by simp; omega
  have Hr := Lib.hid hr; clear hr
  go_enter Tryd.func88, Tryd.ntmps88
  go_wp2_with (go_at_call 83; refine (Radix_calls _ _).mono ?_; rintro e w' ⟨rfl, rfl⟩; rw [Hr.out])
  refine wp_loop_rounds 1 ?_
  rw [rounds_succ]
  go_wp2
  go_ret2
  exact RetQ.mk ⟨_, [], rfl, repNilInts _ _, isOf_zeroT base⟩ ((Below.refl _ _).alloc (Nat.le_refl _) _)

def ofErr (base n : Int) : Int := if radix base = 0 ∨ n < 0 ∨ 1099511627776 < n then 1 else 0

set_option maxHeartbeats 1000000 in
set_option maxRecDepth 100000 in
theorem Of_badT (base n : Int) (w : World) (h : radix base = 0 ∨ n < 0 ∨ 1099511627776 < n) :
    Calls Tryd.prog 88 #[.int .i64 base, .int .i64 n] w (RetS (.tuple #[.slice none 0 0, .iface 26 (.int .i64 1)]) w) := by
  by_cases h1 : radix base = 0
  · have e0 : (radix base == 0) = true := by simp [h1]
    clear h h1
    go_enter Tryd.func88, Tryd.ntmps88
    go_wp2_with (go_at_call 83; refine (Radix_calls _ _).mono ?_; rintro e w' ⟨rfl, rfl⟩)
    go_ret2
    exact RetS.mk rfl
  · have e0 : (radix base == 0) = false := by simp [h1]
    by_cases h2 : n < 0
    · clear h h1
      go_enter Tryd.func88, Tryd.ntmps88
      go_wp2_with (go_at_call 83; refine (Radix_calls _ _).mono ?_; rintro e w' ⟨rfl, rfl⟩)
      go_ret2
      exact RetS.mk rfl
    · have h3 : 1099511627776 < n := by omega
      clear h h1
      go_enter Tryd.func88, Tryd.ntmps88
      go_wp2_with (go_at_call 83; refine (Radix_calls _ _).mono ?_; rintro e w' ⟨rfl, rfl⟩)
      go_ret2
      exact RetS.mk rfl

theorem Of_goodT (base n : Int) (w : World) (h : radix base ≠ 0) (hn0 : 0 ≤ n) (hn1 : n ≤ 1099511627776) :
    Calls Tryd.prog 88 #[.int .i64 base, .int .i64 n] w
      (RetQ (fun v w' => ∃ x l, v = .tuple #[x, .nilIface] ∧ RepT (w.heap.size ≤ ·) w' (tInts l) x ∧ IsOf base n l) w) := by
  rcases radix_pos h with ⟨rfl, _⟩ | ⟨h2, h6, _⟩
  · exact Of_fibT n w hn0 hn1
  · rcases Int.lt_or_eq_of_le hn0 with h0 | h0
    · exact Of_baseT base n w h2 h6 h0 hn1
    · subst h0; exact Of_zeroT base w h2 h6
theorem Of_callsT (base n : Int) (w : World) :
    Calls Tryd.prog 88 #[.int .i64 base, .int .i64 n] w
      (RetQ (fun v w' => ∃ x l, v = .tuple #[x, errV 26 (ofErr base n)] ∧ RepT (w.heap.size ≤ ·) w' (tInts l) x ∧ (ofErr base n = 0 → IsOf base n l) ∧ (ofErr base n ≠ 0 → l = [])) w) := by
  by_cases hbad : radix base = 0 ∨ n < 0 ∨ 1099511627776 < n
  · have H : ofErr base n = 1 := by simp [ofErr, hbad]
    refine (Of_badT base n w hbad).mono ?_
    rintro e w' ⟨rfl, rfl⟩
    exact RetQ.mk ⟨_, [], by rw [H]; rfl, repNilInts _ _, fun h => by omega, fun _ => rfl⟩ (Below.refl _ _)
  · have H : ofErr base n = 0 := by simp [ofErr, hbad]
    refine (Of_goodT base n w (by omega) (by omega) (by omega)).mono ?_
    rintro e w' ⟨v, rfl, ⟨x, l, rfl, hl, hof⟩, hb⟩
    exact RetQ.mk ⟨_, l, by rw [H]; rfl, hl, fun _ => hof, fun h => absurd H h⟩ hb
open Classical in
/-- The digits of a number, nothing of what is none. -/
noncomputable def ofL (base n : Int) : List Int := if h : ofErr base n = 0 ∧ ∃ l, IsOf base n l then Classical.choose h.2 else []
theorem ofL_eq {base n : Int} {l : List Int} (h1 : ofErr base n = 0 → IsOf base n l) (h2 : ofErr base n ≠ 0 → l = []) : ofL base n = l := by
  unfold ofL
  by_cases h : ofErr base n = 0
  · have hr : radix base ≠ 0 := by
      intro hr; simp [ofErr, hr] at h
    have hx : ofErr base n = 0 ∧ ∃ l, IsOf base n l := ⟨h, l, h1 h⟩
    rw [dif_pos hx]
    exact (Classical.choose_spec hx.2).unique hr (h1 h)
  · rw [dif_neg (fun hx => h hx.1), h2 h]
section
variable {G : World → Prop}
theorem Of_snd (base n : Int) : Snd Tryd.prog G 88 [tInt base, tInt n] (.tup [tInts (ofL base n), tErr (ofErr base n)]) := by
  refine ⟨enter_of Tryd.func88 rfl rfl, fun S w vs hG hs hr => ?_⟩
  obtain ⟨l⟩ := vs
  match l, hs with
  | [v0, v1], _ =>
    obtain rfl := intInv (hr 0 _ v0 rfl rfl)
    obtain rfl := intInv (hr 1 _ v1 rfl rfl)
    refine (Of_callsT base n w).mono ?_
    rintro e w' ⟨v, rfl, ⟨x, l, rfl, hl, hof, hno⟩, hb⟩
    refine ⟨_, rfl, ?_, hb⟩
    rw [ofL_eq hof hno]
    refine .tup _ _ rfl fun k z q a b => ?_
    match k, a, b with
    | 0, a, b => cases a; cases b; exact hl.mono fun b hb => .inr hb
    | 1, a, b =>
      cases a; cases b
      unfold tErr errV
      split
      · exact .nilI
      · exact .iface _ _ _ (.int _ _)
    | k + 2, a, b => cases a
end
end Go.Proofs.YtfhncnhkeodngaaDoor
namespace Go.Proofs.YtfhncnhkeodngaaDoor

theorem greedy_end {b n : Int} (hb : radix b ≠ 0) : ∀ (j : Nat) (r : Int) (l : List Int), GreedyB b n j r l → ∃ d, IsOf b n d
  | 0, r, l, h => ⟨l, h.done⟩
  | j + 1, r, l, h => by
    by_cases hl : l = []
    · subst hl
      by_cases hr : r < W b j
      · exact greedy_end hb j r [] (h.none hr)
      · refine greedy_end hb j _ _ (h.step hb (.inr ?_))
        have hp := W_pos hb j
        have : 1 ≤ r / W b j := (Int.le_ediv_iff_mul_le (by omega)).2 (by omega)
        omega
    · exact greedy_end hb j _ _ (h.step hb (.inl hl))
theorem ofErr_zero {base n : Int} : ofErr base n = 0 ↔ radix base ≠ 0 ∧ 0 ≤ n ∧ n ≤ 1099511627776 := by
  unfold ofErr; split <;> omega
theorem ofL_is {base n : Int} (h : ofErr base n = 0) : IsOf base n (ofL base n) := by
  obtain ⟨h1, h2, h3⟩ := ofErr_zero.1 h
  obtain ⟨d, hd⟩ := greedy_end h1 58 n [] (.start h2 (by have := W_big h1 (Nat.le_refl 58); omega) (by omega))
  rw [ofL_eq (fun _ => hd) (fun h' => absurd h h')]; exact hd
/-- What is said of a number. -/
noncomputable def said (o : GOut) (n : Int) : Int := o.outs.getD (runFrom o.next 0 (ofL o.base n)).toNat 0
noncomputable def atErr (o : GOut) (n : Int) : Int := if outErr o ≠ 0 then outErr o else if n < 0 ∨ 1099511627776 < n then 1 else 0
noncomputable def atOf (o : GOut) (n : Int) : Int := if atErr o n = 0 then said o n else 0
theorem OkOut.dig {o : GOut} {k m : Nat} (g : OkOut o k m) {n : Int} (h0 : 0 ≤ n) (h1 : n ≤ 1099511627776) : ∀ x ∈ ofL o.base n, 0 ≤ x ∧ x < (k : Int) := fun x hx => by
  have hk := g.k_eq
  have := (ofL_is (ofErr_zero.2 ⟨by have := g.k2; omega, h0, h1⟩)).ok x hx
  omega
theorem OkOut.st {o : GOut} {k m : Nat} (g : OkOut o k m) {n : Int} (h0 : 0 ≤ n) (h1 : n ≤ 1099511627776) : 0 ≤ runFrom o.next 0 (ofL o.base n) ∧ runFrom o.next 0 (ofL o.base n) < (m : Int) :=
  runFrom_ok g.rows _ 0 (by have := g.m0; omega) (g.dig h0 h1)
structure OkRules (rules : List (List Int)) (code : List Int) (k m : Nat) : Prop where
  k2 : 2 ≤ k ∧ k ≤ 6
  m0 : 0 < m
  m20 : m ≤ 20
  row0 : (rules.getD 0 []).length = k
  rows : Rows0 k m rules
  zero : nextOf rules 0 0 = 0
  clen : code.length = m
  rng : ∀ x ∈ code, 0 ≤ x ∧ x ≤ 9
theorem OkRules.out {rules : List (List Int)} {code : List Int} {k m : Nat} (g : OkRules rules code k m) {outs : List Int} (hl : outs.length = m) (hr : ∀ x ∈ outs, 0 ≤ x ∧ x ≤ 9) : OkOut ⟨(k : Int), rules, outs⟩ k m :=
  ⟨by show radix k = k; have := g.k2; unfold radix; rw [if_neg (by omega), if_pos (by omega)], g.k2, g.m0, g.m20, hl, g.rows, hr⟩
theorem OkOut.err {o : GOut} {k m : Nat} (g : OkOut o k m) : outErr o = 0 := by
  have hk := g.k_eq
  have h2 := g.k2
  have hl := g.rows.len
  have ho := g.outs
  have hm := g.m0
  have hm2 := g.m20
  unfold outErr
  rw [if_neg (by omega), if_neg (by omega), if_neg (by omega), if_neg (by omega)]
  refine (outRows_zero _ _ (by omega)).2 fun j hj hk2 => rowFault_zero.2 ⟨?_, fun s hs => ?_, g.rng _ (List.getElem_mem _)⟩
  · rw [hk, g.rows.row _ (List.getElem_mem _)]
  · rw [hl]; exact g.rows.ok _ (List.getElem_mem _) s hs
theorem OkOut.at {o : GOut} {k m : Nat} (g : OkOut o k m) {n : Int} (h0 : 0 ≤ n) (h1 : n ≤ 1099511627776) : atErr o n = 0 ∧ atOf o n = said o n := by
  have h : atErr o n = 0 := by unfold atErr; rw [if_neg (by rw [g.err]; simp), if_neg (by omega)]
  exact ⟨h, by unfold atOf; rw [if_pos h]⟩
end Go.Proofs.YtfhncnhkeodngaaDoor
namespace Go.Proofs.YtfhncnhkeodngaaDoor
open Go.RowKit

def tOut (o : GOut) : T := .agg [tInt o.base, tIntss o.next, tInts o.outs]
theorem rowFault_len {k m : Int} {r : List Int} {x : Int} (h : ¬ (r.length : Int) = k) : rowFault k m r x = 2 := by unfold rowFault; rw [if_pos h]
theorem rowFault_ent {k m : Int} {r : List Int} {x : Int} (h : (r.length : Int) = k) {s : Int} (hs : s ∈ r) (hb : ¬ (0 ≤ s ∧ s < m)) : rowFault k m r x = 1 := by
  unfold rowFault
  rw [if_neg (by omega), if_pos]
  rw [Bool.eq_false_iff]; intro hc
  have := List.all_eq_true.1 hc s hs
  exact hb (by simpa using this)
theorem rowFault_out {k m : Int} {r : List Int} {x : Int} (h : (r.length : Int) = k) (hs : ∀ s ∈ r, 0 ≤ s ∧ s < m) (hx : x < 0 ∨ 9 < x) : rowFault k m r x = 1 := by
  unfold rowFault
  have h4 : r.all (fun s => decide (0 ≤ s ∧ s < m)) = true := List.all_eq_true.2 fun s hh => by simpa using hs s hh
  rw [if_neg (by omega), if_neg (by rw [h4]; decide), if_pos hx]
section
variable {G : World → Prop} (hG : Lasting G)
include hG
set_option maxHeartbeats 4000000 in
theorem WCheck_snd (o : GOut) : Snd Tryd.prog G 44 [tOut o] (tErr (outErr o)) := by
  have htb := Tab.cons (Radix_snd hG o.base) Tab.nil
  refine snd_of_body (n := 82) (tm := [(0, .t (tOut o))]) (rs := [.tmp 2]) tt_ok Tryd.func44 rfl rfl rfl rfl rfl ?_
  unfold outErr
  generalize hmo : radix o.base = mo at *
  by_cases h0 : mo = 0
  · subst h0
    repeat' (first | (with_reducible first | refine SW_seq ?_ | refine SW_block ?_ | refine SThen_n ?_ | refine SThen_r ?_ | refine SThen_e ?_ | refine SIn_n ?_ | refine SIn_r ?_ | refine SIn_eq ?_ | refine SW_skip ?_ | refine SW_exit ?_ | refine SW_ret ?_ | refine SPost_r ?_) | ((with_reducible refine SIn_ne ?_ ?_); focus decide) | ((with_reducible refine SW_true ?_ ?_); focus exact rfl) | ((with_reducible refine SW_false ?_ ?_); focus exact rfl) | ((first | (with_reducible apply SW_run tt_ok hG htb) | ((with_reducible apply SW_draw rfl tt_ok hG htb); (focus kernel_rfl); (focus (simp only [List.range, List.range.loop, List.size_toArray, List.length_cons, List.length_nil, Nat.reduceAdd])))); focus ((repeat' (first | (with_reducible exact runX_nil) | (with_reducible exact runI_nil) | ((first | (with_reducible apply runX_cons) | (with_reducible apply runI_cons)); focus (simp (discharger := omega) only [go_sem, tOut, tErr, ↓reduceIte, reduceIte, Nat.reduceEqDiff, Nat.reduceLT, Nat.reduceLeDiff, Nat.reduceAdd, Nat.reduceSub, Nat.reduceMul, Nat.reduceDiv, Nat.reduceMod, Nat.reduceBEq, Int.reduceEq, Int.reduceLT, Int.reduceLE, Int.reduceNeg, Int.reduceToNat, reduceCtorEq]; with_reducible rfl)))); done)))
    exact (by simp (discharger := omega) only [go_sem, tErr, ↓reduceIte, reduceIte, Nat.reduceEqDiff, Nat.reduceLT, Nat.reduceLeDiff, Nat.reduceAdd, Nat.reduceSub, Nat.reduceMul, Nat.reduceDiv, Nat.reduceMod, Nat.reduceBEq, Int.reduceEq, Int.reduceLT, Int.reduceLE, Int.reduceNeg, Int.reduceToNat, reduceCtorEq])
  · obtain ⟨r2, r6⟩ := radix_two (b := o.base) (by omega)
    rw [hmo] at r2 r6
    by_cases h1 : o.next.length = 0
    · repeat' (first | (with_reducible first | refine SW_seq ?_ | refine SW_block ?_ | refine SThen_n ?_ | refine SThen_r ?_ | refine SThen_e ?_ | refine SIn_n ?_ | refine SIn_r ?_ | refine SIn_eq ?_ | refine SW_skip ?_ | refine SW_exit ?_ | refine SW_ret ?_ | refine SPost_r ?_) | ((with_reducible refine SIn_ne ?_ ?_); focus decide) | ((with_reducible refine SW_true ?_ ?_); focus exact rfl) | ((with_reducible refine SW_false ?_ ?_); focus exact rfl) | ((first | (with_reducible apply SW_run tt_ok hG htb) | ((with_reducible apply SW_draw rfl tt_ok hG htb); (focus kernel_rfl); (focus (simp only [List.range, List.range.loop, List.size_toArray, List.length_cons, List.length_nil, Nat.reduceAdd])))); focus ((repeat' (first | (with_reducible exact runX_nil) | (with_reducible exact runI_nil) | ((first | (with_reducible apply runX_cons) | (with_reducible apply runI_cons)); focus (simp (discharger := omega) only [go_sem, tOut, tErr, ↓reduceIte, reduceIte, Nat.reduceEqDiff, Nat.reduceLT, Nat.reduceLeDiff, Nat.reduceAdd, Nat.reduceSub, Nat.reduceMul, Nat.reduceDiv, Nat.reduceMod, Nat.reduceBEq, Int.reduceEq, Int.reduceLT, Int.reduceLE, Int.reduceNeg, Int.reduceToNat, reduceCtorEq]; with_reducible rfl)))); done)))
      exact (by simp (discharger := omega) only [go_sem, tErr, ↓reduceIte, reduceIte, Nat.reduceEqDiff, Nat.reduceLT, Nat.reduceLeDiff, Nat.reduceAdd, Nat.reduceSub, Nat.reduceMul, Nat.reduceDiv, Nat.reduceMod, Nat.reduceBEq, Int.reduceEq, Int.reduceLT, Int.reduceLE, Int.reduceNeg, Int.reduceToNat, reduceCtorEq])
    · by_cases h2 : 20 < o.next.length
      · repeat' (first | (with_reducible first | refine SW_seq ?_ | refine SW_block ?_ | refine SThen_n ?_ | refine SThen_r ?_ | refine SThen_e ?_ | refine SIn_n ?_ | refine SIn_r ?_ | refine SIn_eq ?_ | refine SW_skip ?_ | refine SW_exit ?_ | refine SW_ret ?_ | refine SPost_r ?_) | ((with_reducible refine SIn_ne ?_ ?_); focus decide) | ((with_reducible refine SW_true ?_ ?_); focus exact rfl) | ((with_reducible refine SW_false ?_ ?_); focus exact rfl) | ((first | (with_reducible apply SW_run tt_ok hG htb) | ((with_reducible apply SW_draw rfl tt_ok hG htb); (focus kernel_rfl); (focus (simp only [List.range, List.range.loop, List.size_toArray, List.length_cons, List.length_nil, Nat.reduceAdd])))); focus ((repeat' (first | (with_reducible exact runX_nil) | (with_reducible exact runI_nil) | ((first | (with_reducible apply runX_cons) | (with_reducible apply runI_cons)); focus (simp (discharger := omega) only [go_sem, tOut, tErr, ↓reduceIte, reduceIte, Nat.reduceEqDiff, Nat.reduceLT, Nat.reduceLeDiff, Nat.reduceAdd, Nat.reduceSub, Nat.reduceMul, Nat.reduceDiv, Nat.reduceMod, Nat.reduceBEq, Int.reduceEq, Int.reduceLT, Int.reduceLE, Int.reduceNeg, Int.reduceToNat, reduceCtorEq]; with_reducible rfl)))); done)))
        exact (by simp (discharger := omega) only [go_sem, tErr, ↓reduceIte, reduceIte, Nat.reduceEqDiff, Nat.reduceLT, Nat.reduceLeDiff, Nat.reduceAdd, Nat.reduceSub, Nat.reduceMul, Nat.reduceDiv, Nat.reduceMod, Nat.reduceBEq, Int.reduceEq, Int.reduceLT, Int.reduceLE, Int.reduceNeg, Int.reduceToNat, reduceCtorEq])
      · by_cases h3 : o.outs.length = o.next.length
        · rw [if_neg h0, if_neg h1, if_neg h2, if_neg (by omega)]
          repeat' (first | (with_reducible first | refine SW_seq ?_ | refine SW_block ?_ | refine SThen_n ?_ | refine SThen_r ?_ | refine SThen_e ?_ | refine SIn_n ?_ | refine SIn_r ?_ | refine SIn_eq ?_ | refine SW_skip ?_ | refine SW_exit ?_ | refine SW_ret ?_ | refine SPost_r ?_) | ((with_reducible refine SIn_ne ?_ ?_); focus decide) | ((with_reducible refine SW_true ?_ ?_); focus exact rfl) | ((with_reducible refine SW_false ?_ ?_); focus exact rfl) | ((first | (with_reducible apply SW_run tt_ok hG htb) | ((with_reducible apply SW_draw rfl tt_ok hG htb); (focus kernel_rfl); (focus (simp only [List.range, List.range.loop, List.size_toArray, List.length_cons, List.length_nil, Nat.reduceAdd])))); focus ((repeat' (first | (with_reducible exact runX_nil) | (with_reducible exact runI_nil) | ((first | (with_reducible apply runX_cons) | (with_reducible apply runI_cons)); focus (simp (discharger := omega) only [go_sem, tOut, tErr, h3, ↓reduceIte, reduceIte, Nat.reduceEqDiff, Nat.reduceLT, Nat.reduceLeDiff, Nat.reduceAdd, Nat.reduceSub, Nat.reduceMul, Nat.reduceDiv, Nat.reduceMod, Nat.reduceBEq, Int.reduceEq, Int.reduceLT, Int.reduceLE, Int.reduceNeg, Int.reduceToNat, reduceCtorEq]; with_reducible rfl)))); done)))
          refine SW_loop (fun m s => ∃ i : Nat, m = o.next.length - i ∧ s = ⟨82, [(1, .bptr 0 0), (3, .t (tInt mo)), (37, .t (tIntss o.next)), (38, .t (tInt o.next.length)), (39, .t (tInt i))], [.box [.t (tInt o.base), .t (tIntss o.next), .t (tInts o.outs)]]⟩ ∧ i ≤ o.next.length ∧ ∀ j (hj : j < o.next.length) (hk : j < o.outs.length), j < i → rowFault mo o.next.length o.next[j] o.outs[j] = 0) o.next.length
            ⟨_, Norm.headS (own := []) (keep := [1, 3, 37, 38, 39]) (by simp (discharger := omega) only [go_sem, ↓reduceIte, reduceIte, Nat.reduceEqDiff, Nat.reduceLT, Nat.reduceLeDiff, Nat.reduceAdd, Nat.reduceSub, Nat.reduceMul, Nat.reduceDiv, Nat.reduceMod, Nat.reduceBEq, Int.reduceEq, Int.reduceLT, Int.reduceLE, Int.reduceNeg, Int.reduceToNat, reduceCtorEq]; with_reducible rfl) (by simp only [go_sem, ↓reduceIte, reduceIte, Nat.reduceEqDiff, Nat.reduceLT, Nat.reduceLeDiff, Nat.reduceAdd, Nat.reduceSub, Nat.reduceMul, Nat.reduceDiv, Nat.reduceMod, Nat.reduceBEq, Int.reduceEq, Int.reduceLT, Int.reduceLE, Int.reduceNeg, Int.reduceToNat, reduceCtorEq]; with_reducible rfl) (by simp only [go_sem, ↓reduceIte, reduceIte, Nat.reduceEqDiff, Nat.reduceLT, Nat.reduceLeDiff, Nat.reduceAdd, Nat.reduceSub, Nat.reduceMul, Nat.reduceDiv, Nat.reduceMod, Nat.reduceBEq, Int.reduceEq, Int.reduceLT, Int.reduceLE, Int.reduceNeg, Int.reduceToNat, reduceCtorEq]; with_reducible rfl) (by simp only [go_sem, ↓reduceIte, reduceIte, Nat.reduceEqDiff, Nat.reduceLT, Nat.reduceLeDiff, Nat.reduceAdd, Nat.reduceSub, Nat.reduceMul, Nat.reduceDiv, Nat.reduceMod, Nat.reduceBEq, Int.reduceEq, Int.reduceLT, Int.reduceLE, Int.reduceNeg, Int.reduceToNat, reduceCtorEq]; with_reducible rfl) (by simp only [go_sem, ↓reduceIte, reduceIte, Nat.reduceEqDiff, Nat.reduceLT, Nat.reduceLeDiff, Nat.reduceAdd, Nat.reduceSub, Nat.reduceMul, Nat.reduceDiv, Nat.reduceMod, Nat.reduceBEq, Int.reduceEq, Int.reduceLT, Int.reduceLE, Int.reduceNeg, Int.reduceToNat, reduceCtorEq]; with_reducible rfl), 0, rfl, rfl, Nat.zero_le _, fun j hj hk h => by omega⟩ ?_
          rintro m s ⟨i, rfl, rfl, hi, hA⟩
          by_cases hlt : i < o.next.length
          · obtain ⟨row, hrow⟩ : ∃ row, o.next[i]! = row := ⟨_, rfl⟩
            obtain ⟨x, hx⟩ : ∃ x, o.outs[i]! = x := ⟨_, rfl⟩
            have hat := bang_at hrow hlt
            have hax := bang_at hx (by omega)
            have hbad := outRows_at (k := mo) (m := o.next.length) o.next o.outs i hlt (by omega) hA
            rw [hat, hax] at hbad
            by_cases hrl : (row.length : Int) = mo
            · repeat' (first | (with_reducible first | refine SW_seq ?_ | refine SW_block ?_ | refine SThen_n ?_ | refine SThen_r ?_ | refine SThen_e ?_ | refine SIn_n ?_ | refine SIn_r ?_ | refine SIn_eq ?_ | refine SW_skip ?_ | refine SW_exit ?_ | refine SW_ret ?_ | refine SPost_r ?_) | ((with_reducible refine SIn_ne ?_ ?_); focus decide) | ((with_reducible refine SW_true ?_ ?_); focus exact rfl) | ((with_reducible refine SW_false ?_ ?_); focus exact rfl) | ((first | (with_reducible apply SW_run tt_ok hG htb) | ((with_reducible apply SW_draw rfl tt_ok hG htb); (focus kernel_rfl); (focus (simp only [List.range, List.range.loop, List.size_toArray, List.length_cons, List.length_nil, Nat.reduceAdd])))); focus ((repeat' (first | (with_reducible exact runX_nil) | (with_reducible exact runI_nil) | ((first | (with_reducible apply runX_cons) | (with_reducible apply runI_cons)); focus (simp (discharger := omega) only [go_sem, hrow, ↓reduceIte, reduceIte, Nat.reduceEqDiff, Nat.reduceLT, Nat.reduceLeDiff, Nat.reduceAdd, Nat.reduceSub, Nat.reduceMul, Nat.reduceDiv, Nat.reduceMod, Nat.reduceBEq, Int.reduceEq, Int.reduceLT, Int.reduceLE, Int.reduceNeg, Int.reduceToNat, reduceCtorEq]; with_reducible rfl)))); done)))
              refine SW_loop (fun m s => ∃ l : Nat, m = row.length - l ∧ s = ⟨82, [(1, .bptr 0 0), (3, .t (tInt mo)), (4, .t (tInt i)), (37, .t (tIntss o.next)), (38, .t (tInt o.next.length)), (39, .t (tInt i)), (49, .t (tInts row)), (50, .t (tInt row.length)), (51, .t (tInt l))], [.box [.t (tInt o.base), .t (tIntss o.next), .t (tInts o.outs)]]⟩ ∧ l ≤ row.length ∧ ∀ x ∈ row.take l, 0 ≤ x ∧ x < (o.next.length : Int)) row.length
                ⟨_, Norm.headS (own := []) (keep := [1, 3, 4, 37, 38, 39, 49, 50, 51]) (by simp (discharger := omega) only [go_sem, ↓reduceIte, reduceIte, Nat.reduceEqDiff, Nat.reduceLT, Nat.reduceLeDiff, Nat.reduceAdd, Nat.reduceSub, Nat.reduceMul, Nat.reduceDiv, Nat.reduceMod, Nat.reduceBEq, Int.reduceEq, Int.reduceLT, Int.reduceLE, Int.reduceNeg, Int.reduceToNat, reduceCtorEq]; with_reducible rfl) (by simp only [go_sem, ↓reduceIte, reduceIte, Nat.reduceEqDiff, Nat.reduceLT, Nat.reduceLeDiff, Nat.reduceAdd, Nat.reduceSub, Nat.reduceMul, Nat.reduceDiv, Nat.reduceMod, Nat.reduceBEq, Int.reduceEq, Int.reduceLT, Int.reduceLE, Int.reduceNeg, Int.reduceToNat, reduceCtorEq]; with_reducible rfl) (by simp only [go_sem, ↓reduceIte, reduceIte, Nat.reduceEqDiff, Nat.reduceLT, Nat.reduceLeDiff, Nat.reduceAdd, Nat.reduceSub, Nat.reduceMul, Nat.reduceDiv, Nat.reduceMod, Nat.reduceBEq, Int.reduceEq, Int.reduceLT, Int.reduceLE, Int.reduceNeg, Int.reduceToNat, reduceCtorEq]; with_reducible rfl) (by simp only [go_sem, ↓reduceIte, reduceIte, Nat.reduceEqDiff, Nat.reduceLT, Nat.reduceLeDiff, Nat.reduceAdd, Nat.reduceSub, Nat.reduceMul, Nat.reduceDiv, Nat.reduceMod, Nat.reduceBEq, Int.reduceEq, Int.reduceLT, Int.reduceLE, Int.reduceNeg, Int.reduceToNat, reduceCtorEq]; with_reducible rfl) (by simp only [go_sem, ↓reduceIte, reduceIte, Nat.reduceEqDiff, Nat.reduceLT, Nat.reduceLeDiff, Nat.reduceAdd, Nat.reduceSub, Nat.reduceMul, Nat.reduceDiv, Nat.reduceMod, Nat.reduceBEq, Int.reduceEq, Int.reduceLT, Int.reduceLE, Int.reduceNeg, Int.reduceToNat, reduceCtorEq]; with_reducible rfl), 0, rfl, rfl, Nat.zero_le _, fun x hx => by simp at hx⟩ ?_
              rintro m s ⟨l, rfl, rfl, hl, hB⟩
              by_cases hlt2 : l < row.length
              · obtain ⟨y, hy⟩ : ∃ y, row[l]! = y := ⟨_, rfl⟩
                have htk := take_next hy hlt2
                have hym := bang_mem hy hlt2
                by_cases hy0 : 0 ≤ y
                · by_cases hym2 : y < (o.next.length : Int)
                  · repeat' (first | (with_reducible first | refine SW_seq ?_ | refine SW_block ?_ | refine SThen_n ?_ | refine SThen_r ?_ | refine SThen_e ?_ | refine SIn_n ?_ | refine SIn_r ?_ | refine SIn_eq ?_ | refine SW_skip ?_ | refine SW_exit ?_ | refine SW_ret ?_ | refine SPost_r ?_) | ((with_reducible refine SIn_ne ?_ ?_); focus decide) | ((with_reducible refine SW_true ?_ ?_); focus exact rfl) | ((with_reducible refine SW_false ?_ ?_); focus exact rfl) | ((first | (with_reducible apply SW_run tt_ok hG htb) | ((with_reducible apply SW_draw rfl tt_ok hG htb); (focus kernel_rfl); (focus (simp only [List.range, List.range.loop, List.size_toArray, List.length_cons, List.length_nil, Nat.reduceAdd])))); focus ((repeat' (first | (with_reducible exact runX_nil) | (with_reducible exact runI_nil) | ((first | (with_reducible apply runX_cons) | (with_reducible apply runI_cons)); focus (simp (discharger := omega) only [go_sem, hy, ↓reduceIte, reduceIte, Nat.reduceEqDiff, Nat.reduceLT, Nat.reduceLeDiff, Nat.reduceAdd, Nat.reduceSub, Nat.reduceMul, Nat.reduceDiv, Nat.reduceMod, Nat.reduceBEq, Int.reduceEq, Int.reduceLT, Int.reduceLE, Int.reduceNeg, Int.reduceToNat, reduceCtorEq]; with_reducible rfl)))); done)))
                    exact ⟨row.length - (l + 1), _, by omega, Norm.headS (own := []) (keep := [1, 3, 4, 37, 38, 39, 49, 50, 51]) (by simp (discharger := omega) only [go_sem, ↓reduceIte, reduceIte, Nat.reduceEqDiff, Nat.reduceLT, Nat.reduceLeDiff, Nat.reduceAdd, Nat.reduceSub, Nat.reduceMul, Nat.reduceDiv, Nat.reduceMod, Nat.reduceBEq, Int.reduceEq, Int.reduceLT, Int.reduceLE, Int.reduceNeg, Int.reduceToNat, reduceCtorEq]; with_reducible rfl) (by simp only [go_sem, ↓reduceIte, reduceIte, Nat.reduceEqDiff, Nat.reduceLT, Nat.reduceLeDiff, Nat.reduceAdd, Nat.reduceSub, Nat.reduceMul, Nat.reduceDiv, Nat.reduceMod, Nat.reduceBEq, Int.reduceEq, Int.reduceLT, Int.reduceLE, Int.reduceNeg, Int.reduceToNat, reduceCtorEq]; with_reducible rfl) (by simp only [go_sem, ↓reduceIte, reduceIte, Nat.reduceEqDiff, Nat.reduceLT, Nat.reduceLeDiff, Nat.reduceAdd, Nat.reduceSub, Nat.reduceMul, Nat.reduceDiv, Nat.reduceMod, Nat.reduceBEq, Int.reduceEq, Int.reduceLT, Int.reduceLE, Int.reduceNeg, Int.reduceToNat, reduceCtorEq]; with_reducible rfl) (by simp only [go_sem, ↓reduceIte, reduceIte, Nat.reduceEqDiff, Nat.reduceLT, Nat.reduceLeDiff, Nat.reduceAdd, Nat.reduceSub, Nat.reduceMul, Nat.reduceDiv, Nat.reduceMod, Nat.reduceBEq, Int.reduceEq, Int.reduceLT, Int.reduceLE, Int.reduceNeg, Int.reduceToNat, reduceCtorEq]; with_reducible rfl) (by simp only [go_sem, ↓reduceIte, reduceIte, Nat.reduceEqDiff, Nat.reduceLT, Nat.reduceLeDiff, Nat.reduceAdd, Nat.reduceSub, Nat.reduceMul, Nat.reduceDiv, Nat.reduceMod, Nat.reduceBEq, Int.reduceEq, Int.reduceLT, Int.reduceLE, Int.reduceNeg, Int.reduceToNat, reduceCtorEq]; with_reducible rfl), l + 1, rfl, rfl, by omega, fun z hz => by
                      rw [htk] at hz
                      rcases List.mem_append.1 hz with h | h
                      · exact hB z h
                      · simp at h; subst h; exact ⟨hy0, hym2⟩⟩
                  · have e := rowFault_ent (x := x) hrl hym (m := o.next.length) (by omega)
                    rw [hbad (by rw [e]; decide), e]
                    repeat' (first | (with_reducible first | refine SW_seq ?_ | refine SW_block ?_ | refine SThen_n ?_ | refine SThen_r ?_ | refine SThen_e ?_ | refine SIn_n ?_ | refine SIn_r ?_ | refine SIn_eq ?_ | refine SW_skip ?_ | refine SW_exit ?_ | refine SW_ret ?_ | refine SPost_r ?_) | ((with_reducible refine SIn_ne ?_ ?_); focus decide) | ((with_reducible refine SW_true ?_ ?_); focus exact rfl) | ((with_reducible refine SW_false ?_ ?_); focus exact rfl) | ((first | (with_reducible apply SW_run tt_ok hG htb) | ((with_reducible apply SW_draw rfl tt_ok hG htb); (focus kernel_rfl); (focus (simp only [List.range, List.range.loop, List.size_toArray, List.length_cons, List.length_nil, Nat.reduceAdd])))); focus ((repeat' (first | (with_reducible exact runX_nil) | (with_reducible exact runI_nil) | ((first | (with_reducible apply runX_cons) | (with_reducible apply runI_cons)); focus (simp (discharger := omega) only [go_sem, hy, ↓reduceIte, reduceIte, Nat.reduceEqDiff, Nat.reduceLT, Nat.reduceLeDiff, Nat.reduceAdd, Nat.reduceSub, Nat.reduceMul, Nat.reduceDiv, Nat.reduceMod, Nat.reduceBEq, Int.reduceEq, Int.reduceLT, Int.reduceLE, Int.reduceNeg, Int.reduceToNat, reduceCtorEq]; with_reducible rfl)))); done)))
                    exact (by simp (discharger := omega) only [go_sem, tErr, ↓reduceIte, reduceIte, Nat.reduceEqDiff, Nat.reduceLT, Nat.reduceLeDiff, Nat.reduceAdd, Nat.reduceSub, Nat.reduceMul, Nat.reduceDiv, Nat.reduceMod, Nat.reduceBEq, Int.reduceEq, Int.reduceLT, Int.reduceLE, Int.reduceNeg, Int.reduceToNat, reduceCtorEq])
                · have e := rowFault_ent (x := x) hrl hym (m := o.next.length) (by omega)
                  rw [hbad (by rw [e]; decide), e]
                  repeat' (first | (with_reducible first | refine SW_seq ?_ | refine SW_block ?_ | refine SThen_n ?_ | refine SThen_r ?_ | refine SThen_e ?_ | refine SIn_n ?_ | refine SIn_r ?_ | refine SIn_eq ?_ | refine SW_skip ?_ | refine SW_exit ?_ | refine SW_ret ?_ | refine SPost_r ?_) | ((with_reducible refine SIn_ne ?_ ?_); focus decide) | ((with_reducible refine SW_true ?_ ?_); focus exact rfl) | ((with_reducible refine SW_false ?_ ?_); focus exact rfl) | ((first | (with_reducible apply SW_run tt_ok hG htb) | ((with_reducible apply SW_draw rfl tt_ok hG htb); (focus kernel_rfl); (focus (simp only [List.range, List.range.loop, List.size_toArray, List.length_cons, List.length_nil, Nat.reduceAdd])))); focus ((repeat' (first | (with_reducible exact runX_nil) | (with_reducible exact runI_nil) | ((first | (with_reducible apply runX_cons) | (with_reducible apply runI_cons)); focus (simp (discharger := omega) only [go_sem, hy, ↓reduceIte, reduceIte, Nat.reduceEqDiff, Nat.reduceLT, Nat.reduceLeDiff, Nat.reduceAdd, Nat.reduceSub, Nat.reduceMul, Nat.reduceDiv, Nat.reduceMod, Nat.reduceBEq, Int.reduceEq, Int.reduceLT, Int.reduceLE, Int.reduceNeg, Int.reduceToNat, reduceCtorEq]; with_reducible rfl)))); done)))
                  exact (by simp (discharger := omega) only [go_sem, tErr, ↓reduceIte, reduceIte, Nat.reduceEqDiff, Nat.reduceLT, Nat.reduceLeDiff, Nat.reduceAdd, Nat.reduceSub, Nat.reduceMul, Nat.reduceDiv, Nat.reduceMod, Nat.reduceBEq, Int.reduceEq, Int.reduceLT, Int.reduceLE, Int.reduceNeg, Int.reduceToNat, reduceCtorEq])
              · obtain rfl : l = row.length := by omega
                rw [List.take_length] at hB
                by_cases hx0 : x < 0
                · have e := rowFault_out (x := x) hrl hB (.inl hx0)
                  rw [hbad (by rw [e]; decide), e]
                  repeat' (first | (with_reducible first | refine SW_seq ?_ | refine SW_block ?_ | refine SThen_n ?_ | refine SThen_r ?_ | refine SThen_e ?_ | refine SIn_n ?_ | refine SIn_r ?_ | refine SIn_eq ?_ | refine SW_skip ?_ | refine SW_exit ?_ | refine SW_ret ?_ | refine SPost_r ?_) | ((with_reducible refine SIn_ne ?_ ?_); focus decide) | ((with_reducible refine SW_true ?_ ?_); focus exact rfl) | ((with_reducible refine SW_false ?_ ?_); focus exact rfl) | ((first | (with_reducible apply SW_run tt_ok hG htb) | ((with_reducible apply SW_draw rfl tt_ok hG htb); (focus kernel_rfl); (focus (simp only [List.range, List.range.loop, List.size_toArray, List.length_cons, List.length_nil, Nat.reduceAdd])))); focus ((repeat' (first | (with_reducible exact runX_nil) | (with_reducible exact runI_nil) | ((first | (with_reducible apply runX_cons) | (with_reducible apply runI_cons)); focus (simp (discharger := omega) only [go_sem, hx, ↓reduceIte, reduceIte, Nat.reduceEqDiff, Nat.reduceLT, Nat.reduceLeDiff, Nat.reduceAdd, Nat.reduceSub, Nat.reduceMul, Nat.reduceDiv, Nat.reduceMod, Nat.reduceBEq, Int.reduceEq, Int.reduceLT, Int.reduceLE, Int.reduceNeg, Int.reduceToNat, reduceCtorEq]; with_reducible rfl)))); done)))
                  exact (by simp (discharger := omega) only [go_sem, tErr, ↓reduceIte, reduceIte, Nat.reduceEqDiff, Nat.reduceLT, Nat.reduceLeDiff, Nat.reduceAdd, Nat.reduceSub, Nat.reduceMul, Nat.reduceDiv, Nat.reduceMod, Nat.reduceBEq, Int.reduceEq, Int.reduceLT, Int.reduceLE, Int.reduceNeg, Int.reduceToNat, reduceCtorEq])
                · by_cases hx9 : 9 < x
                  · have e := rowFault_out (x := x) hrl hB (.inr hx9)
                    rw [hbad (by rw [e]; decide), e]
                    repeat' (first | (with_reducible first | refine SW_seq ?_ | refine SW_block ?_ | refine SThen_n ?_ | refine SThen_r ?_ | refine SThen_e ?_ | refine SIn_n ?_ | refine SIn_r ?_ | refine SIn_eq ?_ | refine SW_skip ?_ | refine SW_exit ?_ | refine SW_ret ?_ | refine SPost_r ?_) | ((with_reducible refine SIn_ne ?_ ?_); focus decide) | ((with_reducible refine SW_true ?_ ?_); focus exact rfl) | ((with_reducible refine SW_false ?_ ?_); focus exact rfl) | ((first | (with_reducible apply SW_run tt_ok hG htb) | ((with_reducible apply SW_draw rfl tt_ok hG htb); (focus kernel_rfl); (focus (simp only [List.range, List.range.loop, List.size_toArray, List.length_cons, List.length_nil, Nat.reduceAdd])))); focus ((repeat' (first | (with_reducible exact runX_nil) | (with_reducible exact runI_nil) | ((first | (with_reducible apply runX_cons) | (with_reducible apply runI_cons)); focus (simp (discharger := omega) only [go_sem, hx, ↓reduceIte, reduceIte, Nat.reduceEqDiff, Nat.reduceLT, Nat.reduceLeDiff, Nat.reduceAdd, Nat.reduceSub, Nat.reduceMul, Nat.reduceDiv, Nat.reduceMod, Nat.reduceBEq, Int.reduceEq, Int.reduceLT, Int.reduceLE, Int.reduceNeg, Int.reduceToNat, reduceCtorEq]; with_reducible rfl)))); done)))
                    exact (by simp (discharger := omega) only [go_sem, tErr, ↓reduceIte, reduceIte, Nat.reduceEqDiff, Nat.reduceLT, Nat.reduceLeDiff, Nat.reduceAdd, Nat.reduceSub, Nat.reduceMul, Nat.reduceDiv, Nat.reduceMod, Nat.reduceBEq, Int.reduceEq, Int.reduceLT, Int.reduceLE, Int.reduceNeg, Int.reduceToNat, reduceCtorEq])
                  · repeat' (first | (with_reducible first | refine SW_seq ?_ | refine SW_block ?_ | refine SThen_n ?_ | refine SThen_r ?_ | refine SThen_e ?_ | refine SIn_n ?_ | refine SIn_r ?_ | refine SIn_eq ?_ | refine SW_skip ?_ | refine SW_exit ?_ | refine SW_ret ?_ | refine SPost_r ?_) | ((with_reducible refine SIn_ne ?_ ?_); focus decide) | ((with_reducible refine SW_true ?_ ?_); focus exact rfl) | ((with_reducible refine SW_false ?_ ?_); focus exact rfl) | ((first | (with_reducible apply SW_run tt_ok hG htb) | ((with_reducible apply SW_draw rfl tt_ok hG htb); (focus kernel_rfl); (focus (simp only [List.range, List.range.loop, List.size_toArray, List.length_cons, List.length_nil, Nat.reduceAdd])))); focus ((repeat' (first | (with_reducible exact runX_nil) | (with_reducible exact runI_nil) | ((first | (with_reducible apply runX_cons) | (with_reducible apply runI_cons)); focus (simp (discharger := omega) only [go_sem, hx, ↓reduceIte, reduceIte, Nat.reduceEqDiff, Nat.reduceLT, Nat.reduceLeDiff, Nat.reduceAdd, Nat.reduceSub, Nat.reduceMul, Nat.reduceDiv, Nat.reduceMod, Nat.reduceBEq, Int.reduceEq, Int.reduceLT, Int.reduceLE, Int.reduceNeg, Int.reduceToNat, reduceCtorEq]; with_reducible rfl)))); done)))
                    exact ⟨o.next.length - (i + 1), _, by omega, Norm.headS (own := []) (keep := [1, 3, 37, 38, 39]) (by simp (discharger := omega) only [go_sem, ↓reduceIte, reduceIte, Nat.reduceEqDiff, Nat.reduceLT, Nat.reduceLeDiff, Nat.reduceAdd, Nat.reduceSub, Nat.reduceMul, Nat.reduceDiv, Nat.reduceMod, Nat.reduceBEq, Int.reduceEq, Int.reduceLT, Int.reduceLE, Int.reduceNeg, Int.reduceToNat, reduceCtorEq]; with_reducible rfl) (by simp only [go_sem, ↓reduceIte, reduceIte, Nat.reduceEqDiff, Nat.reduceLT, Nat.reduceLeDiff, Nat.reduceAdd, Nat.reduceSub, Nat.reduceMul, Nat.reduceDiv, Nat.reduceMod, Nat.reduceBEq, Int.reduceEq, Int.reduceLT, Int.reduceLE, Int.reduceNeg, Int.reduceToNat, reduceCtorEq]; with_reducible rfl) (by simp only [go_sem, ↓reduceIte, reduceIte, Nat.reduceEqDiff, Nat.reduceLT, Nat.reduceLeDiff, Nat.reduceAdd, Nat.reduceSub, Nat.reduceMul, Nat.reduceDiv, Nat.reduceMod, Nat.reduceBEq, Int.reduceEq, Int.reduceLT, Int.reduceLE, Int.reduceNeg, Int.reduceToNat, reduceCtorEq]; with_reducible rfl) (by simp only [go_sem, ↓reduceIte, reduceIte, Nat.reduceEqDiff, Nat.reduceLT, Nat.reduceLeDiff, Nat.reduceAdd, Nat.reduceSub, Nat.reduceMul, Nat.reduceDiv, Nat.reduceMod, Nat.reduceBEq, Int.reduceEq, Int.reduceLT, Int.reduceLE, Int.reduceNeg, Int.reduceToNat, reduceCtorEq]; with_reducible rfl) (by simp only [go_sem, ↓reduceIte, reduceIte, Nat.reduceEqDiff, Nat.reduceLT, Nat.reduceLeDiff, Nat.reduceAdd, Nat.reduceSub, Nat.reduceMul, Nat.reduceDiv, Nat.reduceMod, Nat.reduceBEq, Int.reduceEq, Int.reduceLT, Int.reduceLE, Int.reduceNeg, Int.reduceToNat, reduceCtorEq]; with_reducible rfl), i + 1, rfl, rfl, by omega, fun j hj hk h => by
                      by_cases e : j = i
                      · subst e; rw [hat, hax]; exact rowFault_zero.2 ⟨hrl, hB, by omega⟩
                      · exact hA j hj hk (by omega)⟩
            · have e := rowFault_len (m := (o.next.length : Int)) (x := x) hrl
              rw [hbad (by rw [e]; decide), e]
              repeat' (first | (with_reducible first | refine SW_seq ?_ | refine SW_block ?_ | refine SThen_n ?_ | refine SThen_r ?_ | refine SThen_e ?_ | refine SIn_n ?_ | refine SIn_r ?_ | refine SIn_eq ?_ | refine SW_skip ?_ | refine SW_exit ?_ | refine SW_ret ?_ | refine SPost_r ?_) | ((with_reducible refine SIn_ne ?_ ?_); focus decide) | ((with_reducible refine SW_true ?_ ?_); focus exact rfl) | ((with_reducible refine SW_false ?_ ?_); focus exact rfl) | ((first | (with_reducible apply SW_run tt_ok hG htb) | ((with_reducible apply SW_draw rfl tt_ok hG htb); (focus kernel_rfl); (focus (simp only [List.range, List.range.loop, List.size_toArray, List.length_cons, List.length_nil, Nat.reduceAdd])))); focus ((repeat' (first | (with_reducible exact runX_nil) | (with_reducible exact runI_nil) | ((first | (with_reducible apply runX_cons) | (with_reducible apply runI_cons)); focus (simp (discharger := omega) only [go_sem, hrow, ↓reduceIte, reduceIte, Nat.reduceEqDiff, Nat.reduceLT, Nat.reduceLeDiff, Nat.reduceAdd, Nat.reduceSub, Nat.reduceMul, Nat.reduceDiv, Nat.reduceMod, Nat.reduceBEq, Int.reduceEq, Int.reduceLT, Int.reduceLE, Int.reduceNeg, Int.reduceToNat, reduceCtorEq]; with_reducible rfl)))); done)))
              exact (by simp (discharger := omega) only [go_sem, tErr, ↓reduceIte, reduceIte, Nat.reduceEqDiff, Nat.reduceLT, Nat.reduceLeDiff, Nat.reduceAdd, Nat.reduceSub, Nat.reduceMul, Nat.reduceDiv, Nat.reduceMod, Nat.reduceBEq, Int.reduceEq, Int.reduceLT, Int.reduceLE, Int.reduceNeg, Int.reduceToNat, reduceCtorEq])
          · obtain rfl : i = o.next.length := by omega
            rw [(outRows_zero _ _ h3).2 fun j hj hk => hA j hj hk hj]
            repeat' (first | (with_reducible first | refine SW_seq ?_ | refine SW_block ?_ | refine SThen_n ?_ | refine SThen_r ?_ | refine SThen_e ?_ | refine SIn_n ?_ | refine SIn_r ?_ | refine SIn_eq ?_ | refine SW_skip ?_ | refine SW_exit ?_ | refine SW_ret ?_ | refine SPost_r ?_) | ((with_reducible refine SIn_ne ?_ ?_); focus decide) | ((with_reducible refine SW_true ?_ ?_); focus exact rfl) | ((with_reducible refine SW_false ?_ ?_); focus exact rfl) | ((first | (with_reducible apply SW_run tt_ok hG htb) | ((with_reducible apply SW_draw rfl tt_ok hG htb); (focus kernel_rfl); (focus (simp only [List.range, List.range.loop, List.size_toArray, List.length_cons, List.length_nil, Nat.reduceAdd])))); focus ((repeat' (first | (with_reducible exact runX_nil) | (with_reducible exact runI_nil) | ((first | (with_reducible apply runX_cons) | (with_reducible apply runI_cons)); focus (simp (discharger := omega) only [go_sem, ↓reduceIte, reduceIte, Nat.reduceEqDiff, Nat.reduceLT, Nat.reduceLeDiff, Nat.reduceAdd, Nat.reduceSub, Nat.reduceMul, Nat.reduceDiv, Nat.reduceMod, Nat.reduceBEq, Int.reduceEq, Int.reduceLT, Int.reduceLE, Int.reduceNeg, Int.reduceToNat, reduceCtorEq]; with_reducible rfl)))); done)))
            exact (by simp (discharger := omega) only [go_sem, tErr, ↓reduceIte, reduceIte, Nat.reduceEqDiff, Nat.reduceLT, Nat.reduceLeDiff, Nat.reduceAdd, Nat.reduceSub, Nat.reduceMul, Nat.reduceDiv, Nat.reduceMod, Nat.reduceBEq, Int.reduceEq, Int.reduceLT, Int.reduceLE, Int.reduceNeg, Int.reduceToNat, reduceCtorEq])
        · repeat' (first | (with_reducible first | refine SW_seq ?_ | refine SW_block ?_ | refine SThen_n ?_ | refine SThen_r ?_ | refine SThen_e ?_ | refine SIn_n ?_ | refine SIn_r ?_ | refine SIn_eq ?_ | refine SW_skip ?_ | refine SW_exit ?_ | refine SW_ret ?_ | refine SPost_r ?_) | ((with_reducible refine SIn_ne ?_ ?_); focus decide) | ((with_reducible refine SW_true ?_ ?_); focus exact rfl) | ((with_reducible refine SW_false ?_ ?_); focus exact rfl) | ((first | (with_reducible apply SW_run tt_ok hG htb) | ((with_reducible apply SW_draw rfl tt_ok hG htb); (focus kernel_rfl); (focus (simp only [List.range, List.range.loop, List.size_toArray, List.length_cons, List.length_nil, Nat.reduceAdd])))); focus ((repeat' (first | (with_reducible exact runX_nil) | (with_reducible exact runI_nil) | ((first | (with_reducible apply runX_cons) | (with_reducible apply runI_cons)); focus (simp (discharger := omega) only [go_sem, tOut, tErr, h3, ↓reduceIte, reduceIte, Nat.reduceEqDiff, Nat.reduceLT, Nat.reduceLeDiff, Nat.reduceAdd, Nat.reduceSub, Nat.reduceMul, Nat.reduceDiv, Nat.reduceMod, Nat.reduceBEq, Int.reduceEq, Int.reduceLT, Int.reduceLE, Int.reduceNeg, Int.reduceToNat, reduceCtorEq]; with_reducible rfl)))); done)))
          exact (by simp (discharger := omega) only [go_sem, tErr, h3, ↓reduceIte, reduceIte, Nat.reduceEqDiff, Nat.reduceLT, Nat.reduceLeDiff, Nat.reduceAdd, Nat.reduceSub, Nat.reduceMul, Nat.reduceDiv, Nat.reduceMod, Nat.reduceBEq, Int.reduceEq, Int.reduceLT, Int.reduceLE, Int.reduceNeg, Int.reduceToNat, reduceCtorEq])
set_option maxHeartbeats 2000000 in
theorem says_snd (o : GOut) (n : Int) {k m : Nat} (g : OkOut o k m) (h0 : 0 ≤ n) (h1 : n ≤ 1099511627776) : Snd Tryd.prog G 56 [tOut o, tInt n] (tInt (said o n)) := by
  have he : ofErr o.base n = 0 := ofErr_zero.2 ⟨by have := g.k_eq; have := g.k2; omega, h0, h1⟩
  have htb := Tab.cons (Of_snd (G := G) o.base n) Tab.nil
  have hdig := g.dig h0 h1
  have hlen := (ofL_is he).len (by have := g.k_eq; have := g.k2; omega) h1
  have hm0 := g.m0
  have hnl := g.rows.len
  have hol := g.outs
  have hm20 := g.m20
  have hk6 := g.k2
  unfold said
  rw [he] at htb
  generalize ofL o.base n = d at *
  refine snd_of_body (n := 37) (tm := [(0, .t (tOut o)), (1, .t (tInt n))]) (rs := [.tmp 4]) tt_ok Tryd.func56 rfl rfl rfl rfl rfl ?_
  repeat' (first | (with_reducible first | refine SW_seq ?_ | refine SW_block ?_ | refine SThen_n ?_ | refine SThen_r ?_ | refine SThen_e ?_ | refine SIn_n ?_ | refine SIn_r ?_ | refine SIn_eq ?_ | refine SW_skip ?_ | refine SW_exit ?_ | refine SW_ret ?_ | refine SPost_r ?_) | ((with_reducible refine SIn_ne ?_ ?_); focus decide) | ((with_reducible refine SW_true ?_ ?_); focus exact rfl) | ((with_reducible refine SW_false ?_ ?_); focus exact rfl) | ((first | (with_reducible apply SW_run tt_ok hG htb) | ((with_reducible apply SW_draw rfl tt_ok hG htb); (focus kernel_rfl); (focus (simp only [List.range, List.range.loop, List.size_toArray, List.length_cons, List.length_nil, Nat.reduceAdd])))); focus ((repeat' (first | (with_reducible exact runX_nil) | (with_reducible exact runI_nil) | ((first | (with_reducible apply runX_cons) | (with_reducible apply runI_cons)); focus (simp (discharger := omega) only [go_sem, tOut, tErr, ↓reduceIte, reduceIte, Nat.reduceEqDiff, Nat.reduceLT, Nat.reduceLeDiff, Nat.reduceAdd, Nat.reduceSub, Nat.reduceMul, Nat.reduceDiv, Nat.reduceMod, Nat.reduceBEq, Int.reduceEq, Int.reduceLT, Int.reduceLE, Int.reduceNeg, Int.reduceToNat, reduceCtorEq]; with_reducible rfl)))); done)))
  refine SW_loop (fun c s => ∃ (i : Nat) (q : Int), c = d.length - i ∧ s = ⟨37, [(2, .bptr 0 0), (7, .t (tInt q)), (17, .t (tInts d)), (18, .t (tInt d.length)), (19, .t (tInt i))], [.box [.t (tInt o.base), .t (tIntss o.next), .t (tInts o.outs)]]⟩ ∧ i ≤ d.length ∧ q = runFrom o.next 0 (d.take i)) d.length
    ⟨_, Norm.headS (own := []) (keep := [2, 7, 17, 18, 19]) (by simp (discharger := omega) only [go_sem, ↓reduceIte, reduceIte, Nat.reduceEqDiff, Nat.reduceLT, Nat.reduceLeDiff, Nat.reduceAdd, Nat.reduceSub, Nat.reduceMul, Nat.reduceDiv, Nat.reduceMod, Nat.reduceBEq, Int.reduceEq, Int.reduceLT, Int.reduceLE, Int.reduceNeg, Int.reduceToNat, reduceCtorEq]; with_reducible rfl) (by simp only [go_sem, ↓reduceIte, reduceIte, Nat.reduceEqDiff, Nat.reduceLT, Nat.reduceLeDiff, Nat.reduceAdd, Nat.reduceSub, Nat.reduceMul, Nat.reduceDiv, Nat.reduceMod, Nat.reduceBEq, Int.reduceEq, Int.reduceLT, Int.reduceLE, Int.reduceNeg, Int.reduceToNat, reduceCtorEq]; with_reducible rfl) (by simp only [go_sem, ↓reduceIte, reduceIte, Nat.reduceEqDiff, Nat.reduceLT, Nat.reduceLeDiff, Nat.reduceAdd, Nat.reduceSub, Nat.reduceMul, Nat.reduceDiv, Nat.reduceMod, Nat.reduceBEq, Int.reduceEq, Int.reduceLT, Int.reduceLE, Int.reduceNeg, Int.reduceToNat, reduceCtorEq]; with_reducible rfl) (by simp only [go_sem, ↓reduceIte, reduceIte, Nat.reduceEqDiff, Nat.reduceLT, Nat.reduceLeDiff, Nat.reduceAdd, Nat.reduceSub, Nat.reduceMul, Nat.reduceDiv, Nat.reduceMod, Nat.reduceBEq, Int.reduceEq, Int.reduceLT, Int.reduceLE, Int.reduceNeg, Int.reduceToNat, reduceCtorEq]; with_reducible rfl) (by simp only [go_sem, ↓reduceIte, reduceIte, Nat.reduceEqDiff, Nat.reduceLT, Nat.reduceLeDiff, Nat.reduceAdd, Nat.reduceSub, Nat.reduceMul, Nat.reduceDiv, Nat.reduceMod, Nat.reduceBEq, Int.reduceEq, Int.reduceLT, Int.reduceLE, Int.reduceNeg, Int.reduceToNat, reduceCtorEq]; with_reducible rfl), 0, 0, rfl, rfl, Nat.zero_le _, rfl⟩ ?_
  rintro c s ⟨i, q, rfl, rfl, hi, hq⟩
  have hqm : 0 ≤ q ∧ q < (m : Int) := by rw [hq]; exact runFrom_ok g.rows _ 0 (by omega) fun x hx => hdig x (List.mem_of_mem_take hx)
  by_cases hlt : i < d.length
  · obtain ⟨x, hx⟩ : ∃ x, d[i]! = x := ⟨_, rfl⟩
    have hxn := hdig x (bang_mem hx hlt)
    obtain ⟨row, hrow⟩ : ∃ row, o.next[q.toNat]! = row := ⟨_, rfl⟩
    have hrl : row.length = k := g.rows.row _ (bang_mem hrow (by omega))
    obtain ⟨u, hu⟩ : ∃ u, row[x.toNat]! = u := ⟨_, rfl⟩
    have hstep := runFrom_take o.next hx hlt 0
    rw [← hq, nextOf_bang hrow (by omega) hu (by omega)] at hstep
    repeat' (first | (with_reducible first | refine SW_seq ?_ | refine SW_block ?_ | refine SThen_n ?_ | refine SThen_r ?_ | refine SThen_e ?_ | refine SIn_n ?_ | refine SIn_r ?_ | refine SIn_eq ?_ | refine SW_skip ?_ | refine SW_exit ?_ | refine SW_ret ?_ | refine SPost_r ?_) | ((with_reducible refine SIn_ne ?_ ?_); focus decide) | ((with_reducible refine SW_true ?_ ?_); focus exact rfl) | ((with_reducible refine SW_false ?_ ?_); focus exact rfl) | ((first | (with_reducible apply SW_run tt_ok hG htb) | ((with_reducible apply SW_draw rfl tt_ok hG htb); (focus kernel_rfl); (focus (simp only [List.range, List.range.loop, List.size_toArray, List.length_cons, List.length_nil, Nat.reduceAdd])))); focus ((repeat' (first | (with_reducible exact runX_nil) | (with_reducible exact runI_nil) | ((first | (with_reducible apply runX_cons) | (with_reducible apply runI_cons)); focus (simp (discharger := omega) only [go_sem, hx, hrow, hu, ↓reduceIte, reduceIte, Nat.reduceEqDiff, Nat.reduceLT, Nat.reduceLeDiff, Nat.reduceAdd, Nat.reduceSub, Nat.reduceMul, Nat.reduceDiv, Nat.reduceMod, Nat.reduceBEq, Int.reduceEq, Int.reduceLT, Int.reduceLE, Int.reduceNeg, Int.reduceToNat, reduceCtorEq]; with_reducible rfl)))); done)))
    exact ⟨d.length - (i + 1), _, by omega, Norm.headS (own := []) (keep := [2, 7, 17, 18, 19]) (by simp (discharger := omega) only [go_sem, ↓reduceIte, reduceIte, Nat.reduceEqDiff, Nat.reduceLT, Nat.reduceLeDiff, Nat.reduceAdd, Nat.reduceSub, Nat.reduceMul, Nat.reduceDiv, Nat.reduceMod, Nat.reduceBEq, Int.reduceEq, Int.reduceLT, Int.reduceLE, Int.reduceNeg, Int.reduceToNat, reduceCtorEq]; with_reducible rfl) (by simp only [go_sem, ↓reduceIte, reduceIte, Nat.reduceEqDiff, Nat.reduceLT, Nat.reduceLeDiff, Nat.reduceAdd, Nat.reduceSub, Nat.reduceMul, Nat.reduceDiv, Nat.reduceMod, Nat.reduceBEq, Int.reduceEq, Int.reduceLT, Int.reduceLE, Int.reduceNeg, Int.reduceToNat, reduceCtorEq]; with_reducible rfl) (by simp only [go_sem, ↓reduceIte, reduceIte, Nat.reduceEqDiff, Nat.reduceLT, Nat.reduceLeDiff, Nat.reduceAdd, Nat.reduceSub, Nat.reduceMul, Nat.reduceDiv, Nat.reduceMod, Nat.reduceBEq, Int.reduceEq, Int.reduceLT, Int.reduceLE, Int.reduceNeg, Int.reduceToNat, reduceCtorEq]; with_reducible rfl) (by simp only [go_sem, ↓reduceIte, reduceIte, Nat.reduceEqDiff, Nat.reduceLT, Nat.reduceLeDiff, Nat.reduceAdd, Nat.reduceSub, Nat.reduceMul, Nat.reduceDiv, Nat.reduceMod, Nat.reduceBEq, Int.reduceEq, Int.reduceLT, Int.reduceLE, Int.reduceNeg, Int.reduceToNat, reduceCtorEq]; with_reducible rfl) (by simp only [go_sem, ↓reduceIte, reduceIte, Nat.reduceEqDiff, Nat.reduceLT, Nat.reduceLeDiff, Nat.reduceAdd, Nat.reduceSub, Nat.reduceMul, Nat.reduceDiv, Nat.reduceMod, Nat.reduceBEq, Int.reduceEq, Int.reduceLT, Int.reduceLE, Int.reduceNeg, Int.reduceToNat, reduceCtorEq]; with_reducible rfl), i + 1, u, rfl, rfl, by omega, hstep.symm⟩
  · obtain rfl : i = d.length := by omega
    rw [List.take_length] at hq
    rw [← hq]
    obtain ⟨x, hx⟩ : ∃ x, o.outs[q.toNat]! = x := ⟨_, rfl⟩
    rw [bang_D hx (by omega)]
    repeat' (first | (with_reducible first | refine SW_seq ?_ | refine SW_block ?_ | refine SThen_n ?_ | refine SThen_r ?_ | refine SThen_e ?_ | refine SIn_n ?_ | refine SIn_r ?_ | refine SIn_eq ?_ | refine SW_skip ?_ | refine SW_exit ?_ | refine SW_ret ?_ | refine SPost_r ?_) | ((with_reducible refine SIn_ne ?_ ?_); focus decide) | ((with_reducible refine SW_true ?_ ?_); focus exact rfl) | ((with_reducible refine SW_false ?_ ?_); focus exact rfl) | ((first | (with_reducible apply SW_run tt_ok hG htb) | ((with_reducible apply SW_draw rfl tt_ok hG htb); (focus kernel_rfl); (focus (simp only [List.range, List.range.loop, List.size_toArray, List.length_cons, List.length_nil, Nat.reduceAdd])))); focus ((repeat' (first | (with_reducible exact runX_nil) | (with_reducible exact runI_nil) | ((first | (with_reducible apply runX_cons) | (with_reducible apply runI_cons)); focus (simp (discharger := omega) only [go_sem, hx, ↓reduceIte, reduceIte, Nat.reduceEqDiff, Nat.reduceLT, Nat.reduceLeDiff, Nat.reduceAdd, Nat.reduceSub, Nat.reduceMul, Nat.reduceDiv, Nat.reduceMod, Nat.reduceBEq, Int.reduceEq, Int.reduceLT, Int.reduceLE, Int.reduceNeg, Int.reduceToNat, reduceCtorEq]; with_reducible rfl)))); done)))
    exact (by simp (discharger := omega) only [go_sem, ↓reduceIte, reduceIte, Nat.reduceEqDiff, Nat.reduceLT, Nat.reduceLeDiff, Nat.reduceAdd, Nat.reduceSub, Nat.reduceMul, Nat.reduceDiv, Nat.reduceMod, Nat.reduceBEq, Int.reduceEq, Int.reduceLT, Int.reduceLE, Int.reduceNeg, Int.reduceToNat, reduceCtorEq])
theorem At_snd (o : GOut) (n : Int) : Snd Tryd.prog G 17 [tOut o, tInt n] (.tup [tInt (atOf o n), tErr (atErr o n)]) := by
  have c1 := WCheck_snd hG o
  by_cases h : outErr o = 0
  · have g := out_ok h
    by_cases h0 : n < 0
    · have e1 : atErr o n = 1 := by unfold atErr; rw [if_neg (by rw [h]; simp), if_pos (.inl h0)]
      have e2 : atOf o n = 0 := by unfold atOf; rw [e1]; rfl
      rw [e1, e2]
      rw [h] at c1
      have htb := Tab.cons c1 Tab.nil
      refine snd_of_body (n := 22) (tm := [(0, .t (tOut o)), (1, .t (tInt n))]) (rs := [.tmp 4, .tmp 5]) tt_ok Tryd.func17 rfl rfl rfl rfl rfl ?_
      repeat' (first | (with_reducible first | refine SW_seq ?_ | refine SW_block ?_ | refine SThen_n ?_ | refine SThen_r ?_ | refine SThen_e ?_ | refine SIn_n ?_ | refine SIn_r ?_ | refine SIn_eq ?_ | refine SW_skip ?_ | refine SW_exit ?_ | refine SW_ret ?_ | refine SPost_r ?_) | ((with_reducible refine SIn_ne ?_ ?_); focus decide) | ((with_reducible refine SW_true ?_ ?_); focus exact rfl) | ((with_reducible refine SW_false ?_ ?_); focus exact rfl) | ((first | (with_reducible apply SW_run tt_ok hG htb) | ((with_reducible apply SW_draw rfl tt_ok hG htb); (focus kernel_rfl); (focus (simp only [List.range, List.range.loop, List.size_toArray, List.length_cons, List.length_nil, Nat.reduceAdd])))); focus ((repeat' (first | (with_reducible exact runX_nil) | (with_reducible exact runI_nil) | ((first | (with_reducible apply runX_cons) | (with_reducible apply runI_cons)); focus (simp (discharger := omega) only [go_sem, tOut, tErr, ↓reduceIte, reduceIte, Nat.reduceEqDiff, Nat.reduceLT, Nat.reduceLeDiff, Nat.reduceAdd, Nat.reduceSub, Nat.reduceMul, Nat.reduceDiv, Nat.reduceMod, Nat.reduceBEq, Int.reduceEq, Int.reduceLT, Int.reduceLE, Int.reduceNeg, Int.reduceToNat, reduceCtorEq]; with_reducible rfl)))); done)))
      exact (by simp (discharger := omega) only [go_sem, tErr, ↓reduceIte, reduceIte, Nat.reduceEqDiff, Nat.reduceLT, Nat.reduceLeDiff, Nat.reduceAdd, Nat.reduceSub, Nat.reduceMul, Nat.reduceDiv, Nat.reduceMod, Nat.reduceBEq, Int.reduceEq, Int.reduceLT, Int.reduceLE, Int.reduceNeg, Int.reduceToNat, reduceCtorEq])
    · by_cases h1 : 1099511627776 < n
      · have e1 : atErr o n = 1 := by unfold atErr; rw [if_neg (by rw [h]; simp), if_pos (.inr h1)]
        have e2 : atOf o n = 0 := by unfold atOf; rw [e1]; rfl
        rw [e1, e2]
        rw [h] at c1
        have htb := Tab.cons c1 Tab.nil
        refine snd_of_body (n := 22) (tm := [(0, .t (tOut o)), (1, .t (tInt n))]) (rs := [.tmp 4, .tmp 5]) tt_ok Tryd.func17 rfl rfl rfl rfl rfl ?_
        repeat' (first | (with_reducible first | refine SW_seq ?_ | refine SW_block ?_ | refine SThen_n ?_ | refine SThen_r ?_ | refine SThen_e ?_ | refine SIn_n ?_ | refine SIn_r ?_ | refine SIn_eq ?_ | refine SW_skip ?_ | refine SW_exit ?_ | refine SW_ret ?_ | refine SPost_r ?_) | ((with_reducible refine SIn_ne ?_ ?_); focus decide) | ((with_reducible refine SW_true ?_ ?_); focus exact rfl) | ((with_reducible refine SW_false ?_ ?_); focus exact rfl) | ((first | (with_reducible apply SW_run tt_ok hG htb) | ((with_reducible apply SW_draw rfl tt_ok hG htb); (focus kernel_rfl); (focus (simp only [List.range, List.range.loop, List.size_toArray, List.length_cons, List.length_nil, Nat.reduceAdd])))); focus ((repeat' (first | (with_reducible exact runX_nil) | (with_reducible exact runI_nil) | ((first | (with_reducible apply runX_cons) | (with_reducible apply runI_cons)); focus (simp (discharger := omega) only [go_sem, tOut, tErr, ↓reduceIte, reduceIte, Nat.reduceEqDiff, Nat.reduceLT, Nat.reduceLeDiff, Nat.reduceAdd, Nat.reduceSub, Nat.reduceMul, Nat.reduceDiv, Nat.reduceMod, Nat.reduceBEq, Int.reduceEq, Int.reduceLT, Int.reduceLE, Int.reduceNeg, Int.reduceToNat, reduceCtorEq]; with_reducible rfl)))); done)))
        exact (by simp (discharger := omega) only [go_sem, tErr, ↓reduceIte, reduceIte, Nat.reduceEqDiff, Nat.reduceLT, Nat.reduceLeDiff, Nat.reduceAdd, Nat.reduceSub, Nat.reduceMul, Nat.reduceDiv, Nat.reduceMod, Nat.reduceBEq, Int.reduceEq, Int.reduceLT, Int.reduceLE, Int.reduceNeg, Int.reduceToNat, reduceCtorEq])
      · obtain ⟨e1, e2⟩ := g.at (show 0 ≤ n by omega) (show n ≤ 1099511627776 by omega)
        have c2 := says_snd hG o n g (show 0 ≤ n by omega) (show n ≤ 1099511627776 by omega)
        rw [e1, e2]
        rw [h] at c1
        generalize said o n = v at *
        have htb := Tab.cons c1 (Tab.cons c2 Tab.nil)
        refine snd_of_body (n := 22) (tm := [(0, .t (tOut o)), (1, .t (tInt n))]) (rs := [.tmp 4, .tmp 5]) tt_ok Tryd.func17 rfl rfl rfl rfl rfl ?_
        repeat' (first | (with_reducible first | refine SW_seq ?_ | refine SW_block ?_ | refine SThen_n ?_ | refine SThen_r ?_ | refine SThen_e ?_ | refine SIn_n ?_ | refine SIn_r ?_ | refine SIn_eq ?_ | refine SW_skip ?_ | refine SW_exit ?_ | refine SW_ret ?_ | refine SPost_r ?_) | ((with_reducible refine SIn_ne ?_ ?_); focus decide) | ((with_reducible refine SW_true ?_ ?_); focus exact rfl) | ((with_reducible refine SW_false ?_ ?_); focus exact rfl) | ((first | (with_reducible apply SW_run tt_ok hG htb) | ((with_reducible apply SW_draw rfl tt_ok hG htb); (focus kernel_rfl); (focus (simp only [List.range, List.range.loop, List.size_toArray, List.length_cons, List.length_nil, Nat.reduceAdd])))); focus ((repeat' (first | (with_reducible exact runX_nil) | (with_reducible exact runI_nil) | ((first | (with_reducible apply runX_cons) | (with_reducible apply runI_cons)); focus (simp (discharger := omega) only [go_sem, tOut, tErr, ↓reduceIte, reduceIte, Nat.reduceEqDiff, Nat.reduceLT, Nat.reduceLeDiff, Nat.reduceAdd, Nat.reduceSub, Nat.reduceMul, Nat.reduceDiv, Nat.reduceMod, Nat.reduceBEq, Int.reduceEq, Int.reduceLT, Int.reduceLE, Int.reduceNeg, Int.reduceToNat, reduceCtorEq]; with_reducible rfl)))); done)))
        exact (by simp (discharger := omega) only [go_sem, tErr, ↓reduceIte, reduceIte, Nat.reduceEqDiff, Nat.reduceLT, Nat.reduceLeDiff, Nat.reduceAdd, Nat.reduceSub, Nat.reduceMul, Nat.reduceDiv, Nat.reduceMod, Nat.reduceBEq, Int.reduceEq, Int.reduceLT, Int.reduceLE, Int.reduceNeg, Int.reduceToNat, reduceCtorEq])
  · have e1 : atErr o n = outErr o := by unfold atErr; rw [if_pos h]
    have e2 : atOf o n = 0 := by unfold atOf; rw [e1, if_neg h]
    rw [e1, e2]
    generalize outErr o = f at *
    have htb := Tab.cons c1 Tab.nil
    refine snd_of_body (n := 22) (tm := [(0, .t (tOut o)), (1, .t (tInt n))]) (rs := [.tmp 4, .tmp 5]) tt_ok Tryd.func17 rfl rfl rfl rfl rfl ?_
    repeat' (first | (with_reducible first | refine SW_seq ?_ | refine SW_block ?_ | refine SThen_n ?_ | refine SThen_r ?_ | refine SThen_e ?_ | refine SIn_n ?_ | refine SIn_r ?_ | refine SIn_eq ?_ | refine SW_skip ?_ | refine SW_exit ?_ | refine SW_ret ?_ | refine SPost_r ?_) | ((with_reducible refine SIn_ne ?_ ?_); focus decide) | ((with_reducible refine SW_true ?_ ?_); focus exact rfl) | ((with_reducible refine SW_false ?_ ?_); focus exact rfl) | ((first | (with_reducible apply SW_run tt_ok hG htb) | ((with_reducible apply SW_draw rfl tt_ok hG htb); (focus kernel_rfl); (focus (simp only [List.range, List.range.loop, List.size_toArray, List.length_cons, List.length_nil, Nat.reduceAdd])))); focus ((repeat' (first | (with_reducible exact runX_nil) | (with_reducible exact runI_nil) | ((first | (with_reducible apply runX_cons) | (with_reducible apply runI_cons)); focus (simp (discharger := omega) only [go_sem, tOut, tErr, h, ↓reduceIte, reduceIte, Nat.reduceEqDiff, Nat.reduceLT, Nat.reduceLeDiff, Nat.reduceAdd, Nat.reduceSub, Nat.reduceMul, Nat.reduceDiv, Nat.reduceMod, Nat.reduceBEq, Int.reduceEq, Int.reduceLT, Int.reduceLE, Int.reduceNeg, Int.reduceToNat, reduceCtorEq]; with_reducible rfl)))); done)))
    exact (by simp (discharger := omega) only [go_sem, tErr, h, ↓reduceIte, reduceIte, Nat.reduceEqDiff, Nat.reduceLT, Nat.reduceLeDiff, Nat.reduceAdd, Nat.reduceSub, Nat.reduceMul, Nat.reduceDiv, Nat.reduceMod, Nat.reduceBEq, Int.reduceEq, Int.reduceLT, Int.reduceLE, Int.reduceNeg, Int.reduceToNat, reduceCtorEq])
end
end Go.Proofs.YtfhncnhkeodngaaDoor
namespace Go.Proofs.YtfhncnhkeodngaaDoor
open Go.RowKit
theorem lateRow_next {r : List Int} {x : Nat} {y : Int} (h : r[x]! = y) (hx : x < r.length) : (lateRow r).take (x + 1) = (lateRow r).take x ++ [if x = 0 then 0 else y + 1] := by
  unfold lateRow
  rw [map_range_take (fun x => if x = 0 then 0 else r.getD x 0 + 1) hx, bang_D h hx]
theorem lateRow_length (r : List Int) : (lateRow r).length = r.length := by simp [lateRow]
section
variable {G : World → Prop} (hG : Lasting G)
include hG
set_option maxHeartbeats 4000000 in
theorem late_snd (o : GOut) {k m : Nat} (g : OkOut o k m) : Snd Tryd.prog G 76 [tOut o] (tIntss (late o.next)) := by
  have hm := g.m0
  have hm20 := g.m20
  have hk := g.k2
  have hlen := g.rows.len
  obtain ⟨r0, hr0⟩ : ∃ r, o.next[0]! = r := ⟨_, rfl⟩
  have hD : o.next.getD 0 [] = r0 := bang_D hr0 (by omega)
  have hrm := bang_mem hr0 (by omega)
  have hrl := g.rows.row _ hrm
  have hll := lateRow_length r0
  have htb : Tab.ok Tryd.prog G [] := Tab.nil
  refine snd_of_body (n := 63) (tm := [(0, .t (tOut o))]) (rs := [.tmp 2]) tt_ok Tryd.func76 rfl rfl rfl rfl rfl ?_
  repeat' (first | (with_reducible first | refine SW_seq ?_ | refine SW_block ?_ | refine SThen_n ?_ | refine SThen_r ?_ | refine SThen_e ?_ | refine SIn_n ?_ | refine SIn_r ?_ | refine SIn_eq ?_ | refine SW_skip ?_ | refine SW_exit ?_ | refine SW_ret ?_ | refine SPost_r ?_) | ((with_reducible refine SIn_ne ?_ ?_); focus decide) | ((with_reducible refine SW_true ?_ ?_); focus exact rfl) | ((with_reducible refine SW_false ?_ ?_); focus exact rfl) | ((first | (with_reducible apply SW_run tt_ok hG htb) | ((with_reducible apply SW_draw rfl tt_ok hG htb); (focus kernel_rfl); (focus (simp only [List.range, List.range.loop, List.size_toArray, List.length_cons, List.length_nil, Nat.reduceAdd])))); focus ((repeat' (first | (with_reducible exact runX_nil) | (with_reducible exact runI_nil) | ((first | (with_reducible apply runX_cons) | (with_reducible apply runI_cons)); focus (simp (discharger := omega) only [go_sem, tOut, hr0, hrl, ↓reduceIte, reduceIte, Nat.reduceEqDiff, Nat.reduceLT, Nat.reduceLeDiff, Nat.reduceAdd, Nat.reduceSub, Nat.reduceMul, Nat.reduceDiv, Nat.reduceMod, Nat.reduceBEq, Int.reduceEq, Int.reduceLT, Int.reduceLE, Int.reduceNeg, Int.reduceToNat, reduceCtorEq]; with_reducible rfl)))); done)))
  refine SW_loop (fun mm s => ∃ (x : Nat) (ft : List T), mm = k - x ∧ s = ⟨63, [(1, .bptr 0 0), (3, .sref 1), (15, .t (tInt k)), (16, .t (tInt x))], [.box [.t (tInt o.base), .t (tIntss o.next), .t (tInts o.outs)], .row 3 1 false ft]⟩ ∧ ft = ((lateRow r0).take x).map tInt ∧ x ≤ k) (k)
    ⟨_, Norm.headS (own := [(3, 3, 1, false)]) (keep := [1, 3, 15, 16]) (by simp (discharger := omega) only [go_sem, ↓reduceIte, reduceIte, Nat.reduceEqDiff, Nat.reduceLT, Nat.reduceLeDiff, Nat.reduceAdd, Nat.reduceSub, Nat.reduceMul, Nat.reduceDiv, Nat.reduceMod, Nat.reduceBEq, Int.reduceEq, Int.reduceLT, Int.reduceLE, Int.reduceNeg, Int.reduceToNat, reduceCtorEq]; with_reducible rfl) (by simp only [go_sem, ↓reduceIte, reduceIte, Nat.reduceEqDiff, Nat.reduceLT, Nat.reduceLeDiff, Nat.reduceAdd, Nat.reduceSub, Nat.reduceMul, Nat.reduceDiv, Nat.reduceMod, Nat.reduceBEq, Int.reduceEq, Int.reduceLT, Int.reduceLE, Int.reduceNeg, Int.reduceToNat, reduceCtorEq]; with_reducible rfl) (by simp only [go_sem, ↓reduceIte, reduceIte, Nat.reduceEqDiff, Nat.reduceLT, Nat.reduceLeDiff, Nat.reduceAdd, Nat.reduceSub, Nat.reduceMul, Nat.reduceDiv, Nat.reduceMod, Nat.reduceBEq, Int.reduceEq, Int.reduceLT, Int.reduceLE, Int.reduceNeg, Int.reduceToNat, reduceCtorEq]; with_reducible rfl) (by simp only [go_sem, ↓reduceIte, reduceIte, Nat.reduceEqDiff, Nat.reduceLT, Nat.reduceLeDiff, Nat.reduceAdd, Nat.reduceSub, Nat.reduceMul, Nat.reduceDiv, Nat.reduceMod, Nat.reduceBEq, Int.reduceEq, Int.reduceLT, Int.reduceLE, Int.reduceNeg, Int.reduceToNat, reduceCtorEq]; with_reducible rfl) (by simp only [go_sem, ↓reduceIte, reduceIte, Nat.reduceEqDiff, Nat.reduceLT, Nat.reduceLeDiff, Nat.reduceAdd, Nat.reduceSub, Nat.reduceMul, Nat.reduceDiv, Nat.reduceMod, Nat.reduceBEq, Int.reduceEq, Int.reduceLT, Int.reduceLE, Int.reduceNeg, Int.reduceToNat, reduceCtorEq]; with_reducible rfl), 0, _, rfl, rfl, rfl, Nat.zero_le _⟩ ?_
  rintro mm s ⟨x, ft, rfl, rfl, hft, hx⟩
  have hfl : ft.length = x := by rw [hft]; simp; omega
  by_cases hlt : x < k
  · obtain ⟨y, hy⟩ : ∃ y, r0[x]! = y := ⟨_, rfl⟩
    have htk := lateRow_next hy (by omega)
    have hyr := g.rows.ok _ hrm _ (bang_mem hy (by omega))
    by_cases hx0 : x = 0
    · rw [if_pos hx0] at htk
      repeat' (first | (with_reducible first | refine SW_seq ?_ | refine SW_block ?_ | refine SThen_n ?_ | refine SThen_r ?_ | refine SThen_e ?_ | refine SIn_n ?_ | refine SIn_r ?_ | refine SIn_eq ?_ | refine SW_skip ?_ | refine SW_exit ?_ | refine SW_ret ?_ | refine SPost_r ?_) | ((with_reducible refine SIn_ne ?_ ?_); focus decide) | ((with_reducible refine SW_true ?_ ?_); focus exact rfl) | ((with_reducible refine SW_false ?_ ?_); focus exact rfl) | ((first | (with_reducible apply SW_run tt_ok hG htb) | ((with_reducible apply SW_draw rfl tt_ok hG htb); (focus kernel_rfl); (focus (simp only [List.range, List.range.loop, List.size_toArray, List.length_cons, List.length_nil, Nat.reduceAdd])))); focus ((repeat' (first | (with_reducible exact runX_nil) | (with_reducible exact runI_nil) | ((first | (with_reducible apply runX_cons) | (with_reducible apply runI_cons)); focus (simp (discharger := omega) only [go_sem, hr0, hy, ↓reduceIte, reduceIte, Nat.reduceEqDiff, Nat.reduceLT, Nat.reduceLeDiff, Nat.reduceAdd, Nat.reduceSub, Nat.reduceMul, Nat.reduceDiv, Nat.reduceMod, Nat.reduceBEq, Int.reduceEq, Int.reduceLT, Int.reduceLE, Int.reduceNeg, Int.reduceToNat, reduceCtorEq]; with_reducible rfl)))); done)))
      exact ⟨k - (x + 1), _, by omega, Norm.headS (own := [(3, 3, 1, false)]) (keep := [1, 3, 15, 16]) (by simp (discharger := omega) only [go_sem, ↓reduceIte, reduceIte, Nat.reduceEqDiff, Nat.reduceLT, Nat.reduceLeDiff, Nat.reduceAdd, Nat.reduceSub, Nat.reduceMul, Nat.reduceDiv, Nat.reduceMod, Nat.reduceBEq, Int.reduceEq, Int.reduceLT, Int.reduceLE, Int.reduceNeg, Int.reduceToNat, reduceCtorEq]; with_reducible rfl) (by simp only [go_sem, ↓reduceIte, reduceIte, Nat.reduceEqDiff, Nat.reduceLT, Nat.reduceLeDiff, Nat.reduceAdd, Nat.reduceSub, Nat.reduceMul, Nat.reduceDiv, Nat.reduceMod, Nat.reduceBEq, Int.reduceEq, Int.reduceLT, Int.reduceLE, Int.reduceNeg, Int.reduceToNat, reduceCtorEq]; with_reducible rfl) (by simp only [go_sem, ↓reduceIte, reduceIte, Nat.reduceEqDiff, Nat.reduceLT, Nat.reduceLeDiff, Nat.reduceAdd, Nat.reduceSub, Nat.reduceMul, Nat.reduceDiv, Nat.reduceMod, Nat.reduceBEq, Int.reduceEq, Int.reduceLT, Int.reduceLE, Int.reduceNeg, Int.reduceToNat, reduceCtorEq]; with_reducible rfl) (by simp only [go_sem, ↓reduceIte, reduceIte, Nat.reduceEqDiff, Nat.reduceLT, Nat.reduceLeDiff, Nat.reduceAdd, Nat.reduceSub, Nat.reduceMul, Nat.reduceDiv, Nat.reduceMod, Nat.reduceBEq, Int.reduceEq, Int.reduceLT, Int.reduceLE, Int.reduceNeg, Int.reduceToNat, reduceCtorEq]; with_reducible rfl) (by simp only [go_sem, ↓reduceIte, reduceIte, Nat.reduceEqDiff, Nat.reduceLT, Nat.reduceLeDiff, Nat.reduceAdd, Nat.reduceSub, Nat.reduceMul, Nat.reduceDiv, Nat.reduceMod, Nat.reduceBEq, Int.reduceEq, Int.reduceLT, Int.reduceLE, Int.reduceNeg, Int.reduceToNat, reduceCtorEq]; with_reducible rfl), x + 1, _, rfl, rfl, by rw [htk, List.map_append, ← hft]; rfl, by omega⟩
    · rw [if_neg hx0] at htk
      repeat' (first | (with_reducible first | refine SW_seq ?_ | refine SW_block ?_ | refine SThen_n ?_ | refine SThen_r ?_ | refine SThen_e ?_ | refine SIn_n ?_ | refine SIn_r ?_ | refine SIn_eq ?_ | refine SW_skip ?_ | refine SW_exit ?_ | refine SW_ret ?_ | refine SPost_r ?_) | ((with_reducible refine SIn_ne ?_ ?_); focus decide) | ((with_reducible refine SW_true ?_ ?_); focus exact rfl) | ((with_reducible refine SW_false ?_ ?_); focus exact rfl) | ((first | (with_reducible apply SW_run tt_ok hG htb) | ((with_reducible apply SW_draw rfl tt_ok hG htb); (focus kernel_rfl); (focus (simp only [List.range, List.range.loop, List.size_toArray, List.length_cons, List.length_nil, Nat.reduceAdd])))); focus ((repeat' (first | (with_reducible exact runX_nil) | (with_reducible exact runI_nil) | ((first | (with_reducible apply runX_cons) | (with_reducible apply runI_cons)); focus (simp (discharger := omega) only [go_sem, hr0, hy, ↓reduceIte, reduceIte, Nat.reduceEqDiff, Nat.reduceLT, Nat.reduceLeDiff, Nat.reduceAdd, Nat.reduceSub, Nat.reduceMul, Nat.reduceDiv, Nat.reduceMod, Nat.reduceBEq, Int.reduceEq, Int.reduceLT, Int.reduceLE, Int.reduceNeg, Int.reduceToNat, reduceCtorEq]; with_reducible rfl)))); done)))
      exact ⟨k - (x + 1), _, by omega, Norm.headS (own := [(3, 3, 1, false)]) (keep := [1, 3, 15, 16]) (by simp (discharger := omega) only [go_sem, ↓reduceIte, reduceIte, Nat.reduceEqDiff, Nat.reduceLT, Nat.reduceLeDiff, Nat.reduceAdd, Nat.reduceSub, Nat.reduceMul, Nat.reduceDiv, Nat.reduceMod, Nat.reduceBEq, Int.reduceEq, Int.reduceLT, Int.reduceLE, Int.reduceNeg, Int.reduceToNat, reduceCtorEq]; with_reducible rfl) (by simp only [go_sem, ↓reduceIte, reduceIte, Nat.reduceEqDiff, Nat.reduceLT, Nat.reduceLeDiff, Nat.reduceAdd, Nat.reduceSub, Nat.reduceMul, Nat.reduceDiv, Nat.reduceMod, Nat.reduceBEq, Int.reduceEq, Int.reduceLT, Int.reduceLE, Int.reduceNeg, Int.reduceToNat, reduceCtorEq]; with_reducible rfl) (by simp only [go_sem, ↓reduceIte, reduceIte, Nat.reduceEqDiff, Nat.reduceLT, Nat.reduceLeDiff, Nat.reduceAdd, Nat.reduceSub, Nat.reduceMul, Nat.reduceDiv, Nat.reduceMod, Nat.reduceBEq, Int.reduceEq, Int.reduceLT, Int.reduceLE, Int.reduceNeg, Int.reduceToNat, reduceCtorEq]; with_reducible rfl) (by simp only [go_sem, ↓reduceIte, reduceIte, Nat.reduceEqDiff, Nat.reduceLT, Nat.reduceLeDiff, Nat.reduceAdd, Nat.reduceSub, Nat.reduceMul, Nat.reduceDiv, Nat.reduceMod, Nat.reduceBEq, Int.reduceEq, Int.reduceLT, Int.reduceLE, Int.reduceNeg, Int.reduceToNat, reduceCtorEq]; with_reducible rfl) (by simp only [go_sem, ↓reduceIte, reduceIte, Nat.reduceEqDiff, Nat.reduceLT, Nat.reduceLeDiff, Nat.reduceAdd, Nat.reduceSub, Nat.reduceMul, Nat.reduceDiv, Nat.reduceMod, Nat.reduceBEq, Int.reduceEq, Int.reduceLT, Int.reduceLE, Int.reduceNeg, Int.reduceToNat, reduceCtorEq]; with_reducible rfl), x + 1, _, rfl, rfl, by rw [htk, List.map_append, ← hft]; rfl, by omega⟩
  · obtain rfl : x = k := by omega
    rw [List.take_of_length_le (by omega)] at hft
    subst hft
    repeat' (first | (with_reducible first | refine SW_seq ?_ | refine SW_block ?_ | refine SThen_n ?_ | refine SThen_r ?_ | refine SThen_e ?_ | refine SIn_n ?_ | refine SIn_r ?_ | refine SIn_eq ?_ | refine SW_skip ?_ | refine SW_exit ?_ | refine SW_ret ?_ | refine SPost_r ?_) | ((with_reducible refine SIn_ne ?_ ?_); focus decide) | ((with_reducible refine SW_true ?_ ?_); focus exact rfl) | ((with_reducible refine SW_false ?_ ?_); focus exact rfl) | ((first | (with_reducible apply SW_run tt_ok hG htb) | ((with_reducible apply SW_draw rfl tt_ok hG htb); (focus kernel_rfl); (focus (simp only [List.range, List.range.loop, List.size_toArray, List.length_cons, List.length_nil, Nat.reduceAdd])))); focus ((repeat' (first | (with_reducible exact runX_nil) | (with_reducible exact runI_nil) | ((first | (with_reducible apply runX_cons) | (with_reducible apply runI_cons)); focus (simp (discharger := omega) only [go_sem, hlen, ↓reduceIte, reduceIte, Nat.reduceEqDiff, Nat.reduceLT, Nat.reduceLeDiff, Nat.reduceAdd, Nat.reduceSub, Nat.reduceMul, Nat.reduceDiv, Nat.reduceMod, Nat.reduceBEq, Int.reduceEq, Int.reduceLT, Int.reduceLE, Int.reduceNeg, Int.reduceToNat, reduceCtorEq]; with_reducible rfl)))); done)))
    refine SW_loop (fun mm s => ∃ (i : Nat) (nt : List T), mm = m - i ∧ s = ⟨63, [(1, .bptr 0 0), (5, .sref 1), (39, .t (tIntss o.next)), (40, .t (tInt m)), (41, .t (tInt i))], [.box [.t (tInt o.base), .t (tIntss o.next), .t (tInts o.outs)], .row 22 1 false nt]⟩ ∧ nt = ((late o.next).take (i + 1)).map tInts ∧ i ≤ m) (m)
      ⟨_, Norm.headS (own := [(5, 22, 1, false)]) (keep := [1, 5, 39, 40, 41]) (by simp (discharger := omega) only [go_sem, ↓reduceIte, reduceIte, Nat.reduceEqDiff, Nat.reduceLT, Nat.reduceLeDiff, Nat.reduceAdd, Nat.reduceSub, Nat.reduceMul, Nat.reduceDiv, Nat.reduceMod, Nat.reduceBEq, Int.reduceEq, Int.reduceLT, Int.reduceLE, Int.reduceNeg, Int.reduceToNat, reduceCtorEq]; with_reducible rfl) (by simp only [go_sem, ↓reduceIte, reduceIte, Nat.reduceEqDiff, Nat.reduceLT, Nat.reduceLeDiff, Nat.reduceAdd, Nat.reduceSub, Nat.reduceMul, Nat.reduceDiv, Nat.reduceMod, Nat.reduceBEq, Int.reduceEq, Int.reduceLT, Int.reduceLE, Int.reduceNeg, Int.reduceToNat, reduceCtorEq]; with_reducible rfl) (by simp only [go_sem, ↓reduceIte, reduceIte, Nat.reduceEqDiff, Nat.reduceLT, Nat.reduceLeDiff, Nat.reduceAdd, Nat.reduceSub, Nat.reduceMul, Nat.reduceDiv, Nat.reduceMod, Nat.reduceBEq, Int.reduceEq, Int.reduceLT, Int.reduceLE, Int.reduceNeg, Int.reduceToNat, reduceCtorEq]; with_reducible rfl) (by simp only [go_sem, ↓reduceIte, reduceIte, Nat.reduceEqDiff, Nat.reduceLT, Nat.reduceLeDiff, Nat.reduceAdd, Nat.reduceSub, Nat.reduceMul, Nat.reduceDiv, Nat.reduceMod, Nat.reduceBEq, Int.reduceEq, Int.reduceLT, Int.reduceLE, Int.reduceNeg, Int.reduceToNat, reduceCtorEq]; with_reducible rfl) (by simp only [go_sem, ↓reduceIte, reduceIte, Nat.reduceEqDiff, Nat.reduceLT, Nat.reduceLeDiff, Nat.reduceAdd, Nat.reduceSub, Nat.reduceMul, Nat.reduceDiv, Nat.reduceMod, Nat.reduceBEq, Int.reduceEq, Int.reduceLT, Int.reduceLE, Int.reduceNeg, Int.reduceToNat, reduceCtorEq]; with_reducible rfl), 0, _, rfl, rfl, by unfold late; rw [hD]; rfl, Nat.zero_le _⟩ ?_
    rintro mm s ⟨i, nt, rfl, rfl, hnt, hi⟩
    have hll2 : (late o.next).length = m + 1 := (late_rows g.rows hm).len
    have hnl : nt.length = i + 1 := by rw [hnt]; simp; omega
    by_cases hlt2 : i < m
    · obtain ⟨row, hrow⟩ : ∃ row, o.next[i]! = row := ⟨_, rfl⟩
      have hrowm := bang_mem hrow (by omega)
      have hrowl := g.rows.row _ hrowm
      have htk2 : (late o.next).take (i + 1 + 1) = (late o.next).take (i + 1) ++ [row.map (· + 1)] := by
        unfold late
        rw [List.take_succ_cons, List.take_succ_cons, ← List.map_take, take_next hrow (by omega), List.map_append, List.map_take]; rfl
      repeat' (first | (with_reducible first | refine SW_seq ?_ | refine SW_block ?_ | refine SThen_n ?_ | refine SThen_r ?_ | refine SThen_e ?_ | refine SIn_n ?_ | refine SIn_r ?_ | refine SIn_eq ?_ | refine SW_skip ?_ | refine SW_exit ?_ | refine SW_ret ?_ | refine SPost_r ?_) | ((with_reducible refine SIn_ne ?_ ?_); focus decide) | ((with_reducible refine SW_true ?_ ?_); focus exact rfl) | ((with_reducible refine SW_false ?_ ?_); focus exact rfl) | ((first | (with_reducible apply SW_run tt_ok hG htb) | ((with_reducible apply SW_draw rfl tt_ok hG htb); (focus kernel_rfl); (focus (simp only [List.range, List.range.loop, List.size_toArray, List.length_cons, List.length_nil, Nat.reduceAdd])))); focus ((repeat' (first | (with_reducible exact runX_nil) | (with_reducible exact runI_nil) | ((first | (with_reducible apply runX_cons) | (with_reducible apply runI_cons)); focus (simp (discharger := omega) only [go_sem, hrow, hrowl, ↓reduceIte, reduceIte, Nat.reduceEqDiff, Nat.reduceLT, Nat.reduceLeDiff, Nat.reduceAdd, Nat.reduceSub, Nat.reduceMul, Nat.reduceDiv, Nat.reduceMod, Nat.reduceBEq, Int.reduceEq, Int.reduceLT, Int.reduceLE, Int.reduceNeg, Int.reduceToNat, reduceCtorEq]; with_reducible rfl)))); done)))
      refine SW_loop (fun mm s => ∃ (l : Nat) (rt : List T), mm = x - l ∧ s = ⟨63, [(1, .bptr 0 0), (5, .sref 1), (8, .sref 2), (39, .t (tIntss o.next)), (40, .t (tInt m)), (41, .t (tInt i)), (45, .t (tInts row)), (46, .t (tInt x)), (47, .t (tInt l))], [.box [.t (tInt o.base), .t (tIntss o.next), .t (tInts o.outs)], .row 22 1 false nt, .row 3 1 false rt]⟩ ∧ rt = ((row.map (· + 1)).take l).map tInt ∧ l ≤ x) (x)
        ⟨_, Norm.headS (own := [(5, 22, 1, false), (8, 3, 1, false)]) (keep := [1, 5, 8, 39, 40, 41, 45, 46, 47]) (by simp (discharger := omega) only [go_sem, ↓reduceIte, reduceIte, Nat.reduceEqDiff, Nat.reduceLT, Nat.reduceLeDiff, Nat.reduceAdd, Nat.reduceSub, Nat.reduceMul, Nat.reduceDiv, Nat.reduceMod, Nat.reduceBEq, Int.reduceEq, Int.reduceLT, Int.reduceLE, Int.reduceNeg, Int.reduceToNat, reduceCtorEq]; with_reducible rfl) (by simp only [go_sem, ↓reduceIte, reduceIte, Nat.reduceEqDiff, Nat.reduceLT, Nat.reduceLeDiff, Nat.reduceAdd, Nat.reduceSub, Nat.reduceMul, Nat.reduceDiv, Nat.reduceMod, Nat.reduceBEq, Int.reduceEq, Int.reduceLT, Int.reduceLE, Int.reduceNeg, Int.reduceToNat, reduceCtorEq]; with_reducible rfl) (by simp only [go_sem, ↓reduceIte, reduceIte, Nat.reduceEqDiff, Nat.reduceLT, Nat.reduceLeDiff, Nat.reduceAdd, Nat.reduceSub, Nat.reduceMul, Nat.reduceDiv, Nat.reduceMod, Nat.reduceBEq, Int.reduceEq, Int.reduceLT, Int.reduceLE, Int.reduceNeg, Int.reduceToNat, reduceCtorEq]; with_reducible rfl) (by simp only [go_sem, ↓reduceIte, reduceIte, Nat.reduceEqDiff, Nat.reduceLT, Nat.reduceLeDiff, Nat.reduceAdd, Nat.reduceSub, Nat.reduceMul, Nat.reduceDiv, Nat.reduceMod, Nat.reduceBEq, Int.reduceEq, Int.reduceLT, Int.reduceLE, Int.reduceNeg, Int.reduceToNat, reduceCtorEq]; with_reducible rfl) (by simp only [go_sem, ↓reduceIte, reduceIte, Nat.reduceEqDiff, Nat.reduceLT, Nat.reduceLeDiff, Nat.reduceAdd, Nat.reduceSub, Nat.reduceMul, Nat.reduceDiv, Nat.reduceMod, Nat.reduceBEq, Int.reduceEq, Int.reduceLT, Int.reduceLE, Int.reduceNeg, Int.reduceToNat, reduceCtorEq]; with_reducible rfl), 0, _, rfl, rfl, rfl, Nat.zero_le _⟩ ?_
      rintro mm s ⟨l, rt, rfl, rfl, hrt, hl⟩
      have hrtl : rt.length = l := by rw [hrt]; simp; omega
      by_cases hlt3 : l < x
      · obtain ⟨y, hy⟩ : ∃ y, row[l]! = y := ⟨_, rfl⟩
        have hyr := g.rows.ok _ hrowm _ (bang_mem hy (by omega))
        have htk3 : (row.map (· + 1)).take (l + 1) = (row.map (· + 1)).take l ++ [y + 1] := by
          rw [← List.map_take, take_next hy (by omega), List.map_append, List.map_take]; rfl
        repeat' (first | (with_reducible first | refine SW_seq ?_ | refine SW_block ?_ | refine SThen_n ?_ | refine SThen_r ?_ | refine SThen_e ?_ | refine SIn_n ?_ | refine SIn_r ?_ | refine SIn_eq ?_ | refine SW_skip ?_ | refine SW_exit ?_ | refine SW_ret ?_ | refine SPost_r ?_) | ((with_reducible refine SIn_ne ?_ ?_); focus decide) | ((with_reducible refine SW_true ?_ ?_); focus exact rfl) | ((with_reducible refine SW_false ?_ ?_); focus exact rfl) | ((first | (with_reducible apply SW_run tt_ok hG htb) | ((with_reducible apply SW_draw rfl tt_ok hG htb); (focus kernel_rfl); (focus (simp only [List.range, List.range.loop, List.size_toArray, List.length_cons, List.length_nil, Nat.reduceAdd])))); focus ((repeat' (first | (with_reducible exact runX_nil) | (with_reducible exact runI_nil) | ((first | (with_reducible apply runX_cons) | (with_reducible apply runI_cons)); focus (simp (discharger := omega) only [go_sem, hy, ↓reduceIte, reduceIte, Nat.reduceEqDiff, Nat.reduceLT, Nat.reduceLeDiff, Nat.reduceAdd, Nat.reduceSub, Nat.reduceMul, Nat.reduceDiv, Nat.reduceMod, Nat.reduceBEq, Int.reduceEq, Int.reduceLT, Int.reduceLE, Int.reduceNeg, Int.reduceToNat, reduceCtorEq]; with_reducible rfl)))); done)))
        exact ⟨x - (l + 1), _, by omega, Norm.headS (own := [(5, 22, 1, false), (8, 3, 1, false)]) (keep := [1, 5, 8, 39, 40, 41, 45, 46, 47]) (by simp (discharger := omega) only [go_sem, ↓reduceIte, reduceIte, Nat.reduceEqDiff, Nat.reduceLT, Nat.reduceLeDiff, Nat.reduceAdd, Nat.reduceSub, Nat.reduceMul, Nat.reduceDiv, Nat.reduceMod, Nat.reduceBEq, Int.reduceEq, Int.reduceLT, Int.reduceLE, Int.reduceNeg, Int.reduceToNat, reduceCtorEq]; with_reducible rfl) (by simp only [go_sem, ↓reduceIte, reduceIte, Nat.reduceEqDiff, Nat.reduceLT, Nat.reduceLeDiff, Nat.reduceAdd, Nat.reduceSub, Nat.reduceMul, Nat.reduceDiv, Nat.reduceMod, Nat.reduceBEq, Int.reduceEq, Int.reduceLT, Int.reduceLE, Int.reduceNeg, Int.reduceToNat, reduceCtorEq]; with_reducible rfl) (by simp only [go_sem, ↓reduceIte, reduceIte, Nat.reduceEqDiff, Nat.reduceLT, Nat.reduceLeDiff, Nat.reduceAdd, Nat.reduceSub, Nat.reduceMul, Nat.reduceDiv, Nat.reduceMod, Nat.reduceBEq, Int.reduceEq, Int.reduceLT, Int.reduceLE, Int.reduceNeg, Int.reduceToNat, reduceCtorEq]; with_reducible rfl) (by simp only [go_sem, ↓reduceIte, reduceIte, Nat.reduceEqDiff, Nat.reduceLT, Nat.reduceLeDiff, Nat.reduceAdd, Nat.reduceSub, Nat.reduceMul, Nat.reduceDiv, Nat.reduceMod, Nat.reduceBEq, Int.reduceEq, Int.reduceLT, Int.reduceLE, Int.reduceNeg, Int.reduceToNat, reduceCtorEq]; with_reducible rfl) (by simp only [go_sem, ↓reduceIte, reduceIte, Nat.reduceEqDiff, Nat.reduceLT, Nat.reduceLeDiff, Nat.reduceAdd, Nat.reduceSub, Nat.reduceMul, Nat.reduceDiv, Nat.reduceMod, Nat.reduceBEq, Int.reduceEq, Int.reduceLT, Int.reduceLE, Int.reduceNeg, Int.reduceToNat, reduceCtorEq]; with_reducible rfl), l + 1, _, rfl, rfl, by rw [htk3, List.map_append, ← hrt]; rfl, by omega⟩
      · obtain rfl : l = x := by omega
        rw [List.take_of_length_le (by simp; omega)] at hrt
        subst hrt
        repeat' (first | (with_reducible first | refine SW_seq ?_ | refine SW_block ?_ | refine SThen_n ?_ | refine SThen_r ?_ | refine SThen_e ?_ | refine SIn_n ?_ | refine SIn_r ?_ | refine SIn_eq ?_ | refine SW_skip ?_ | refine SW_exit ?_ | refine SW_ret ?_ | refine SPost_r ?_) | ((with_reducible refine SIn_ne ?_ ?_); focus decide) | ((with_reducible refine SW_true ?_ ?_); focus exact rfl) | ((with_reducible refine SW_false ?_ ?_); focus exact rfl) | ((first | (with_reducible apply SW_run tt_ok hG htb) | ((with_reducible apply SW_draw rfl tt_ok hG htb); (focus kernel_rfl); (focus (simp only [List.range, List.range.loop, List.size_toArray, List.length_cons, List.length_nil, Nat.reduceAdd])))); focus ((repeat' (first | (with_reducible exact runX_nil) | (with_reducible exact runI_nil) | ((first | (with_reducible apply runX_cons) | (with_reducible apply runI_cons)); focus (simp (discharger := omega) only [go_sem, ↓reduceIte, reduceIte, Nat.reduceEqDiff, Nat.reduceLT, Nat.reduceLeDiff, Nat.reduceAdd, Nat.reduceSub, Nat.reduceMul, Nat.reduceDiv, Nat.reduceMod, Nat.reduceBEq, Int.reduceEq, Int.reduceLT, Int.reduceLE, Int.reduceNeg, Int.reduceToNat, reduceCtorEq]; with_reducible rfl)))); done)))
        exact ⟨m - (i + 1), _, by omega, Norm.headS (own := [(5, 22, 1, false)]) (keep := [1, 5, 39, 40, 41]) (by simp (discharger := omega) only [go_sem, ↓reduceIte, reduceIte, Nat.reduceEqDiff, Nat.reduceLT, Nat.reduceLeDiff, Nat.reduceAdd, Nat.reduceSub, Nat.reduceMul, Nat.reduceDiv, Nat.reduceMod, Nat.reduceBEq, Int.reduceEq, Int.reduceLT, Int.reduceLE, Int.reduceNeg, Int.reduceToNat, reduceCtorEq]; with_reducible rfl) (by simp only [go_sem, ↓reduceIte, reduceIte, Nat.reduceEqDiff, Nat.reduceLT, Nat.reduceLeDiff, Nat.reduceAdd, Nat.reduceSub, Nat.reduceMul, Nat.reduceDiv, Nat.reduceMod, Nat.reduceBEq, Int.reduceEq, Int.reduceLT, Int.reduceLE, Int.reduceNeg, Int.reduceToNat, reduceCtorEq]; with_reducible rfl) (by simp only [go_sem, ↓reduceIte, reduceIte, Nat.reduceEqDiff, Nat.reduceLT, Nat.reduceLeDiff, Nat.reduceAdd, Nat.reduceSub, Nat.reduceMul, Nat.reduceDiv, Nat.reduceMod, Nat.reduceBEq, Int.reduceEq, Int.reduceLT, Int.reduceLE, Int.reduceNeg, Int.reduceToNat, reduceCtorEq]; with_reducible rfl) (by simp only [go_sem, ↓reduceIte, reduceIte, Nat.reduceEqDiff, Nat.reduceLT, Nat.reduceLeDiff, Nat.reduceAdd, Nat.reduceSub, Nat.reduceMul, Nat.reduceDiv, Nat.reduceMod, Nat.reduceBEq, Int.reduceEq, Int.reduceLT, Int.reduceLE, Int.reduceNeg, Int.reduceToNat, reduceCtorEq]; with_reducible rfl) (by simp only [go_sem, ↓reduceIte, reduceIte, Nat.reduceEqDiff, Nat.reduceLT, Nat.reduceLeDiff, Nat.reduceAdd, Nat.reduceSub, Nat.reduceMul, Nat.reduceDiv, Nat.reduceMod, Nat.reduceBEq, Int.reduceEq, Int.reduceLT, Int.reduceLE, Int.reduceNeg, Int.reduceToNat, reduceCtorEq]; with_reducible rfl), i + 1, _, rfl, rfl, by rw [htk2, List.map_append, ← hnt]; rfl, by omega⟩
    · obtain rfl : i = m := by omega
      rw [List.take_of_length_le (by omega)] at hnt
      subst hnt
      repeat' (first | (with_reducible first | refine SW_seq ?_ | refine SW_block ?_ | refine SThen_n ?_ | refine SThen_r ?_ | refine SThen_e ?_ | refine SIn_n ?_ | refine SIn_r ?_ | refine SIn_eq ?_ | refine SW_skip ?_ | refine SW_exit ?_ | refine SW_ret ?_ | refine SPost_r ?_) | ((with_reducible refine SIn_ne ?_ ?_); focus decide) | ((with_reducible refine SW_true ?_ ?_); focus exact rfl) | ((with_reducible refine SW_false ?_ ?_); focus exact rfl) | ((first | (with_reducible apply SW_run tt_ok hG htb) | ((with_reducible apply SW_draw rfl tt_ok hG htb); (focus kernel_rfl); (focus (simp only [List.range, List.range.loop, List.size_toArray, List.length_cons, List.length_nil, Nat.reduceAdd])))); focus ((repeat' (first | (with_reducible exact runX_nil) | (with_reducible exact runI_nil) | ((first | (with_reducible apply runX_cons) | (with_reducible apply runI_cons)); focus (simp (discharger := omega) only [go_sem, ↓reduceIte, reduceIte, Nat.reduceEqDiff, Nat.reduceLT, Nat.reduceLeDiff, Nat.reduceAdd, Nat.reduceSub, Nat.reduceMul, Nat.reduceDiv, Nat.reduceMod, Nat.reduceBEq, Int.reduceEq, Int.reduceLT, Int.reduceLE, Int.reduceNeg, Int.reduceToNat, reduceCtorEq]; with_reducible rfl)))); done)))
      exact (by simp (discharger := omega) only [go_sem, ↓reduceIte, reduceIte, Nat.reduceEqDiff, Nat.reduceLT, Nat.reduceLeDiff, Nat.reduceAdd, Nat.reduceSub, Nat.reduceMul, Nat.reduceDiv, Nat.reduceMod, Nat.reduceBEq, Int.reduceEq, Int.reduceLT, Int.reduceLE, Int.reduceNeg, Int.reduceToNat, reduceCtorEq])
theorem outs_snd (o : GOut) (h : 0 < o.outs.length) (h2 : o.outs.length ≤ 1000) : Snd Tryd.prog G 74 [tOut o] (tInts (lateO o.outs)) := by
  obtain ⟨x, hx⟩ : ∃ x, o.outs[0]! = x := ⟨_, rfl⟩
  have hD : o.outs.getD 0 0 = x := bang_D hx h
  unfold lateO
  rw [hD]
  have htb : Tab.ok Tryd.prog G [] := Tab.nil
  refine snd_of_body (n := 11) (tm := [(0, .t (tOut o))]) (rs := [.tmp 2]) tt_ok Tryd.func74 rfl rfl rfl rfl rfl ?_
  have hall : ∀ l : List Int, (l.all fun _ => true) = true := fun l => by simp
  repeat' (first | (with_reducible first | refine SW_seq ?_ | refine SW_block ?_ | refine SThen_n ?_ | refine SThen_r ?_ | refine SThen_e ?_ | refine SIn_n ?_ | refine SIn_r ?_ | refine SIn_eq ?_ | refine SW_skip ?_ | refine SW_exit ?_ | refine SW_ret ?_ | refine SPost_r ?_) | ((with_reducible refine SIn_ne ?_ ?_); focus decide) | ((with_reducible refine SW_true ?_ ?_); focus exact rfl) | ((with_reducible refine SW_false ?_ ?_); focus exact rfl) | ((first | (with_reducible apply SW_run tt_ok hG htb) | ((with_reducible apply SW_draw rfl tt_ok hG htb); (focus kernel_rfl); (focus (simp only [List.range, List.range.loop, List.size_toArray, List.length_cons, List.length_nil, Nat.reduceAdd])))); focus ((repeat' (first | (with_reducible exact runX_nil) | (with_reducible exact runI_nil) | ((first | (with_reducible apply runX_cons) | (with_reducible apply runI_cons)); focus (simp (discharger := omega) only [go_sem, tOut, hx, Function.comp_def, hall, ↓reduceIte, reduceIte, Nat.reduceEqDiff, Nat.reduceLT, Nat.reduceLeDiff, Nat.reduceAdd, Nat.reduceSub, Nat.reduceMul, Nat.reduceDiv, Nat.reduceMod, Nat.reduceBEq, Int.reduceEq, Int.reduceLT, Int.reduceLE, Int.reduceNeg, Int.reduceToNat, reduceCtorEq]; with_reducible rfl)))); done)))
  exact (by simp (discharger := omega) only [go_sem, ↓reduceIte, reduceIte, Nat.reduceEqDiff, Nat.reduceLT, Nat.reduceLeDiff, Nat.reduceAdd, Nat.reduceSub, Nat.reduceMul, Nat.reduceDiv, Nat.reduceMod, Nat.reduceBEq, Int.reduceEq, Int.reduceLT, Int.reduceLE, Int.reduceNeg, Int.reduceToNat, reduceCtorEq])
end
end Go.Proofs.YtfhncnhkeodngaaDoor
namespace Go.Proofs.YtfhncnhkeodngaaDoor
open Go.RowKit

def tTri (s : Int × Int × Int) : T := .agg [.int .i64 s.1, .int .i64 s.2.1, .int .i64 s.2.2]
theorem tTri_inj (p q : Int × Int × Int) (h : tTri p = tTri q) : p = q := by
  simp only [tTri, T.agg.injEq, List.cons.injEq, T.int.injEq, true_and, and_true] at h
  exact Prod.ext h.1 (Prod.ext h.2.1 h.2.2)
def InTri (ma mb mr : Nat) (p : Int × Int × Int) : Prop := (0 ≤ p.1 ∧ p.1 < (ma : Int)) ∧ (0 ≤ p.2.1 ∧ p.2.1 < (mb : Int)) ∧ 0 ≤ p.2.2 ∧ p.2.2 < (mr : Int)
theorem tri_bound {ma mb mr : Nat} {l : List (Int × Int × Int)} (hn : l.Nodup) (h : ∀ p ∈ l, InTri ma mb mr p) : l.length ≤ ma * mb * mr := by
  have := pairs_bound (ma := ma * mb) (mb := mr) (l := l.map fun p => (p.1 * mb + p.2.1, p.2.2)) (by
    refine List.pairwise_map.2 (hn.imp_of_mem fun {p q} hp hq hne e => hne ?_)
    obtain ⟨a1, a2, a3⟩ := h p hp
    obtain ⟨b1, b2, b3⟩ := h q hq
    simp only [Prod.mk.injEq] at e
    have e1 : (p.1 * (mb : Int) + p.2.1) / mb = p.1 := by
      rw [Int.add_comm, Int.add_mul_ediv_right _ _ (by omega), Int.ediv_eq_zero_of_lt a2.1 a2.2]; omega
    have e2 : (q.1 * (mb : Int) + q.2.1) / mb = q.1 := by
      rw [Int.add_comm, Int.add_mul_ediv_right _ _ (by omega), Int.ediv_eq_zero_of_lt b2.1 b2.2]; omega
    have e3 : p.1 = q.1 := by rw [← e1, e.1, e2]
    have e4 : p.2.1 = q.2.1 := by have := e.1; rw [e3] at this; omega
    exact Prod.ext e3 (Prod.ext e4 e.2)) fun p hp => by
      obtain ⟨q, hq, rfl⟩ := List.mem_map.1 hp
      obtain ⟨a1, a2, a3⟩ := h q hq
      refine ⟨⟨?_, ?_⟩, a3⟩
      · have := Int.mul_nonneg a1.1 (show (0 : Int) ≤ mb by omega)
        simp only; omega
      · have h1 : (q.1 + 1) * (mb : Int) ≤ ma * mb := Int.mul_le_mul_of_nonneg_right (by omega) (by omega)
        rw [Int.add_mul] at h1
        have h2 : ((ma * mb : Nat) : Int) = (ma : Int) * (mb : Int) := by simp
        simp only; omega
  simpa using this
def wst1 (A R : List (List Int)) (s : Int × Int × Int) (l : Nat) : Int × Int × Int := (nx A s.1 l, 0, nx R s.2.2 l)
theorem wst1_go (A R : List (List Int)) : ∀ (w : List Nat) (s : Int × Int × Int), s.2.1 = 0 → w.foldl (wst1 A R) s = (runS A s.1 w, 0, runS R s.2.2 w)
  | [], s, h => Prod.ext rfl (Prod.ext h rfl)
  | l :: w, s, _ => by
    show w.foldl (wst1 A R) (wst1 A R s l) = _
    rw [wst1_go A R w _ rfl]; rfl
theorem wst1_run (A R : List (List Int)) (w : List Nat) : w.foldl (wst1 A R) (0, 0, 0) = (runS A 0 w, 0, runS R 0 w) := wst1_go A R w _ rfl
section
variable {G : World → Prop} (hG : Lasting G)
include hG
set_option maxHeartbeats 8000000 in
set_option maxRecDepth 100000 in
theorem pairs1_snd (base : Int) {k n ma mb mr : Nat} {A R : List (List Int)} {RE : List Bool} (h0 : manyErr base 1 = 0) (hn : manyOf base 1 = n) (hk : radix base = k) (hnk : n = k)
    (hA : Rows0 k ma A) (hmb : mb = 1) (hm : 0 < ma ∧ ma ≤ 21 ∧ 0 < mb ∧ mb ≤ 21) (gf : Nat) (cap : List T) (F : Int → Int → Bool)
    (hF : ∀ x y : Int, (0 ≤ x ∧ x < ma) → (0 ≤ y ∧ y < mb) → Snd Tryd.prog G gf (tInts [x] :: cap) (.bool (F x y))) (hall : allA base 1 = ⟨base, 1, R, RE⟩) (hmr : R.length = mr) (hne1 : ¬ (95 = gf)) (hne2 : ¬ (83 = gf)) (hne3 : ¬ (96 = gf)) :
    Snd Tryd.prog G 75 [tInt base, .list [tIntss A], .fn gf cap] (.tup [tAuto (autoL base 1 n (fun w => F (runS A 0 w) 0 && rightWd base 1 w)), tErr (errL n (fun w => F (runS A 0 w) 0 && rightWd base 1 w))]) := by
  show Snd Tryd.prog G 75 [tInt base, .list [tIntss A], .fn gf cap] (.tup [tAuto (autoL base (1 : Nat) n (fun w => F (runS A 0 w) 0 && rightWd base 1 w)), tErr (errL n (fun w => F (runS A 0 w) 0 && rightWd base 1 w))])
  have h0' : manyErr base (1 : Nat) = 0 := h0
  have hall' : allA base (1 : Nat) = ⟨base, (1 : Nat), R, RE⟩ := hall
  have c1 := All_snd (G := G) hG base (1 : Nat)
  have c2 := Radix_snd (G := G) hG base
  rw [h0', hall'] at c1
  rw [hk] at c2
  have gall : Good (allA base 1) n (allA base 1).next.length := allA_good (t := 1) h0 hn
  have hlall : IsLeast (allA base 1) n base 1 (rightWd base 1) := (allA_isLeast (t := 1) h0 hn).1
  have h37 : (allA base 1).next.length ≤ 37 := (allA_isLeast (t := 1) h0 hn).2
  rw [hall] at gall hlall h37
  have hR : Rows0 n mr R := by have := gall.rows; rw [← hmr]; exact this
  have hRE : RE.length = mr := by have := gall.ends; rw [← hmr]; exact this
  have hm0 : 0 < mr := by rw [← hmr]; exact gall.m0
  have hn36 := gall.n36
  have hn0 := gall.n0
  simp only at h37
  have hla := hA.len
  have hlb : mb = 1 := hmb
  have hk0 : 0 < k := Nat.pos_of_ne_zero fun e => by rw [e] at hnk; omega
  have hk2 : 2 ≤ k ∧ k ≤ 6 := by
    have := radix_two (b := base) (by rw [hk]; omega)
    omega
  have hmm : ma * mb * mr ≤ 21 * 21 * 37 := Nat.mul_le_mul (Nat.mul_le_mul hm.2.1 hm.2.2.2) (by omega)
  obtain ⟨rr0, hrr0⟩ : ∃ r, R[0]! = r := ⟨_, rfl⟩
  have hrr0l := hR.row _ (bang_mem hrr0 (by omega))
  have htb := Tab.cons c1 (Tab.cons c2 Tab.nil)
  refine snd_of_body (n := 155) (tm := [(0, .t (tInt base)), (1, .t (.list [tIntss A])), (2, .t (.fn gf cap))]) (rs := [.cell 6 51, .tmp 7]) tt_ok Tryd.func75 rfl rfl rfl rfl rfl ?_
  repeat' (first | (with_reducible first | refine SW_seq ?_ | refine SW_block ?_ | refine SThen_n ?_ | refine SThen_r ?_ | refine SThen_e ?_ | refine SIn_n ?_ | refine SIn_r ?_ | refine SIn_eq ?_ | refine SW_skip ?_ | refine SW_exit ?_ | refine SW_ret ?_ | refine SPost_r ?_) | ((with_reducible refine SIn_ne ?_ ?_); focus decide) | ((with_reducible refine SW_true ?_ ?_); focus exact rfl) | ((with_reducible refine SW_false ?_ ?_); focus exact rfl) | ((first | (with_reducible apply SW_run tt_ok hG htb) | ((with_reducible apply SW_draw rfl tt_ok hG htb); (focus kernel_rfl); (focus (simp only [List.range, List.range.loop, List.size_toArray, List.length_cons, List.length_nil, Nat.reduceAdd])))); focus ((repeat' (first | (with_reducible exact runX_nil) | (with_reducible exact runI_nil) | ((first | (with_reducible apply runX_cons) | (with_reducible apply runI_cons)); focus (simp (discharger := omega) only [go_sem, tAuto, tErr, hne1, hne2, ↓reduceIte, reduceIte, Nat.reduceEqDiff, Nat.reduceLT, Nat.reduceLeDiff, Nat.reduceAdd, Nat.reduceSub, Nat.reduceMul, Nat.reduceDiv, Nat.reduceMod, Nat.reduceBEq, Int.reduceEq, Int.reduceLT, Int.reduceLE, Int.reduceNeg, Int.reduceToNat, reduceCtorEq]; with_reducible rfl)))); done)))
  refine SW_loop (fun mm s => ∃ (i : Nat) (met : List (Int × Int × Int)) (rows : List (List Int)) (es : List (T × T)) (at_ nt et : List T), mm = ma * mb * mr - i ∧ s = ⟨155, [(0, .t (tInt base)), (1, .t (.list [tIntss A])), (2, .t (.fn gf cap)), (6, .bptr 0 0), (8, .bptr 1 0), (10, .t (tNat k)), (11, .map 2), (12, .sref 3), (13, .sref 4), (14, .sref 5), (15, .t (tNat i))], [.box [.t (tInt 0), .t (tInt 0), .nil, .nil], .box [.t (tInt base), .t (tInt (1 : Nat)), .t (tIntss R), .t (tBools RE)], .map (.ints 3) es, .row 149 3 false at_, .row 22 1 false nt, .row 4 1 false et]⟩ ∧ es = keyEntries tTri met ∧ at_ = met.map tTri ∧ nt = rows.map tInts ∧ et = (met.take i).map (fun p => T.bool (endOf RE p.2.2 && F p.1 p.2.1)) ∧ met.Nodup ∧ (∀ p ∈ met, InTri ma mb mr p) ∧ met[0]? = some (0, 0, 0) ∧ Expl (wst1 A R) n met rows ∧ rows.length = i ∧ i ≤ met.length) (ma * mb * mr)
    ⟨_, Norm.headS (own := [(12, 149, 3, false), (13, 22, 1, false), (14, 4, 1, false)]) (keep := [0, 1, 2, 6, 8, 10, 11, 12, 13, 14, 15]) (by simp (discharger := omega) only [go_sem, ↓reduceIte, reduceIte, Nat.reduceEqDiff, Nat.reduceLT, Nat.reduceLeDiff, Nat.reduceAdd, Nat.reduceSub, Nat.reduceMul, Nat.reduceDiv, Nat.reduceMod, Nat.reduceBEq, Int.reduceEq, Int.reduceLT, Int.reduceLE, Int.reduceNeg, Int.reduceToNat, reduceCtorEq]; with_reducible rfl) (by simp only [go_sem, ↓reduceIte, reduceIte, Nat.reduceEqDiff, Nat.reduceLT, Nat.reduceLeDiff, Nat.reduceAdd, Nat.reduceSub, Nat.reduceMul, Nat.reduceDiv, Nat.reduceMod, Nat.reduceBEq, Int.reduceEq, Int.reduceLT, Int.reduceLE, Int.reduceNeg, Int.reduceToNat, reduceCtorEq]; with_reducible rfl) (by simp only [go_sem, ↓reduceIte, reduceIte, Nat.reduceEqDiff, Nat.reduceLT, Nat.reduceLeDiff, Nat.reduceAdd, Nat.reduceSub, Nat.reduceMul, Nat.reduceDiv, Nat.reduceMod, Nat.reduceBEq, Int.reduceEq, Int.reduceLT, Int.reduceLE, Int.reduceNeg, Int.reduceToNat, reduceCtorEq]; with_reducible rfl) (by simp only [go_sem, ↓reduceIte, reduceIte, Nat.reduceEqDiff, Nat.reduceLT, Nat.reduceLeDiff, Nat.reduceAdd, Nat.reduceSub, Nat.reduceMul, Nat.reduceDiv, Nat.reduceMod, Nat.reduceBEq, Int.reduceEq, Int.reduceLT, Int.reduceLE, Int.reduceNeg, Int.reduceToNat, reduceCtorEq]; with_reducible rfl) (by simp only [go_sem, ↓reduceIte, reduceIte, Nat.reduceEqDiff, Nat.reduceLT, Nat.reduceLeDiff, Nat.reduceAdd, Nat.reduceSub, Nat.reduceMul, Nat.reduceDiv, Nat.reduceMod, Nat.reduceBEq, Int.reduceEq, Int.reduceLT, Int.reduceLE, Int.reduceNeg, Int.reduceToNat, reduceCtorEq]; with_reducible rfl), 0, [(0, 0, 0)], [], _, _, _, _, rfl, rfl, rfl, rfl, rfl, rfl, by simp, fun p hp => by simp at hp; subst hp; exact ⟨⟨by simp only; omega, by simp only; omega⟩, ⟨by simp only; omega, by simp only; omega⟩, by simp only; omega, by simp only; omega⟩, rfl, Expl.nil, rfl, by simp⟩ ?_
  clear htb
  rintro mm s ⟨i, met, rows, es, at_, nt, et, rfl, rfl, hes, rfl, rfl, rfl, hnd, hrg, hz, hex, hrl, hi⟩
  have hml := tri_bound hnd hrg
  have hetl : ((met.take i).map (fun p => T.bool (endOf RE p.2.2 && F p.1 p.2.1))).length = i := by simp; omega
  by_cases hlt : i < met.length
  · obtain ⟨⟨x, y, r⟩, hat⟩ : ∃ p, met[i]! = p := ⟨_, rfl⟩
    have hio : met[i]? = some (x, y, r) := bang_get hat hlt
    obtain ⟨hxr, hyr, hrr⟩ := hrg _ (List.mem_of_getElem? hio)
    simp only at hxr hyr hrr
    have cF := hF x y hxr hyr
    have htb := Tab.cons cF Tab.nil
    obtain ⟨ra, hra⟩ : ∃ r, A[x.toNat]! = r := ⟨_, rfl⟩
    obtain ⟨rr, hrrr⟩ : ∃ q, R[r.toNat]! = q := ⟨_, rfl⟩
    have hrr2 : rowOf R r = rr := by unfold rowOf; exact bang_D hrrr (by omega)
    have hrrm := bang_mem hrrr (by omega)
    have hrrn := hR.row _ hrrm
    have hra2 : rowOf A x = ra := by unfold rowOf; exact bang_D hra (by omega)
    have hram := bang_mem hra (by omega)
    have hran := hA.row _ hram
    obtain ⟨e, he⟩ : ∃ e, RE[r.toNat]! = e := ⟨_, rfl⟩
    have hee : endOf RE r = e := by unfold endOf; exact bang_D he (by omega)
    repeat' (first | (with_reducible first | refine SW_seq ?_ | refine SW_block ?_ | refine SThen_n ?_ | refine SThen_r ?_ | refine SThen_e ?_ | refine SIn_n ?_ | refine SIn_r ?_ | refine SIn_eq ?_ | refine SW_skip ?_ | refine SW_exit ?_ | refine SW_ret ?_ | refine SPost_r ?_) | ((with_reducible refine SIn_ne ?_ ?_); focus decide) | ((with_reducible refine SW_true ?_ ?_); focus exact rfl) | ((with_reducible refine SW_false ?_ ?_); focus exact rfl) | ((first | (with_reducible apply SW_run tt_ok hG htb) | ((with_reducible apply SW_draw rfl tt_ok hG htb); (focus kernel_rfl); (focus (simp only [List.range, List.range.loop, List.size_toArray, List.length_cons, List.length_nil, Nat.reduceAdd])))); focus ((repeat' (first | (with_reducible exact runX_nil) | (with_reducible exact runI_nil) | ((first | (with_reducible apply runX_cons) | (with_reducible apply runI_cons)); focus (simp (discharger := omega) only [go_sem, tTri, hat, hrr0, hrr0l, ↓reduceIte, reduceIte, Nat.reduceEqDiff, Nat.reduceLT, Nat.reduceLeDiff, Nat.reduceAdd, Nat.reduceSub, Nat.reduceMul, Nat.reduceDiv, Nat.reduceMod, Nat.reduceBEq, Int.reduceEq, Int.reduceLT, Int.reduceLE, Int.reduceNeg, Int.reduceToNat, reduceCtorEq]; with_reducible rfl)))); done)))
    generalize hetE : (met.take i).map (fun p => T.bool (endOf RE p.2.2 && F p.1 p.2.1)) = et at hetl
    refine SW_loop (fun mm s => ∃ (l : Nat) (met' : List (Int × Int × Int)) (q : List Nat) (es : List (T × T)) (at_ qt : List T), mm = n - l ∧ s = ⟨155, [(0, .t (tInt base)), (1, .t (.list [tIntss A])), (2, .t (.fn gf cap)), (6, .bptr 0 0), (8, .bptr 1 0), (10, .t (tNat k)), (11, .map 2), (12, .sref 3), (13, .sref 4), (14, .sref 5), (15, .t (tNat i)), (16, .bptr 6 0), (17, .sref 7), (58, .t (tNat n)), (59, .t (tNat l))], [.box [.t (tInt 0), .t (tInt 0), .nil, .nil], .box [.t (tInt base), .t (tInt (1 : Nat)), .t (tIntss R), .t (tBools RE)], .map (.ints 3) es, .row 149 3 false at_, .row 22 1 false (rows.map tInts), .row 4 1 false et, .box [.t (tInt x), .t (tInt y), .t (tInt r)], .row 3 1 false qt]⟩ ∧ es = keyEntries tTri met' ∧ at_ = met'.map tTri ∧ qt = q.map tNat ∧ met'.Nodup ∧ (∀ p ∈ met', InTri ma mb mr p) ∧ Met1 (wst1 A R) (x, y, r) met met' q l ∧ l ≤ n) (n)
      ⟨_, Norm.headS (own := [(12, 149, 3, false), (13, 22, 1, false), (14, 4, 1, false), (17, 3, 1, false)]) (keep := [0, 1, 2, 6, 8, 10, 11, 12, 13, 14, 15, 16, 17, 58, 59]) (by simp (discharger := omega) only [go_sem, ↓reduceIte, reduceIte, Nat.reduceEqDiff, Nat.reduceLT, Nat.reduceLeDiff, Nat.reduceAdd, Nat.reduceSub, Nat.reduceMul, Nat.reduceDiv, Nat.reduceMod, Nat.reduceBEq, Int.reduceEq, Int.reduceLT, Int.reduceLE, Int.reduceNeg, Int.reduceToNat, reduceCtorEq]; with_reducible rfl) (by simp only [go_sem, ↓reduceIte, reduceIte, Nat.reduceEqDiff, Nat.reduceLT, Nat.reduceLeDiff, Nat.reduceAdd, Nat.reduceSub, Nat.reduceMul, Nat.reduceDiv, Nat.reduceMod, Nat.reduceBEq, Int.reduceEq, Int.reduceLT, Int.reduceLE, Int.reduceNeg, Int.reduceToNat, reduceCtorEq]; with_reducible rfl) (by simp only [go_sem, ↓reduceIte, reduceIte, Nat.reduceEqDiff, Nat.reduceLT, Nat.reduceLeDiff, Nat.reduceAdd, Nat.reduceSub, Nat.reduceMul, Nat.reduceDiv, Nat.reduceMod, Nat.reduceBEq, Int.reduceEq, Int.reduceLT, Int.reduceLE, Int.reduceNeg, Int.reduceToNat, reduceCtorEq]; with_reducible rfl) (by simp only [go_sem, ↓reduceIte, reduceIte, Nat.reduceEqDiff, Nat.reduceLT, Nat.reduceLeDiff, Nat.reduceAdd, Nat.reduceSub, Nat.reduceMul, Nat.reduceDiv, Nat.reduceMod, Nat.reduceBEq, Int.reduceEq, Int.reduceLT, Int.reduceLE, Int.reduceNeg, Int.reduceToNat, reduceCtorEq]; with_reducible rfl) (by simp only [go_sem, ↓reduceIte, reduceIte, Nat.reduceEqDiff, Nat.reduceLT, Nat.reduceLeDiff, Nat.reduceAdd, Nat.reduceSub, Nat.reduceMul, Nat.reduceDiv, Nat.reduceMod, Nat.reduceBEq, Int.reduceEq, Int.reduceLT, Int.reduceLE, Int.reduceNeg, Int.reduceToNat, reduceCtorEq]; with_reducible rfl), 0, met, [], _, _, _, rfl, rfl, hes, rfl, rfl, hnd, hrg, .start, Nat.zero_le _⟩ ?_
    clear hes
    rintro mm s ⟨l, met', q, es, at_, qt, rfl, rfl, hes, rfl, rfl, hnd', hrg', hM, hl⟩
    have hml' := tri_bound hnd' hrg'
    have hel : es.length = met'.length := by rw [hes, keyEntries_length]
    have hql := hM.len
    by_cases hlt2 : l < n
    · obtain ⟨z, hzl⟩ : ∃ z, rr[l]! = z := ⟨_, rfl⟩
      have hzr := hR.ok _ hrrm _ (bang_mem hzl (by omega))
      have hm1 : ((l : Nat) : Int).tmod (k : Int) = (l : Nat) := by rw [Int.tmod_eq_emod_of_nonneg (by omega)]; exact Int.emod_eq_of_lt (by omega) (by omega)
      have hd1 : ((l : Nat) : Int).tdiv (k : Int) = 0 := by rw [Int.tdiv_eq_ediv_of_nonneg (by omega)]; exact Int.ediv_eq_zero_of_lt (by omega) (by omega)
      obtain ⟨u, hul⟩ : ∃ u, ra[l]! = u := ⟨_, rfl⟩
      have hu := hA.ok _ hram _ (bang_mem hul (by omega))
      have hps : wst1 A R (x, y, r) l = (u, 0, z) := by
        simp only [wst1, nx, hra2, hrr2, bang_D hul (show l < ra.length by omega), bang_D hzl (show l < rr.length by omega)]
      have hin : InTri ma mb mr (u, 0, z) := ⟨hu, ⟨by simp only; omega, by simp only; omega⟩, hzr⟩
      repeat' (first | (with_reducible first | refine SW_seq ?_ | refine SW_block ?_ | refine SThen_n ?_ | refine SThen_r ?_ | refine SThen_e ?_ | refine SIn_n ?_ | refine SIn_r ?_ | refine SIn_eq ?_ | refine SW_skip ?_ | refine SW_exit ?_ | refine SW_ret ?_ | refine SPost_r ?_) | ((with_reducible refine SIn_ne ?_ ?_); focus decide) | ((with_reducible refine SW_true ?_ ?_); focus exact rfl) | ((with_reducible refine SW_false ?_ ?_); focus exact rfl) | ((first | (with_reducible apply SW_run tt_ok hG htb) | ((with_reducible apply SW_draw rfl tt_ok hG htb); (focus kernel_rfl); (focus (simp only [List.range, List.range.loop, List.size_toArray, List.length_cons, List.length_nil, Nat.reduceAdd])))); focus ((repeat' (first | (with_reducible exact runX_nil) | (with_reducible exact runI_nil) | ((first | (with_reducible apply runX_cons) | (with_reducible apply runI_cons)); focus (simp (discharger := omega) only [go_sem, hrrr, hzl, ↓reduceIte, reduceIte, Nat.reduceEqDiff, Nat.reduceLT, Nat.reduceLeDiff, Nat.reduceAdd, Nat.reduceSub, Nat.reduceMul, Nat.reduceDiv, Nat.reduceMod, Nat.reduceBEq, Int.reduceEq, Int.reduceLT, Int.reduceLE, Int.reduceNeg, Int.reduceToNat, reduceCtorEq]; with_reducible rfl)))); done)))
      refine SW_loop (fun mm s => (mm = 1 ∧ s = ⟨155, [(0, .t (tInt base)), (1, .t (.list [tIntss A])), (2, .t (.fn gf cap)), (6, .bptr 0 0), (8, .bptr 1 0), (10, .t (tNat k)), (11, .map 2), (12, .sref 3), (13, .sref 4), (14, .sref 5), (15, .t (tNat i)), (16, .bptr 6 0), (17, .sref 7), (19, .bptr 8 0), (20, .t (tNat l)), (21, .t (tInt (0))), (58, .t (tNat n)), (59, .t (tNat l))], [.box [.t (tInt 0), .t (tInt 0), .nil, .nil], .box [.t (tInt base), .t (tInt (1 : Nat)), .t (tIntss R), .t (tBools RE)], .map (.ints 3) es, .row 149 3 false (met'.map tTri), .row 22 1 false (rows.map tInts), .row 4 1 false et, .box [.t (tInt x), .t (tInt y), .t (tInt r)], .row 3 1 false (q.map tNat), .box [.t (tInt 0), .t (tInt 0), .t (tInt z)]]⟩) ∨ (mm = 0 ∧ s = ⟨155, [(0, .t (tInt base)), (1, .t (.list [tIntss A])), (2, .t (.fn gf cap)), (6, .bptr 0 0), (8, .bptr 1 0), (10, .t (tNat k)), (11, .map 2), (12, .sref 3), (13, .sref 4), (14, .sref 5), (15, .t (tNat i)), (16, .bptr 6 0), (17, .sref 7), (19, .bptr 8 0), (20, .t (tInt 0)), (21, .t (tInt (-1))), (58, .t (tNat n)), (59, .t (tNat l))], [.box [.t (tInt 0), .t (tInt 0), .nil, .nil], .box [.t (tInt base), .t (tInt (1 : Nat)), .t (tIntss R), .t (tBools RE)], .map (.ints 3) es, .row 149 3 false (met'.map tTri), .row 22 1 false (rows.map tInts), .row 4 1 false et, .box [.t (tInt x), .t (tInt y), .t (tInt r)], .row 3 1 false (q.map tNat), .box [.t (tInt u), .t (tInt 0), .t (tInt z)]]⟩)) 1
        ⟨_, Norm.headS (own := [(12, 149, 3, false), (13, 22, 1, false), (14, 4, 1, false), (17, 3, 1, false)]) (keep := [0, 1, 2, 6, 8, 10, 11, 12, 13, 14, 15, 16, 17, 19, 20, 21, 58, 59]) (by simp (discharger := omega) only [go_sem, ↓reduceIte, reduceIte, Nat.reduceEqDiff, Nat.reduceLT, Nat.reduceLeDiff, Nat.reduceAdd, Nat.reduceSub, Nat.reduceMul, Nat.reduceDiv, Nat.reduceMod, Nat.reduceBEq, Int.reduceEq, Int.reduceLT, Int.reduceLE, Int.reduceNeg, Int.reduceToNat, reduceCtorEq]; with_reducible rfl) (by simp only [go_sem, ↓reduceIte, reduceIte, Nat.reduceEqDiff, Nat.reduceLT, Nat.reduceLeDiff, Nat.reduceAdd, Nat.reduceSub, Nat.reduceMul, Nat.reduceDiv, Nat.reduceMod, Nat.reduceBEq, Int.reduceEq, Int.reduceLT, Int.reduceLE, Int.reduceNeg, Int.reduceToNat, reduceCtorEq]; with_reducible rfl) (by simp only [go_sem, ↓reduceIte, reduceIte, Nat.reduceEqDiff, Nat.reduceLT, Nat.reduceLeDiff, Nat.reduceAdd, Nat.reduceSub, Nat.reduceMul, Nat.reduceDiv, Nat.reduceMod, Nat.reduceBEq, Int.reduceEq, Int.reduceLT, Int.reduceLE, Int.reduceNeg, Int.reduceToNat, reduceCtorEq]; with_reducible rfl) (by simp only [go_sem, ↓reduceIte, reduceIte, Nat.reduceEqDiff, Nat.reduceLT, Nat.reduceLeDiff, Nat.reduceAdd, Nat.reduceSub, Nat.reduceMul, Nat.reduceDiv, Nat.reduceMod, Nat.reduceBEq, Int.reduceEq, Int.reduceLT, Int.reduceLE, Int.reduceNeg, Int.reduceToNat, reduceCtorEq]; with_reducible rfl) (by simp only [go_sem, ↓reduceIte, reduceIte, Nat.reduceEqDiff, Nat.reduceLT, Nat.reduceLeDiff, Nat.reduceAdd, Nat.reduceSub, Nat.reduceMul, Nat.reduceDiv, Nat.reduceMod, Nat.reduceBEq, Int.reduceEq, Int.reduceLT, Int.reduceLE, Int.reduceNeg, Int.reduceToNat, reduceCtorEq]; with_reducible rfl), .inl ⟨rfl, rfl⟩⟩ ?_
      rintro mm s (⟨rfl, rfl⟩ | ⟨rfl, rfl⟩)
      · repeat' (first | (with_reducible first | refine SW_seq ?_ | refine SW_block ?_ | refine SThen_n ?_ | refine SThen_r ?_ | refine SThen_e ?_ | refine SIn_n ?_ | refine SIn_r ?_ | refine SIn_eq ?_ | refine SW_skip ?_ | refine SW_exit ?_ | refine SW_ret ?_ | refine SPost_r ?_) | ((with_reducible refine SIn_ne ?_ ?_); focus decide) | ((with_reducible refine SW_true ?_ ?_); focus exact rfl) | ((with_reducible refine SW_false ?_ ?_); focus exact rfl) | ((first | (with_reducible apply SW_run tt_ok hG htb) | ((with_reducible apply SW_draw rfl tt_ok hG htb); (focus kernel_rfl); (focus (simp only [List.range, List.range.loop, List.size_toArray, List.length_cons, List.length_nil, Nat.reduceAdd])))); focus ((repeat' (first | (with_reducible exact runX_nil) | (with_reducible exact runI_nil) | ((first | (with_reducible apply runX_cons) | (with_reducible apply runI_cons)); focus (simp (discharger := omega) only [go_sem, hra, hul, hm1, hd1, ↓reduceIte, reduceIte, Nat.reduceEqDiff, Nat.reduceLT, Nat.reduceLeDiff, Nat.reduceAdd, Nat.reduceSub, Nat.reduceMul, Nat.reduceDiv, Nat.reduceMod, Nat.reduceBEq, Int.reduceEq, Int.reduceLT, Int.reduceLE, Int.reduceNeg, Int.reduceToNat, reduceCtorEq]; with_reducible rfl)))); done)))
        exact ⟨0, _, by omega, Norm.headS (own := [(12, 149, 3, false), (13, 22, 1, false), (14, 4, 1, false), (17, 3, 1, false)]) (keep := [0, 1, 2, 6, 8, 10, 11, 12, 13, 14, 15, 16, 17, 19, 20, 21, 58, 59]) (by simp (discharger := omega) only [go_sem, ↓reduceIte, reduceIte, Nat.reduceEqDiff, Nat.reduceLT, Nat.reduceLeDiff, Nat.reduceAdd, Nat.reduceSub, Nat.reduceMul, Nat.reduceDiv, Nat.reduceMod, Nat.reduceBEq, Int.reduceEq, Int.reduceLT, Int.reduceLE, Int.reduceNeg, Int.reduceToNat, reduceCtorEq]; with_reducible rfl) (by simp only [go_sem, ↓reduceIte, reduceIte, Nat.reduceEqDiff, Nat.reduceLT, Nat.reduceLeDiff, Nat.reduceAdd, Nat.reduceSub, Nat.reduceMul, Nat.reduceDiv, Nat.reduceMod, Nat.reduceBEq, Int.reduceEq, Int.reduceLT, Int.reduceLE, Int.reduceNeg, Int.reduceToNat, reduceCtorEq]; with_reducible rfl) (by simp only [go_sem, ↓reduceIte, reduceIte, Nat.reduceEqDiff, Nat.reduceLT, Nat.reduceLeDiff, Nat.reduceAdd, Nat.reduceSub, Nat.reduceMul, Nat.reduceDiv, Nat.reduceMod, Nat.reduceBEq, Int.reduceEq, Int.reduceLT, Int.reduceLE, Int.reduceNeg, Int.reduceToNat, reduceCtorEq]; with_reducible rfl) (by simp only [go_sem, ↓reduceIte, reduceIte, Nat.reduceEqDiff, Nat.reduceLT, Nat.reduceLeDiff, Nat.reduceAdd, Nat.reduceSub, Nat.reduceMul, Nat.reduceDiv, Nat.reduceMod, Nat.reduceBEq, Int.reduceEq, Int.reduceLT, Int.reduceLE, Int.reduceNeg, Int.reduceToNat, reduceCtorEq]; with_reducible rfl) (by simp only [go_sem, ↓reduceIte, reduceIte, Nat.reduceEqDiff, Nat.reduceLT, Nat.reduceLeDiff, Nat.reduceAdd, Nat.reduceSub, Nat.reduceMul, Nat.reduceDiv, Nat.reduceMod, Nat.reduceBEq, Int.reduceEq, Int.reduceLT, Int.reduceLE, Int.reduceNeg, Int.reduceToNat, reduceCtorEq]; with_reducible rfl), .inr ⟨rfl, rfl⟩⟩
      · by_cases hx : (u, 0, z) ∈ met'
        · obtain ⟨kk, hk⟩ := List.mem_iff_getElem?.1 hx
          have hget : mapGet es (.agg [.int .i64 u, .int .i64 0, .int .i64 z]) = some (tNat kk) := by rw [hes]; exact keyEntries_get_some tTri_inj hnd' hk
          repeat' (first | (with_reducible first | refine SW_seq ?_ | refine SW_block ?_ | refine SThen_n ?_ | refine SThen_r ?_ | refine SThen_e ?_ | refine SIn_n ?_ | refine SIn_r ?_ | refine SIn_eq ?_ | refine SW_skip ?_ | refine SW_exit ?_ | refine SW_ret ?_ | refine SPost_r ?_) | ((with_reducible refine SIn_ne ?_ ?_); focus decide) | ((with_reducible refine SW_true ?_ ?_); focus exact rfl) | ((with_reducible refine SW_false ?_ ?_); focus exact rfl) | ((first | (with_reducible apply SW_run tt_ok hG htb) | ((with_reducible apply SW_draw rfl tt_ok hG htb); (focus kernel_rfl); (focus (simp only [List.range, List.range.loop, List.size_toArray, List.length_cons, List.length_nil, Nat.reduceAdd])))); focus ((repeat' (first | (with_reducible exact runX_nil) | (with_reducible exact runI_nil) | ((first | (with_reducible apply runX_cons) | (with_reducible apply runI_cons)); focus (simp (discharger := omega) only [go_sem, hget, ↓reduceIte, reduceIte, Nat.reduceEqDiff, Nat.reduceLT, Nat.reduceLeDiff, Nat.reduceAdd, Nat.reduceSub, Nat.reduceMul, Nat.reduceDiv, Nat.reduceMod, Nat.reduceBEq, Int.reduceEq, Int.reduceLT, Int.reduceLE, Int.reduceNeg, Int.reduceToNat, reduceCtorEq]; with_reducible rfl)))); done)))
          exact ⟨n - (l + 1), _, by omega, Norm.headS (own := [(12, 149, 3, false), (13, 22, 1, false), (14, 4, 1, false), (17, 3, 1, false)]) (keep := [0, 1, 2, 6, 8, 10, 11, 12, 13, 14, 15, 16, 17, 58, 59]) (by simp (discharger := omega) only [go_sem, ↓reduceIte, reduceIte, Nat.reduceEqDiff, Nat.reduceLT, Nat.reduceLeDiff, Nat.reduceAdd, Nat.reduceSub, Nat.reduceMul, Nat.reduceDiv, Nat.reduceMod, Nat.reduceBEq, Int.reduceEq, Int.reduceLT, Int.reduceLE, Int.reduceNeg, Int.reduceToNat, reduceCtorEq]; with_reducible rfl) (by simp only [go_sem, ↓reduceIte, reduceIte, Nat.reduceEqDiff, Nat.reduceLT, Nat.reduceLeDiff, Nat.reduceAdd, Nat.reduceSub, Nat.reduceMul, Nat.reduceDiv, Nat.reduceMod, Nat.reduceBEq, Int.reduceEq, Int.reduceLT, Int.reduceLE, Int.reduceNeg, Int.reduceToNat, reduceCtorEq]; with_reducible rfl) (by simp only [go_sem, ↓reduceIte, reduceIte, Nat.reduceEqDiff, Nat.reduceLT, Nat.reduceLeDiff, Nat.reduceAdd, Nat.reduceSub, Nat.reduceMul, Nat.reduceDiv, Nat.reduceMod, Nat.reduceBEq, Int.reduceEq, Int.reduceLT, Int.reduceLE, Int.reduceNeg, Int.reduceToNat, reduceCtorEq]; with_reducible rfl) (by simp only [go_sem, ↓reduceIte, reduceIte, Nat.reduceEqDiff, Nat.reduceLT, Nat.reduceLeDiff, Nat.reduceAdd, Nat.reduceSub, Nat.reduceMul, Nat.reduceDiv, Nat.reduceMod, Nat.reduceBEq, Int.reduceEq, Int.reduceLT, Int.reduceLE, Int.reduceNeg, Int.reduceToNat, reduceCtorEq]; with_reducible rfl) (by simp only [go_sem, ↓reduceIte, reduceIte, Nat.reduceEqDiff, Nat.reduceLT, Nat.reduceLeDiff, Nat.reduceAdd, Nat.reduceSub, Nat.reduceMul, Nat.reduceDiv, Nat.reduceMod, Nat.reduceBEq, Int.reduceEq, Int.reduceLT, Int.reduceLE, Int.reduceNeg, Int.reduceToNat, reduceCtorEq]; with_reducible rfl), l + 1, met', q ++ [kk], _, _, _, rfl, rfl, hes, rfl, by rw [List.map_append]; rfl, hnd', hrg', hM.old (by rw [hps]; exact hk), by omega⟩
        · have hget : mapGet es (.agg [.int .i64 u, .int .i64 0, .int .i64 z]) = none := by rw [hes]; exact keyEntries_get_none tTri_inj hx
          have hset : mapSet es (.agg [.int .i64 u, .int .i64 0, .int .i64 z]) (.int .i64 (met'.length : Int)) = keyEntries tTri (met' ++ [(u, 0, z)]) := by rw [hes]; exact keyEntries_set tTri_inj hx
          repeat' (first | (with_reducible first | refine SW_seq ?_ | refine SW_block ?_ | refine SThen_n ?_ | refine SThen_r ?_ | refine SThen_e ?_ | refine SIn_n ?_ | refine SIn_r ?_ | refine SIn_eq ?_ | refine SW_skip ?_ | refine SW_exit ?_ | refine SW_ret ?_ | refine SPost_r ?_) | ((with_reducible refine SIn_ne ?_ ?_); focus decide) | ((with_reducible refine SW_true ?_ ?_); focus exact rfl) | ((with_reducible refine SW_false ?_ ?_); focus exact rfl) | ((first | (with_reducible apply SW_run tt_ok hG htb) | ((with_reducible apply SW_draw rfl tt_ok hG htb); (focus kernel_rfl); (focus (simp only [List.range, List.range.loop, List.size_toArray, List.length_cons, List.length_nil, Nat.reduceAdd])))); focus ((repeat' (first | (with_reducible exact runX_nil) | (with_reducible exact runI_nil) | ((first | (with_reducible apply runX_cons) | (with_reducible apply runI_cons)); focus (simp (discharger := omega) only [go_sem, hget, ↓reduceIte, reduceIte, Nat.reduceEqDiff, Nat.reduceLT, Nat.reduceLeDiff, Nat.reduceAdd, Nat.reduceSub, Nat.reduceMul, Nat.reduceDiv, Nat.reduceMod, Nat.reduceBEq, Int.reduceEq, Int.reduceLT, Int.reduceLE, Int.reduceNeg, Int.reduceToNat, reduceCtorEq]; with_reducible rfl)))); done)))
          exact ⟨n - (l + 1), _, by omega, Norm.headS (own := [(12, 149, 3, false), (13, 22, 1, false), (14, 4, 1, false), (17, 3, 1, false)]) (keep := [0, 1, 2, 6, 8, 10, 11, 12, 13, 14, 15, 16, 17, 58, 59]) (by simp (discharger := omega) only [go_sem, ↓reduceIte, reduceIte, Nat.reduceEqDiff, Nat.reduceLT, Nat.reduceLeDiff, Nat.reduceAdd, Nat.reduceSub, Nat.reduceMul, Nat.reduceDiv, Nat.reduceMod, Nat.reduceBEq, Int.reduceEq, Int.reduceLT, Int.reduceLE, Int.reduceNeg, Int.reduceToNat, reduceCtorEq]; with_reducible rfl) (by simp only [go_sem, ↓reduceIte, reduceIte, Nat.reduceEqDiff, Nat.reduceLT, Nat.reduceLeDiff, Nat.reduceAdd, Nat.reduceSub, Nat.reduceMul, Nat.reduceDiv, Nat.reduceMod, Nat.reduceBEq, Int.reduceEq, Int.reduceLT, Int.reduceLE, Int.reduceNeg, Int.reduceToNat, reduceCtorEq]; with_reducible rfl) (by simp only [go_sem, ↓reduceIte, reduceIte, Nat.reduceEqDiff, Nat.reduceLT, Nat.reduceLeDiff, Nat.reduceAdd, Nat.reduceSub, Nat.reduceMul, Nat.reduceDiv, Nat.reduceMod, Nat.reduceBEq, Int.reduceEq, Int.reduceLT, Int.reduceLE, Int.reduceNeg, Int.reduceToNat, reduceCtorEq]; with_reducible rfl) (by simp only [go_sem, ↓reduceIte, reduceIte, Nat.reduceEqDiff, Nat.reduceLT, Nat.reduceLeDiff, Nat.reduceAdd, Nat.reduceSub, Nat.reduceMul, Nat.reduceDiv, Nat.reduceMod, Nat.reduceBEq, Int.reduceEq, Int.reduceLT, Int.reduceLE, Int.reduceNeg, Int.reduceToNat, reduceCtorEq]; with_reducible rfl) (by simp only [go_sem, ↓reduceIte, reduceIte, Nat.reduceEqDiff, Nat.reduceLT, Nat.reduceLeDiff, Nat.reduceAdd, Nat.reduceSub, Nat.reduceMul, Nat.reduceDiv, Nat.reduceMod, Nat.reduceBEq, Int.reduceEq, Int.reduceLT, Int.reduceLE, Int.reduceNeg, Int.reduceToNat, reduceCtorEq]; with_reducible rfl), l + 1, met' ++ [(u, 0, z)], q ++ [met'.length], _, _, _, rfl, rfl, hset, by rw [List.map_append]; rfl, by rw [List.map_append]; simp [tNat, hel], nodup_snoc hnd' hx, fun p hp => by
              rcases List.mem_append.1 hp with h | h
              · exact hrg' p h
              · simp at h; subst h; exact hin, by have := hM.new; rwa [hps] at this, by omega⟩
    · obtain rfl : l = n := by omega
      have htk := hM.take hio
      have hlt' := (List.getElem?_eq_some_iff.1 (pre_get hM.pre hio)).1
      have hnt : rows.map tInts ++ [T.list (q.map tNat)] = (rows ++ [q.map fun (k : Nat) => (k : Int)]).map tInts := by simp [tInts, tNat, tInt]
      cases e with
      | false =>
        have hfin : et ++ [T.bool false] = (met'.take (i + 1)).map (fun p => T.bool (endOf RE p.2.2 && F p.1 p.2.1)) := by
          rw [htk, List.map_append, hetE]; simp [hee]
        repeat' (first | (with_reducible first | refine SW_seq ?_ | refine SW_block ?_ | refine SThen_n ?_ | refine SThen_r ?_ | refine SThen_e ?_ | refine SIn_n ?_ | refine SIn_r ?_ | refine SIn_eq ?_ | refine SW_skip ?_ | refine SW_exit ?_ | refine SW_ret ?_ | refine SPost_r ?_) | ((with_reducible refine SIn_ne ?_ ?_); focus decide) | ((with_reducible refine SW_true ?_ ?_); focus exact rfl) | ((with_reducible refine SW_false ?_ ?_); focus exact rfl) | ((first | (with_reducible apply SW_run tt_ok hG htb) | ((with_reducible apply SW_draw rfl tt_ok hG htb); (focus kernel_rfl); (focus (simp only [List.range, List.range.loop, List.size_toArray, List.length_cons, List.length_nil, Nat.reduceAdd])))); focus ((repeat' (first | (with_reducible exact runX_nil) | (with_reducible exact runI_nil) | ((first | (with_reducible apply runX_cons) | (with_reducible apply runI_cons)); focus (simp (discharger := omega) only [go_sem, he, ↓reduceIte, reduceIte, Nat.reduceEqDiff, Nat.reduceLT, Nat.reduceLeDiff, Nat.reduceAdd, Nat.reduceSub, Nat.reduceMul, Nat.reduceDiv, Nat.reduceMod, Nat.reduceBEq, Int.reduceEq, Int.reduceLT, Int.reduceLE, Int.reduceNeg, Int.reduceToNat, reduceCtorEq]; with_reducible rfl)))); done)))
        exact ⟨ma * mb * mr - (i + 1), _, by omega, Norm.headS (own := [(12, 149, 3, false), (13, 22, 1, false), (14, 4, 1, false)]) (keep := [0, 1, 2, 6, 8, 10, 11, 12, 13, 14, 15]) (by simp (discharger := omega) only [go_sem, ↓reduceIte, reduceIte, Nat.reduceEqDiff, Nat.reduceLT, Nat.reduceLeDiff, Nat.reduceAdd, Nat.reduceSub, Nat.reduceMul, Nat.reduceDiv, Nat.reduceMod, Nat.reduceBEq, Int.reduceEq, Int.reduceLT, Int.reduceLE, Int.reduceNeg, Int.reduceToNat, reduceCtorEq]; with_reducible rfl) (by simp only [go_sem, ↓reduceIte, reduceIte, Nat.reduceEqDiff, Nat.reduceLT, Nat.reduceLeDiff, Nat.reduceAdd, Nat.reduceSub, Nat.reduceMul, Nat.reduceDiv, Nat.reduceMod, Nat.reduceBEq, Int.reduceEq, Int.reduceLT, Int.reduceLE, Int.reduceNeg, Int.reduceToNat, reduceCtorEq]; with_reducible rfl) (by simp only [go_sem, ↓reduceIte, reduceIte, Nat.reduceEqDiff, Nat.reduceLT, Nat.reduceLeDiff, Nat.reduceAdd, Nat.reduceSub, Nat.reduceMul, Nat.reduceDiv, Nat.reduceMod, Nat.reduceBEq, Int.reduceEq, Int.reduceLT, Int.reduceLE, Int.reduceNeg, Int.reduceToNat, reduceCtorEq]; with_reducible rfl) (by simp only [go_sem, ↓reduceIte, reduceIte, Nat.reduceEqDiff, Nat.reduceLT, Nat.reduceLeDiff, Nat.reduceAdd, Nat.reduceSub, Nat.reduceMul, Nat.reduceDiv, Nat.reduceMod, Nat.reduceBEq, Int.reduceEq, Int.reduceLT, Int.reduceLE, Int.reduceNeg, Int.reduceToNat, reduceCtorEq]; with_reducible rfl) (by simp only [go_sem, ↓reduceIte, reduceIte, Nat.reduceEqDiff, Nat.reduceLT, Nat.reduceLeDiff, Nat.reduceAdd, Nat.reduceSub, Nat.reduceMul, Nat.reduceDiv, Nat.reduceMod, Nat.reduceBEq, Int.reduceEq, Int.reduceLT, Int.reduceLE, Int.reduceNeg, Int.reduceToNat, reduceCtorEq]; with_reducible rfl), i + 1, met', rows ++ [q.map fun (k : Nat) => (k : Int)], _, _, _, _, rfl, rfl, hes, rfl, hnt, hfin, hnd', hrg', pre_get hM.pre hz, hM.fin hex hrl hio, by simp [hrl], by omega⟩
      | true =>
        have hfin : et ++ [T.bool (F x y)] = (met'.take (i + 1)).map (fun p => T.bool (endOf RE p.2.2 && F p.1 p.2.1)) := by
          rw [htk, List.map_append, hetE]; simp [hee]
        repeat' (first | (with_reducible first | refine SW_seq ?_ | refine SW_block ?_ | refine SThen_n ?_ | refine SThen_r ?_ | refine SThen_e ?_ | refine SIn_n ?_ | refine SIn_r ?_ | refine SIn_eq ?_ | refine SW_skip ?_ | refine SW_exit ?_ | refine SW_ret ?_ | refine SPost_r ?_) | ((with_reducible refine SIn_ne ?_ ?_); focus decide) | ((with_reducible refine SW_true ?_ ?_); focus exact rfl) | ((with_reducible refine SW_false ?_ ?_); focus exact rfl) | ((first | (with_reducible apply SW_run tt_ok hG htb) | ((with_reducible apply SW_draw rfl tt_ok hG htb); (focus kernel_rfl); (focus (simp only [List.range, List.range.loop, List.size_toArray, List.length_cons, List.length_nil, Nat.reduceAdd])))); focus ((repeat' (first | (with_reducible exact runX_nil) | (with_reducible exact runI_nil) | ((first | (with_reducible apply runX_cons) | (with_reducible apply runI_cons)); focus (simp (discharger := omega) only [go_sem, he, ↓reduceIte, reduceIte, Nat.reduceEqDiff, Nat.reduceLT, Nat.reduceLeDiff, Nat.reduceAdd, Nat.reduceSub, Nat.reduceMul, Nat.reduceDiv, Nat.reduceMod, Nat.reduceBEq, Int.reduceEq, Int.reduceLT, Int.reduceLE, Int.reduceNeg, Int.reduceToNat, reduceCtorEq]; with_reducible rfl)))); done)))
        refine SW_norm (Norm.fixBox 6 rfl rfl) ?_
        repeat' (first | (with_reducible first | refine SW_seq ?_ | refine SW_block ?_ | refine SThen_n ?_ | refine SThen_r ?_ | refine SThen_e ?_ | refine SIn_n ?_ | refine SIn_r ?_ | refine SIn_eq ?_ | refine SW_skip ?_ | refine SW_exit ?_ | refine SW_ret ?_ | refine SPost_r ?_) | ((with_reducible refine SIn_ne ?_ ?_); focus decide) | ((with_reducible refine SW_true ?_ ?_); focus exact rfl) | ((with_reducible refine SW_false ?_ ?_); focus exact rfl) | ((first | (with_reducible apply SW_run tt_ok hG htb) | ((with_reducible apply SW_draw rfl tt_ok hG htb); (focus kernel_rfl); (focus (simp only [List.range, List.range.loop, List.size_toArray, List.length_cons, List.length_nil, Nat.reduceAdd])))); focus ((repeat' (first | (with_reducible exact runX_nil) | (with_reducible exact runI_nil) | ((first | (with_reducible apply runX_cons) | (with_reducible apply runI_cons)); focus (simp (discharger := omega) only [go_sem, he, ↓reduceIte, reduceIte, Nat.reduceEqDiff, Nat.reduceLT, Nat.reduceLeDiff, Nat.reduceAdd, Nat.reduceSub, Nat.reduceMul, Nat.reduceDiv, Nat.reduceMod, Nat.reduceBEq, Int.reduceEq, Int.reduceLT, Int.reduceLE, Int.reduceNeg, Int.reduceToNat, reduceCtorEq]; with_reducible rfl)))); done)))
        exact ⟨ma * mb * mr - (i + 1), _, by omega, Norm.headS (own := [(12, 149, 3, false), (13, 22, 1, false), (14, 4, 1, false)]) (keep := [0, 1, 2, 6, 8, 10, 11, 12, 13, 14, 15]) (by simp (discharger := omega) only [go_sem, ↓reduceIte, reduceIte, Nat.reduceEqDiff, Nat.reduceLT, Nat.reduceLeDiff, Nat.reduceAdd, Nat.reduceSub, Nat.reduceMul, Nat.reduceDiv, Nat.reduceMod, Nat.reduceBEq, Int.reduceEq, Int.reduceLT, Int.reduceLE, Int.reduceNeg, Int.reduceToNat, reduceCtorEq]; with_reducible rfl) (by simp only [go_sem, ↓reduceIte, reduceIte, Nat.reduceEqDiff, Nat.reduceLT, Nat.reduceLeDiff, Nat.reduceAdd, Nat.reduceSub, Nat.reduceMul, Nat.reduceDiv, Nat.reduceMod, Nat.reduceBEq, Int.reduceEq, Int.reduceLT, Int.reduceLE, Int.reduceNeg, Int.reduceToNat, reduceCtorEq]; with_reducible rfl) (by simp only [go_sem, ↓reduceIte, reduceIte, Nat.reduceEqDiff, Nat.reduceLT, Nat.reduceLeDiff, Nat.reduceAdd, Nat.reduceSub, Nat.reduceMul, Nat.reduceDiv, Nat.reduceMod, Nat.reduceBEq, Int.reduceEq, Int.reduceLT, Int.reduceLE, Int.reduceNeg, Int.reduceToNat, reduceCtorEq]; with_reducible rfl) (by simp only [go_sem, ↓reduceIte, reduceIte, Nat.reduceEqDiff, Nat.reduceLT, Nat.reduceLeDiff, Nat.reduceAdd, Nat.reduceSub, Nat.reduceMul, Nat.reduceDiv, Nat.reduceMod, Nat.reduceBEq, Int.reduceEq, Int.reduceLT, Int.reduceLE, Int.reduceNeg, Int.reduceToNat, reduceCtorEq]; with_reducible rfl) (by simp only [go_sem, ↓reduceIte, reduceIte, Nat.reduceEqDiff, Nat.reduceLT, Nat.reduceLeDiff, Nat.reduceAdd, Nat.reduceSub, Nat.reduceMul, Nat.reduceDiv, Nat.reduceMod, Nat.reduceBEq, Int.reduceEq, Int.reduceLT, Int.reduceLE, Int.reduceNeg, Int.reduceToNat, reduceCtorEq]; with_reducible rfl), i + 1, met', rows ++ [q.map fun (k : Nat) => (k : Int)], _, _, _, _, rfl, rfl, hes, rfl, hnt, hfin, hnd', hrg', pre_get hM.pre hz, hM.fin hex hrl hio, by simp [hrl], by omega⟩
  · have hie : i = met.length := by omega
    have hsE : (met.take i).map (fun p => T.bool (endOf RE p.2.2 && F p.1 p.2.1)) = (met.map fun p => endOf RE p.2.2 && F p.1 p.2.1).map T.bool := by rw [hie, List.take_length, List.map_map]; rfl
    rw [hsE]
    have hRm : rows.length = met.length := by omega
    have hT := hex.table hRm
    have hm1 : 0 < met.length := (List.getElem?_eq_some_iff.1 hz).1
    have hlang : ∀ w, Ltr n w → lang rows (met.map fun p => endOf RE p.2.2 && F p.1 p.2.1) 0 w = (F (runS A 0 w) 0 && rightWd base 1 w) := fun w hw => by
      rw [hex.lang hRm hz (E := fun p => endOf RE p.2.2 && F p.1 p.2.1) (fun i s h => by rw [List.getElem?_map, h]; rfl) hw, wst1_run]
      have e : endOf RE (runS R 0 w) = rightWd base 1 w := hlall.lng hw
      show (endOf RE (runS R 0 w) && F (runS A 0 w) 0) = _
      rw [e, Bool.and_comm]
    have hS := Shrink_snd (G := G) (ends := met.map fun p => endOf RE p.2.2 && F p.1 p.2.1) hG base (1 : Nat) hT hm1 (by omega) (by simp) (by omega)
    rw [shrinkT_L hT hm1 hlang] at hS
    have htb := Tab.cons hS Tab.nil
    generalize (met.map fun p => endOf RE p.2.2 && F p.1 p.2.1) = ends at *
    refine SW_norm (Norm.frz 13 rfl rfl) ?_
    refine SW_norm (Norm.frz 14 rfl rfl) ?_
    have hec := errL_cases n fun w => F (runS A 0 w) 0 && rightWd base 1 w
    generalize haut : autoL base (1 : Nat) n (fun w => F (runS A 0 w) 0 && rightWd base 1 w) = au at hS htb ⊢
    by_cases he0 : errL n (fun w => F (runS A 0 w) 0 && rightWd base 1 w) = 0
    · rw [he0] at hS htb ⊢
      simp only [decide_true] at htb
      repeat' (first | (with_reducible first | refine SW_seq ?_ | refine SW_block ?_ | refine SThen_n ?_ | refine SThen_r ?_ | refine SThen_e ?_ | refine SIn_n ?_ | refine SIn_r ?_ | refine SIn_eq ?_ | refine SW_skip ?_ | refine SW_exit ?_ | refine SW_ret ?_ | refine SPost_r ?_) | ((with_reducible refine SIn_ne ?_ ?_); focus decide) | ((with_reducible refine SW_true ?_ ?_); focus exact rfl) | ((with_reducible refine SW_false ?_ ?_); focus exact rfl) | ((first | (with_reducible apply SW_run tt_ok hG htb) | ((with_reducible apply SW_draw rfl tt_ok hG htb); (focus kernel_rfl); (focus (simp only [List.range, List.range.loop, List.size_toArray, List.length_cons, List.length_nil, Nat.reduceAdd])))); focus ((repeat' (first | (with_reducible exact runX_nil) | (with_reducible exact runI_nil) | ((first | (with_reducible apply runX_cons) | (with_reducible apply runI_cons)); focus (simp (discharger := omega) only [go_sem, tAuto, tErr, ↓reduceIte, reduceIte, Nat.reduceEqDiff, Nat.reduceLT, Nat.reduceLeDiff, Nat.reduceAdd, Nat.reduceSub, Nat.reduceMul, Nat.reduceDiv, Nat.reduceMod, Nat.reduceBEq, Int.reduceEq, Int.reduceLT, Int.reduceLE, Int.reduceNeg, Int.reduceToNat, reduceCtorEq]; with_reducible rfl)))); done)))
      exact (by simp (discharger := omega) only [go_sem, tAuto, tErr, ↓reduceIte, reduceIte, Nat.reduceEqDiff, Nat.reduceLT, Nat.reduceLeDiff, Nat.reduceAdd, Nat.reduceSub, Nat.reduceMul, Nat.reduceDiv, Nat.reduceMod, Nat.reduceBEq, Int.reduceEq, Int.reduceLT, Int.reduceLE, Int.reduceNeg, Int.reduceToNat, reduceCtorEq])
    · have he3 : errL n (fun w => F (runS A 0 w) 0 && rightWd base 1 w) = 3 := by omega
      have hau : au = GAuto.zero := by rw [← haut]; unfold autoL; rw [if_neg he0]
      rw [hau] at hS htb ⊢
      rw [he3] at hS htb ⊢
      simp only [show decide ((3 : Int) = 0) = false by decide] at htb
      repeat' (first | (with_reducible first | refine SW_seq ?_ | refine SW_block ?_ | refine SThen_n ?_ | refine SThen_r ?_ | refine SThen_e ?_ | refine SIn_n ?_ | refine SIn_r ?_ | refine SIn_eq ?_ | refine SW_skip ?_ | refine SW_exit ?_ | refine SW_ret ?_ | refine SPost_r ?_) | ((with_reducible refine SIn_ne ?_ ?_); focus decide) | ((with_reducible refine SW_true ?_ ?_); focus exact rfl) | ((with_reducible refine SW_false ?_ ?_); focus exact rfl) | ((first | (with_reducible apply SW_run tt_ok hG htb) | ((with_reducible apply SW_draw rfl tt_ok hG htb); (focus kernel_rfl); (focus (simp only [List.range, List.range.loop, List.size_toArray, List.length_cons, List.length_nil, Nat.reduceAdd])))); focus ((repeat' (first | (with_reducible exact runX_nil) | (with_reducible exact runI_nil) | ((first | (with_reducible apply runX_cons) | (with_reducible apply runI_cons)); focus (simp (discharger := omega) only [go_sem, tAuto, tErr, GAuto.zero, ↓reduceIte, reduceIte, Nat.reduceEqDiff, Nat.reduceLT, Nat.reduceLeDiff, Nat.reduceAdd, Nat.reduceSub, Nat.reduceMul, Nat.reduceDiv, Nat.reduceMod, Nat.reduceBEq, Int.reduceEq, Int.reduceLT, Int.reduceLE, Int.reduceNeg, Int.reduceToNat, reduceCtorEq]; with_reducible rfl)))); done)))
      exact (by simp (discharger := omega) only [go_sem, tAuto, tErr, GAuto.zero, ↓reduceIte, reduceIte, Nat.reduceEqDiff, Nat.reduceLT, Nat.reduceLeDiff, Nat.reduceAdd, Nat.reduceSub, Nat.reduceMul, Nat.reduceDiv, Nat.reduceMod, Nat.reduceBEq, Int.reduceEq, Int.reduceLT, Int.reduceLE, Int.reduceNeg, Int.reduceToNat, reduceCtorEq])
end
end Go.Proofs.YtfhncnhkeodngaaDoor
