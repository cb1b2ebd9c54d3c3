/- Plain laws, data behind worlds, and contracts of functions, for the last text. No conditions. -/
import Derived.Test.YtfhncnhkeodngaaM5
import Derived.Test.YtfhncnhkeodngaaChecked
import Derived.StillTailTactics
set_option linter.unusedSimpArgs false
set_option linter.unusedVariables false
set_option linter.unnecessarySimpa false
set_option linter.unusedSectionVars false
namespace Go.Proofs.Ytfhncnhkeodngaa
open Go.RowKit

def sizeT (coefs : List Int) : T := if szAll coefs = true then .tup [tInt (szW coefs), .bool (decide (szW coefs ≤ 12))] else .tup [tInt 0, .bool false]
def holdsErr (coefs : List Int) (c : Int) (nums : List Int) : Int := if 5 < coefs.length ∨ 12 < sizeA coefs ∨ c < -60 ∨ 60 < c then 1 else if nums.length ≠ coefs.length then 2 else if nums.all (fun n => decide (0 ≤ n ∧ n ≤ 1099511627776)) = false then 1 else 0
def sumV (coefs : List Int) (c : Int) (nums : List Int) : Int := c + dotN coefs (fun j => nums.getD j 0) coefs.length
def holdsOf (coefs : List Int) (c : Int) (less : Bool) (nums : List Int) : Bool := decide (holdsErr coefs c nums = 0) && lnEnd less 0 (sumV coefs c nums, 0)
theorem tPair_inj' (p q : Int × Int) (h : tPair p = tPair q) : p = q := tPair_inj h
theorem szW_next {coefs : List Int} {i : Nat} {x : Int} (h : coefs[i]! = x) (hi : i < coefs.length) : szW (coefs.take (i + 1)) = IntKind.i64.wrap (szW (coefs.take i) + max x (-x)) := by
  rw [take_next h hi]
  unfold szW
  rw [List.foldl_append]; rfl
theorem nums_bad {coefs : List Int} {c : Int} {nums : List Int} (h1 : ¬ (5 < coefs.length ∨ 12 < sizeA coefs ∨ c < -60 ∨ 60 < c)) (h2 : nums.length = coefs.length) {i : Nat} (hi : i < nums.length) (hx : ¬ (0 ≤ nums[i] ∧ nums[i] ≤ 1099511627776)) : holdsErr coefs c nums = 1 := by
  unfold holdsErr
  rw [if_neg h1, if_neg (by omega), if_pos]
  rw [List.all_eq_false]
  exact ⟨nums[i], List.getElem_mem hi, by simpa using hx⟩
theorem nums_fine {coefs : List Int} {c : Int} {nums : List Int} (h1 : ¬ (5 < coefs.length ∨ 12 < sizeA coefs ∨ c < -60 ∨ 60 < c)) (h2 : nums.length = coefs.length) (hx : ∀ j (hj : j < nums.length), 0 ≤ nums[j] ∧ nums[j] ≤ 1099511627776) : holdsErr coefs c nums = 0 := by
  unfold holdsErr
  rw [if_neg h1, if_neg (by omega), if_neg]
  rw [Bool.not_eq_false, List.all_eq_true]
  intro x hxm
  obtain ⟨j, hj, rfl⟩ := List.mem_iff_getElem.1 hxm
  simpa using hx j hj
/-- The sum of numbers stays small. -/
theorem dotN_num {coefs nums : List Int} (hs : sizeA coefs ≤ 12) (hn : ∀ j (hj : j < nums.length), 0 ≤ nums[j] ∧ nums[j] ≤ 1099511627776) {i : Nat} (hi : i ≤ coefs.length) : -13194139533312 ≤ dotN coefs (fun j => nums.getD j 0) i ∧ dotN coefs (fun j => nums.getD j 0) i ≤ 13194139533312 := by
  have h := dotN_bd coefs (f := fun j => nums.getD j 0) (r := 1099511627776) i fun j _ => by
    by_cases hj : j < nums.length
    · rw [getD_lt hj]; exact hn j hj
    · rw [List.getD_eq_getElem?_getD, List.getElem?_eq_none (by omega)]; simp
  have h1 := (posneg coefs i).1
  have h2 := (posneg coefs i).2
  have h3 := absN_mono coefs hi
  unfold sizeA at hs
  omega
section
variable {G : World → Prop} (hG : Lasting G)
include hG
set_option maxHeartbeats 4000000 in
theorem Size_snd (coefs : List Int) : Snd Try.prog G 45 [tInts coefs] (sizeT coefs) := by
  have htb : Tab.ok Try.prog G [] := Tab.nil
  refine snd_of_body (n := 29) (tm := [(0, .t (tInts coefs))]) (rs := [.tmp 2, .tmp 3]) tt_ok Try.func45 rfl rfl rfl rfl rfl ?_
  refine SW_len (t := 0) (l := _) rfl fun hcl => ?_
  simp only [List.length_map] at hcl
  repeat' (first | (with_reducible first | refine SW_seq ?_ | refine SW_block ?_ | refine SThen_n ?_ | refine SThen_r ?_ | refine SThen_e ?_ | refine SIn_n ?_ | refine SIn_r ?_ | refine SIn_eq ?_ | refine SW_skip ?_ | refine SW_exit ?_ | refine SW_ret ?_ | refine SPost_r ?_) | ((with_reducible refine SIn_ne ?_ ?_); focus decide) | ((with_reducible refine SW_true ?_ ?_); focus exact rfl) | ((with_reducible refine SW_false ?_ ?_); focus exact rfl) | ((first | (with_reducible apply SW_run tt_ok hG htb) | ((with_reducible apply SW_draw rfl tt_ok hG htb); (focus kernel_rfl); (focus (simp only [List.range, List.range.loop, List.size_toArray, List.length_cons, List.length_nil, Nat.reduceAdd])))); focus ((repeat' (first | (with_reducible exact runX_nil) | (with_reducible exact runI_nil) | ((first | (with_reducible apply runX_cons) | (with_reducible apply runI_cons)); focus (simp (discharger := omega) only [go_sem, ↓reduceIte, reduceIte, Nat.reduceEqDiff, Nat.reduceLT, Nat.reduceLeDiff, Nat.reduceAdd, Nat.reduceSub, Nat.reduceMul, Nat.reduceDiv, Nat.reduceMod, Nat.reduceBEq, Int.reduceEq, Int.reduceLT, Int.reduceLE, Int.reduceNeg, Int.reduceToNat, reduceCtorEq]; with_reducible rfl)))); done)))
  refine SW_loop (fun mm s => ∃ (i : Nat) (q : Int), mm = coefs.length - i ∧ s = ⟨29, [(4, .t (tInt q)), (7, .t (tInts coefs)), (8, .t (tInt coefs.length)), (9, .t (tInt i))], []⟩ ∧ i ≤ coefs.length ∧ q = szW (coefs.take i) ∧ ∀ j (hj : j < coefs.length), j < i → -12 ≤ coefs[j] ∧ coefs[j] ≤ 12) (coefs.length)
    ⟨_, Norm.headS (own := []) (keep := [4, 7, 8, 9]) (by simp (discharger := omega) only [go_sem, ↓reduceIte, reduceIte, Nat.reduceEqDiff, Nat.reduceLT, Nat.reduceLeDiff, Nat.reduceAdd, Nat.reduceSub, Nat.reduceMul, Nat.reduceDiv, Nat.reduceMod, Nat.reduceBEq, Int.reduceEq, Int.reduceLT, Int.reduceLE, Int.reduceNeg, Int.reduceToNat, reduceCtorEq]; with_reducible rfl) (by simp only [go_sem, ↓reduceIte, reduceIte, Nat.reduceEqDiff, Nat.reduceLT, Nat.reduceLeDiff, Nat.reduceAdd, Nat.reduceSub, Nat.reduceMul, Nat.reduceDiv, Nat.reduceMod, Nat.reduceBEq, Int.reduceEq, Int.reduceLT, Int.reduceLE, Int.reduceNeg, Int.reduceToNat, reduceCtorEq]; with_reducible rfl) (by simp only [go_sem, ↓reduceIte, reduceIte, Nat.reduceEqDiff, Nat.reduceLT, Nat.reduceLeDiff, Nat.reduceAdd, Nat.reduceSub, Nat.reduceMul, Nat.reduceDiv, Nat.reduceMod, Nat.reduceBEq, Int.reduceEq, Int.reduceLT, Int.reduceLE, Int.reduceNeg, Int.reduceToNat, reduceCtorEq]; with_reducible rfl) (by simp only [go_sem, ↓reduceIte, reduceIte, Nat.reduceEqDiff, Nat.reduceLT, Nat.reduceLeDiff, Nat.reduceAdd, Nat.reduceSub, Nat.reduceMul, Nat.reduceDiv, Nat.reduceMod, Nat.reduceBEq, Int.reduceEq, Int.reduceLT, Int.reduceLE, Int.reduceNeg, Int.reduceToNat, reduceCtorEq]; with_reducible rfl) (by simp only [go_sem, ↓reduceIte, reduceIte, Nat.reduceEqDiff, Nat.reduceLT, Nat.reduceLeDiff, Nat.reduceAdd, Nat.reduceSub, Nat.reduceMul, Nat.reduceDiv, Nat.reduceMod, Nat.reduceBEq, Int.reduceEq, Int.reduceLT, Int.reduceLE, Int.reduceNeg, Int.reduceToNat, reduceCtorEq]; with_reducible rfl), 0, 0, rfl, rfl, Nat.zero_le _, rfl, fun j hj h => by omega⟩ ?_
  rintro mm s ⟨i, q, rfl, rfl, hi, hq, hA⟩
  by_cases hlt : i < coefs.length
  · obtain ⟨x, hx⟩ : ∃ x, coefs[i]! = x := ⟨_, rfl⟩
    have hat := bang_at hx hlt
    have hnx := szW_next hx hlt
    rw [← hq] at hnx
    by_cases hx0 : x < -12
    · have e : sizeT coefs = .tup [tInt 0, .bool false] := by
        unfold sizeT
        rw [if_neg]
        rw [Bool.not_eq_true, szAll, List.all_eq_false]
        exact ⟨x, bang_mem hx hlt, by simp; omega⟩
      rw [e]
      repeat' (first | (with_reducible first | refine SW_seq ?_ | refine SW_block ?_ | refine SThen_n ?_ | refine SThen_r ?_ | refine SThen_e ?_ | refine SIn_n ?_ | refine SIn_r ?_ | refine SIn_eq ?_ | refine SW_skip ?_ | refine SW_exit ?_ | refine SW_ret ?_ | refine SPost_r ?_) | ((with_reducible refine SIn_ne ?_ ?_); focus decide) | ((with_reducible refine SW_true ?_ ?_); focus exact rfl) | ((with_reducible refine SW_false ?_ ?_); focus exact rfl) | ((first | (with_reducible apply SW_run tt_ok hG htb) | ((with_reducible apply SW_draw rfl tt_ok hG htb); (focus kernel_rfl); (focus (simp only [List.range, List.range.loop, List.size_toArray, List.length_cons, List.length_nil, Nat.reduceAdd])))); focus ((repeat' (first | (with_reducible exact runX_nil) | (with_reducible exact runI_nil) | ((first | (with_reducible apply runX_cons) | (with_reducible apply runI_cons)); focus (simp (discharger := omega) only [go_sem, hx, ↓reduceIte, reduceIte, Nat.reduceEqDiff, Nat.reduceLT, Nat.reduceLeDiff, Nat.reduceAdd, Nat.reduceSub, Nat.reduceMul, Nat.reduceDiv, Nat.reduceMod, Nat.reduceBEq, Int.reduceEq, Int.reduceLT, Int.reduceLE, Int.reduceNeg, Int.reduceToNat, reduceCtorEq]; with_reducible rfl)))); done)))
      exact (by simp (discharger := omega) only [go_sem, ↓reduceIte, reduceIte, Nat.reduceEqDiff, Nat.reduceLT, Nat.reduceLeDiff, Nat.reduceAdd, Nat.reduceSub, Nat.reduceMul, Nat.reduceDiv, Nat.reduceMod, Nat.reduceBEq, Int.reduceEq, Int.reduceLT, Int.reduceLE, Int.reduceNeg, Int.reduceToNat, reduceCtorEq])
    · by_cases hx1 : 12 < x
      · have e : sizeT coefs = .tup [tInt 0, .bool false] := by
          unfold sizeT
          rw [if_neg]
          rw [Bool.not_eq_true, szAll, List.all_eq_false]
          exact ⟨x, bang_mem hx hlt, by simp; omega⟩
        rw [e]
        repeat' (first | (with_reducible first | refine SW_seq ?_ | refine SW_block ?_ | refine SThen_n ?_ | refine SThen_r ?_ | refine SThen_e ?_ | refine SIn_n ?_ | refine SIn_r ?_ | refine SIn_eq ?_ | refine SW_skip ?_ | refine SW_exit ?_ | refine SW_ret ?_ | refine SPost_r ?_) | ((with_reducible refine SIn_ne ?_ ?_); focus decide) | ((with_reducible refine SW_true ?_ ?_); focus exact rfl) | ((with_reducible refine SW_false ?_ ?_); focus exact rfl) | ((first | (with_reducible apply SW_run tt_ok hG htb) | ((with_reducible apply SW_draw rfl tt_ok hG htb); (focus kernel_rfl); (focus (simp only [List.range, List.range.loop, List.size_toArray, List.length_cons, List.length_nil, Nat.reduceAdd])))); focus ((repeat' (first | (with_reducible exact runX_nil) | (with_reducible exact runI_nil) | ((first | (with_reducible apply runX_cons) | (with_reducible apply runI_cons)); focus (simp (discharger := omega) only [go_sem, hx, ↓reduceIte, reduceIte, Nat.reduceEqDiff, Nat.reduceLT, Nat.reduceLeDiff, Nat.reduceAdd, Nat.reduceSub, Nat.reduceMul, Nat.reduceDiv, Nat.reduceMod, Nat.reduceBEq, Int.reduceEq, Int.reduceLT, Int.reduceLE, Int.reduceNeg, Int.reduceToNat, reduceCtorEq]; with_reducible rfl)))); done)))
        exact (by simp (discharger := omega) only [go_sem, ↓reduceIte, reduceIte, Nat.reduceEqDiff, Nat.reduceLT, Nat.reduceLeDiff, Nat.reduceAdd, Nat.reduceSub, Nat.reduceMul, Nat.reduceDiv, Nat.reduceMod, Nat.reduceBEq, Int.reduceEq, Int.reduceLT, Int.reduceLE, Int.reduceNeg, Int.reduceToNat, reduceCtorEq])
      · have hng : IntKind.i64.wrap (0 - x) = -x := by rw [wrap_i64 _ (by omega)]; omega
        have hmx : (if -x > x then -x else x) = max x (-x) := by rw [Int.max_def]; split <;> split <;> omega
        repeat' (first | (with_reducible first | refine SW_seq ?_ | refine SW_block ?_ | refine SThen_n ?_ | refine SThen_r ?_ | refine SThen_e ?_ | refine SIn_n ?_ | refine SIn_r ?_ | refine SIn_eq ?_ | refine SW_skip ?_ | refine SW_exit ?_ | refine SW_ret ?_ | refine SPost_r ?_) | ((with_reducible refine SIn_ne ?_ ?_); focus decide) | ((with_reducible refine SW_true ?_ ?_); focus exact rfl) | ((with_reducible refine SW_false ?_ ?_); focus exact rfl) | ((first | (with_reducible apply SW_run tt_ok hG htb) | ((with_reducible apply SW_draw rfl tt_ok hG htb); (focus kernel_rfl); (focus (simp only [List.range, List.range.loop, List.size_toArray, List.length_cons, List.length_nil, Nat.reduceAdd])))); focus ((repeat' (first | (with_reducible exact runX_nil) | (with_reducible exact runI_nil) | ((first | (with_reducible apply runX_cons) | (with_reducible apply runI_cons)); focus (simp (discharger := omega) only [go_sem, hx, hng, hmx, ↓reduceIte, reduceIte, Nat.reduceEqDiff, Nat.reduceLT, Nat.reduceLeDiff, Nat.reduceAdd, Nat.reduceSub, Nat.reduceMul, Nat.reduceDiv, Nat.reduceMod, Nat.reduceBEq, Int.reduceEq, Int.reduceLT, Int.reduceLE, Int.reduceNeg, Int.reduceToNat, reduceCtorEq]; with_reducible rfl)))); done)))
        exact ⟨coefs.length - (i + 1), _, by omega, Norm.headS (own := []) (keep := [4, 7, 8, 9]) (by simp (discharger := omega) only [go_sem, ↓reduceIte, reduceIte, Nat.reduceEqDiff, Nat.reduceLT, Nat.reduceLeDiff, Nat.reduceAdd, Nat.reduceSub, Nat.reduceMul, Nat.reduceDiv, Nat.reduceMod, Nat.reduceBEq, Int.reduceEq, Int.reduceLT, Int.reduceLE, Int.reduceNeg, Int.reduceToNat, reduceCtorEq]; with_reducible rfl) (by simp only [go_sem, ↓reduceIte, reduceIte, Nat.reduceEqDiff, Nat.reduceLT, Nat.reduceLeDiff, Nat.reduceAdd, Nat.reduceSub, Nat.reduceMul, Nat.reduceDiv, Nat.reduceMod, Nat.reduceBEq, Int.reduceEq, Int.reduceLT, Int.reduceLE, Int.reduceNeg, Int.reduceToNat, reduceCtorEq]; with_reducible rfl) (by simp only [go_sem, ↓reduceIte, reduceIte, Nat.reduceEqDiff, Nat.reduceLT, Nat.reduceLeDiff, Nat.reduceAdd, Nat.reduceSub, Nat.reduceMul, Nat.reduceDiv, Nat.reduceMod, Nat.reduceBEq, Int.reduceEq, Int.reduceLT, Int.reduceLE, Int.reduceNeg, Int.reduceToNat, reduceCtorEq]; with_reducible rfl) (by simp only [go_sem, ↓reduceIte, reduceIte, Nat.reduceEqDiff, Nat.reduceLT, Nat.reduceLeDiff, Nat.reduceAdd, Nat.reduceSub, Nat.reduceMul, Nat.reduceDiv, Nat.reduceMod, Nat.reduceBEq, Int.reduceEq, Int.reduceLT, Int.reduceLE, Int.reduceNeg, Int.reduceToNat, reduceCtorEq]; with_reducible rfl) (by simp only [go_sem, ↓reduceIte, reduceIte, Nat.reduceEqDiff, Nat.reduceLT, Nat.reduceLeDiff, Nat.reduceAdd, Nat.reduceSub, Nat.reduceMul, Nat.reduceDiv, Nat.reduceMod, Nat.reduceBEq, Int.reduceEq, Int.reduceLT, Int.reduceLE, Int.reduceNeg, Int.reduceToNat, reduceCtorEq]; with_reducible rfl), i + 1, _, rfl, rfl, by omega, hnx.symm, fun j hj h => by
            by_cases e : j = i
            · subst e; rw [hat]; omega
            · exact hA j hj (by omega)⟩
  · obtain rfl : i = coefs.length := by omega
    rw [List.take_length] at hq
    have hall : szAll coefs = true := List.all_eq_true.2 fun x hx => by
      obtain ⟨j, hj, rfl⟩ := List.mem_iff_getElem.1 hx
      simpa using hA j hj hj
    unfold sizeT
    rw [if_pos hall, ← hq]
    repeat' (first | (with_reducible first | refine SW_seq ?_ | refine SW_block ?_ | refine SThen_n ?_ | refine SThen_r ?_ | refine SThen_e ?_ | refine SIn_n ?_ | refine SIn_r ?_ | refine SIn_eq ?_ | refine SW_skip ?_ | refine SW_exit ?_ | refine SW_ret ?_ | refine SPost_r ?_) | ((with_reducible refine SIn_ne ?_ ?_); focus decide) | ((with_reducible refine SW_true ?_ ?_); focus exact rfl) | ((with_reducible refine SW_false ?_ ?_); focus exact rfl) | ((first | (with_reducible apply SW_run tt_ok hG htb) | ((with_reducible apply SW_draw rfl tt_ok hG htb); (focus kernel_rfl); (focus (simp only [List.range, List.range.loop, List.size_toArray, List.length_cons, List.length_nil, Nat.reduceAdd])))); focus ((repeat' (first | (with_reducible exact runX_nil) | (with_reducible exact runI_nil) | ((first | (with_reducible apply runX_cons) | (with_reducible apply runI_cons)); focus (simp (discharger := omega) only [go_sem, ↓reduceIte, reduceIte, Nat.reduceEqDiff, Nat.reduceLT, Nat.reduceLeDiff, Nat.reduceAdd, Nat.reduceSub, Nat.reduceMul, Nat.reduceDiv, Nat.reduceMod, Nat.reduceBEq, Int.reduceEq, Int.reduceLT, Int.reduceLE, Int.reduceNeg, Int.reduceToNat, reduceCtorEq]; with_reducible rfl)))); done)))
    exact (by simp (discharger := omega) only [go_sem, ↓reduceIte, reduceIte, Nat.reduceEqDiff, Nat.reduceLT, Nat.reduceLeDiff, Nat.reduceAdd, Nat.reduceSub, Nat.reduceMul, Nat.reduceDiv, Nat.reduceMod, Nat.reduceBEq, Int.reduceEq, Int.reduceLT, Int.reduceLE, Int.reduceNeg, Int.reduceToNat, reduceCtorEq])
set_option maxHeartbeats 4000000 in
theorem Holds_snd (coefs : List Int) (c : Int) (less : Bool) (nums : List Int) : Snd Try.prog G 23 [tInts coefs, tInt c, .bool less, tInts nums] (.tup [.bool (holdsOf coefs c less nums), tErr (holdsErr coefs c nums)]) := by
  have c1 := Size_snd hG coefs
  refine snd_of_body (n := 77) (tm := [(0, .t (tInts coefs)), (1, .t (tInt c)), (2, .t (.bool less)), (3, .t (tInts nums))]) (rs := [.tmp 8, .tmp 9]) tt_ok Try.func23 rfl rfl rfl rfl rfl ?_
  have bad : ∀ e, holdsErr coefs c nums = e → e ≠ 0 → holdsOf coefs c less nums = false := fun e h1 h2 => by unfold holdsOf; rw [h1, decide_eq_false h2]; rfl
  by_cases h1 : 5 < coefs.length ∨ 12 < sizeA coefs ∨ c < -60 ∨ 60 < c
  · have e : holdsErr coefs c nums = 1 := by unfold holdsErr; rw [if_pos h1]
    rw [bad 1 e (by decide), e]
    unfold sizeT at c1
    by_cases h5 : 5 < coefs.length
    · cases hz : szAll coefs with
      | true =>
        rw [if_pos hz] at c1
        have htb := Tab.cons c1 Tab.nil
        repeat' (first | (with_reducible first | refine SW_seq ?_ | refine SW_block ?_ | refine SThen_n ?_ | refine SThen_r ?_ | refine SThen_e ?_ | refine SIn_n ?_ | refine SIn_r ?_ | refine SIn_eq ?_ | refine SW_skip ?_ | refine SW_exit ?_ | refine SW_ret ?_ | refine SPost_r ?_) | ((with_reducible refine SIn_ne ?_ ?_); focus decide) | ((with_reducible refine SW_true ?_ ?_); focus exact rfl) | ((with_reducible refine SW_false ?_ ?_); focus exact rfl) | ((first | (with_reducible apply SW_run tt_ok hG htb) | ((with_reducible apply SW_draw rfl tt_ok hG htb); (focus kernel_rfl); (focus (simp only [List.range, List.range.loop, List.size_toArray, List.length_cons, List.length_nil, Nat.reduceAdd])))); focus ((repeat' (first | (with_reducible exact runX_nil) | (with_reducible exact runI_nil) | ((first | (with_reducible apply runX_cons) | (with_reducible apply runI_cons)); focus (simp (discharger := omega) only [go_sem, tErr, ↓reduceIte, reduceIte, Nat.reduceEqDiff, Nat.reduceLT, Nat.reduceLeDiff, Nat.reduceAdd, Nat.reduceSub, Nat.reduceMul, Nat.reduceDiv, Nat.reduceMod, Nat.reduceBEq, Int.reduceEq, Int.reduceLT, Int.reduceLE, Int.reduceNeg, Int.reduceToNat, reduceCtorEq]; with_reducible rfl)))); done)))
        exact (by simp (discharger := omega) only [go_sem, tErr, ↓reduceIte, reduceIte, Nat.reduceEqDiff, Nat.reduceLT, Nat.reduceLeDiff, Nat.reduceAdd, Nat.reduceSub, Nat.reduceMul, Nat.reduceDiv, Nat.reduceMod, Nat.reduceBEq, Int.reduceEq, Int.reduceLT, Int.reduceLE, Int.reduceNeg, Int.reduceToNat, reduceCtorEq])
      | false =>
        rw [if_neg (by rw [hz]; decide)] at c1
        have htb := Tab.cons c1 Tab.nil
        repeat' (first | (with_reducible first | refine SW_seq ?_ | refine SW_block ?_ | refine SThen_n ?_ | refine SThen_r ?_ | refine SThen_e ?_ | refine SIn_n ?_ | refine SIn_r ?_ | refine SIn_eq ?_ | refine SW_skip ?_ | refine SW_exit ?_ | refine SW_ret ?_ | refine SPost_r ?_) | ((with_reducible refine SIn_ne ?_ ?_); focus decide) | ((with_reducible refine SW_true ?_ ?_); focus exact rfl) | ((with_reducible refine SW_false ?_ ?_); focus exact rfl) | ((first | (with_reducible apply SW_run tt_ok hG htb) | ((with_reducible apply SW_draw rfl tt_ok hG htb); (focus kernel_rfl); (focus (simp only [List.range, List.range.loop, List.size_toArray, List.length_cons, List.length_nil, Nat.reduceAdd])))); focus ((repeat' (first | (with_reducible exact runX_nil) | (with_reducible exact runI_nil) | ((first | (with_reducible apply runX_cons) | (with_reducible apply runI_cons)); focus (simp (discharger := omega) only [go_sem, tErr, ↓reduceIte, reduceIte, Nat.reduceEqDiff, Nat.reduceLT, Nat.reduceLeDiff, Nat.reduceAdd, Nat.reduceSub, Nat.reduceMul, Nat.reduceDiv, Nat.reduceMod, Nat.reduceBEq, Int.reduceEq, Int.reduceLT, Int.reduceLE, Int.reduceNeg, Int.reduceToNat, reduceCtorEq]; with_reducible rfl)))); done)))
        exact (by simp (discharger := omega) only [go_sem, tErr, ↓reduceIte, reduceIte, Nat.reduceEqDiff, Nat.reduceLT, Nat.reduceLeDiff, Nat.reduceAdd, Nat.reduceSub, Nat.reduceMul, Nat.reduceDiv, Nat.reduceMod, Nat.reduceBEq, Int.reduceEq, Int.reduceLT, Int.reduceLE, Int.reduceNeg, Int.reduceToNat, reduceCtorEq])
    · cases hz : szAll coefs with
      | true =>
        rw [if_pos hz, szW_eq hz (by omega)] at c1
        generalize sizeA coefs = sz at *
        have htb := Tab.cons c1 Tab.nil
        by_cases h2 : 12 < sz
        · repeat' (first | (with_reducible first | refine SW_seq ?_ | refine SW_block ?_ | refine SThen_n ?_ | refine SThen_r ?_ | refine SThen_e ?_ | refine SIn_n ?_ | refine SIn_r ?_ | refine SIn_eq ?_ | refine SW_skip ?_ | refine SW_exit ?_ | refine SW_ret ?_ | refine SPost_r ?_) | ((with_reducible refine SIn_ne ?_ ?_); focus decide) | ((with_reducible refine SW_true ?_ ?_); focus exact rfl) | ((with_reducible refine SW_false ?_ ?_); focus exact rfl) | ((first | (with_reducible apply SW_run tt_ok hG htb) | ((with_reducible apply SW_draw rfl tt_ok hG htb); (focus kernel_rfl); (focus (simp only [List.range, List.range.loop, List.size_toArray, List.length_cons, List.length_nil, Nat.reduceAdd])))); focus ((repeat' (first | (with_reducible exact runX_nil) | (with_reducible exact runI_nil) | ((first | (with_reducible apply runX_cons) | (with_reducible apply runI_cons)); focus (simp (discharger := omega) only [go_sem, tErr, ↓reduceIte, reduceIte, Nat.reduceEqDiff, Nat.reduceLT, Nat.reduceLeDiff, Nat.reduceAdd, Nat.reduceSub, Nat.reduceMul, Nat.reduceDiv, Nat.reduceMod, Nat.reduceBEq, Int.reduceEq, Int.reduceLT, Int.reduceLE, Int.reduceNeg, Int.reduceToNat, reduceCtorEq]; with_reducible rfl)))); done)))
          exact (by simp (discharger := omega) only [go_sem, tErr, ↓reduceIte, reduceIte, Nat.reduceEqDiff, Nat.reduceLT, Nat.reduceLeDiff, Nat.reduceAdd, Nat.reduceSub, Nat.reduceMul, Nat.reduceDiv, Nat.reduceMod, Nat.reduceBEq, Int.reduceEq, Int.reduceLT, Int.reduceLE, Int.reduceNeg, Int.reduceToNat, reduceCtorEq])
        · by_cases h3 : c < -60
          · repeat' (first | (with_reducible first | refine SW_seq ?_ | refine SW_block ?_ | refine SThen_n ?_ | refine SThen_r ?_ | refine SThen_e ?_ | refine SIn_n ?_ | refine SIn_r ?_ | refine SIn_eq ?_ | refine SW_skip ?_ | refine SW_exit ?_ | refine SW_ret ?_ | refine SPost_r ?_) | ((with_reducible refine SIn_ne ?_ ?_); focus decide) | ((with_reducible refine SW_true ?_ ?_); focus exact rfl) | ((with_reducible refine SW_false ?_ ?_); focus exact rfl) | ((first | (with_reducible apply SW_run tt_ok hG htb) | ((with_reducible apply SW_draw rfl tt_ok hG htb); (focus kernel_rfl); (focus (simp only [List.range, List.range.loop, List.size_toArray, List.length_cons, List.length_nil, Nat.reduceAdd])))); focus ((repeat' (first | (with_reducible exact runX_nil) | (with_reducible exact runI_nil) | ((first | (with_reducible apply runX_cons) | (with_reducible apply runI_cons)); focus (simp (discharger := omega) only [go_sem, tErr, ↓reduceIte, reduceIte, Nat.reduceEqDiff, Nat.reduceLT, Nat.reduceLeDiff, Nat.reduceAdd, Nat.reduceSub, Nat.reduceMul, Nat.reduceDiv, Nat.reduceMod, Nat.reduceBEq, Int.reduceEq, Int.reduceLT, Int.reduceLE, Int.reduceNeg, Int.reduceToNat, reduceCtorEq]; with_reducible rfl)))); done)))
            exact (by simp (discharger := omega) only [go_sem, tErr, ↓reduceIte, reduceIte, Nat.reduceEqDiff, Nat.reduceLT, Nat.reduceLeDiff, Nat.reduceAdd, Nat.reduceSub, Nat.reduceMul, Nat.reduceDiv, Nat.reduceMod, Nat.reduceBEq, Int.reduceEq, Int.reduceLT, Int.reduceLE, Int.reduceNeg, Int.reduceToNat, reduceCtorEq])
          · have h4 : 60 < c := by omega
            repeat' (first | (with_reducible first | refine SW_seq ?_ | refine SW_block ?_ | refine SThen_n ?_ | refine SThen_r ?_ | refine SThen_e ?_ | refine SIn_n ?_ | refine SIn_r ?_ | refine SIn_eq ?_ | refine SW_skip ?_ | refine SW_exit ?_ | refine SW_ret ?_ | refine SPost_r ?_) | ((with_reducible refine SIn_ne ?_ ?_); focus decide) | ((with_reducible refine SW_true ?_ ?_); focus exact rfl) | ((with_reducible refine SW_false ?_ ?_); focus exact rfl) | ((first | (with_reducible apply SW_run tt_ok hG htb) | ((with_reducible apply SW_draw rfl tt_ok hG htb); (focus kernel_rfl); (focus (simp only [List.range, List.range.loop, List.size_toArray, List.length_cons, List.length_nil, Nat.reduceAdd])))); focus ((repeat' (first | (with_reducible exact runX_nil) | (with_reducible exact runI_nil) | ((first | (with_reducible apply runX_cons) | (with_reducible apply runI_cons)); focus (simp (discharger := omega) only [go_sem, tErr, ↓reduceIte, reduceIte, Nat.reduceEqDiff, Nat.reduceLT, Nat.reduceLeDiff, Nat.reduceAdd, Nat.reduceSub, Nat.reduceMul, Nat.reduceDiv, Nat.reduceMod, Nat.reduceBEq, Int.reduceEq, Int.reduceLT, Int.reduceLE, Int.reduceNeg, Int.reduceToNat, reduceCtorEq]; with_reducible rfl)))); done)))
            exact (by simp (discharger := omega) only [go_sem, tErr, ↓reduceIte, reduceIte, Nat.reduceEqDiff, Nat.reduceLT, Nat.reduceLeDiff, Nat.reduceAdd, Nat.reduceSub, Nat.reduceMul, Nat.reduceDiv, Nat.reduceMod, Nat.reduceBEq, Int.reduceEq, Int.reduceLT, Int.reduceLE, Int.reduceNeg, Int.reduceToNat, reduceCtorEq])
      | false =>
        rw [if_neg (by rw [hz]; decide)] at c1
        have htb := Tab.cons c1 Tab.nil
        repeat' (first | (with_reducible first | refine SW_seq ?_ | refine SW_block ?_ | refine SThen_n ?_ | refine SThen_r ?_ | refine SThen_e ?_ | refine SIn_n ?_ | refine SIn_r ?_ | refine SIn_eq ?_ | refine SW_skip ?_ | refine SW_exit ?_ | refine SW_ret ?_ | refine SPost_r ?_) | ((with_reducible refine SIn_ne ?_ ?_); focus decide) | ((with_reducible refine SW_true ?_ ?_); focus exact rfl) | ((with_reducible refine SW_false ?_ ?_); focus exact rfl) | ((first | (with_reducible apply SW_run tt_ok hG htb) | ((with_reducible apply SW_draw rfl tt_ok hG htb); (focus kernel_rfl); (focus (simp only [List.range, List.range.loop, List.size_toArray, List.length_cons, List.length_nil, Nat.reduceAdd])))); focus ((repeat' (first | (with_reducible exact runX_nil) | (with_reducible exact runI_nil) | ((first | (with_reducible apply runX_cons) | (with_reducible apply runI_cons)); focus (simp (discharger := omega) only [go_sem, tErr, ↓reduceIte, reduceIte, Nat.reduceEqDiff, Nat.reduceLT, Nat.reduceLeDiff, Nat.reduceAdd, Nat.reduceSub, Nat.reduceMul, Nat.reduceDiv, Nat.reduceMod, Nat.reduceBEq, Int.reduceEq, Int.reduceLT, Int.reduceLE, Int.reduceNeg, Int.reduceToNat, reduceCtorEq]; with_reducible rfl)))); done)))
        exact (by simp (discharger := omega) only [go_sem, tErr, ↓reduceIte, reduceIte, Nat.reduceEqDiff, Nat.reduceLT, Nat.reduceLeDiff, Nat.reduceAdd, Nat.reduceSub, Nat.reduceMul, Nat.reduceDiv, Nat.reduceMod, Nat.reduceBEq, Int.reduceEq, Int.reduceLT, Int.reduceLE, Int.reduceNeg, Int.reduceToNat, reduceCtorEq])
  · have hs12 : sizeA coefs ≤ 12 := by omega
    have hz := szAll_of hs12
    unfold sizeT at c1
    rw [if_pos hz, szW_eq hz (by omega), decide_eq_true hs12] at c1
    have htb := Tab.cons c1 Tab.nil
    by_cases h2 : nums.length = coefs.length
    · repeat' (first | (with_reducible first | refine SW_seq ?_ | refine SW_block ?_ | refine SThen_n ?_ | refine SThen_r ?_ | refine SThen_e ?_ | refine SIn_n ?_ | refine SIn_r ?_ | refine SIn_eq ?_ | refine SW_skip ?_ | refine SW_exit ?_ | refine SW_ret ?_ | refine SPost_r ?_) | ((with_reducible refine SIn_ne ?_ ?_); focus decide) | ((with_reducible refine SW_true ?_ ?_); focus exact rfl) | ((with_reducible refine SW_false ?_ ?_); focus exact rfl) | ((first | (with_reducible apply SW_run tt_ok hG htb) | ((with_reducible apply SW_draw rfl tt_ok hG htb); (focus kernel_rfl); (focus (simp only [List.range, List.range.loop, List.size_toArray, List.length_cons, List.length_nil, Nat.reduceAdd])))); focus ((repeat' (first | (with_reducible exact runX_nil) | (with_reducible exact runI_nil) | ((first | (with_reducible apply runX_cons) | (with_reducible apply runI_cons)); focus (simp (discharger := omega) only [go_sem, tErr, ↓reduceIte, reduceIte, Nat.reduceEqDiff, Nat.reduceLT, Nat.reduceLeDiff, Nat.reduceAdd, Nat.reduceSub, Nat.reduceMul, Nat.reduceDiv, Nat.reduceMod, Nat.reduceBEq, Int.reduceEq, Int.reduceLT, Int.reduceLE, Int.reduceNeg, Int.reduceToNat, reduceCtorEq]; with_reducible rfl)))); done)))
      refine SW_loop (fun mm s => ∃ (i : Nat) (q : Int), mm = nums.length - i ∧ s = ⟨77, [(0, .t (tInts coefs)), (1, .t (tInt q)), (2, .t (.bool less)), (41, .t (tInts nums)), (42, .t (tInt nums.length)), (43, .t (tInt i))], []⟩ ∧ i ≤ nums.length ∧ q = c + dotN coefs (fun j => nums.getD j 0) i ∧ ∀ j (hj : j < nums.length), j < i → 0 ≤ nums[j] ∧ nums[j] ≤ 1099511627776) (nums.length)
        ⟨_, Norm.headS (own := []) (keep := [0, 1, 2, 41, 42, 43]) (by simp (discharger := omega) only [go_sem, ↓reduceIte, reduceIte, Nat.reduceEqDiff, Nat.reduceLT, Nat.reduceLeDiff, Nat.reduceAdd, Nat.reduceSub, Nat.reduceMul, Nat.reduceDiv, Nat.reduceMod, Nat.reduceBEq, Int.reduceEq, Int.reduceLT, Int.reduceLE, Int.reduceNeg, Int.reduceToNat, reduceCtorEq]; with_reducible rfl) (by simp only [go_sem, ↓reduceIte, reduceIte, Nat.reduceEqDiff, Nat.reduceLT, Nat.reduceLeDiff, Nat.reduceAdd, Nat.reduceSub, Nat.reduceMul, Nat.reduceDiv, Nat.reduceMod, Nat.reduceBEq, Int.reduceEq, Int.reduceLT, Int.reduceLE, Int.reduceNeg, Int.reduceToNat, reduceCtorEq]; with_reducible rfl) (by simp only [go_sem, ↓reduceIte, reduceIte, Nat.reduceEqDiff, Nat.reduceLT, Nat.reduceLeDiff, Nat.reduceAdd, Nat.reduceSub, Nat.reduceMul, Nat.reduceDiv, Nat.reduceMod, Nat.reduceBEq, Int.reduceEq, Int.reduceLT, Int.reduceLE, Int.reduceNeg, Int.reduceToNat, reduceCtorEq]; with_reducible rfl) (by simp only [go_sem, ↓reduceIte, reduceIte, Nat.reduceEqDiff, Nat.reduceLT, Nat.reduceLeDiff, Nat.reduceAdd, Nat.reduceSub, Nat.reduceMul, Nat.reduceDiv, Nat.reduceMod, Nat.reduceBEq, Int.reduceEq, Int.reduceLT, Int.reduceLE, Int.reduceNeg, Int.reduceToNat, reduceCtorEq]; with_reducible rfl) (by simp only [go_sem, ↓reduceIte, reduceIte, Nat.reduceEqDiff, Nat.reduceLT, Nat.reduceLeDiff, Nat.reduceAdd, Nat.reduceSub, Nat.reduceMul, Nat.reduceDiv, Nat.reduceMod, Nat.reduceBEq, Int.reduceEq, Int.reduceLT, Int.reduceLE, Int.reduceNeg, Int.reduceToNat, reduceCtorEq]; with_reducible rfl), 0, c, rfl, rfl, Nat.zero_le _, by simp [dotN], fun j hj h => by omega⟩ ?_
      rintro mm s ⟨i, q, rfl, rfl, hi, hq, hA⟩
      by_cases hlt : i < nums.length
      · obtain ⟨x, hx⟩ : ∃ x, nums[i]! = x := ⟨_, rfl⟩
        have hat := bang_at hx hlt
        by_cases hx0 : x < 0
        · have e := nums_bad h1 h2 hlt (by rw [hat]; omega)
          rw [bad 1 e (by decide), e]
          repeat' (first | (with_reducible first | refine SW_seq ?_ | refine SW_block ?_ | refine SThen_n ?_ | refine SThen_r ?_ | refine SThen_e ?_ | refine SIn_n ?_ | refine SIn_r ?_ | refine SIn_eq ?_ | refine SW_skip ?_ | refine SW_exit ?_ | refine SW_ret ?_ | refine SPost_r ?_) | ((with_reducible refine SIn_ne ?_ ?_); focus decide) | ((with_reducible refine SW_true ?_ ?_); focus exact rfl) | ((with_reducible refine SW_false ?_ ?_); focus exact rfl) | ((first | (with_reducible apply SW_run tt_ok hG htb) | ((with_reducible apply SW_draw rfl tt_ok hG htb); (focus kernel_rfl); (focus (simp only [List.range, List.range.loop, List.size_toArray, List.length_cons, List.length_nil, Nat.reduceAdd])))); focus ((repeat' (first | (with_reducible exact runX_nil) | (with_reducible exact runI_nil) | ((first | (with_reducible apply runX_cons) | (with_reducible apply runI_cons)); focus (simp (discharger := omega) only [go_sem, hx, ↓reduceIte, reduceIte, Nat.reduceEqDiff, Nat.reduceLT, Nat.reduceLeDiff, Nat.reduceAdd, Nat.reduceSub, Nat.reduceMul, Nat.reduceDiv, Nat.reduceMod, Nat.reduceBEq, Int.reduceEq, Int.reduceLT, Int.reduceLE, Int.reduceNeg, Int.reduceToNat, reduceCtorEq]; with_reducible rfl)))); done)))
          exact (by simp (discharger := omega) only [go_sem, tErr, ↓reduceIte, reduceIte, Nat.reduceEqDiff, Nat.reduceLT, Nat.reduceLeDiff, Nat.reduceAdd, Nat.reduceSub, Nat.reduceMul, Nat.reduceDiv, Nat.reduceMod, Nat.reduceBEq, Int.reduceEq, Int.reduceLT, Int.reduceLE, Int.reduceNeg, Int.reduceToNat, reduceCtorEq])
        · by_cases hx1 : 1099511627776 < x
          · have e := nums_bad h1 h2 hlt (by rw [hat]; omega)
            rw [bad 1 e (by decide), e]
            repeat' (first | (with_reducible first | refine SW_seq ?_ | refine SW_block ?_ | refine SThen_n ?_ | refine SThen_r ?_ | refine SThen_e ?_ | refine SIn_n ?_ | refine SIn_r ?_ | refine SIn_eq ?_ | refine SW_skip ?_ | refine SW_exit ?_ | refine SW_ret ?_ | refine SPost_r ?_) | ((with_reducible refine SIn_ne ?_ ?_); focus decide) | ((with_reducible refine SW_true ?_ ?_); focus exact rfl) | ((with_reducible refine SW_false ?_ ?_); focus exact rfl) | ((first | (with_reducible apply SW_run tt_ok hG htb) | ((with_reducible apply SW_draw rfl tt_ok hG htb); (focus kernel_rfl); (focus (simp only [List.range, List.range.loop, List.size_toArray, List.length_cons, List.length_nil, Nat.reduceAdd])))); focus ((repeat' (first | (with_reducible exact runX_nil) | (with_reducible exact runI_nil) | ((first | (with_reducible apply runX_cons) | (with_reducible apply runI_cons)); focus (simp (discharger := omega) only [go_sem, hx, ↓reduceIte, reduceIte, Nat.reduceEqDiff, Nat.reduceLT, Nat.reduceLeDiff, Nat.reduceAdd, Nat.reduceSub, Nat.reduceMul, Nat.reduceDiv, Nat.reduceMod, Nat.reduceBEq, Int.reduceEq, Int.reduceLT, Int.reduceLE, Int.reduceNeg, Int.reduceToNat, reduceCtorEq]; with_reducible rfl)))); done)))
            exact (by simp (discharger := omega) only [go_sem, tErr, ↓reduceIte, reduceIte, Nat.reduceEqDiff, Nat.reduceLT, Nat.reduceLeDiff, Nat.reduceAdd, Nat.reduceSub, Nat.reduceMul, Nat.reduceDiv, Nat.reduceMod, Nat.reduceBEq, Int.reduceEq, Int.reduceLT, Int.reduceLE, Int.reduceNeg, Int.reduceToNat, reduceCtorEq])
          · obtain ⟨y, hy⟩ : ∃ y, coefs[i]! = y := ⟨_, rfl⟩
            have hyD : coefs.getD i 0 = y := bang_D hy (by omega)
            have hge := absN_ge coefs (show i < coefs.length by omega)
            rw [hyD] at hge
            unfold sizeA at hs12
            have hA' : ∀ j (hj : j < (nums.take i).length), 0 ≤ (nums.take i)[j] ∧ (nums.take i)[j] ≤ 1099511627776 := fun j hj => by
              rw [List.getElem_take]; exact hA j (by simp at hj; omega) (by simp at hj; omega)
            have hbd := dotN_num (coefs := coefs) (nums := nums.take i) (by unfold sizeA; exact hs12) hA' (i := i) (by omega)
            have htk : ∀ k, k ≤ i → dotN coefs (fun j => (nums.take i).getD j 0) k = dotN coefs (fun j => nums.getD j 0) k := fun k => by
              induction k with
              | zero => intro _; rfl
              | succ k ih =>
                intro hk
                show dotN _ _ k + _ = dotN _ _ k + _
                rw [ih (by omega)]
                congr 2
                simp only [List.getD_eq_getElem?_getD, List.getElem?_take, if_pos (show k < i by omega)]
            rw [htk i (Nat.le_refl _)] at hbd
            have hyx : -13194139533312 ≤ y * x ∧ y * x ≤ 13194139533312 := by
              have m1 : y * x ≤ 12 * x := Int.mul_le_mul_of_nonneg_right (by omega) (by omega)
              have m2 : (-12) * x ≤ y * x := Int.mul_le_mul_of_nonneg_right (by omega) (by omega)
              omega
            repeat' (first | (with_reducible first | refine SW_seq ?_ | refine SW_block ?_ | refine SThen_n ?_ | refine SThen_r ?_ | refine SThen_e ?_ | refine SIn_n ?_ | refine SIn_r ?_ | refine SIn_eq ?_ | refine SW_skip ?_ | refine SW_exit ?_ | refine SW_ret ?_ | refine SPost_r ?_) | ((with_reducible refine SIn_ne ?_ ?_); focus decide) | ((with_reducible refine SW_true ?_ ?_); focus exact rfl) | ((with_reducible refine SW_false ?_ ?_); focus exact rfl) | ((first | (with_reducible apply SW_run tt_ok hG htb) | ((with_reducible apply SW_draw rfl tt_ok hG htb); (focus kernel_rfl); (focus (simp only [List.range, List.range.loop, List.size_toArray, List.length_cons, List.length_nil, Nat.reduceAdd])))); focus ((repeat' (first | (with_reducible exact runX_nil) | (with_reducible exact runI_nil) | ((first | (with_reducible apply runX_cons) | (with_reducible apply runI_cons)); focus (simp (discharger := omega) only [go_sem, hx, hy, ↓reduceIte, reduceIte, Nat.reduceEqDiff, Nat.reduceLT, Nat.reduceLeDiff, Nat.reduceAdd, Nat.reduceSub, Nat.reduceMul, Nat.reduceDiv, Nat.reduceMod, Nat.reduceBEq, Int.reduceEq, Int.reduceLT, Int.reduceLE, Int.reduceNeg, Int.reduceToNat, reduceCtorEq]; with_reducible rfl)))); done)))
            exact ⟨nums.length - (i + 1), _, by omega, Norm.headS (own := []) (keep := [0, 1, 2, 41, 42, 43]) (by simp (discharger := omega) only [go_sem, ↓reduceIte, reduceIte, Nat.reduceEqDiff, Nat.reduceLT, Nat.reduceLeDiff, Nat.reduceAdd, Nat.reduceSub, Nat.reduceMul, Nat.reduceDiv, Nat.reduceMod, Nat.reduceBEq, Int.reduceEq, Int.reduceLT, Int.reduceLE, Int.reduceNeg, Int.reduceToNat, reduceCtorEq]; with_reducible rfl) (by simp only [go_sem, ↓reduceIte, reduceIte, Nat.reduceEqDiff, Nat.reduceLT, Nat.reduceLeDiff, Nat.reduceAdd, Nat.reduceSub, Nat.reduceMul, Nat.reduceDiv, Nat.reduceMod, Nat.reduceBEq, Int.reduceEq, Int.reduceLT, Int.reduceLE, Int.reduceNeg, Int.reduceToNat, reduceCtorEq]; with_reducible rfl) (by simp only [go_sem, ↓reduceIte, reduceIte, Nat.reduceEqDiff, Nat.reduceLT, Nat.reduceLeDiff, Nat.reduceAdd, Nat.reduceSub, Nat.reduceMul, Nat.reduceDiv, Nat.reduceMod, Nat.reduceBEq, Int.reduceEq, Int.reduceLT, Int.reduceLE, Int.reduceNeg, Int.reduceToNat, reduceCtorEq]; with_reducible rfl) (by simp only [go_sem, ↓reduceIte, reduceIte, Nat.reduceEqDiff, Nat.reduceLT, Nat.reduceLeDiff, Nat.reduceAdd, Nat.reduceSub, Nat.reduceMul, Nat.reduceDiv, Nat.reduceMod, Nat.reduceBEq, Int.reduceEq, Int.reduceLT, Int.reduceLE, Int.reduceNeg, Int.reduceToNat, reduceCtorEq]; with_reducible rfl) (by simp only [go_sem, ↓reduceIte, reduceIte, Nat.reduceEqDiff, Nat.reduceLT, Nat.reduceLeDiff, Nat.reduceAdd, Nat.reduceSub, Nat.reduceMul, Nat.reduceDiv, Nat.reduceMod, Nat.reduceBEq, Int.reduceEq, Int.reduceLT, Int.reduceLE, Int.reduceNeg, Int.reduceToNat, reduceCtorEq]; with_reducible rfl), i + 1, _, rfl, rfl, by omega, by
                show _ = c + (dotN coefs (fun j => nums.getD j 0) i + coefs.getD i 0 * nums.getD i 0)
                rw [hyD, bang_D hx hlt, hq, Int.add_assoc], fun j hj h => by
                by_cases e : j = i
                · subst e; rw [hat]; omega
                · exact hA j hj (by omega)⟩
      · obtain rfl : i = nums.length := by omega
        have e := nums_fine h1 h2 fun j hj => hA j hj hj
        have ev : sumV coefs c nums = q := by unfold sumV; rw [hq, h2]
        unfold holdsOf
        rw [e, ev, decide_eq_true rfl, Bool.true_and]
        unfold lnEnd
        cases less
        · by_cases h0 : q = 0
          · repeat' (first | (with_reducible first | refine SW_seq ?_ | refine SW_block ?_ | refine SThen_n ?_ | refine SThen_r ?_ | refine SThen_e ?_ | refine SIn_n ?_ | refine SIn_r ?_ | refine SIn_eq ?_ | refine SW_skip ?_ | refine SW_exit ?_ | refine SW_ret ?_ | refine SPost_r ?_) | ((with_reducible refine SIn_ne ?_ ?_); focus decide) | ((with_reducible refine SW_true ?_ ?_); focus exact rfl) | ((with_reducible refine SW_false ?_ ?_); focus exact rfl) | ((first | (with_reducible apply SW_run tt_ok hG htb) | ((with_reducible apply SW_draw rfl tt_ok hG htb); (focus kernel_rfl); (focus (simp only [List.range, List.range.loop, List.size_toArray, List.length_cons, List.length_nil, Nat.reduceAdd])))); focus ((repeat' (first | (with_reducible exact runX_nil) | (with_reducible exact runI_nil) | ((first | (with_reducible apply runX_cons) | (with_reducible apply runI_cons)); focus (simp (discharger := omega) only [go_sem, ↓reduceIte, reduceIte, Nat.reduceEqDiff, Nat.reduceLT, Nat.reduceLeDiff, Nat.reduceAdd, Nat.reduceSub, Nat.reduceMul, Nat.reduceDiv, Nat.reduceMod, Nat.reduceBEq, Int.reduceEq, Int.reduceLT, Int.reduceLE, Int.reduceNeg, Int.reduceToNat, reduceCtorEq]; with_reducible rfl)))); done)))
            exact (by simp (discharger := omega) only [go_sem, tErr, h0, ↓reduceIte, reduceIte, Nat.reduceEqDiff, Nat.reduceLT, Nat.reduceLeDiff, Nat.reduceAdd, Nat.reduceSub, Nat.reduceMul, Nat.reduceDiv, Nat.reduceMod, Nat.reduceBEq, Int.reduceEq, Int.reduceLT, Int.reduceLE, Int.reduceNeg, Int.reduceToNat, reduceCtorEq])
          · repeat' (first | (with_reducible first | refine SW_seq ?_ | refine SW_block ?_ | refine SThen_n ?_ | refine SThen_r ?_ | refine SThen_e ?_ | refine SIn_n ?_ | refine SIn_r ?_ | refine SIn_eq ?_ | refine SW_skip ?_ | refine SW_exit ?_ | refine SW_ret ?_ | refine SPost_r ?_) | ((with_reducible refine SIn_ne ?_ ?_); focus decide) | ((with_reducible refine SW_true ?_ ?_); focus exact rfl) | ((with_reducible refine SW_false ?_ ?_); focus exact rfl) | ((first | (with_reducible apply SW_run tt_ok hG htb) | ((with_reducible apply SW_draw rfl tt_ok hG htb); (focus kernel_rfl); (focus (simp only [List.range, List.range.loop, List.size_toArray, List.length_cons, List.length_nil, Nat.reduceAdd])))); focus ((repeat' (first | (with_reducible exact runX_nil) | (with_reducible exact runI_nil) | ((first | (with_reducible apply runX_cons) | (with_reducible apply runI_cons)); focus (simp (discharger := omega) only [go_sem, h0, ↓reduceIte, reduceIte, Nat.reduceEqDiff, Nat.reduceLT, Nat.reduceLeDiff, Nat.reduceAdd, Nat.reduceSub, Nat.reduceMul, Nat.reduceDiv, Nat.reduceMod, Nat.reduceBEq, Int.reduceEq, Int.reduceLT, Int.reduceLE, Int.reduceNeg, Int.reduceToNat, reduceCtorEq]; with_reducible rfl)))); done)))
            exact (by simp (discharger := omega) only [go_sem, tErr, Int.add_zero, h0, ↓reduceIte, reduceIte, Nat.reduceEqDiff, Nat.reduceLT, Nat.reduceLeDiff, Nat.reduceAdd, Nat.reduceSub, Nat.reduceMul, Nat.reduceDiv, Nat.reduceMod, Nat.reduceBEq, Int.reduceEq, Int.reduceLT, Int.reduceLE, Int.reduceNeg, Int.reduceToNat, reduceCtorEq])
        · by_cases h0 : q < 0
          · have h0' : decide (q + 0 < 0) = true := by rw [Int.add_zero]; exact decide_eq_true h0
            repeat' (first | (with_reducible first | refine SW_seq ?_ | refine SW_block ?_ | refine SThen_n ?_ | refine SThen_r ?_ | refine SThen_e ?_ | refine SIn_n ?_ | refine SIn_r ?_ | refine SIn_eq ?_ | refine SW_skip ?_ | refine SW_exit ?_ | refine SW_ret ?_ | refine SPost_r ?_) | ((with_reducible refine SIn_ne ?_ ?_); focus decide) | ((with_reducible refine SW_true ?_ ?_); focus exact rfl) | ((with_reducible refine SW_false ?_ ?_); focus exact rfl) | ((first | (with_reducible apply SW_run tt_ok hG htb) | ((with_reducible apply SW_draw rfl tt_ok hG htb); (focus kernel_rfl); (focus (simp only [List.range, List.range.loop, List.size_toArray, List.length_cons, List.length_nil, Nat.reduceAdd])))); focus ((repeat' (first | (with_reducible exact runX_nil) | (with_reducible exact runI_nil) | ((first | (with_reducible apply runX_cons) | (with_reducible apply runI_cons)); focus (simp (discharger := omega) only [go_sem, ↓reduceIte, reduceIte, Nat.reduceEqDiff, Nat.reduceLT, Nat.reduceLeDiff, Nat.reduceAdd, Nat.reduceSub, Nat.reduceMul, Nat.reduceDiv, Nat.reduceMod, Nat.reduceBEq, Int.reduceEq, Int.reduceLT, Int.reduceLE, Int.reduceNeg, Int.reduceToNat, reduceCtorEq]; with_reducible rfl)))); done)))
            trace_state
            exact (by simp (discharger := omega) only [go_sem, tErr, h0', ↓reduceIte, reduceIte, Nat.reduceEqDiff, Nat.reduceLT, Nat.reduceLeDiff, Nat.reduceAdd, Nat.reduceSub, Nat.reduceMul, Nat.reduceDiv, Nat.reduceMod, Nat.reduceBEq, Int.reduceEq, Int.reduceLT, Int.reduceLE, Int.reduceNeg, Int.reduceToNat, reduceCtorEq])
          · have h0' : decide (q + 0 < 0) = false := by rw [Int.add_zero]; exact decide_eq_false h0
            repeat' (first | (with_reducible first | refine SW_seq ?_ | refine SW_block ?_ | refine SThen_n ?_ | refine SThen_r ?_ | refine SThen_e ?_ | refine SIn_n ?_ | refine SIn_r ?_ | refine SIn_eq ?_ | refine SW_skip ?_ | refine SW_exit ?_ | refine SW_ret ?_ | refine SPost_r ?_) | ((with_reducible refine SIn_ne ?_ ?_); focus decide) | ((with_reducible refine SW_true ?_ ?_); focus exact rfl) | ((with_reducible refine SW_false ?_ ?_); focus exact rfl) | ((first | (with_reducible apply SW_run tt_ok hG htb) | ((with_reducible apply SW_draw rfl tt_ok hG htb); (focus kernel_rfl); (focus (simp only [List.range, List.range.loop, List.size_toArray, List.length_cons, List.length_nil, Nat.reduceAdd])))); focus ((repeat' (first | (with_reducible exact runX_nil) | (with_reducible exact runI_nil) | ((first | (with_reducible apply runX_cons) | (with_reducible apply runI_cons)); focus (simp (discharger := omega) only [go_sem, ↓reduceIte, reduceIte, Nat.reduceEqDiff, Nat.reduceLT, Nat.reduceLeDiff, Nat.reduceAdd, Nat.reduceSub, Nat.reduceMul, Nat.reduceDiv, Nat.reduceMod, Nat.reduceBEq, Int.reduceEq, Int.reduceLT, Int.reduceLE, Int.reduceNeg, Int.reduceToNat, reduceCtorEq]; with_reducible rfl)))); done)))
            exact (by simp (discharger := omega) only [go_sem, tErr, h0', ↓reduceIte, reduceIte, Nat.reduceEqDiff, Nat.reduceLT, Nat.reduceLeDiff, Nat.reduceAdd, Nat.reduceSub, Nat.reduceMul, Nat.reduceDiv, Nat.reduceMod, Nat.reduceBEq, Int.reduceEq, Int.reduceLT, Int.reduceLE, Int.reduceNeg, Int.reduceToNat, reduceCtorEq])
    · have e : holdsErr coefs c nums = 2 := by unfold holdsErr; rw [if_neg h1, if_pos h2]
      rw [bad 2 e (by decide), e]
      repeat' (first | (with_reducible first | refine SW_seq ?_ | refine SW_block ?_ | refine SThen_n ?_ | refine SThen_r ?_ | refine SThen_e ?_ | refine SIn_n ?_ | refine SIn_r ?_ | refine SIn_eq ?_ | refine SW_skip ?_ | refine SW_exit ?_ | refine SW_ret ?_ | refine SPost_r ?_) | ((with_reducible refine SIn_ne ?_ ?_); focus decide) | ((with_reducible refine SW_true ?_ ?_); focus exact rfl) | ((with_reducible refine SW_false ?_ ?_); focus exact rfl) | ((first | (with_reducible apply SW_run tt_ok hG htb) | ((with_reducible apply SW_draw rfl tt_ok hG htb); (focus kernel_rfl); (focus (simp only [List.range, List.range.loop, List.size_toArray, List.length_cons, List.length_nil, Nat.reduceAdd])))); focus ((repeat' (first | (with_reducible exact runX_nil) | (with_reducible exact runI_nil) | ((first | (with_reducible apply runX_cons) | (with_reducible apply runI_cons)); focus (simp (discharger := omega) only [go_sem, tErr, ↓reduceIte, reduceIte, Nat.reduceEqDiff, Nat.reduceLT, Nat.reduceLeDiff, Nat.reduceAdd, Nat.reduceSub, Nat.reduceMul, Nat.reduceDiv, Nat.reduceMod, Nat.reduceBEq, Int.reduceEq, Int.reduceLT, Int.reduceLE, Int.reduceNeg, Int.reduceToNat, reduceCtorEq]; with_reducible rfl)))); done)))
      exact (by simp (discharger := omega) only [go_sem, tErr, ↓reduceIte, reduceIte, Nat.reduceEqDiff, Nat.reduceLT, Nat.reduceLeDiff, Nat.reduceAdd, Nat.reduceSub, Nat.reduceMul, Nat.reduceDiv, Nat.reduceMod, Nat.reduceBEq, Int.reduceEq, Int.reduceLT, Int.reduceLE, Int.reduceNeg, Int.reduceToNat, reduceCtorEq])
set_option maxHeartbeats 4000000 in
theorem StepF_snd (base far ov un : Int) (hov : ov = far + 1) (hun : un = -far - 1) (p : Int × Int) (e : Int) (hr : radix base ≠ 0) (hf : 0 ≤ far ∧ far ≤ 97) (he : -60 ≤ e ∧ e ≤ 60) (h1 : -98 ≤ p.1 ∧ p.1 ≤ 98) (h2 : -109 ≤ p.2 ∧ p.2 ≤ 109) :
    Snd Try.prog G 47 [tPair p, tInt e, .ptr [tInt ov, tInt 0], .ptr [tInt un, tInt 0], .ptr [tInt base], .ptr [tInt far]] (tPair (lnCut far base p e)) := by
  have htb : Tab.ok Try.prog G [] := Tab.nil
  obtain ⟨x, y⟩ := p
  simp only at h1 h2
  have hbr := radix_pos hr
  have hb6 : 1 ≤ base ∧ base ≤ 6 := by omega
  have hng : IntKind.i64.wrap (0 - far) = -far := by rw [wrap_i64 _ (by omega)]; omega
  have hxb : -588 ≤ x * base ∧ x * base ≤ 588 := by
    have : base = 1 ∨ base = 2 ∨ base = 3 ∨ base = 4 ∨ base = 5 ∨ base = 6 := by omega
    rcases this with rfl | rfl | rfl | rfl | rfl | rfl <;> omega
  refine snd_of_body (n := 54) (tm := [(0, .t (tPair (x, y))), (1, .t (tInt e)), (2, .t (.ptr [tInt ov, tInt 0])), (3, .t (.ptr [tInt un, tInt 0])), (4, .t (.ptr [tInt base])), (5, .t (.ptr [tInt far]))]) (rs := [.cell 8 92]) tt_ok Try.func47 rfl rfl rfl rfl rfl ?_
  by_cases hc1 : x = ov ∧ y = 0
  · obtain ⟨rfl, rfl⟩ := hc1
    have e1 : lnCut far base (x, 0) e = (x, 0) := by unfold lnCut; rw [if_pos (.inl (by rw [hov]))]
    rw [e1]
    repeat' (first | (with_reducible first | refine SW_seq ?_ | refine SW_block ?_ | refine SThen_n ?_ | refine SThen_r ?_ | refine SThen_e ?_ | refine SIn_n ?_ | refine SIn_r ?_ | refine SIn_eq ?_ | refine SW_skip ?_ | refine SW_exit ?_ | refine SW_ret ?_ | refine SPost_r ?_) | ((with_reducible refine SIn_ne ?_ ?_); focus decide) | ((with_reducible refine SW_true ?_ ?_); focus exact rfl) | ((with_reducible refine SW_false ?_ ?_); focus exact rfl) | ((first | (with_reducible apply SW_run tt_ok hG htb) | ((with_reducible apply SW_draw rfl tt_ok hG htb); (focus kernel_rfl); (focus (simp only [List.range, List.range.loop, List.size_toArray, List.length_cons, List.length_nil, Nat.reduceAdd])))); focus ((repeat' (first | (with_reducible exact runX_nil) | (with_reducible exact runI_nil) | ((first | (with_reducible apply runX_cons) | (with_reducible apply runI_cons)); focus (simp (discharger := omega) only [go_sem, tPair, ↓reduceIte, reduceIte, Nat.reduceEqDiff, Nat.reduceLT, Nat.reduceLeDiff, Nat.reduceAdd, Nat.reduceSub, Nat.reduceMul, Nat.reduceDiv, Nat.reduceMod, Nat.reduceBEq, Int.reduceEq, Int.reduceLT, Int.reduceLE, Int.reduceNeg, Int.reduceToNat, reduceCtorEq]; with_reducible rfl)))); done)))
    exact (by simp (discharger := omega) only [go_sem, tPair, ↓reduceIte, reduceIte, Nat.reduceEqDiff, Nat.reduceLT, Nat.reduceLeDiff, Nat.reduceAdd, Nat.reduceSub, Nat.reduceMul, Nat.reduceDiv, Nat.reduceMod, Nat.reduceBEq, Int.reduceEq, Int.reduceLT, Int.reduceLE, Int.reduceNeg, Int.reduceToNat, reduceCtorEq])
  · by_cases hc2 : x = un ∧ y = 0
    · obtain ⟨rfl, rfl⟩ := hc2
      have hne : ¬ x = ov := by omega
      have e1 : lnCut far base (x, 0) e = (x, 0) := by unfold lnCut; rw [if_pos (.inr (by rw [hun]))]
      rw [e1]
      repeat' (first | (with_reducible first | refine SW_seq ?_ | refine SW_block ?_ | refine SThen_n ?_ | refine SThen_r ?_ | refine SThen_e ?_ | refine SIn_n ?_ | refine SIn_r ?_ | refine SIn_eq ?_ | refine SW_skip ?_ | refine SW_exit ?_ | refine SW_ret ?_ | refine SPost_r ?_) | ((with_reducible refine SIn_ne ?_ ?_); focus decide) | ((with_reducible refine SW_true ?_ ?_); focus exact rfl) | ((with_reducible refine SW_false ?_ ?_); focus exact rfl) | ((first | (with_reducible apply SW_run tt_ok hG htb) | ((with_reducible apply SW_draw rfl tt_ok hG htb); (focus kernel_rfl); (focus (simp only [List.range, List.range.loop, List.size_toArray, List.length_cons, List.length_nil, Nat.reduceAdd])))); focus ((repeat' (first | (with_reducible exact runX_nil) | (with_reducible exact runI_nil) | ((first | (with_reducible apply runX_cons) | (with_reducible apply runI_cons)); focus (simp (discharger := omega) only [go_sem, tPair, hne, ↓reduceIte, reduceIte, Nat.reduceEqDiff, Nat.reduceLT, Nat.reduceLeDiff, Nat.reduceAdd, Nat.reduceSub, Nat.reduceMul, Nat.reduceDiv, Nat.reduceMod, Nat.reduceBEq, Int.reduceEq, Int.reduceLT, Int.reduceLE, Int.reduceNeg, Int.reduceToNat, reduceCtorEq]; with_reducible rfl)))); done)))
      exact (by simp (discharger := omega) only [go_sem, tPair, ↓reduceIte, reduceIte, Nat.reduceEqDiff, Nat.reduceLT, Nat.reduceLeDiff, Nat.reduceAdd, Nat.reduceSub, Nat.reduceMul, Nat.reduceDiv, Nat.reduceMod, Nat.reduceBEq, Int.reduceEq, Int.reduceLT, Int.reduceLE, Int.reduceNeg, Int.reduceToNat, reduceCtorEq])
    · have hcut : lnCut far base (x, y) e = lnCap far (lnStep base (x, y) e) := by
        unfold lnCut
        rw [if_neg]
        simp only [Prod.mk.injEq]
        omega
      have hd1 : (decide (x = ov) && decide (y = 0)) = false := by
        rw [← Bool.decide_and]; exact decide_eq_false hc1
      have hd2 : (decide (x = un) && decide (y = 0)) = false := by
        rw [← Bool.decide_and]; exact decide_eq_false hc2
      rw [hcut]
      by_cases hb : base = 1
      · subst hb
        have e1 : lnStep 1 (x, y) e = (x + y + e, x + e) := rfl
        rw [e1]
        unfold lnCap
        by_cases hg1 : far < x + y + e
        · rw [if_pos hg1, ← hov]
          skip
          repeat' (first | (with_reducible first | refine SW_seq ?_ | refine SW_block ?_ | refine SThen_n ?_ | refine SThen_r ?_ | refine SThen_e ?_ | refine SIn_n ?_ | refine SIn_r ?_ | refine SIn_eq ?_ | refine SW_skip ?_ | refine SW_exit ?_ | refine SW_ret ?_ | refine SPost_r ?_) | ((with_reducible refine SIn_ne ?_ ?_); focus decide) | ((with_reducible refine SW_true ?_ ?_); focus exact rfl) | ((with_reducible refine SW_false ?_ ?_); focus exact rfl) | ((first | (with_reducible apply SW_run tt_ok hG htb) | ((with_reducible apply SW_draw rfl tt_ok hG htb); (focus kernel_rfl); (focus (simp only [List.range, List.range.loop, List.size_toArray, List.length_cons, List.length_nil, Nat.reduceAdd])))); focus ((repeat' (first | (with_reducible exact runX_nil) | (with_reducible exact runI_nil) | ((first | (with_reducible apply runX_cons) | (with_reducible apply runI_cons)); focus (simp (discharger := omega) only [go_sem, tPair, hd1, hd2, hng, ↓reduceIte, reduceIte, Nat.reduceEqDiff, Nat.reduceLT, Nat.reduceLeDiff, Nat.reduceAdd, Nat.reduceSub, Nat.reduceMul, Nat.reduceDiv, Nat.reduceMod, Nat.reduceBEq, Int.reduceEq, Int.reduceLT, Int.reduceLE, Int.reduceNeg, Int.reduceToNat, reduceCtorEq]; with_reducible rfl)))); done)))
          exact (by simp (discharger := omega) only [go_sem, tPair, ↓reduceIte, reduceIte, Nat.reduceEqDiff, Nat.reduceLT, Nat.reduceLeDiff, Nat.reduceAdd, Nat.reduceSub, Nat.reduceMul, Nat.reduceDiv, Nat.reduceMod, Nat.reduceBEq, Int.reduceEq, Int.reduceLT, Int.reduceLE, Int.reduceNeg, Int.reduceToNat, reduceCtorEq])
        · rw [if_neg hg1]
          by_cases hg2 : x + y + e < -far
          · rw [if_pos hg2, ← hun]
            repeat' (first | (with_reducible first | refine SW_seq ?_ | refine SW_block ?_ | refine SThen_n ?_ | refine SThen_r ?_ | refine SThen_e ?_ | refine SIn_n ?_ | refine SIn_r ?_ | refine SIn_eq ?_ | refine SW_skip ?_ | refine SW_exit ?_ | refine SW_ret ?_ | refine SPost_r ?_) | ((with_reducible refine SIn_ne ?_ ?_); focus decide) | ((with_reducible refine SW_true ?_ ?_); focus exact rfl) | ((with_reducible refine SW_false ?_ ?_); focus exact rfl) | ((first | (with_reducible apply SW_run tt_ok hG htb) | ((with_reducible apply SW_draw rfl tt_ok hG htb); (focus kernel_rfl); (focus (simp only [List.range, List.range.loop, List.size_toArray, List.length_cons, List.length_nil, Nat.reduceAdd])))); focus ((repeat' (first | (with_reducible exact runX_nil) | (with_reducible exact runI_nil) | ((first | (with_reducible apply runX_cons) | (with_reducible apply runI_cons)); focus (simp (discharger := omega) only [go_sem, tPair, hd1, hd2, hng, ↓reduceIte, reduceIte, Nat.reduceEqDiff, Nat.reduceLT, Nat.reduceLeDiff, Nat.reduceAdd, Nat.reduceSub, Nat.reduceMul, Nat.reduceDiv, Nat.reduceMod, Nat.reduceBEq, Int.reduceEq, Int.reduceLT, Int.reduceLE, Int.reduceNeg, Int.reduceToNat, reduceCtorEq]; with_reducible rfl)))); done)))
            exact (by simp (discharger := omega) only [go_sem, tPair, ↓reduceIte, reduceIte, Nat.reduceEqDiff, Nat.reduceLT, Nat.reduceLeDiff, Nat.reduceAdd, Nat.reduceSub, Nat.reduceMul, Nat.reduceDiv, Nat.reduceMod, Nat.reduceBEq, Int.reduceEq, Int.reduceLT, Int.reduceLE, Int.reduceNeg, Int.reduceToNat, reduceCtorEq])
          · rw [if_neg hg2]
            repeat' (first | (with_reducible first | refine SW_seq ?_ | refine SW_block ?_ | refine SThen_n ?_ | refine SThen_r ?_ | refine SThen_e ?_ | refine SIn_n ?_ | refine SIn_r ?_ | refine SIn_eq ?_ | refine SW_skip ?_ | refine SW_exit ?_ | refine SW_ret ?_ | refine SPost_r ?_) | ((with_reducible refine SIn_ne ?_ ?_); focus decide) | ((with_reducible refine SW_true ?_ ?_); focus exact rfl) | ((with_reducible refine SW_false ?_ ?_); focus exact rfl) | ((first | (with_reducible apply SW_run tt_ok hG htb) | ((with_reducible apply SW_draw rfl tt_ok hG htb); (focus kernel_rfl); (focus (simp only [List.range, List.range.loop, List.size_toArray, List.length_cons, List.length_nil, Nat.reduceAdd])))); focus ((repeat' (first | (with_reducible exact runX_nil) | (with_reducible exact runI_nil) | ((first | (with_reducible apply runX_cons) | (with_reducible apply runI_cons)); focus (simp (discharger := omega) only [go_sem, tPair, hd1, hd2, hng, ↓reduceIte, reduceIte, Nat.reduceEqDiff, Nat.reduceLT, Nat.reduceLeDiff, Nat.reduceAdd, Nat.reduceSub, Nat.reduceMul, Nat.reduceDiv, Nat.reduceMod, Nat.reduceBEq, Int.reduceEq, Int.reduceLT, Int.reduceLE, Int.reduceNeg, Int.reduceToNat, reduceCtorEq]; with_reducible rfl)))); done)))
            exact (by simp (discharger := omega) only [go_sem, tPair, ↓reduceIte, reduceIte, Nat.reduceEqDiff, Nat.reduceLT, Nat.reduceLeDiff, Nat.reduceAdd, Nat.reduceSub, Nat.reduceMul, Nat.reduceDiv, Nat.reduceMod, Nat.reduceBEq, Int.reduceEq, Int.reduceLT, Int.reduceLE, Int.reduceNeg, Int.reduceToNat, reduceCtorEq])
      · have e1 : lnStep base (x, y) e = (x * base + e, 0) := by unfold lnStep; rw [if_neg hb]
        rw [e1]
        unfold lnCap
        by_cases hg1 : far < x * base + e
        · rw [if_pos hg1, ← hov]
          repeat' (first | (with_reducible first | refine SW_seq ?_ | refine SW_block ?_ | refine SThen_n ?_ | refine SThen_r ?_ | refine SThen_e ?_ | refine SIn_n ?_ | refine SIn_r ?_ | refine SIn_eq ?_ | refine SW_skip ?_ | refine SW_exit ?_ | refine SW_ret ?_ | refine SPost_r ?_) | ((with_reducible refine SIn_ne ?_ ?_); focus decide) | ((with_reducible refine SW_true ?_ ?_); focus exact rfl) | ((with_reducible refine SW_false ?_ ?_); focus exact rfl) | ((first | (with_reducible apply SW_run tt_ok hG htb) | ((with_reducible apply SW_draw rfl tt_ok hG htb); (focus kernel_rfl); (focus (simp only [List.range, List.range.loop, List.size_toArray, List.length_cons, List.length_nil, Nat.reduceAdd])))); focus ((repeat' (first | (with_reducible exact runX_nil) | (with_reducible exact runI_nil) | ((first | (with_reducible apply runX_cons) | (with_reducible apply runI_cons)); focus (simp (discharger := omega) only [go_sem, tPair, hd1, hd2, hng, hb, ↓reduceIte, reduceIte, Nat.reduceEqDiff, Nat.reduceLT, Nat.reduceLeDiff, Nat.reduceAdd, Nat.reduceSub, Nat.reduceMul, Nat.reduceDiv, Nat.reduceMod, Nat.reduceBEq, Int.reduceEq, Int.reduceLT, Int.reduceLE, Int.reduceNeg, Int.reduceToNat, reduceCtorEq]; with_reducible rfl)))); done)))
          exact (by simp (discharger := omega) only [go_sem, tPair, ↓reduceIte, reduceIte, Nat.reduceEqDiff, Nat.reduceLT, Nat.reduceLeDiff, Nat.reduceAdd, Nat.reduceSub, Nat.reduceMul, Nat.reduceDiv, Nat.reduceMod, Nat.reduceBEq, Int.reduceEq, Int.reduceLT, Int.reduceLE, Int.reduceNeg, Int.reduceToNat, reduceCtorEq])
        · rw [if_neg hg1]
          by_cases hg2 : x * base + e < -far
          · rw [if_pos hg2, ← hun]
            repeat' (first | (with_reducible first | refine SW_seq ?_ | refine SW_block ?_ | refine SThen_n ?_ | refine SThen_r ?_ | refine SThen_e ?_ | refine SIn_n ?_ | refine SIn_r ?_ | refine SIn_eq ?_ | refine SW_skip ?_ | refine SW_exit ?_ | refine SW_ret ?_ | refine SPost_r ?_) | ((with_reducible refine SIn_ne ?_ ?_); focus decide) | ((with_reducible refine SW_true ?_ ?_); focus exact rfl) | ((with_reducible refine SW_false ?_ ?_); focus exact rfl) | ((first | (with_reducible apply SW_run tt_ok hG htb) | ((with_reducible apply SW_draw rfl tt_ok hG htb); (focus kernel_rfl); (focus (simp only [List.range, List.range.loop, List.size_toArray, List.length_cons, List.length_nil, Nat.reduceAdd])))); focus ((repeat' (first | (with_reducible exact runX_nil) | (with_reducible exact runI_nil) | ((first | (with_reducible apply runX_cons) | (with_reducible apply runI_cons)); focus (simp (discharger := omega) only [go_sem, tPair, hd1, hd2, hng, hb, ↓reduceIte, reduceIte, Nat.reduceEqDiff, Nat.reduceLT, Nat.reduceLeDiff, Nat.reduceAdd, Nat.reduceSub, Nat.reduceMul, Nat.reduceDiv, Nat.reduceMod, Nat.reduceBEq, Int.reduceEq, Int.reduceLT, Int.reduceLE, Int.reduceNeg, Int.reduceToNat, reduceCtorEq]; with_reducible rfl)))); done)))
            exact (by simp (discharger := omega) only [go_sem, tPair, ↓reduceIte, reduceIte, Nat.reduceEqDiff, Nat.reduceLT, Nat.reduceLeDiff, Nat.reduceAdd, Nat.reduceSub, Nat.reduceMul, Nat.reduceDiv, Nat.reduceMod, Nat.reduceBEq, Int.reduceEq, Int.reduceLT, Int.reduceLE, Int.reduceNeg, Int.reduceToNat, reduceCtorEq])
          · rw [if_neg hg2]
            repeat' (first | (with_reducible first | refine SW_seq ?_ | refine SW_block ?_ | refine SThen_n ?_ | refine SThen_r ?_ | refine SThen_e ?_ | refine SIn_n ?_ | refine SIn_r ?_ | refine SIn_eq ?_ | refine SW_skip ?_ | refine SW_exit ?_ | refine SW_ret ?_ | refine SPost_r ?_) | ((with_reducible refine SIn_ne ?_ ?_); focus decide) | ((with_reducible refine SW_true ?_ ?_); focus exact rfl) | ((with_reducible refine SW_false ?_ ?_); focus exact rfl) | ((first | (with_reducible apply SW_run tt_ok hG htb) | ((with_reducible apply SW_draw rfl tt_ok hG htb); (focus kernel_rfl); (focus (simp only [List.range, List.range.loop, List.size_toArray, List.length_cons, List.length_nil, Nat.reduceAdd])))); focus ((repeat' (first | (with_reducible exact runX_nil) | (with_reducible exact runI_nil) | ((first | (with_reducible apply runX_cons) | (with_reducible apply runI_cons)); focus (simp (discharger := omega) only [go_sem, tPair, hd1, hd2, hng, hb, ↓reduceIte, reduceIte, Nat.reduceEqDiff, Nat.reduceLT, Nat.reduceLeDiff, Nat.reduceAdd, Nat.reduceSub, Nat.reduceMul, Nat.reduceDiv, Nat.reduceMod, Nat.reduceBEq, Int.reduceEq, Int.reduceLT, Int.reduceLE, Int.reduceNeg, Int.reduceToNat, reduceCtorEq]; with_reducible rfl)))); done)))
            exact (by simp (discharger := omega) only [go_sem, tPair, ↓reduceIte, reduceIte, Nat.reduceEqDiff, Nat.reduceLT, Nat.reduceLeDiff, Nat.reduceAdd, Nat.reduceSub, Nat.reduceMul, Nat.reduceDiv, Nat.reduceMod, Nat.reduceBEq, Int.reduceEq, Int.reduceLT, Int.reduceLE, Int.reduceNeg, Int.reduceToNat, reduceCtorEq])
set_option maxHeartbeats 8000000 in
set_option maxRecDepth 100000 in
theorem LBoth_snd (base : Int) {t n ma mr : Nat} {A R : List (List Int)} {E RE : List Bool} (h0 : manyErr base t = 0) (hn : manyOf base t = n) (hA : Rows0 n ma A) (hE : E.length = ma) (hm : 0 < ma ∧ ma ≤ 50000)
    (hall : allA base t = ⟨base, t, R, RE⟩) (hmr : R.length = mr) (hcl : (leastL n fun w => lang A E 0 w && rightWd base t w).1.length ≤ 65536) :
    Snd Try.prog G 48 [tInt base, tInt t, tIntss A, tBools E] (.tup [tAuto (autoL base t n (fun w => lang A E 0 w && rightWd base t w)), tErr (errL n (fun w => lang A E 0 w && rightWd base t w))]) := by
  have c1 := All_snd (G := G) hG base t
  rw [h0, hall] at c1
  have gall := allA_good h0 hn
  have hlall := (allA_isLeast h0 hn).1
  have h37 := (allA_isLeast h0 hn).2
  rw [hall] at gall hlall h37
  have hR : Rows0 n mr R := by have := gall.rows; rw [← hmr]; exact this
  have hRE : RE.length = mr := by have := gall.ends; rw [← hmr]; exact this
  have hm0 : 0 < mr := by rw [← hmr]; exact gall.m0
  have hn36 := gall.n36
  have hn0 := gall.n0
  simp only at h37
  have hla := hA.len
  have hmm : ma * mr ≤ 50000 * 37 := Nat.mul_le_mul hm.2 (by omega)
  have htb := Tab.cons c1 Tab.nil
  refine snd_of_body (n := 135) (tm := [(0, .t (tInt base)), (1, .t (tInt t)), (2, .t (tIntss A)), (3, .t (tBools E))]) (rs := [.cell 8 44, .tmp 9]) tt_ok Try.func48 rfl rfl rfl rfl rfl ?_
  repeat' (first | (with_reducible first | refine SW_seq ?_ | refine SW_block ?_ | refine SThen_n ?_ | refine SThen_r ?_ | refine SThen_e ?_ | refine SIn_n ?_ | refine SIn_r ?_ | refine SIn_eq ?_ | refine SW_skip ?_ | refine SW_exit ?_ | refine SW_ret ?_ | refine SPost_r ?_) | ((with_reducible refine SIn_ne ?_ ?_); focus decide) | ((with_reducible refine SW_true ?_ ?_); focus exact rfl) | ((with_reducible refine SW_false ?_ ?_); focus exact rfl) | ((first | (with_reducible apply SW_run tt_ok hG htb) | ((with_reducible apply SW_draw rfl tt_ok hG htb); (focus kernel_rfl); (focus (simp only [List.range, List.range.loop, List.size_toArray, List.length_cons, List.length_nil, Nat.reduceAdd])))); focus ((repeat' (first | (with_reducible exact runX_nil) | (with_reducible exact runI_nil) | ((first | (with_reducible apply runX_cons) | (with_reducible apply runI_cons)); focus (simp (discharger := omega) only [go_sem, tAuto, tErr, ↓reduceIte, reduceIte, Nat.reduceEqDiff, Nat.reduceLT, Nat.reduceLeDiff, Nat.reduceAdd, Nat.reduceSub, Nat.reduceMul, Nat.reduceDiv, Nat.reduceMod, Nat.reduceBEq, Int.reduceEq, Int.reduceLT, Int.reduceLE, Int.reduceNeg, Int.reduceToNat, reduceCtorEq]; with_reducible rfl)))); done)))
  refine SW_loop (fun mm s => ∃ (i : Nat) (met : List (Int × Int)) (rows : List (List Int)) (es : List (T × T)) (at_ nt et : List T), mm = ma * mr - i ∧ s = ⟨135, [(0, .t (tInt base)), (1, .t (tInt t)), (2, .t (tIntss A)), (3, .t (tBools E)), (8, .bptr 0 0), (10, .bptr 1 0), (12, .map 2), (13, .sref 3), (14, .sref 4), (15, .sref 5), (16, .t (tNat i))], [.box [.t (tInt 0), .t (tInt 0), .nil, .nil], .box [.t (tInt base), .t (tInt t), .t (tIntss R), .t (tBools RE)], .map (.ints 2) es, .row 120 2 false at_, .row 24 1 false nt, .row 4 1 false et]⟩ ∧ es = keyEntries tPair met ∧ at_ = met.map tPair ∧ nt = rows.map tInts ∧ et = (met.take i).map (fun p => T.bool (endOf E p.1 && endOf RE p.2)) ∧ met.Nodup ∧ (∀ p ∈ met, (0 ≤ p.1 ∧ p.1 < (ma : Int)) ∧ 0 ≤ p.2 ∧ p.2 < (mr : Int)) ∧ met[0]? = some (0, 0) ∧ Expl (pst (rowsA base t A E) (rowsA base t R RE)) n met rows ∧ rows.length = i ∧ i ≤ met.length) (ma * mr)
    ⟨_, Norm.headS (own := [(13, 120, 2, false), (14, 24, 1, false), (15, 4, 1, false)]) (keep := [0, 1, 2, 3, 8, 10, 12, 13, 14, 15, 16]) (by simp (discharger := omega) only [go_sem, ↓reduceIte, reduceIte, Nat.reduceEqDiff, Nat.reduceLT, Nat.reduceLeDiff, Nat.reduceAdd, Nat.reduceSub, Nat.reduceMul, Nat.reduceDiv, Nat.reduceMod, Nat.reduceBEq, Int.reduceEq, Int.reduceLT, Int.reduceLE, Int.reduceNeg, Int.reduceToNat, reduceCtorEq]; with_reducible rfl) (by simp only [go_sem, ↓reduceIte, reduceIte, Nat.reduceEqDiff, Nat.reduceLT, Nat.reduceLeDiff, Nat.reduceAdd, Nat.reduceSub, Nat.reduceMul, Nat.reduceDiv, Nat.reduceMod, Nat.reduceBEq, Int.reduceEq, Int.reduceLT, Int.reduceLE, Int.reduceNeg, Int.reduceToNat, reduceCtorEq]; with_reducible rfl) (by simp only [go_sem, ↓reduceIte, reduceIte, Nat.reduceEqDiff, Nat.reduceLT, Nat.reduceLeDiff, Nat.reduceAdd, Nat.reduceSub, Nat.reduceMul, Nat.reduceDiv, Nat.reduceMod, Nat.reduceBEq, Int.reduceEq, Int.reduceLT, Int.reduceLE, Int.reduceNeg, Int.reduceToNat, reduceCtorEq]; with_reducible rfl) (by simp only [go_sem, ↓reduceIte, reduceIte, Nat.reduceEqDiff, Nat.reduceLT, Nat.reduceLeDiff, Nat.reduceAdd, Nat.reduceSub, Nat.reduceMul, Nat.reduceDiv, Nat.reduceMod, Nat.reduceBEq, Int.reduceEq, Int.reduceLT, Int.reduceLE, Int.reduceNeg, Int.reduceToNat, reduceCtorEq]; with_reducible rfl) (by simp only [go_sem, ↓reduceIte, reduceIte, Nat.reduceEqDiff, Nat.reduceLT, Nat.reduceLeDiff, Nat.reduceAdd, Nat.reduceSub, Nat.reduceMul, Nat.reduceDiv, Nat.reduceMod, Nat.reduceBEq, Int.reduceEq, Int.reduceLT, Int.reduceLE, Int.reduceNeg, Int.reduceToNat, reduceCtorEq]; with_reducible rfl), 0, [(0, 0)], [], _, _, _, _, rfl, rfl, rfl, rfl, rfl, rfl, by simp, fun p hp => by simp at hp; subst hp; exact ⟨⟨by simp only; omega, by simp only; omega⟩, by simp only; omega, by simp only; omega⟩, rfl, Expl.nil, rfl, by simp⟩ ?_
  clear htb
  have htb : Tab.ok Try.prog G [] := Tab.nil
  rintro mm s ⟨i, met, rows, es, at_, nt, et, rfl, rfl, hes, rfl, rfl, rfl, hnd, hrg, hz, hex, hrl, hi⟩
  have hml := pairs_bound hnd hrg
  have hetl : ((met.take i).map (fun p => T.bool (endOf E p.1 && endOf RE p.2))).length = i := by simp; omega
  by_cases hlt : i < met.length
  · obtain ⟨⟨x, y⟩, hat⟩ : ∃ p, met[i]! = p := ⟨_, rfl⟩
    have hio : met[i]? = some (x, y) := bang_get hat hlt
    obtain ⟨hxr, hyr⟩ := hrg _ (List.mem_of_getElem? hio)
    simp only at hxr hyr
    obtain ⟨ra, hra⟩ : ∃ r, A[x.toNat]! = r := ⟨_, rfl⟩
    obtain ⟨rb, hrb⟩ : ∃ r, R[y.toNat]! = r := ⟨_, rfl⟩
    have hra2 : rowOf A x = ra := by unfold rowOf; exact bang_D hra (by omega)
    have hrb2 : rowOf R y = rb := by unfold rowOf; exact bang_D hrb (by omega)
    have hram := bang_mem hra (by omega)
    have hrbm := bang_mem hrb (by omega)
    have hran := hA.row _ hram
    have hrbn := hR.row _ hrbm
    repeat' (first | (with_reducible first | refine SW_seq ?_ | refine SW_block ?_ | refine SThen_n ?_ | refine SThen_r ?_ | refine SThen_e ?_ | refine SIn_n ?_ | refine SIn_r ?_ | refine SIn_eq ?_ | refine SW_skip ?_ | refine SW_exit ?_ | refine SW_ret ?_ | refine SPost_r ?_) | ((with_reducible refine SIn_ne ?_ ?_); focus decide) | ((with_reducible refine SW_true ?_ ?_); focus exact rfl) | ((with_reducible refine SW_false ?_ ?_); focus exact rfl) | ((first | (with_reducible apply SW_run tt_ok hG htb) | ((with_reducible apply SW_draw rfl tt_ok hG htb); (focus kernel_rfl); (focus (simp only [List.range, List.range.loop, List.size_toArray, List.length_cons, List.length_nil, Nat.reduceAdd])))); focus ((repeat' (first | (with_reducible exact runX_nil) | (with_reducible exact runI_nil) | ((first | (with_reducible apply runX_cons) | (with_reducible apply runI_cons)); focus (simp (discharger := omega) only [go_sem, tPair, hat, hra, hran, ↓reduceIte, reduceIte, Nat.reduceEqDiff, Nat.reduceLT, Nat.reduceLeDiff, Nat.reduceAdd, Nat.reduceSub, Nat.reduceMul, Nat.reduceDiv, Nat.reduceMod, Nat.reduceBEq, Int.reduceEq, Int.reduceLT, Int.reduceLE, Int.reduceNeg, Int.reduceToNat, reduceCtorEq]; with_reducible rfl)))); done)))
    generalize hetE : (met.take i).map (fun p => T.bool (endOf E p.1 && endOf RE p.2)) = et at hetl
    refine SW_loop (fun mm s => ∃ (l : Nat) (met' : List (Int × Int)) (q : List Nat) (es : List (T × T)) (at_ qt : List T), mm = n - l ∧ s = ⟨135, [(0, .t (tInt base)), (1, .t (tInt t)), (2, .t (tIntss A)), (3, .t (tBools E)), (8, .bptr 0 0), (10, .bptr 1 0), (12, .map 2), (13, .sref 3), (14, .sref 4), (15, .sref 5), (16, .t (tNat i)), (17, .sref 6), (53, .t (tInts ra)), (54, .t (tNat n)), (55, .t (tNat l))], [.box [.t (tInt 0), .t (tInt 0), .nil, .nil], .box [.t (tInt base), .t (tInt t), .t (tIntss R), .t (tBools RE)], .map (.ints 2) es, .row 120 2 false at_, .row 24 1 false (rows.map tInts), .row 4 1 false et, .row 3 1 false qt]⟩ ∧ es = keyEntries tPair met' ∧ at_ = met'.map tPair ∧ qt = q.map tNat ∧ met'.Nodup ∧ (∀ p ∈ met', (0 ≤ p.1 ∧ p.1 < (ma : Int)) ∧ 0 ≤ p.2 ∧ p.2 < (mr : Int)) ∧ Met1 (pst (rowsA base t A E) (rowsA base t R RE)) (x, y) met met' q l ∧ l ≤ n) (n)
      ⟨_, Norm.headS (own := [(13, 120, 2, false), (14, 24, 1, false), (15, 4, 1, false), (17, 3, 1, false)]) (keep := [0, 1, 2, 3, 8, 10, 12, 13, 14, 15, 16, 17, 53, 54, 55]) (by simp (discharger := omega) only [go_sem, ↓reduceIte, reduceIte, Nat.reduceEqDiff, Nat.reduceLT, Nat.reduceLeDiff, Nat.reduceAdd, Nat.reduceSub, Nat.reduceMul, Nat.reduceDiv, Nat.reduceMod, Nat.reduceBEq, Int.reduceEq, Int.reduceLT, Int.reduceLE, Int.reduceNeg, Int.reduceToNat, reduceCtorEq]; with_reducible rfl) (by simp only [go_sem, ↓reduceIte, reduceIte, Nat.reduceEqDiff, Nat.reduceLT, Nat.reduceLeDiff, Nat.reduceAdd, Nat.reduceSub, Nat.reduceMul, Nat.reduceDiv, Nat.reduceMod, Nat.reduceBEq, Int.reduceEq, Int.reduceLT, Int.reduceLE, Int.reduceNeg, Int.reduceToNat, reduceCtorEq]; with_reducible rfl) (by simp only [go_sem, ↓reduceIte, reduceIte, Nat.reduceEqDiff, Nat.reduceLT, Nat.reduceLeDiff, Nat.reduceAdd, Nat.reduceSub, Nat.reduceMul, Nat.reduceDiv, Nat.reduceMod, Nat.reduceBEq, Int.reduceEq, Int.reduceLT, Int.reduceLE, Int.reduceNeg, Int.reduceToNat, reduceCtorEq]; with_reducible rfl) (by simp only [go_sem, ↓reduceIte, reduceIte, Nat.reduceEqDiff, Nat.reduceLT, Nat.reduceLeDiff, Nat.reduceAdd, Nat.reduceSub, Nat.reduceMul, Nat.reduceDiv, Nat.reduceMod, Nat.reduceBEq, Int.reduceEq, Int.reduceLT, Int.reduceLE, Int.reduceNeg, Int.reduceToNat, reduceCtorEq]; with_reducible rfl) (by simp only [go_sem, ↓reduceIte, reduceIte, Nat.reduceEqDiff, Nat.reduceLT, Nat.reduceLeDiff, Nat.reduceAdd, Nat.reduceSub, Nat.reduceMul, Nat.reduceDiv, Nat.reduceMod, Nat.reduceBEq, Int.reduceEq, Int.reduceLT, Int.reduceLE, Int.reduceNeg, Int.reduceToNat, reduceCtorEq]; with_reducible rfl), 0, met, [], _, _, _, rfl, rfl, hes, rfl, rfl, hnd, hrg, .start, Nat.zero_le _⟩ ?_
    clear hes
    rintro mm s ⟨l, met', q, es, at_, qt, rfl, rfl, hes, rfl, rfl, hnd', hrg', hM, hl⟩
    have hml' := pairs_bound hnd' hrg'
    have hel : es.length = met'.length := by rw [hes, keyEntries_length]
    have hql := hM.len
    have hio' := pre_get hM.pre hio
    have hlt' := (List.getElem?_eq_some_iff.1 hio').1
    have hat' : met'[i]! = (x, y) := by rw [getElem!_pos met' i hlt']; exact (List.getElem?_eq_some_iff.1 hio').2
    by_cases hlt2 : l < n
    · obtain ⟨u, hul⟩ : ∃ u, ra[l]! = u := ⟨_, rfl⟩
      obtain ⟨v, hvl⟩ : ∃ v, rb[l]! = v := ⟨_, rfl⟩
      have hu := hA.ok _ hram _ (bang_mem hul (by omega))
      have hv := hR.ok _ hrbm _ (bang_mem hvl (by omega))
      have hps : (pst (rowsA base t A E) (rowsA base t R RE)) (x, y) l = (u, v) := by
        show (nx A x l, nx R y l) = (u, v)
        simp only [nx, hra2, hrb2, bang_D hul (show l < ra.length by omega), bang_D hvl (show l < rb.length by omega)]
      by_cases hx : (u, v) ∈ met'
      · obtain ⟨kk, hk⟩ := List.mem_iff_getElem?.1 hx
        have hget : mapGet es (.agg [.int .i64 u, .int .i64 v]) = some (tNat kk) := by rw [hes]; exact keyEntries_get_some (f := tPair) tPair_inj' hnd' hk
        repeat' (first | (with_reducible first | refine SW_seq ?_ | refine SW_block ?_ | refine SThen_n ?_ | refine SThen_r ?_ | refine SThen_e ?_ | refine SIn_n ?_ | refine SIn_r ?_ | refine SIn_eq ?_ | refine SW_skip ?_ | refine SW_exit ?_ | refine SW_ret ?_ | refine SPost_r ?_) | ((with_reducible refine SIn_ne ?_ ?_); focus decide) | ((with_reducible refine SW_true ?_ ?_); focus exact rfl) | ((with_reducible refine SW_false ?_ ?_); focus exact rfl) | ((first | (with_reducible apply SW_run tt_ok hG htb) | ((with_reducible apply SW_draw rfl tt_ok hG htb); (focus kernel_rfl); (focus (simp only [List.range, List.range.loop, List.size_toArray, List.length_cons, List.length_nil, Nat.reduceAdd])))); focus ((repeat' (first | (with_reducible exact runX_nil) | (with_reducible exact runI_nil) | ((first | (with_reducible apply runX_cons) | (with_reducible apply runI_cons)); focus (simp (discharger := omega) only [go_sem, tPair, hat', hrb, hul, hvl, hget, ↓reduceIte, reduceIte, Nat.reduceEqDiff, Nat.reduceLT, Nat.reduceLeDiff, Nat.reduceAdd, Nat.reduceSub, Nat.reduceMul, Nat.reduceDiv, Nat.reduceMod, Nat.reduceBEq, Int.reduceEq, Int.reduceLT, Int.reduceLE, Int.reduceNeg, Int.reduceToNat, reduceCtorEq]; with_reducible rfl)))); done)))
        exact ⟨n - (l + 1), _, by omega, Norm.headS (own := [(13, 120, 2, false), (14, 24, 1, false), (15, 4, 1, false), (17, 3, 1, false)]) (keep := [0, 1, 2, 3, 8, 10, 12, 13, 14, 15, 16, 17, 53, 54, 55]) (by simp (discharger := omega) only [go_sem, ↓reduceIte, reduceIte, Nat.reduceEqDiff, Nat.reduceLT, Nat.reduceLeDiff, Nat.reduceAdd, Nat.reduceSub, Nat.reduceMul, Nat.reduceDiv, Nat.reduceMod, Nat.reduceBEq, Int.reduceEq, Int.reduceLT, Int.reduceLE, Int.reduceNeg, Int.reduceToNat, reduceCtorEq]; with_reducible rfl) (by simp only [go_sem, ↓reduceIte, reduceIte, Nat.reduceEqDiff, Nat.reduceLT, Nat.reduceLeDiff, Nat.reduceAdd, Nat.reduceSub, Nat.reduceMul, Nat.reduceDiv, Nat.reduceMod, Nat.reduceBEq, Int.reduceEq, Int.reduceLT, Int.reduceLE, Int.reduceNeg, Int.reduceToNat, reduceCtorEq]; with_reducible rfl) (by simp only [go_sem, ↓reduceIte, reduceIte, Nat.reduceEqDiff, Nat.reduceLT, Nat.reduceLeDiff, Nat.reduceAdd, Nat.reduceSub, Nat.reduceMul, Nat.reduceDiv, Nat.reduceMod, Nat.reduceBEq, Int.reduceEq, Int.reduceLT, Int.reduceLE, Int.reduceNeg, Int.reduceToNat, reduceCtorEq]; with_reducible rfl) (by simp only [go_sem, ↓reduceIte, reduceIte, Nat.reduceEqDiff, Nat.reduceLT, Nat.reduceLeDiff, Nat.reduceAdd, Nat.reduceSub, Nat.reduceMul, Nat.reduceDiv, Nat.reduceMod, Nat.reduceBEq, Int.reduceEq, Int.reduceLT, Int.reduceLE, Int.reduceNeg, Int.reduceToNat, reduceCtorEq]; with_reducible rfl) (by simp only [go_sem, ↓reduceIte, reduceIte, Nat.reduceEqDiff, Nat.reduceLT, Nat.reduceLeDiff, Nat.reduceAdd, Nat.reduceSub, Nat.reduceMul, Nat.reduceDiv, Nat.reduceMod, Nat.reduceBEq, Int.reduceEq, Int.reduceLT, Int.reduceLE, Int.reduceNeg, Int.reduceToNat, reduceCtorEq]; with_reducible rfl), l + 1, met', q ++ [kk], _, _, _, rfl, rfl, hes, rfl, by rw [List.map_append]; rfl, hnd', hrg', hM.old (by rw [hps]; exact hk), by omega⟩
      · have hget : mapGet es (.agg [.int .i64 u, .int .i64 v]) = none := by rw [hes]; exact keyEntries_get_none (f := tPair) tPair_inj' hx
        have hset : mapSet es (.agg [.int .i64 u, .int .i64 v]) (.int .i64 (met'.length : Int)) = keyEntries tPair (met' ++ [(u, v)]) := by rw [hes]; exact keyEntries_set (f := tPair) tPair_inj' hx
        repeat' (first | (with_reducible first | refine SW_seq ?_ | refine SW_block ?_ | refine SThen_n ?_ | refine SThen_r ?_ | refine SThen_e ?_ | refine SIn_n ?_ | refine SIn_r ?_ | refine SIn_eq ?_ | refine SW_skip ?_ | refine SW_exit ?_ | refine SW_ret ?_ | refine SPost_r ?_) | ((with_reducible refine SIn_ne ?_ ?_); focus decide) | ((with_reducible refine SW_true ?_ ?_); focus exact rfl) | ((with_reducible refine SW_false ?_ ?_); focus exact rfl) | ((first | (with_reducible apply SW_run tt_ok hG htb) | ((with_reducible apply SW_draw rfl tt_ok hG htb); (focus kernel_rfl); (focus (simp only [List.range, List.range.loop, List.size_toArray, List.length_cons, List.length_nil, Nat.reduceAdd])))); focus ((repeat' (first | (with_reducible exact runX_nil) | (with_reducible exact runI_nil) | ((first | (with_reducible apply runX_cons) | (with_reducible apply runI_cons)); focus (simp (discharger := omega) only [go_sem, tPair, hat', hrb, hul, hvl, hget, ↓reduceIte, reduceIte, Nat.reduceEqDiff, Nat.reduceLT, Nat.reduceLeDiff, Nat.reduceAdd, Nat.reduceSub, Nat.reduceMul, Nat.reduceDiv, Nat.reduceMod, Nat.reduceBEq, Int.reduceEq, Int.reduceLT, Int.reduceLE, Int.reduceNeg, Int.reduceToNat, reduceCtorEq]; with_reducible rfl)))); done)))
        exact ⟨n - (l + 1), _, by omega, Norm.headS (own := [(13, 120, 2, false), (14, 24, 1, false), (15, 4, 1, false), (17, 3, 1, false)]) (keep := [0, 1, 2, 3, 8, 10, 12, 13, 14, 15, 16, 17, 53, 54, 55]) (by simp (discharger := omega) only [go_sem, ↓reduceIte, reduceIte, Nat.reduceEqDiff, Nat.reduceLT, Nat.reduceLeDiff, Nat.reduceAdd, Nat.reduceSub, Nat.reduceMul, Nat.reduceDiv, Nat.reduceMod, Nat.reduceBEq, Int.reduceEq, Int.reduceLT, Int.reduceLE, Int.reduceNeg, Int.reduceToNat, reduceCtorEq]; with_reducible rfl) (by simp only [go_sem, ↓reduceIte, reduceIte, Nat.reduceEqDiff, Nat.reduceLT, Nat.reduceLeDiff, Nat.reduceAdd, Nat.reduceSub, Nat.reduceMul, Nat.reduceDiv, Nat.reduceMod, Nat.reduceBEq, Int.reduceEq, Int.reduceLT, Int.reduceLE, Int.reduceNeg, Int.reduceToNat, reduceCtorEq]; with_reducible rfl) (by simp only [go_sem, ↓reduceIte, reduceIte, Nat.reduceEqDiff, Nat.reduceLT, Nat.reduceLeDiff, Nat.reduceAdd, Nat.reduceSub, Nat.reduceMul, Nat.reduceDiv, Nat.reduceMod, Nat.reduceBEq, Int.reduceEq, Int.reduceLT, Int.reduceLE, Int.reduceNeg, Int.reduceToNat, reduceCtorEq]; with_reducible rfl) (by simp only [go_sem, ↓reduceIte, reduceIte, Nat.reduceEqDiff, Nat.reduceLT, Nat.reduceLeDiff, Nat.reduceAdd, Nat.reduceSub, Nat.reduceMul, Nat.reduceDiv, Nat.reduceMod, Nat.reduceBEq, Int.reduceEq, Int.reduceLT, Int.reduceLE, Int.reduceNeg, Int.reduceToNat, reduceCtorEq]; with_reducible rfl) (by simp only [go_sem, ↓reduceIte, reduceIte, Nat.reduceEqDiff, Nat.reduceLT, Nat.reduceLeDiff, Nat.reduceAdd, Nat.reduceSub, Nat.reduceMul, Nat.reduceDiv, Nat.reduceMod, Nat.reduceBEq, Int.reduceEq, Int.reduceLT, Int.reduceLE, Int.reduceNeg, Int.reduceToNat, reduceCtorEq]; with_reducible rfl), l + 1, met' ++ [(u, v)], q ++ [met'.length], _, _, _, rfl, rfl, hset, by rw [List.map_append]; rfl, by rw [List.map_append]; simp [tNat, hel], nodup_snoc hnd' hx, fun p hp => by
            rcases List.mem_append.1 hp with h | h
            · exact hrg' p h
            · simp at h; subst h; exact ⟨hu, hv⟩, by have := hM.new; rwa [hps] at this, by omega⟩
    · obtain rfl : l = n := by omega
      have htk := hM.take hio
      have hnt : rows.map tInts ++ [T.list (q.map tNat)] = (rows ++ [q.map fun (k : Nat) => (k : Int)]).map tInts := by simp [tInts, tNat, tInt]
      obtain ⟨e1, he1⟩ : ∃ e, E[x.toNat]! = e := ⟨_, rfl⟩
      obtain ⟨e2, he2⟩ : ∃ e, RE[y.toNat]! = e := ⟨_, rfl⟩
      have hE1 : endOf E x = e1 := by unfold endOf; exact bang_D he1 (by omega)
      have hE2 : endOf RE y = e2 := by unfold endOf; exact bang_D he2 (by omega)
      have hfin : ∀ b, b = (e1 && e2) → et ++ [T.bool b] = (met'.take (i + 1)).map (fun p => T.bool (endOf E p.1 && endOf RE p.2)) := fun b hb => by
        rw [htk, List.map_append, hetE, hb]
        simp [hE1, hE2]
      cases e1 with
      | false =>
        repeat' (first | (with_reducible first | refine SW_seq ?_ | refine SW_block ?_ | refine SThen_n ?_ | refine SThen_r ?_ | refine SThen_e ?_ | refine SIn_n ?_ | refine SIn_r ?_ | refine SIn_eq ?_ | refine SW_skip ?_ | refine SW_exit ?_ | refine SW_ret ?_ | refine SPost_r ?_) | ((with_reducible refine SIn_ne ?_ ?_); focus decide) | ((with_reducible refine SW_true ?_ ?_); focus exact rfl) | ((with_reducible refine SW_false ?_ ?_); focus exact rfl) | ((first | (with_reducible apply SW_run tt_ok hG htb) | ((with_reducible apply SW_draw rfl tt_ok hG htb); (focus kernel_rfl); (focus (simp only [List.range, List.range.loop, List.size_toArray, List.length_cons, List.length_nil, Nat.reduceAdd])))); focus ((repeat' (first | (with_reducible exact runX_nil) | (with_reducible exact runI_nil) | ((first | (with_reducible apply runX_cons) | (with_reducible apply runI_cons)); focus (simp (discharger := omega) only [go_sem, tPair, hat', he1, ↓reduceIte, reduceIte, Nat.reduceEqDiff, Nat.reduceLT, Nat.reduceLeDiff, Nat.reduceAdd, Nat.reduceSub, Nat.reduceMul, Nat.reduceDiv, Nat.reduceMod, Nat.reduceBEq, Int.reduceEq, Int.reduceLT, Int.reduceLE, Int.reduceNeg, Int.reduceToNat, reduceCtorEq]; with_reducible rfl)))); done)))
        exact ⟨ma * mr - (i + 1), _, by omega, Norm.headS (own := [(13, 120, 2, false), (14, 24, 1, false), (15, 4, 1, false)]) (keep := [0, 1, 2, 3, 8, 10, 12, 13, 14, 15, 16]) (by simp (discharger := omega) only [go_sem, ↓reduceIte, reduceIte, Nat.reduceEqDiff, Nat.reduceLT, Nat.reduceLeDiff, Nat.reduceAdd, Nat.reduceSub, Nat.reduceMul, Nat.reduceDiv, Nat.reduceMod, Nat.reduceBEq, Int.reduceEq, Int.reduceLT, Int.reduceLE, Int.reduceNeg, Int.reduceToNat, reduceCtorEq]; with_reducible rfl) (by simp only [go_sem, ↓reduceIte, reduceIte, Nat.reduceEqDiff, Nat.reduceLT, Nat.reduceLeDiff, Nat.reduceAdd, Nat.reduceSub, Nat.reduceMul, Nat.reduceDiv, Nat.reduceMod, Nat.reduceBEq, Int.reduceEq, Int.reduceLT, Int.reduceLE, Int.reduceNeg, Int.reduceToNat, reduceCtorEq]; with_reducible rfl) (by simp only [go_sem, ↓reduceIte, reduceIte, Nat.reduceEqDiff, Nat.reduceLT, Nat.reduceLeDiff, Nat.reduceAdd, Nat.reduceSub, Nat.reduceMul, Nat.reduceDiv, Nat.reduceMod, Nat.reduceBEq, Int.reduceEq, Int.reduceLT, Int.reduceLE, Int.reduceNeg, Int.reduceToNat, reduceCtorEq]; with_reducible rfl) (by simp only [go_sem, ↓reduceIte, reduceIte, Nat.reduceEqDiff, Nat.reduceLT, Nat.reduceLeDiff, Nat.reduceAdd, Nat.reduceSub, Nat.reduceMul, Nat.reduceDiv, Nat.reduceMod, Nat.reduceBEq, Int.reduceEq, Int.reduceLT, Int.reduceLE, Int.reduceNeg, Int.reduceToNat, reduceCtorEq]; with_reducible rfl) (by simp only [go_sem, ↓reduceIte, reduceIte, Nat.reduceEqDiff, Nat.reduceLT, Nat.reduceLeDiff, Nat.reduceAdd, Nat.reduceSub, Nat.reduceMul, Nat.reduceDiv, Nat.reduceMod, Nat.reduceBEq, Int.reduceEq, Int.reduceLT, Int.reduceLE, Int.reduceNeg, Int.reduceToNat, reduceCtorEq]; with_reducible rfl), i + 1, met', rows ++ [q.map fun (k : Nat) => (k : Int)], _, _, _, _, rfl, rfl, hes, rfl, hnt, hfin _ rfl, hnd', hrg', pre_get hM.pre hz, hM.fin hex hrl hio, by simp [hrl], by omega⟩
      | true =>
        repeat' (first | (with_reducible first | refine SW_seq ?_ | refine SW_block ?_ | refine SThen_n ?_ | refine SThen_r ?_ | refine SThen_e ?_ | refine SIn_n ?_ | refine SIn_r ?_ | refine SIn_eq ?_ | refine SW_skip ?_ | refine SW_exit ?_ | refine SW_ret ?_ | refine SPost_r ?_) | ((with_reducible refine SIn_ne ?_ ?_); focus decide) | ((with_reducible refine SW_true ?_ ?_); focus exact rfl) | ((with_reducible refine SW_false ?_ ?_); focus exact rfl) | ((first | (with_reducible apply SW_run tt_ok hG htb) | ((with_reducible apply SW_draw rfl tt_ok hG htb); (focus kernel_rfl); (focus (simp only [List.range, List.range.loop, List.size_toArray, List.length_cons, List.length_nil, Nat.reduceAdd])))); focus ((repeat' (first | (with_reducible exact runX_nil) | (with_reducible exact runI_nil) | ((first | (with_reducible apply runX_cons) | (with_reducible apply runI_cons)); focus (simp (discharger := omega) only [go_sem, tPair, hat', he1, he2, ↓reduceIte, reduceIte, Nat.reduceEqDiff, Nat.reduceLT, Nat.reduceLeDiff, Nat.reduceAdd, Nat.reduceSub, Nat.reduceMul, Nat.reduceDiv, Nat.reduceMod, Nat.reduceBEq, Int.reduceEq, Int.reduceLT, Int.reduceLE, Int.reduceNeg, Int.reduceToNat, reduceCtorEq]; with_reducible rfl)))); done)))
        exact ⟨ma * mr - (i + 1), _, by omega, Norm.headS (own := [(13, 120, 2, false), (14, 24, 1, false), (15, 4, 1, false)]) (keep := [0, 1, 2, 3, 8, 10, 12, 13, 14, 15, 16]) (by simp (discharger := omega) only [go_sem, ↓reduceIte, reduceIte, Nat.reduceEqDiff, Nat.reduceLT, Nat.reduceLeDiff, Nat.reduceAdd, Nat.reduceSub, Nat.reduceMul, Nat.reduceDiv, Nat.reduceMod, Nat.reduceBEq, Int.reduceEq, Int.reduceLT, Int.reduceLE, Int.reduceNeg, Int.reduceToNat, reduceCtorEq]; with_reducible rfl) (by simp only [go_sem, ↓reduceIte, reduceIte, Nat.reduceEqDiff, Nat.reduceLT, Nat.reduceLeDiff, Nat.reduceAdd, Nat.reduceSub, Nat.reduceMul, Nat.reduceDiv, Nat.reduceMod, Nat.reduceBEq, Int.reduceEq, Int.reduceLT, Int.reduceLE, Int.reduceNeg, Int.reduceToNat, reduceCtorEq]; with_reducible rfl) (by simp only [go_sem, ↓reduceIte, reduceIte, Nat.reduceEqDiff, Nat.reduceLT, Nat.reduceLeDiff, Nat.reduceAdd, Nat.reduceSub, Nat.reduceMul, Nat.reduceDiv, Nat.reduceMod, Nat.reduceBEq, Int.reduceEq, Int.reduceLT, Int.reduceLE, Int.reduceNeg, Int.reduceToNat, reduceCtorEq]; with_reducible rfl) (by simp only [go_sem, ↓reduceIte, reduceIte, Nat.reduceEqDiff, Nat.reduceLT, Nat.reduceLeDiff, Nat.reduceAdd, Nat.reduceSub, Nat.reduceMul, Nat.reduceDiv, Nat.reduceMod, Nat.reduceBEq, Int.reduceEq, Int.reduceLT, Int.reduceLE, Int.reduceNeg, Int.reduceToNat, reduceCtorEq]; with_reducible rfl) (by simp only [go_sem, ↓reduceIte, reduceIte, Nat.reduceEqDiff, Nat.reduceLT, Nat.reduceLeDiff, Nat.reduceAdd, Nat.reduceSub, Nat.reduceMul, Nat.reduceDiv, Nat.reduceMod, Nat.reduceBEq, Int.reduceEq, Int.reduceLT, Int.reduceLE, Int.reduceNeg, Int.reduceToNat, reduceCtorEq]; with_reducible rfl), i + 1, met', rows ++ [q.map fun (k : Nat) => (k : Int)], _, _, _, _, rfl, rfl, hes, rfl, hnt, hfin _ rfl, hnd', hrg', pre_get hM.pre hz, hM.fin hex hrl hio, by simp [hrl], by omega⟩
  · have hie : i = met.length := by omega
    have hsE : (met.take i).map (fun p => T.bool (endOf E p.1 && endOf RE p.2)) = (met.map fun p => endOf E p.1 && endOf RE p.2).map T.bool := by rw [hie, List.take_length, List.map_map]; rfl
    rw [hsE]
    have hRm : rows.length = met.length := by omega
    have hT := hex.table hRm
    have hm1 : 0 < met.length := (List.getElem?_eq_some_iff.1 hz).1
    have hlang : ∀ w, Ltr n w → lang rows (met.map fun p => endOf E p.1 && endOf RE p.2) 0 w = (lang A E 0 w && rightWd base t w) := fun w hw => by
      rw [hex.lang hRm hz (E := fun p => endOf E p.1 && endOf RE p.2) (fun i s h => by rw [List.getElem?_map, h]; rfl) hw, pst_run]
      have e : endOf RE (runS R 0 w) = rightWd base t w := hlall.lng hw
      show (lang A E 0 w && endOf RE (runS R 0 w)) = _
      rw [e]
    have hS := Shrink_big (G := G) (ends := met.map fun p => endOf E p.1 && endOf RE p.2) hG base (t : Nat) hT hm1 (by omega) (by rw [leastRE_L hT hm1 hlang]; exact hcl) (by simp) (by omega)
    rw [shrinkT_L hT hm1 hlang] at hS
    clear htb
    have htb := Tab.cons hS Tab.nil
    generalize (met.map fun p => endOf E p.1 && endOf RE p.2) = ends at *
    refine SW_norm (Norm.frz 14 rfl rfl) ?_
    refine SW_norm (Norm.frz 15 rfl rfl) ?_
    have hec := errL_cases n fun w => lang A E 0 w && rightWd base t w
    generalize haut : autoL base t n (fun w => lang A E 0 w && rightWd base t w) = au at hS htb ⊢
    by_cases he0 : errL n (fun w => lang A E 0 w && rightWd base t w) = 0
    · rw [he0] at hS htb ⊢
      simp only [decide_true] at htb
      repeat' (first | (with_reducible first | refine SW_seq ?_ | refine SW_block ?_ | refine SThen_n ?_ | refine SThen_r ?_ | refine SThen_e ?_ | refine SIn_n ?_ | refine SIn_r ?_ | refine SIn_eq ?_ | refine SW_skip ?_ | refine SW_exit ?_ | refine SW_ret ?_ | refine SPost_r ?_) | ((with_reducible refine SIn_ne ?_ ?_); focus decide) | ((with_reducible refine SW_true ?_ ?_); focus exact rfl) | ((with_reducible refine SW_false ?_ ?_); focus exact rfl) | ((first | (with_reducible apply SW_run tt_ok hG htb) | ((with_reducible apply SW_draw rfl tt_ok hG htb); (focus kernel_rfl); (focus (simp only [List.range, List.range.loop, List.size_toArray, List.length_cons, List.length_nil, Nat.reduceAdd])))); focus ((repeat' (first | (with_reducible exact runX_nil) | (with_reducible exact runI_nil) | ((first | (with_reducible apply runX_cons) | (with_reducible apply runI_cons)); focus (simp (discharger := omega) only [go_sem, tAuto, tErr, ↓reduceIte, reduceIte, Nat.reduceEqDiff, Nat.reduceLT, Nat.reduceLeDiff, Nat.reduceAdd, Nat.reduceSub, Nat.reduceMul, Nat.reduceDiv, Nat.reduceMod, Nat.reduceBEq, Int.reduceEq, Int.reduceLT, Int.reduceLE, Int.reduceNeg, Int.reduceToNat, reduceCtorEq]; with_reducible rfl)))); done)))
      exact (by simp (discharger := omega) only [go_sem, tAuto, tErr, ↓reduceIte, reduceIte, Nat.reduceEqDiff, Nat.reduceLT, Nat.reduceLeDiff, Nat.reduceAdd, Nat.reduceSub, Nat.reduceMul, Nat.reduceDiv, Nat.reduceMod, Nat.reduceBEq, Int.reduceEq, Int.reduceLT, Int.reduceLE, Int.reduceNeg, Int.reduceToNat, reduceCtorEq])
    · have he3 : errL n (fun w => lang A E 0 w && rightWd base t w) = 3 := by omega
      have hau : au = GAuto.zero := by rw [← haut]; unfold autoL; rw [if_neg he0]
      rw [hau] at hS htb ⊢
      rw [he3] at hS htb ⊢
      simp only [show decide ((3 : Int) = 0) = false by decide] at htb
      repeat' (first | (with_reducible first | refine SW_seq ?_ | refine SW_block ?_ | refine SThen_n ?_ | refine SThen_r ?_ | refine SThen_e ?_ | refine SIn_n ?_ | refine SIn_r ?_ | refine SIn_eq ?_ | refine SW_skip ?_ | refine SW_exit ?_ | refine SW_ret ?_ | refine SPost_r ?_) | ((with_reducible refine SIn_ne ?_ ?_); focus decide) | ((with_reducible refine SW_true ?_ ?_); focus exact rfl) | ((with_reducible refine SW_false ?_ ?_); focus exact rfl) | ((first | (with_reducible apply SW_run tt_ok hG htb) | ((with_reducible apply SW_draw rfl tt_ok hG htb); (focus kernel_rfl); (focus (simp only [List.range, List.range.loop, List.size_toArray, List.length_cons, List.length_nil, Nat.reduceAdd])))); focus ((repeat' (first | (with_reducible exact runX_nil) | (with_reducible exact runI_nil) | ((first | (with_reducible apply runX_cons) | (with_reducible apply runI_cons)); focus (simp (discharger := omega) only [go_sem, tAuto, tErr, GAuto.zero, ↓reduceIte, reduceIte, Nat.reduceEqDiff, Nat.reduceLT, Nat.reduceLeDiff, Nat.reduceAdd, Nat.reduceSub, Nat.reduceMul, Nat.reduceDiv, Nat.reduceMod, Nat.reduceBEq, Int.reduceEq, Int.reduceLT, Int.reduceLE, Int.reduceNeg, Int.reduceToNat, reduceCtorEq]; with_reducible rfl)))); done)))
      exact (by simp (discharger := omega) only [go_sem, tAuto, tErr, GAuto.zero, ↓reduceIte, reduceIte, Nat.reduceEqDiff, Nat.reduceLT, Nat.reduceLeDiff, Nat.reduceAdd, Nat.reduceSub, Nat.reduceMul, Nat.reduceDiv, Nat.reduceMod, Nat.reduceBEq, Int.reduceEq, Int.reduceLT, Int.reduceLE, Int.reduceNeg, Int.reduceToNat, reduceCtorEq])
end
end Go.Proofs.Ytfhncnhkeodngaa
namespace Go.Proofs.Ytfhncnhkeodngaa
open Go.RowKit

section
variable {G : World → Prop} (hG : Lasting G)
include hG
set_option maxHeartbeats 1000000 in
theorem Unpack_snd (base t l : Int) : Snd Try.prog G 46 [tInt base, tInt t, tInt l] (.tup [tInts (unpackOf base t l), tErr (unpackErr base t l)]) := by
  have htb := Tab.cons (Radix_snd hG base) (Tab.cons (Many_snd hG base t) Tab.nil)
  refine snd_of_body (n := 52) (tm := [(0, .t (tInt base)), (1, .t (tInt t)), (2, .t (tInt l))]) (rs := [.tmp 6, .tmp 7]) tt_ok Try.func46 rfl rfl rfl rfl rfl ?_
  by_cases h0 : manyErr base t = 0
  · obtain ⟨h1, h2, h5, hp36, hm⟩ := many_ok h0
    obtain ⟨r2, r6⟩ := radix_two h1
    have hp1 := powW_pos r2 t.toNat
    have hok : ¬ (l < 0 ∨ manyOf base t ≤ l) → unpackErr base t l = 0 ∧ unpackOf base t l = unpack (radix base) t.toNat l := unpackErr_ok h0
    have hno : (l < 0 ∨ manyOf base t ≤ l) → unpackErr base t l = 1 ∧ unpackOf base t l = [] := unpackErr_letter h0
    rw [h0] at htb
    rw [← hm] at hp36 hp1
    generalize manyOf base t = mo at *
    generalize radix base = k at *
    by_cases hl0 : l < 0
    · obtain ⟨e1, e2⟩ := hno (by omega)
      rw [e1, e2]
      repeat' (first | (with_reducible first | refine SW_seq ?_ | refine SW_block ?_ | refine SThen_n ?_ | refine SThen_r ?_ | refine SThen_e ?_ | refine SIn_n ?_ | refine SIn_r ?_ | refine SIn_eq ?_ | refine SW_skip ?_ | refine SW_exit ?_ | refine SW_ret ?_ | refine SPost_r ?_) | ((with_reducible refine SIn_ne ?_ ?_); focus decide) | ((with_reducible refine SW_true ?_ ?_); focus exact rfl) | ((with_reducible refine SW_false ?_ ?_); focus exact rfl) | ((first | (with_reducible apply SW_run tt_ok hG htb) | ((with_reducible apply SW_draw rfl tt_ok hG htb); (focus kernel_rfl); (focus (simp only [List.range, List.range.loop, List.size_toArray, List.length_cons, List.length_nil, Nat.reduceAdd])))); focus ((repeat' (first | (with_reducible exact runX_nil) | (with_reducible exact runI_nil) | ((first | (with_reducible apply runX_cons) | (with_reducible apply runI_cons)); focus (simp (discharger := omega) only [go_sem, tErr, ↓reduceIte, reduceIte, Nat.reduceEqDiff, Nat.reduceLT, Nat.reduceLeDiff, Nat.reduceAdd, Nat.reduceSub, Nat.reduceMul, Nat.reduceDiv, Nat.reduceMod, Nat.reduceBEq, Int.reduceEq, Int.reduceLT, Int.reduceLE, Int.reduceNeg, Int.reduceToNat, reduceCtorEq]; with_reducible rfl)))); done)))
      exact (by simp (discharger := omega) only [go_sem, tErr, ↓reduceIte, reduceIte, Nat.reduceEqDiff, Nat.reduceLT, Nat.reduceLeDiff, Nat.reduceAdd, Nat.reduceSub, Nat.reduceMul, Nat.reduceDiv, Nat.reduceMod, Nat.reduceBEq, Int.reduceEq, Int.reduceLT, Int.reduceLE, Int.reduceNeg, Int.reduceToNat, reduceCtorEq])
    · by_cases hl1 : mo ≤ l
      · obtain ⟨e1, e2⟩ := hno (by omega)
        rw [e1, e2]
        repeat' (first | (with_reducible first | refine SW_seq ?_ | refine SW_block ?_ | refine SThen_n ?_ | refine SThen_r ?_ | refine SThen_e ?_ | refine SIn_n ?_ | refine SIn_r ?_ | refine SIn_eq ?_ | refine SW_skip ?_ | refine SW_exit ?_ | refine SW_ret ?_ | refine SPost_r ?_) | ((with_reducible refine SIn_ne ?_ ?_); focus decide) | ((with_reducible refine SW_true ?_ ?_); focus exact rfl) | ((with_reducible refine SW_false ?_ ?_); focus exact rfl) | ((first | (with_reducible apply SW_run tt_ok hG htb) | ((with_reducible apply SW_draw rfl tt_ok hG htb); (focus kernel_rfl); (focus (simp only [List.range, List.range.loop, List.size_toArray, List.length_cons, List.length_nil, Nat.reduceAdd])))); focus ((repeat' (first | (with_reducible exact runX_nil) | (with_reducible exact runI_nil) | ((first | (with_reducible apply runX_cons) | (with_reducible apply runI_cons)); focus (simp (discharger := omega) only [go_sem, tErr, ↓reduceIte, reduceIte, Nat.reduceEqDiff, Nat.reduceLT, Nat.reduceLeDiff, Nat.reduceAdd, Nat.reduceSub, Nat.reduceMul, Nat.reduceDiv, Nat.reduceMod, Nat.reduceBEq, Int.reduceEq, Int.reduceLT, Int.reduceLE, Int.reduceNeg, Int.reduceToNat, reduceCtorEq]; with_reducible rfl)))); done)))
        exact (by simp (discharger := omega) only [go_sem, tErr, ↓reduceIte, reduceIte, Nat.reduceEqDiff, Nat.reduceLT, Nat.reduceLeDiff, Nat.reduceAdd, Nat.reduceSub, Nat.reduceMul, Nat.reduceDiv, Nat.reduceMod, Nat.reduceBEq, Int.reduceEq, Int.reduceLT, Int.reduceLE, Int.reduceNeg, Int.reduceToNat, reduceCtorEq])
      · obtain ⟨e1, e2⟩ := hok (by omega)
        rw [e1, e2]
        obtain ⟨t, rfl⟩ := Int.eq_ofNat_of_zero_le h2
        rw [Int.toNat_natCast] at *
        repeat' (first | (with_reducible first | refine SW_seq ?_ | refine SW_block ?_ | refine SThen_n ?_ | refine SThen_r ?_ | refine SThen_e ?_ | refine SIn_n ?_ | refine SIn_r ?_ | refine SIn_eq ?_ | refine SW_skip ?_ | refine SW_exit ?_ | refine SW_ret ?_ | refine SPost_r ?_) | ((with_reducible refine SIn_ne ?_ ?_); focus decide) | ((with_reducible refine SW_true ?_ ?_); focus exact rfl) | ((with_reducible refine SW_false ?_ ?_); focus exact rfl) | ((first | (with_reducible apply SW_run tt_ok hG htb) | ((with_reducible apply SW_draw rfl tt_ok hG htb); (focus kernel_rfl); (focus (simp only [List.range, List.range.loop, List.size_toArray, List.length_cons, List.length_nil, Nat.reduceAdd])))); focus ((repeat' (first | (with_reducible exact runX_nil) | (with_reducible exact runI_nil) | ((first | (with_reducible apply runX_cons) | (with_reducible apply runI_cons)); focus (simp (discharger := omega) only [go_sem, tErr, ↓reduceIte, reduceIte, Nat.reduceEqDiff, Nat.reduceLT, Nat.reduceLeDiff, Nat.reduceAdd, Nat.reduceSub, Nat.reduceMul, Nat.reduceDiv, Nat.reduceMod, Nat.reduceBEq, Int.reduceEq, Int.reduceLT, Int.reduceLE, Int.reduceNeg, Int.reduceToNat, reduceCtorEq]; with_reducible rfl)))); done)))
        refine SW_loop (fun m s => ∃ (j : Nat) (q : Int) (u : List Int) (ot : List T), m = t - j ∧ s = ⟨52, [(1, .t (tInt t)), (2, .t (tInt q)), (10, .t (tInt k)), (11, .sref 0), (34, .t (tInt t)), (35, .t (tInt j))], [.row 3 1 true ot]⟩ ∧ ot = (List.replicate (t - j) 0 ++ u).map tInt ∧ j ≤ t ∧ 0 ≤ q ∧ q ≤ 36 ∧ u.length = j ∧ unpack k t l = unpack k (t - j) q ++ u) t
          ⟨_, Norm.headS (own := [(11, 3, 1, true)]) (keep := [1, 2, 10, 11, 34, 35]) (by simp (discharger := omega) only [go_sem, ↓reduceIte, reduceIte, Nat.reduceEqDiff, Nat.reduceLT, Nat.reduceLeDiff, Nat.reduceAdd, Nat.reduceSub, Nat.reduceMul, Nat.reduceDiv, Nat.reduceMod, Nat.reduceBEq, Int.reduceEq, Int.reduceLT, Int.reduceLE, Int.reduceNeg, Int.reduceToNat, reduceCtorEq]; with_reducible rfl) (by simp only [go_sem, ↓reduceIte, reduceIte, Nat.reduceEqDiff, Nat.reduceLT, Nat.reduceLeDiff, Nat.reduceAdd, Nat.reduceSub, Nat.reduceMul, Nat.reduceDiv, Nat.reduceMod, Nat.reduceBEq, Int.reduceEq, Int.reduceLT, Int.reduceLE, Int.reduceNeg, Int.reduceToNat, reduceCtorEq]; with_reducible rfl) (by simp only [go_sem, ↓reduceIte, reduceIte, Nat.reduceEqDiff, Nat.reduceLT, Nat.reduceLeDiff, Nat.reduceAdd, Nat.reduceSub, Nat.reduceMul, Nat.reduceDiv, Nat.reduceMod, Nat.reduceBEq, Int.reduceEq, Int.reduceLT, Int.reduceLE, Int.reduceNeg, Int.reduceToNat, reduceCtorEq]; with_reducible rfl) (by simp only [go_sem, ↓reduceIte, reduceIte, Nat.reduceEqDiff, Nat.reduceLT, Nat.reduceLeDiff, Nat.reduceAdd, Nat.reduceSub, Nat.reduceMul, Nat.reduceDiv, Nat.reduceMod, Nat.reduceBEq, Int.reduceEq, Int.reduceLT, Int.reduceLE, Int.reduceNeg, Int.reduceToNat, reduceCtorEq]; with_reducible rfl) (by simp only [go_sem, ↓reduceIte, reduceIte, Nat.reduceEqDiff, Nat.reduceLT, Nat.reduceLeDiff, Nat.reduceAdd, Nat.reduceSub, Nat.reduceMul, Nat.reduceDiv, Nat.reduceMod, Nat.reduceBEq, Int.reduceEq, Int.reduceLT, Int.reduceLE, Int.reduceNeg, Int.reduceToNat, reduceCtorEq]; with_reducible rfl), 0, l, [], _, rfl, rfl, by simp [tInt], Nat.zero_le _, by omega, by omega, rfl, by simp⟩ ?_
        rintro m s ⟨j, q, u, ot, rfl, rfl, hot, hj, q0, q36, hu, hU⟩
        have hol : ot.length = t := by rw [hot]; simp; omega
        by_cases hlt : j < t
        · have q1 : q.tmod k = q % k := by rw [Int.tmod_eq_emod_of_nonneg q0]
          have q2 : q.tdiv k = q / k := by rw [Int.tdiv_eq_ediv_of_nonneg q0]
          have q3 : 0 ≤ q / k := Int.ediv_nonneg q0 (by omega)
          have q4 : q / k ≤ q := Int.ediv_le_self _ q0
          obtain ⟨r, hr⟩ : ∃ r : Nat, t - j = r + 1 := ⟨t - j - 1, by omega⟩
          have hr' : (t : Int) - 1 - (j : Int) = (r : Nat) := by omega
          repeat' (first | (with_reducible first | refine SW_seq ?_ | refine SW_block ?_ | refine SThen_n ?_ | refine SThen_r ?_ | refine SThen_e ?_ | refine SIn_n ?_ | refine SIn_r ?_ | refine SIn_eq ?_ | refine SW_skip ?_ | refine SW_exit ?_ | refine SW_ret ?_ | refine SPost_r ?_) | ((with_reducible refine SIn_ne ?_ ?_); focus decide) | ((with_reducible refine SW_true ?_ ?_); focus exact rfl) | ((with_reducible refine SW_false ?_ ?_); focus exact rfl) | ((first | (with_reducible apply SW_run tt_ok hG htb) | ((with_reducible apply SW_draw rfl tt_ok hG htb); (focus kernel_rfl); (focus (simp only [List.range, List.range.loop, List.size_toArray, List.length_cons, List.length_nil, Nat.reduceAdd])))); focus ((repeat' (first | (with_reducible exact runX_nil) | (with_reducible exact runI_nil) | ((first | (with_reducible apply runX_cons) | (with_reducible apply runI_cons)); focus (simp (discharger := omega) only [go_sem, q1, q2, hr', ↓reduceIte, reduceIte, Nat.reduceEqDiff, Nat.reduceLT, Nat.reduceLeDiff, Nat.reduceAdd, Nat.reduceSub, Nat.reduceMul, Nat.reduceDiv, Nat.reduceMod, Nat.reduceBEq, Int.reduceEq, Int.reduceLT, Int.reduceLE, Int.reduceNeg, Int.reduceToNat, reduceCtorEq]; with_reducible rfl)))); done)))
          refine ⟨t - (j + 1), _, by omega, Norm.headS (own := [(11, 3, 1, true)]) (keep := [1, 2, 10, 11, 34, 35]) (by simp (discharger := omega) only [go_sem, ↓reduceIte, reduceIte, Nat.reduceEqDiff, Nat.reduceLT, Nat.reduceLeDiff, Nat.reduceAdd, Nat.reduceSub, Nat.reduceMul, Nat.reduceDiv, Nat.reduceMod, Nat.reduceBEq, Int.reduceEq, Int.reduceLT, Int.reduceLE, Int.reduceNeg, Int.reduceToNat, reduceCtorEq]; with_reducible rfl) (by simp only [go_sem, ↓reduceIte, reduceIte, Nat.reduceEqDiff, Nat.reduceLT, Nat.reduceLeDiff, Nat.reduceAdd, Nat.reduceSub, Nat.reduceMul, Nat.reduceDiv, Nat.reduceMod, Nat.reduceBEq, Int.reduceEq, Int.reduceLT, Int.reduceLE, Int.reduceNeg, Int.reduceToNat, reduceCtorEq]; with_reducible rfl) (by simp only [go_sem, ↓reduceIte, reduceIte, Nat.reduceEqDiff, Nat.reduceLT, Nat.reduceLeDiff, Nat.reduceAdd, Nat.reduceSub, Nat.reduceMul, Nat.reduceDiv, Nat.reduceMod, Nat.reduceBEq, Int.reduceEq, Int.reduceLT, Int.reduceLE, Int.reduceNeg, Int.reduceToNat, reduceCtorEq]; with_reducible rfl) (by simp only [go_sem, ↓reduceIte, reduceIte, Nat.reduceEqDiff, Nat.reduceLT, Nat.reduceLeDiff, Nat.reduceAdd, Nat.reduceSub, Nat.reduceMul, Nat.reduceDiv, Nat.reduceMod, Nat.reduceBEq, Int.reduceEq, Int.reduceLT, Int.reduceLE, Int.reduceNeg, Int.reduceToNat, reduceCtorEq]; with_reducible rfl) (by simp only [go_sem, ↓reduceIte, reduceIte, Nat.reduceEqDiff, Nat.reduceLT, Nat.reduceLeDiff, Nat.reduceAdd, Nat.reduceSub, Nat.reduceMul, Nat.reduceDiv, Nat.reduceMod, Nat.reduceBEq, Int.reduceEq, Int.reduceLT, Int.reduceLE, Int.reduceNeg, Int.reduceToNat, reduceCtorEq]; with_reducible rfl), j + 1, q / k, (q % k) :: u, _, rfl, rfl, ?_, by omega, q3, by omega, by simp [hu], ?_⟩
          · have e : t - (j + 1) = r := by omega
            rw [hot, hr, e, List.replicate_succ', List.append_assoc, List.map_append, List.map_append, List.set_append_right _ _ (by simp)]
            simp [tInt]
          · have e : t - (j + 1) = r := by omega
            rw [hU, hr, e, unpack, List.append_assoc]; rfl
        · obtain rfl : j = t := by omega
          have : unpack k j l = u := by rw [hU]; simp [unpack]
          rw [this]
          rw [Nat.sub_self, List.replicate_zero, List.nil_append] at hot
          repeat' (first | (with_reducible first | refine SW_seq ?_ | refine SW_block ?_ | refine SThen_n ?_ | refine SThen_r ?_ | refine SThen_e ?_ | refine SIn_n ?_ | refine SIn_r ?_ | refine SIn_eq ?_ | refine SW_skip ?_ | refine SW_exit ?_ | refine SW_ret ?_ | refine SPost_r ?_) | ((with_reducible refine SIn_ne ?_ ?_); focus decide) | ((with_reducible refine SW_true ?_ ?_); focus exact rfl) | ((with_reducible refine SW_false ?_ ?_); focus exact rfl) | ((first | (with_reducible apply SW_run tt_ok hG htb) | ((with_reducible apply SW_draw rfl tt_ok hG htb); (focus kernel_rfl); (focus (simp only [List.range, List.range.loop, List.size_toArray, List.length_cons, List.length_nil, Nat.reduceAdd])))); focus ((repeat' (first | (with_reducible exact runX_nil) | (with_reducible exact runI_nil) | ((first | (with_reducible apply runX_cons) | (with_reducible apply runI_cons)); focus (simp (discharger := omega) only [go_sem, ↓reduceIte, reduceIte, Nat.reduceEqDiff, Nat.reduceLT, Nat.reduceLeDiff, Nat.reduceAdd, Nat.reduceSub, Nat.reduceMul, Nat.reduceDiv, Nat.reduceMod, Nat.reduceBEq, Int.reduceEq, Int.reduceLT, Int.reduceLE, Int.reduceNeg, Int.reduceToNat, reduceCtorEq]; with_reducible rfl)))); done)))
          exact (by simp (discharger := omega) only [go_sem, tErr, hot, ↓reduceIte, reduceIte, Nat.reduceEqDiff, Nat.reduceLT, Nat.reduceLeDiff, Nat.reduceAdd, Nat.reduceSub, Nat.reduceMul, Nat.reduceDiv, Nat.reduceMod, Nat.reduceBEq, Int.reduceEq, Int.reduceLT, Int.reduceLE, Int.reduceNeg, Int.reduceToNat, reduceCtorEq])
  · obtain ⟨e1, e2⟩ := unpackErr_many (l := l) h0
    rw [e1, e2]
    generalize manyErr base t = e at *
    repeat' (first | (with_reducible first | refine SW_seq ?_ | refine SW_block ?_ | refine SThen_n ?_ | refine SThen_r ?_ | refine SThen_e ?_ | refine SIn_n ?_ | refine SIn_r ?_ | refine SIn_eq ?_ | refine SW_skip ?_ | refine SW_exit ?_ | refine SW_ret ?_ | refine SPost_r ?_) | ((with_reducible refine SIn_ne ?_ ?_); focus decide) | ((with_reducible refine SW_true ?_ ?_); focus exact rfl) | ((with_reducible refine SW_false ?_ ?_); focus exact rfl) | ((first | (with_reducible apply SW_run tt_ok hG htb) | ((with_reducible apply SW_draw rfl tt_ok hG htb); (focus kernel_rfl); (focus (simp only [List.range, List.range.loop, List.size_toArray, List.length_cons, List.length_nil, Nat.reduceAdd])))); focus ((repeat' (first | (with_reducible exact runX_nil) | (with_reducible exact runI_nil) | ((first | (with_reducible apply runX_cons) | (with_reducible apply runI_cons)); focus (simp (discharger := omega) only [go_sem, tErr, h0, ↓reduceIte, reduceIte, Nat.reduceEqDiff, Nat.reduceLT, Nat.reduceLeDiff, Nat.reduceAdd, Nat.reduceSub, Nat.reduceMul, Nat.reduceDiv, Nat.reduceMod, Nat.reduceBEq, Int.reduceEq, Int.reduceLT, Int.reduceLE, Int.reduceNeg, Int.reduceToNat, reduceCtorEq]; with_reducible rfl)))); done)))
    exact (by simp (discharger := omega) only [go_sem, tErr, h0, ↓reduceIte, reduceIte, Nat.reduceEqDiff, Nat.reduceLT, Nat.reduceLeDiff, Nat.reduceAdd, Nat.reduceSub, Nat.reduceMul, Nat.reduceDiv, Nat.reduceMod, Nat.reduceBEq, Int.reduceEq, Int.reduceLT, Int.reduceLE, Int.reduceNeg, Int.reduceToNat, reduceCtorEq])
end
end Go.Proofs.Ytfhncnhkeodngaa
namespace Go.Proofs.Ytfhncnhkeodngaa
open Go.RowKit

/-- What letters add, the first ones. -/
def addP (base : Int) (coefs : List Int) (n l : Nat) : List Int := (List.range n).map fun j => if j < l then addL base coefs j else 0
theorem addP_length (base : Int) (coefs : List Int) (n l : Nat) : (addP base coefs n l).length = n := by simp [addP]
theorem addP_zero (base : Int) (coefs : List Int) (n : Nat) : addP base coefs n 0 = List.replicate n 0 := by
  unfold addP
  apply List.ext_getElem (by simp)
  intro i h1 h2
  simp
theorem addP_set (base : Int) (coefs : List Int) {n l : Nat} (h : l < n) : (addP base coefs n l).set l (addL base coefs l) = addP base coefs n (l + 1) := by
  unfold addP
  apply List.ext_getElem (by simp)
  intro i h1 h2
  simp only [List.length_map, List.length_range] at h2
  rw [List.getElem_set]
  by_cases e : l = i
  · subst e; simp
  · rw [if_neg e]
    simp only [List.getElem_map, List.getElem_range]
    by_cases h3 : i < l
    · rw [if_pos h3, if_pos (by omega)]
    · rw [if_neg h3, if_neg (by omega)]
theorem addP_self (base : Int) (coefs : List Int) {n l : Nat} (h : l < n) : (addP base coefs n l).set l 0 = addP base coefs n l := by
  apply List.ext_getElem (by simp)
  intro i h1 h2
  rw [List.getElem_set]
  by_cases e : l = i
  · subst e
    rw [if_pos rfl]
    simp [addP]
  · rw [if_neg e]
theorem addP_at (base : Int) (coefs : List Int) {n l : Nat} (h : l < n) : (addP base coefs n n)[l]! = addL base coefs l := by
  rw [getElem!_pos _ l (by rw [addP_length]; exact h)]
  simp [addP, h]
theorem gauto_eta' (a : GAuto) (base t : Int) (h1 : a.base = base) (h2 : a.tracks = t) : a = ⟨base, t, a.next, a.ends⟩ := by cases a; simp_all
theorem lineL_cut {base : Int} {coefs : List Int} {c : Int} {n : Nat} (g : LineOk base coefs c n) {far : Int} (hfar : 3 * sizeA coefs + 60 ≤ far ∨ (max c (-c) + 3 * sizeA coefs ≤ far)) (less : Bool) {w : List Nat} (hw : Ltr n w) :
    lnEnd less c (w.foldl (fun p l => lnCut far base p (addL base coefs l)) (0, 0)) = lnEnd less c (lnRun base (addL base coefs) w) := by
  have hc := g.c60
  have hs := g.sz
  rcases hfar with h | h
  · exact ln_end (k := 60) g.r hs.1 (by omega) h (by omega) (fun l _ => g.lnOk l) less hw
  · exact ln_end (k := max c (-c)) g.r hs.1 (by omega) (by omega) (by omega) (fun l _ => g.lnOk l) less hw
/-- Not too many kinds of words, whatever table takes the sum. -/
theorem line_small {base : Int} {coefs : List Int} {c : Int} {n m : Nat} (g : LineOk base coefs c n) (less : Bool) {next : List (List Int)} {ends : List Bool} (hR : Rows0 n m next) (hm : 0 < m) (hm2 : base ≠ 1 → m ≤ 1000)
    (hL : ∀ w, Ltr n w → lang next ends 0 w = lnEnd less c (lnRun base (addL base coefs) w)) : (leastL n fun w => lang next ends 0 w && rightWd base coefs.length w).1.length ≤ 65536 ∧ (leastL n fun w => lang next ends 0 w && rightWd base coefs.length w) = leastL n (lineL base coefs c less) := by
  have h1 : ∀ w, Ltr n w → (lang next ends 0 w && rightWd base coefs.length w) = lineL base coefs c less w := fun w hw => by rw [hL w hw]; rfl
  obtain ⟨t1, t2⟩ := rgt_table (ends := ends) g.many g.n_eq hR hm
  have h2 : ∀ w, Ltr n w → lang (prodNext (rowsA base coefs.length next ends) (allA base coefs.length) n) (prodEnds (rowsA base coefs.length next ends) (allA base coefs.length) 8) 0 w = lineL base coefs c less w := fun w hw => (rgt_lang g.many g.n_eq hR hm hw).trans (h1 w hw)
  have e := leastL_congr h1
  refine ⟨?_, e⟩
  rw [e]
  by_cases hb : base = 1
  · exact g.kinds hb less (Regular.of t1 t2 h2).least
  · have h3 := (leastRE_spec (ends := prodEnds (rowsA base coefs.length next ends) (allA base coefs.length) 8) t1 t2).2
    rw [leastRE_L t1 t2 h2, prodPairs_length] at h3
    have h4 : (rowsA base coefs.length next ends).next.length = m := hR.len
    have h37 := (allA_isLeast g.many g.n_eq).2
    rw [h4] at h3
    have : m * (allA base coefs.length).next.length ≤ 1000 * 37 := Nat.mul_le_mul (hm2 hb) h37
    omega
section
variable {G : World → Prop} (hG : Lasting G)
include hG
set_option maxHeartbeats 8000000 in
set_option maxRecDepth 100000 in
theorem LOf_fine (base : Int) (coefs : List Int) (c : Int) (less : Bool) {n : Nat} (g : LineOk base coefs c n) : Snd Try.prog G 18 [tInt base, tInts coefs, tInt c, .bool less] (.tup [tAuto (autoL base coefs.length n (lineL base coefs c less)), tErr (errL n (lineL base coefs c less))]) := by
  have c1 := Many_snd hG base coefs.length
  rw [g.many, g.n_eq] at c1
  have c2 := Size_snd hG coefs
  have hs := g.sz
  have hz := szAll_of hs.2
  have ht5 := g.t5
  unfold sizeT at c2
  rw [if_pos hz, szW_eq hz (by omega), decide_eq_true hs.2] at c2
  have hn0 := g.n0
  have hn36 := g.n36
  have hc60 := g.c60
  have hbr := radix_pos g.r
  have hlnok := fun l => g.lnOk l
  have hadd := fun l => g.add l
  obtain ⟨sz, hsz⟩ : ∃ sz, sizeA coefs = sz := ⟨_, rfl⟩
  rw [hsz] at c2 hs hlnok
  have habs : ∀ i, i < coefs.length → -12 ≤ coefs.getD i 0 ∧ coefs.getD i 0 ≤ 12 := fun i hi => by
    have := absN_ge coefs hi
    unfold sizeA at hsz
    omega
  refine snd_of_body (n := 196) (tm := [(0, .t (tInt base)), (1, .t (tInts coefs)), (2, .t (tInt c)), (3, .t (.bool less))]) (rs := [.cell 8 44, .tmp 9]) tt_ok Try.func18 rfl rfl rfl rfl rfl ?_
  have htb := Tab.cons c1 (Tab.cons c2 Tab.nil)
  repeat' (first | (with_reducible first | refine SW_seq ?_ | refine SW_block ?_ | refine SThen_n ?_ | refine SThen_r ?_ | refine SThen_e ?_ | refine SIn_n ?_ | refine SIn_r ?_ | refine SIn_eq ?_ | refine SW_skip ?_ | refine SW_exit ?_ | refine SW_ret ?_ | refine SPost_r ?_) | ((with_reducible refine SIn_ne ?_ ?_); focus decide) | ((with_reducible refine SW_true ?_ ?_); focus exact rfl) | ((with_reducible refine SW_false ?_ ?_); focus exact rfl) | ((first | (with_reducible apply SW_run tt_ok hG htb) | ((with_reducible apply SW_draw rfl tt_ok hG htb); (focus kernel_rfl); (focus (simp only [List.range, List.range.loop, List.size_toArray, List.length_cons, List.length_nil, Nat.reduceAdd])))); focus ((repeat' (first | (with_reducible exact runX_nil) | (with_reducible exact runI_nil) | ((first | (with_reducible apply runX_cons) | (with_reducible apply runI_cons)); focus (simp (discharger := omega) only [go_sem, tErr, ↓reduceIte, reduceIte, Nat.reduceEqDiff, Nat.reduceLT, Nat.reduceLeDiff, Nat.reduceAdd, Nat.reduceSub, Nat.reduceMul, Nat.reduceDiv, Nat.reduceMod, Nat.reduceBEq, Int.reduceEq, Int.reduceLT, Int.reduceLE, Int.reduceNeg, Int.reduceToNat, reduceCtorEq]; with_reducible rfl)))); done)))
  refine SW_loop (fun mm s => ∃ (l : Nat) (at_ : List T), mm = n - l ∧ s = ⟨196, [(1, .t (tInts coefs)), (2, .t (tInt c)), (3, .t (.bool less)), (4, .bptr 0 0), (8, .bptr 1 0), (10, .t (tNat n)), (12, .t (tInt sz)), (14, .sref 2), (66, .t (tNat n)), (67, .t (tNat l))], [.box [.t (tInt base)], .box [.t (tInt 0), .t (tInt 0), .nil, .nil], .row 3 1 true at_]⟩ ∧ at_ = (addP base coefs n l).map tInt ∧ l ≤ n) (n)
    ⟨_, Norm.headS (own := [(14, 3, 1, true)]) (keep := [1, 2, 3, 4, 8, 10, 12, 14, 66, 67]) (by simp (discharger := omega) only [go_sem, ↓reduceIte, reduceIte, Nat.reduceEqDiff, Nat.reduceLT, Nat.reduceLeDiff, Nat.reduceAdd, Nat.reduceSub, Nat.reduceMul, Nat.reduceDiv, Nat.reduceMod, Nat.reduceBEq, Int.reduceEq, Int.reduceLT, Int.reduceLE, Int.reduceNeg, Int.reduceToNat, reduceCtorEq]; with_reducible rfl) (by simp only [go_sem, ↓reduceIte, reduceIte, Nat.reduceEqDiff, Nat.reduceLT, Nat.reduceLeDiff, Nat.reduceAdd, Nat.reduceSub, Nat.reduceMul, Nat.reduceDiv, Nat.reduceMod, Nat.reduceBEq, Int.reduceEq, Int.reduceLT, Int.reduceLE, Int.reduceNeg, Int.reduceToNat, reduceCtorEq]; with_reducible rfl) (by simp only [go_sem, ↓reduceIte, reduceIte, Nat.reduceEqDiff, Nat.reduceLT, Nat.reduceLeDiff, Nat.reduceAdd, Nat.reduceSub, Nat.reduceMul, Nat.reduceDiv, Nat.reduceMod, Nat.reduceBEq, Int.reduceEq, Int.reduceLT, Int.reduceLE, Int.reduceNeg, Int.reduceToNat, reduceCtorEq]; with_reducible rfl) (by simp only [go_sem, ↓reduceIte, reduceIte, Nat.reduceEqDiff, Nat.reduceLT, Nat.reduceLeDiff, Nat.reduceAdd, Nat.reduceSub, Nat.reduceMul, Nat.reduceDiv, Nat.reduceMod, Nat.reduceBEq, Int.reduceEq, Int.reduceLT, Int.reduceLE, Int.reduceNeg, Int.reduceToNat, reduceCtorEq]; with_reducible rfl) (by simp only [go_sem, ↓reduceIte, reduceIte, Nat.reduceEqDiff, Nat.reduceLT, Nat.reduceLeDiff, Nat.reduceAdd, Nat.reduceSub, Nat.reduceMul, Nat.reduceDiv, Nat.reduceMod, Nat.reduceBEq, Int.reduceEq, Int.reduceLT, Int.reduceLE, Int.reduceNeg, Int.reduceToNat, reduceCtorEq]; with_reducible rfl), 0, _, rfl, rfl, by rw [addP_zero]; simp [tInt], Nat.zero_le _⟩ ?_
  clear htb
  rintro mm s ⟨l, at_, rfl, rfl, hat, hl⟩
  have hal : at_.length = n := by rw [hat, List.length_map, addP_length]
  by_cases hlt : l < n
  · have c3 := Unpack_snd hG base coefs.length (l : Nat)
    have hue : unpackErr base coefs.length (l : Nat) = 0 := by unfold unpackErr; rw [if_neg (by rw [g.many]; simp), if_neg (by rw [g.n_eq]; omega)]
    have huo : unpackOf base coefs.length (l : Nat) = unpack (radix base) coefs.length (l : Nat) := by unfold unpackOf; rw [if_pos hue]; rfl
    rw [hue, huo] at c3
    have hdl := unpack_length (radix base) coefs.length ((l : Nat) : Int)
    have hdo := unpack_ok (radix_two g.r).1 coefs.length ((l : Nat) : Int)
    have hr6 := radix_two g.r
    have hdd : addL base coefs l = dotN coefs (fun j => (unpack (radix base) coefs.length (l : Nat)).getD j 0) coefs.length := rfl
    generalize unpack (radix base) coefs.length ((l : Nat) : Int) = d at *
    have htb := Tab.cons c3 Tab.nil
    repeat' (first | (with_reducible first | refine SW_seq ?_ | refine SW_block ?_ | refine SThen_n ?_ | refine SThen_r ?_ | refine SThen_e ?_ | refine SIn_n ?_ | refine SIn_r ?_ | refine SIn_eq ?_ | refine SW_skip ?_ | refine SW_exit ?_ | refine SW_ret ?_ | refine SPost_r ?_) | ((with_reducible refine SIn_ne ?_ ?_); focus decide) | ((with_reducible refine SW_true ?_ ?_); focus exact rfl) | ((with_reducible refine SW_false ?_ ?_); focus exact rfl) | ((first | (with_reducible apply SW_run tt_ok hG htb) | ((with_reducible apply SW_draw rfl tt_ok hG htb); (focus kernel_rfl); (focus (simp only [List.range, List.range.loop, List.size_toArray, List.length_cons, List.length_nil, Nat.reduceAdd])))); focus ((repeat' (first | (with_reducible exact runX_nil) | (with_reducible exact runI_nil) | ((first | (with_reducible apply runX_cons) | (with_reducible apply runI_cons)); focus (simp (discharger := omega) only [go_sem, hdl, ↓reduceIte, reduceIte, Nat.reduceEqDiff, Nat.reduceLT, Nat.reduceLeDiff, Nat.reduceAdd, Nat.reduceSub, Nat.reduceMul, Nat.reduceDiv, Nat.reduceMod, Nat.reduceBEq, Int.reduceEq, Int.reduceLT, Int.reduceLE, Int.reduceNeg, Int.reduceToNat, reduceCtorEq]; with_reducible rfl)))); done)))
    refine SW_loop (fun mm s => ∃ (i : Nat) (at_ : List T), mm = coefs.length - i ∧ s = ⟨196, [(1, .t (tInts coefs)), (2, .t (tInt c)), (3, .t (.bool less)), (4, .bptr 0 0), (8, .bptr 1 0), (10, .t (tNat n)), (12, .t (tInt sz)), (14, .sref 2), (15, .t (tNat l)), (66, .t (tNat n)), (67, .t (tNat l)), (78, .t (tInts d)), (79, .t (tInt coefs.length)), (80, .t (tInt i))], [.box [.t (tInt base)], .box [.t (tInt 0), .t (tInt 0), .nil, .nil], .row 3 1 true at_]⟩ ∧ at_ = ((addP base coefs n l).set l (dotN coefs (fun j => d.getD j 0) i)).map tInt ∧ i ≤ coefs.length) (coefs.length)
      ⟨_, Norm.headS (own := [(14, 3, 1, true)]) (keep := [1, 2, 3, 4, 8, 10, 12, 14, 15, 66, 67, 78, 79, 80]) (by simp (discharger := omega) only [go_sem, ↓reduceIte, reduceIte, Nat.reduceEqDiff, Nat.reduceLT, Nat.reduceLeDiff, Nat.reduceAdd, Nat.reduceSub, Nat.reduceMul, Nat.reduceDiv, Nat.reduceMod, Nat.reduceBEq, Int.reduceEq, Int.reduceLT, Int.reduceLE, Int.reduceNeg, Int.reduceToNat, reduceCtorEq]; with_reducible rfl) (by simp only [go_sem, ↓reduceIte, reduceIte, Nat.reduceEqDiff, Nat.reduceLT, Nat.reduceLeDiff, Nat.reduceAdd, Nat.reduceSub, Nat.reduceMul, Nat.reduceDiv, Nat.reduceMod, Nat.reduceBEq, Int.reduceEq, Int.reduceLT, Int.reduceLE, Int.reduceNeg, Int.reduceToNat, reduceCtorEq]; with_reducible rfl) (by simp only [go_sem, ↓reduceIte, reduceIte, Nat.reduceEqDiff, Nat.reduceLT, Nat.reduceLeDiff, Nat.reduceAdd, Nat.reduceSub, Nat.reduceMul, Nat.reduceDiv, Nat.reduceMod, Nat.reduceBEq, Int.reduceEq, Int.reduceLT, Int.reduceLE, Int.reduceNeg, Int.reduceToNat, reduceCtorEq]; with_reducible rfl) (by simp only [go_sem, ↓reduceIte, reduceIte, Nat.reduceEqDiff, Nat.reduceLT, Nat.reduceLeDiff, Nat.reduceAdd, Nat.reduceSub, Nat.reduceMul, Nat.reduceDiv, Nat.reduceMod, Nat.reduceBEq, Int.reduceEq, Int.reduceLT, Int.reduceLE, Int.reduceNeg, Int.reduceToNat, reduceCtorEq]; with_reducible rfl) (by simp only [go_sem, ↓reduceIte, reduceIte, Nat.reduceEqDiff, Nat.reduceLT, Nat.reduceLeDiff, Nat.reduceAdd, Nat.reduceSub, Nat.reduceMul, Nat.reduceDiv, Nat.reduceMod, Nat.reduceBEq, Int.reduceEq, Int.reduceLT, Int.reduceLE, Int.reduceNeg, Int.reduceToNat, reduceCtorEq]; with_reducible rfl), 0, _, rfl, rfl, by show _ = ((addP base coefs n l).set l 0).map tInt; rw [addP_self base coefs hlt, hat], Nat.zero_le _⟩ ?_
    rintro mm s ⟨i, at_, rfl, rfl, hat, hi⟩
    have hal : at_.length = n := by rw [hat, List.length_map, List.length_set, addP_length]
    by_cases hlt2 : i < coefs.length
    · obtain ⟨x, hx⟩ : ∃ x, d[i]! = x := ⟨_, rfl⟩
      obtain ⟨y, hy⟩ : ∃ y, coefs[i]! = y := ⟨_, rfl⟩
      have hxb := hdo x (bang_mem hx (by omega))
      have hyD : coefs.getD i 0 = y := bang_D hy hlt2
      have hyb := habs i hlt2
      rw [hyD] at hyb
      have hdb := dotN_bd coefs (f := fun j => d.getD j 0) (r := 5) i fun j hj => by
        by_cases hjd : j < d.length
        · rw [getD_lt hjd]
          have := hdo _ (List.getElem_mem hjd)
          omega
        · rw [List.getD_eq_getElem?_getD, List.getElem?_eq_none (by omega)]; simp
      have hdb : -60 ≤ dotN coefs (fun j => d.getD j 0) i ∧ dotN coefs (fun j => d.getD j 0) i ≤ 60 := by
        have h1 := (posneg coefs i).1
        have h2 := (posneg coefs i).2
        have h3 := absN_mono coefs hi
        unfold sizeA at hsz
        omega
      have hcur : at_[l]! = tInt (dotN coefs (fun j => d.getD j 0) i) := by
        rw [getElem!_pos _ l (by omega)]
        simp [hat, List.getElem_set]
      have hyx : -60 ≤ y * x ∧ y * x ≤ 60 := by
        have m1 : y * x ≤ 12 * x := Int.mul_le_mul_of_nonneg_right (by omega) (by omega)
        have m2 : (-12) * x ≤ y * x := Int.mul_le_mul_of_nonneg_right (by omega) (by omega)
        omega
      have hnx : dotN coefs (fun j => d.getD j 0) (i + 1) = dotN coefs (fun j => d.getD j 0) i + y * x := by
        show _ + coefs.getD i 0 * d.getD i 0 = _
        rw [hyD, bang_D hx (by omega)]
      obtain ⟨dv, hdv⟩ : ∃ v, dotN coefs (fun j => d.getD j 0) i = v := ⟨_, rfl⟩
      rw [hdv] at hcur hdb hnx hat
      simp only [tInt] at hcur
      repeat' (first | (with_reducible first | refine SW_seq ?_ | refine SW_block ?_ | refine SThen_n ?_ | refine SThen_r ?_ | refine SThen_e ?_ | refine SIn_n ?_ | refine SIn_r ?_ | refine SIn_eq ?_ | refine SW_skip ?_ | refine SW_exit ?_ | refine SW_ret ?_ | refine SPost_r ?_) | ((with_reducible refine SIn_ne ?_ ?_); focus decide) | ((with_reducible refine SW_true ?_ ?_); focus exact rfl) | ((with_reducible refine SW_false ?_ ?_); focus exact rfl) | ((first | (with_reducible apply SW_run tt_ok hG htb) | ((with_reducible apply SW_draw rfl tt_ok hG htb); (focus kernel_rfl); (focus (simp only [List.range, List.range.loop, List.size_toArray, List.length_cons, List.length_nil, Nat.reduceAdd])))); focus ((repeat' (first | (with_reducible exact runX_nil) | (with_reducible exact runI_nil) | ((first | (with_reducible apply runX_cons) | (with_reducible apply runI_cons)); focus (simp (discharger := omega) only [go_sem, hx, hy, hcur, ↓reduceIte, reduceIte, Nat.reduceEqDiff, Nat.reduceLT, Nat.reduceLeDiff, Nat.reduceAdd, Nat.reduceSub, Nat.reduceMul, Nat.reduceDiv, Nat.reduceMod, Nat.reduceBEq, Int.reduceEq, Int.reduceLT, Int.reduceLE, Int.reduceNeg, Int.reduceToNat, reduceCtorEq]; with_reducible rfl)))); done)))
      exact ⟨coefs.length - (i + 1), _, by omega, Norm.headS (own := [(14, 3, 1, true)]) (keep := [1, 2, 3, 4, 8, 10, 12, 14, 15, 66, 67, 78, 79, 80]) (by simp (discharger := omega) only [go_sem, ↓reduceIte, reduceIte, Nat.reduceEqDiff, Nat.reduceLT, Nat.reduceLeDiff, Nat.reduceAdd, Nat.reduceSub, Nat.reduceMul, Nat.reduceDiv, Nat.reduceMod, Nat.reduceBEq, Int.reduceEq, Int.reduceLT, Int.reduceLE, Int.reduceNeg, Int.reduceToNat, reduceCtorEq]; with_reducible rfl) (by simp only [go_sem, ↓reduceIte, reduceIte, Nat.reduceEqDiff, Nat.reduceLT, Nat.reduceLeDiff, Nat.reduceAdd, Nat.reduceSub, Nat.reduceMul, Nat.reduceDiv, Nat.reduceMod, Nat.reduceBEq, Int.reduceEq, Int.reduceLT, Int.reduceLE, Int.reduceNeg, Int.reduceToNat, reduceCtorEq]; with_reducible rfl) (by simp only [go_sem, ↓reduceIte, reduceIte, Nat.reduceEqDiff, Nat.reduceLT, Nat.reduceLeDiff, Nat.reduceAdd, Nat.reduceSub, Nat.reduceMul, Nat.reduceDiv, Nat.reduceMod, Nat.reduceBEq, Int.reduceEq, Int.reduceLT, Int.reduceLE, Int.reduceNeg, Int.reduceToNat, reduceCtorEq]; with_reducible rfl) (by simp only [go_sem, ↓reduceIte, reduceIte, Nat.reduceEqDiff, Nat.reduceLT, Nat.reduceLeDiff, Nat.reduceAdd, Nat.reduceSub, Nat.reduceMul, Nat.reduceDiv, Nat.reduceMod, Nat.reduceBEq, Int.reduceEq, Int.reduceLT, Int.reduceLE, Int.reduceNeg, Int.reduceToNat, reduceCtorEq]; with_reducible rfl) (by simp only [go_sem, ↓reduceIte, reduceIte, Nat.reduceEqDiff, Nat.reduceLT, Nat.reduceLeDiff, Nat.reduceAdd, Nat.reduceSub, Nat.reduceMul, Nat.reduceDiv, Nat.reduceMod, Nat.reduceBEq, Int.reduceEq, Int.reduceLT, Int.reduceLE, Int.reduceNeg, Int.reduceToNat, reduceCtorEq]; with_reducible rfl), i + 1, _, rfl, rfl, by rw [hnx, hat]; simp [List.map_set, List.set_set, tInt], by omega⟩
    · obtain rfl : i = coefs.length := by omega
      rw [← hdd, addP_set base coefs hlt] at hat
      repeat' (first | (with_reducible first | refine SW_seq ?_ | refine SW_block ?_ | refine SThen_n ?_ | refine SThen_r ?_ | refine SThen_e ?_ | refine SIn_n ?_ | refine SIn_r ?_ | refine SIn_eq ?_ | refine SW_skip ?_ | refine SW_exit ?_ | refine SW_ret ?_ | refine SPost_r ?_) | ((with_reducible refine SIn_ne ?_ ?_); focus decide) | ((with_reducible refine SW_true ?_ ?_); focus exact rfl) | ((with_reducible refine SW_false ?_ ?_); focus exact rfl) | ((first | (with_reducible apply SW_run tt_ok hG htb) | ((with_reducible apply SW_draw rfl tt_ok hG htb); (focus kernel_rfl); (focus (simp only [List.range, List.range.loop, List.size_toArray, List.length_cons, List.length_nil, Nat.reduceAdd])))); focus ((repeat' (first | (with_reducible exact runX_nil) | (with_reducible exact runI_nil) | ((first | (with_reducible apply runX_cons) | (with_reducible apply runI_cons)); focus (simp (discharger := omega) only [go_sem, ↓reduceIte, reduceIte, Nat.reduceEqDiff, Nat.reduceLT, Nat.reduceLeDiff, Nat.reduceAdd, Nat.reduceSub, Nat.reduceMul, Nat.reduceDiv, Nat.reduceMod, Nat.reduceBEq, Int.reduceEq, Int.reduceLT, Int.reduceLE, Int.reduceNeg, Int.reduceToNat, reduceCtorEq]; with_reducible rfl)))); done)))
      exact ⟨n - (l + 1), _, by omega, Norm.headS (own := [(14, 3, 1, true)]) (keep := [1, 2, 3, 4, 8, 10, 12, 14, 66, 67]) (by simp (discharger := omega) only [go_sem, ↓reduceIte, reduceIte, Nat.reduceEqDiff, Nat.reduceLT, Nat.reduceLeDiff, Nat.reduceAdd, Nat.reduceSub, Nat.reduceMul, Nat.reduceDiv, Nat.reduceMod, Nat.reduceBEq, Int.reduceEq, Int.reduceLT, Int.reduceLE, Int.reduceNeg, Int.reduceToNat, reduceCtorEq]; with_reducible rfl) (by simp only [go_sem, ↓reduceIte, reduceIte, Nat.reduceEqDiff, Nat.reduceLT, Nat.reduceLeDiff, Nat.reduceAdd, Nat.reduceSub, Nat.reduceMul, Nat.reduceDiv, Nat.reduceMod, Nat.reduceBEq, Int.reduceEq, Int.reduceLT, Int.reduceLE, Int.reduceNeg, Int.reduceToNat, reduceCtorEq]; with_reducible rfl) (by simp only [go_sem, ↓reduceIte, reduceIte, Nat.reduceEqDiff, Nat.reduceLT, Nat.reduceLeDiff, Nat.reduceAdd, Nat.reduceSub, Nat.reduceMul, Nat.reduceDiv, Nat.reduceMod, Nat.reduceBEq, Int.reduceEq, Int.reduceLT, Int.reduceLE, Int.reduceNeg, Int.reduceToNat, reduceCtorEq]; with_reducible rfl) (by simp only [go_sem, ↓reduceIte, reduceIte, Nat.reduceEqDiff, Nat.reduceLT, Nat.reduceLeDiff, Nat.reduceAdd, Nat.reduceSub, Nat.reduceMul, Nat.reduceDiv, Nat.reduceMod, Nat.reduceBEq, Int.reduceEq, Int.reduceLT, Int.reduceLE, Int.reduceNeg, Int.reduceToNat, reduceCtorEq]; with_reducible rfl) (by simp only [go_sem, ↓reduceIte, reduceIte, Nat.reduceEqDiff, Nat.reduceLT, Nat.reduceLeDiff, Nat.reduceAdd, Nat.reduceSub, Nat.reduceMul, Nat.reduceDiv, Nat.reduceMod, Nat.reduceBEq, Int.reduceEq, Int.reduceLT, Int.reduceLE, Int.reduceNeg, Int.reduceToNat, reduceCtorEq]; with_reducible rfl), l + 1, _, rfl, rfl, hat, by omega⟩
  · obtain rfl : n = l := by omega
    clear hlt hl
    have htb : Tab.ok Try.prog G [] := Tab.nil
    have hng : IntKind.i64.wrap (0 - c) = -c := by rw [wrap_i64 _ (by omega)]; omega
    obtain ⟨far, hfar⟩ : ∃ far, max c (-c) + 3 * sz + 1 = far := ⟨_, rfl⟩
    have hf97 : 0 ≤ far ∧ far ≤ 97 := by omega
    have hfw : IntKind.i64.wrap (IntKind.i64.wrap (max c (-c) + IntKind.i64.wrap (3 * sz)) + 1) = far := by
      rw [wrap_i64 (3 * sz) (by omega), wrap_i64 (max c (-c) + 3 * sz) (by omega), wrap_i64 _ (by omega), hfar]
    have hmx : (if -c > c then -c else c) = max c (-c) := by rw [Int.max_def]; split <;> split <;> omega
    repeat' (first | (with_reducible first | refine SW_seq ?_ | refine SW_block ?_ | refine SThen_n ?_ | refine SThen_r ?_ | refine SThen_e ?_ | refine SIn_n ?_ | refine SIn_r ?_ | refine SIn_eq ?_ | refine SW_skip ?_ | refine SW_exit ?_ | refine SW_ret ?_ | refine SPost_r ?_) | ((with_reducible refine SIn_ne ?_ ?_); focus decide) | ((with_reducible refine SW_true ?_ ?_); focus exact rfl) | ((with_reducible refine SW_false ?_ ?_); focus exact rfl) | ((with_reducible apply SW_run tt_ok hG htb); focus ((repeat' (first | (with_reducible exact runX_nil) | ((with_reducible apply runX_cons); focus (simp (discharger := omega) only [go_sem, hng, hmx, hfar, ↓reduceIte, reduceIte, Nat.reduceEqDiff, Nat.reduceLT, Nat.reduceLeDiff, Nat.reduceAdd, Nat.reduceSub, Nat.reduceMul, Nat.reduceDiv, Nat.reduceMod, Nat.reduceBEq, Int.reduceEq, Int.reduceLT, Int.reduceLE, Int.reduceNeg, Int.reduceToNat, reduceCtorEq]; with_reducible rfl)))); done)))
    have hngf : IntKind.i64.wrap (0 - far) = -far := by rw [wrap_i64 _ (by omega)]; omega
    obtain ⟨ov, hov⟩ : ∃ ov, far + 1 = ov := ⟨_, rfl⟩
    obtain ⟨un, hun⟩ : ∃ un, -far - 1 = un := ⟨_, rfl⟩
    have hun2 : 0 - far - 1 = un := by omega
    refine SW_norm (Norm.fixBox 0 rfl rfl) ?_
    refine SW_norm (Norm.fixBox 3 rfl rfl) ?_
    refine SW_norm ((Norm.hole _).trans (Norm.hole _)) ?_
    (with_reducible apply SW_drawF [0, 3] [(7, 4), (8, 5)] rfl tt_ok hG htb)
    · kernel_rfl
    · simp only [List.range, List.range.loop, List.size_toArray, List.length_cons, List.length_nil, Nat.reduceAdd]
      repeat' (first | (with_reducible exact runG_nil) | ((with_reducible apply runF_of); (focus rfl); focus (simp (discharger := omega) only [go_sem, hov, hngf, hun, hun2, ↓reduceIte, reduceIte, Nat.reduceEqDiff, Nat.reduceLT, Nat.reduceLeDiff, Nat.reduceAdd, Nat.reduceSub, Nat.reduceMul, Nat.reduceDiv, Nat.reduceMod, Nat.reduceBEq, Int.reduceEq, Int.reduceLT, Int.reduceLE, Int.reduceNeg, Int.reduceToNat, reduceCtorEq]; with_reducible rfl)) | ((apply runF_fix rfl rfl rfl rfl); focus (simp (discharger := omega) only [go_sem, hov, hngf, hun, hun2, ↓reduceIte, reduceIte, Nat.reduceEqDiff, Nat.reduceLT, Nat.reduceLeDiff, Nat.reduceAdd, Nat.reduceSub, Nat.reduceMul, Nat.reduceDiv, Nat.reduceMod, Nat.reduceBEq, Int.reduceEq, Int.reduceLT, Int.reduceLE, Int.reduceNeg, Int.reduceToNat, reduceCtorEq]; with_reducible rfl)))
    refine SW_norm (Norm.fixBox 4 rfl rfl) ?_
    refine SW_norm (Norm.fixBox 5 rfl rfl) ?_
    generalize hadE : addP base coefs n n = add at hat
    have hadl : add.length = n := by rw [← hadE, addP_length]
    subst hat
    repeat' (first | (with_reducible first | refine SW_seq ?_ | refine SW_block ?_ | refine SThen_n ?_ | refine SThen_r ?_ | refine SThen_e ?_ | refine SIn_n ?_ | refine SIn_r ?_ | refine SIn_eq ?_ | refine SW_skip ?_ | refine SW_exit ?_ | refine SW_ret ?_ | refine SPost_r ?_) | ((with_reducible refine SIn_ne ?_ ?_); focus decide) | ((with_reducible refine SW_true ?_ ?_); focus exact rfl) | ((with_reducible refine SW_false ?_ ?_); focus exact rfl) | ((first | (with_reducible apply SW_run tt_ok hG htb) | ((with_reducible apply SW_draw rfl tt_ok hG htb); (focus kernel_rfl); (focus (simp only [List.range, List.range.loop, List.size_toArray, List.length_cons, List.length_nil, Nat.reduceAdd])))); focus ((repeat' (first | (with_reducible exact runX_nil) | (with_reducible exact runI_nil) | ((first | (with_reducible apply runX_cons) | (with_reducible apply runI_cons)); focus (simp (discharger := omega) only [go_sem, ↓reduceIte, reduceIte, Nat.reduceEqDiff, Nat.reduceLT, Nat.reduceLeDiff, Nat.reduceAdd, Nat.reduceSub, Nat.reduceMul, Nat.reduceDiv, Nat.reduceMod, Nat.reduceBEq, Int.reduceEq, Int.reduceLT, Int.reduceLE, Int.reduceNeg, Int.reduceToNat, reduceCtorEq]; with_reducible rfl)))); done)))
    refine SW_norm (Norm.tr 23 (y := .fn 47 [.ptr [tInt ov, tInt 0], .ptr [tInt un, tInt 0], .ptr [tInt base], .ptr [tInt far]]) rfl rfl) ?_
    refine SW_loop (fun mm s => ∃ (i : Nat) (met : List (Int × Int)) (rows : List (List Int)) (es : List (T × T)) (at_ nt et : List T), mm = 43143 - i ∧ s = ⟨196, [(1, .t (tInts coefs)), (2, .t (tInt c)), (3, .t (.bool less)), (4, .bptr 0 0), (8, .bptr 1 0), (14, .sref 2), (23, .t (.fn 47 [.ptr [tInt ov, tInt 0], .ptr [tInt un, tInt 0], .ptr [tInt base], .ptr [tInt far]])), (24, .map 3), (25, .sref 4), (26, .sref 5), (27, .sref 6), (28, .t (tNat i))], [.fbox [tInt base], .box [.t (tInt 0), .t (tInt 0), .nil, .nil], .row 3 1 true (add.map tInt), .map (.ints 2) es, .row 92 2 false at_, .row 24 1 false nt, .row 4 1 false et]⟩ ∧ es = keyEntries tPair met ∧ at_ = met.map tPair ∧ nt = rows.map tInts ∧ et = (met.take i).map (fun p => T.bool (lnEnd less c p)) ∧ met.Nodup ∧ (∀ p ∈ met, LnPt base far sz (far + sz) p) ∧ met[0]? = some (0, 0) ∧ Expl (fun p l => lnCut far base p (addL base coefs l)) n met rows ∧ rows.length = i ∧ i ≤ met.length) (43143)
      ⟨_, Norm.headS (own := [(14, 3, 1, true), (25, 92, 2, false), (26, 24, 1, false), (27, 4, 1, false)]) (keep := [1, 2, 3, 4, 8, 14, 23, 24, 25, 26, 27, 28]) (by simp (discharger := omega) only [go_sem, ↓reduceIte, reduceIte, Nat.reduceEqDiff, Nat.reduceLT, Nat.reduceLeDiff, Nat.reduceAdd, Nat.reduceSub, Nat.reduceMul, Nat.reduceDiv, Nat.reduceMod, Nat.reduceBEq, Int.reduceEq, Int.reduceLT, Int.reduceLE, Int.reduceNeg, Int.reduceToNat, reduceCtorEq]; with_reducible rfl) (by simp only [go_sem, ↓reduceIte, reduceIte, Nat.reduceEqDiff, Nat.reduceLT, Nat.reduceLeDiff, Nat.reduceAdd, Nat.reduceSub, Nat.reduceMul, Nat.reduceDiv, Nat.reduceMod, Nat.reduceBEq, Int.reduceEq, Int.reduceLT, Int.reduceLE, Int.reduceNeg, Int.reduceToNat, reduceCtorEq]; with_reducible rfl) (by simp only [go_sem, ↓reduceIte, reduceIte, Nat.reduceEqDiff, Nat.reduceLT, Nat.reduceLeDiff, Nat.reduceAdd, Nat.reduceSub, Nat.reduceMul, Nat.reduceDiv, Nat.reduceMod, Nat.reduceBEq, Int.reduceEq, Int.reduceLT, Int.reduceLE, Int.reduceNeg, Int.reduceToNat, reduceCtorEq]; with_reducible rfl) (by simp only [go_sem, ↓reduceIte, reduceIte, Nat.reduceEqDiff, Nat.reduceLT, Nat.reduceLeDiff, Nat.reduceAdd, Nat.reduceSub, Nat.reduceMul, Nat.reduceDiv, Nat.reduceMod, Nat.reduceBEq, Int.reduceEq, Int.reduceLT, Int.reduceLE, Int.reduceNeg, Int.reduceToNat, reduceCtorEq]; with_reducible rfl) (by simp only [go_sem, ↓reduceIte, reduceIte, Nat.reduceEqDiff, Nat.reduceLT, Nat.reduceLeDiff, Nat.reduceAdd, Nat.reduceSub, Nat.reduceMul, Nat.reduceDiv, Nat.reduceMod, Nat.reduceBEq, Int.reduceEq, Int.reduceLT, Int.reduceLE, Int.reduceNeg, Int.reduceToNat, reduceCtorEq]; with_reducible rfl), 0, [(0, 0)], [], _, _, _, _, rfl, rfl, rfl, rfl, rfl, rfl, by simp, fun p hp => by simp at hp; subst hp; exact LnPt.zero hs.1 hf97.1 (by omega), rfl, Expl.nil, rfl, by simp⟩ ?_
    rintro mm s ⟨i, met, rows, es, at_, nt, et, rfl, rfl, hes, rfl, rfl, rfl, hnd, hrg, hz0, hex, hrl, hi⟩
    have hml : met.length ≤ 43143 := by
      have := ln_count (A := 98) (B := 109) hnd fun p hp => by
        have := hrg p hp
        have h1 := this.x
        have h2 := this.y
        omega
      omega
    have hetl : ((met.take i).map (fun p => T.bool (lnEnd less c p))).length = i := by simp; omega
    by_cases hlt : i < met.length
    · obtain ⟨⟨x, y⟩, hatp⟩ : ∃ p, met[i]! = p := ⟨_, rfl⟩
      have hio : met[i]? = some (x, y) := bang_get hatp hlt
      have hpt := hrg _ (List.mem_of_getElem? hio)
      have hpx := hpt.x
      have hpy := hpt.y
      simp only at hpx hpy
      clear htb
      have htb : Tab.ok Try.prog G [] := Tab.nil
      repeat' (first | (with_reducible first | refine SW_seq ?_ | refine SW_block ?_ | refine SThen_n ?_ | refine SThen_r ?_ | refine SThen_e ?_ | refine SIn_n ?_ | refine SIn_r ?_ | refine SIn_eq ?_ | refine SW_skip ?_ | refine SW_exit ?_ | refine SW_ret ?_ | refine SPost_r ?_) | ((with_reducible refine SIn_ne ?_ ?_); focus decide) | ((with_reducible refine SW_true ?_ ?_); focus exact rfl) | ((with_reducible refine SW_false ?_ ?_); focus exact rfl) | ((first | (with_reducible apply SW_run tt_ok hG htb) | ((with_reducible apply SW_draw rfl tt_ok hG htb); (focus kernel_rfl); (focus (simp only [List.range, List.range.loop, List.size_toArray, List.length_cons, List.length_nil, Nat.reduceAdd])))); focus ((repeat' (first | (with_reducible exact runX_nil) | (with_reducible exact runI_nil) | ((first | (with_reducible apply runX_cons) | (with_reducible apply runI_cons)); focus (simp (discharger := omega) only [go_sem, hadl, ↓reduceIte, reduceIte, Nat.reduceEqDiff, Nat.reduceLT, Nat.reduceLeDiff, Nat.reduceAdd, Nat.reduceSub, Nat.reduceMul, Nat.reduceDiv, Nat.reduceMod, Nat.reduceBEq, Int.reduceEq, Int.reduceLT, Int.reduceLE, Int.reduceNeg, Int.reduceToNat, reduceCtorEq]; with_reducible rfl)))); done)))
      generalize hetE : (met.take i).map (fun p => T.bool (lnEnd less c p)) = et at hetl
      refine SW_loop (fun mm s => ∃ (l : Nat) (met' : List (Int × Int)) (q : List Nat) (es : List (T × T)) (at_ qt : List T), mm = n - l ∧ s = ⟨196, [(1, .t (tInts coefs)), (2, .t (tInt c)), (3, .t (.bool less)), (4, .bptr 0 0), (8, .bptr 1 0), (14, .sref 2), (23, .t (.fn 47 [.ptr [tInt ov, tInt 0], .ptr [tInt un, tInt 0], .ptr [tInt base], .ptr [tInt far]])), (24, .map 3), (25, .sref 4), (26, .sref 5), (27, .sref 6), (28, .t (tNat i)), (29, .sref 7), (126, .sref 2), (127, .t (tNat n)), (128, .t (tNat l))], [.fbox [tInt base], .box [.t (tInt 0), .t (tInt 0), .nil, .nil], .row 3 1 true (add.map tInt), .map (.ints 2) es, .row 92 2 false at_, .row 24 1 false (rows.map tInts), .row 4 1 false et, .row 3 1 false qt]⟩ ∧ es = keyEntries tPair met' ∧ at_ = met'.map tPair ∧ qt = q.map tNat ∧ met'.Nodup ∧ (∀ p ∈ met', LnPt base far sz (far + sz) p) ∧ Met1 (fun p l => lnCut far base p (addL base coefs l)) (x, y) met met' q l ∧ l ≤ n) (n)
        ⟨_, Norm.headS (own := [(14, 3, 1, true), (25, 92, 2, false), (26, 24, 1, false), (27, 4, 1, false), (29, 3, 1, false)]) (keep := [1, 2, 3, 4, 8, 14, 23, 24, 25, 26, 27, 28, 29, 126, 127, 128]) (by simp (discharger := omega) only [go_sem, ↓reduceIte, reduceIte, Nat.reduceEqDiff, Nat.reduceLT, Nat.reduceLeDiff, Nat.reduceAdd, Nat.reduceSub, Nat.reduceMul, Nat.reduceDiv, Nat.reduceMod, Nat.reduceBEq, Int.reduceEq, Int.reduceLT, Int.reduceLE, Int.reduceNeg, Int.reduceToNat, reduceCtorEq]; with_reducible rfl) (by simp only [go_sem, ↓reduceIte, reduceIte, Nat.reduceEqDiff, Nat.reduceLT, Nat.reduceLeDiff, Nat.reduceAdd, Nat.reduceSub, Nat.reduceMul, Nat.reduceDiv, Nat.reduceMod, Nat.reduceBEq, Int.reduceEq, Int.reduceLT, Int.reduceLE, Int.reduceNeg, Int.reduceToNat, reduceCtorEq]; with_reducible rfl) (by simp only [go_sem, ↓reduceIte, reduceIte, Nat.reduceEqDiff, Nat.reduceLT, Nat.reduceLeDiff, Nat.reduceAdd, Nat.reduceSub, Nat.reduceMul, Nat.reduceDiv, Nat.reduceMod, Nat.reduceBEq, Int.reduceEq, Int.reduceLT, Int.reduceLE, Int.reduceNeg, Int.reduceToNat, reduceCtorEq]; with_reducible rfl) (by simp only [go_sem, ↓reduceIte, reduceIte, Nat.reduceEqDiff, Nat.reduceLT, Nat.reduceLeDiff, Nat.reduceAdd, Nat.reduceSub, Nat.reduceMul, Nat.reduceDiv, Nat.reduceMod, Nat.reduceBEq, Int.reduceEq, Int.reduceLT, Int.reduceLE, Int.reduceNeg, Int.reduceToNat, reduceCtorEq]; with_reducible rfl) (by simp only [go_sem, ↓reduceIte, reduceIte, Nat.reduceEqDiff, Nat.reduceLT, Nat.reduceLeDiff, Nat.reduceAdd, Nat.reduceSub, Nat.reduceMul, Nat.reduceDiv, Nat.reduceMod, Nat.reduceBEq, Int.reduceEq, Int.reduceLT, Int.reduceLE, Int.reduceNeg, Int.reduceToNat, reduceCtorEq]; with_reducible rfl), 0, met, [], _, _, _, rfl, rfl, hes, rfl, rfl, hnd, hrg, .start, Nat.zero_le _⟩ ?_
      clear hes
      rintro mm s ⟨l, met', q, es, at_, qt, rfl, rfl, hes, rfl, rfl, hnd', hrg', hM, hl⟩
      have hml' : met'.length ≤ 43143 := by
        have := ln_count (A := 98) (B := 109) hnd' fun p hp => by
          have := hrg' p hp
          have h1 := this.x
          have h2 := this.y
          omega
        omega
      have hel : es.length = met'.length := by rw [hes, keyEntries_length]
      have hql := hM.len
      have hio' := pre_get hM.pre hio
      have hlt' := (List.getElem?_eq_some_iff.1 hio').1
      have hat' : met'[i]! = (x, y) := by rw [getElem!_pos met' i hlt']; exact (List.getElem?_eq_some_iff.1 hio').2
      by_cases hlt2 : l < n
      · obtain ⟨e, hel2⟩ : ∃ e, add[l]! = e := ⟨_, rfl⟩
        have hee : e = addL base coefs l := by rw [← hel2, ← hadE]; exact addP_at base coefs hlt2
        have heok := hlnok l
        rw [← hee] at heok
        have heb : -60 ≤ e ∧ e ≤ 60 := by
          have hr6 := radix_two g.r
          have h1 : sz * (radix base - 1) ≤ 12 * (radix base - 1) := Int.mul_le_mul_of_nonneg_right hs.2 (by omega)
          unfold lnOk at heok
          omega
        have hstep := hpt.step hs.1 hf97.1 (.inl (Int.le_refl _)) heok
        have c3 := StepF_snd hG base far ov un hov.symm hun.symm (x, y) e g.r hf97 heb ⟨by simp only; omega, by simp only; omega⟩ ⟨by simp only; omega, by simp only; omega⟩
        have hps : lnCut far base (x, y) (addL base coefs l) = lnCut far base (x, y) e := by rw [hee]
        obtain ⟨⟨u, v⟩, huv⟩ : ∃ p, lnCut far base (x, y) e = p := ⟨_, rfl⟩
        rw [huv] at c3 hstep hps
        have hux := hstep.x
        have huy := hstep.y
        simp only at hux huy
        clear htb
        have htb := Tab.cons c3 Tab.nil
        by_cases hx : (u, v) ∈ met'
        · obtain ⟨kk, hk⟩ := List.mem_iff_getElem?.1 hx
          have hget : mapGet es (.agg [.int .i64 u, .int .i64 v]) = some (tNat kk) := by rw [hes]; exact keyEntries_get_some (f := tPair) tPair_inj' hnd' hk
          repeat' (first | (with_reducible first | refine SW_seq ?_ | refine SW_block ?_ | refine SThen_n ?_ | refine SThen_r ?_ | refine SThen_e ?_ | refine SIn_n ?_ | refine SIn_r ?_ | refine SIn_eq ?_ | refine SW_skip ?_ | refine SW_exit ?_ | refine SW_ret ?_ | refine SPost_r ?_) | ((with_reducible refine SIn_ne ?_ ?_); focus decide) | ((with_reducible refine SW_true ?_ ?_); focus exact rfl) | ((with_reducible refine SW_false ?_ ?_); focus exact rfl) | ((first | (with_reducible apply SW_run tt_ok hG htb) | ((with_reducible apply SW_draw rfl tt_ok hG htb); (focus kernel_rfl); (focus (simp only [List.range, List.range.loop, List.size_toArray, List.length_cons, List.length_nil, Nat.reduceAdd])))); focus ((repeat' (first | (with_reducible exact runX_nil) | (with_reducible exact runI_nil) | ((first | (with_reducible apply runX_cons) | (with_reducible apply runI_cons)); focus (simp (discharger := omega) only [go_sem, tPair, hat', hel2, hget, ↓reduceIte, reduceIte, Nat.reduceEqDiff, Nat.reduceLT, Nat.reduceLeDiff, Nat.reduceAdd, Nat.reduceSub, Nat.reduceMul, Nat.reduceDiv, Nat.reduceMod, Nat.reduceBEq, Int.reduceEq, Int.reduceLT, Int.reduceLE, Int.reduceNeg, Int.reduceToNat, reduceCtorEq]; with_reducible rfl)))); done)))
          exact ⟨n - (l + 1), _, by omega, Norm.headS (own := [(14, 3, 1, true), (25, 92, 2, false), (26, 24, 1, false), (27, 4, 1, false), (29, 3, 1, false)]) (keep := [1, 2, 3, 4, 8, 14, 23, 24, 25, 26, 27, 28, 29, 126, 127, 128]) (by simp (discharger := omega) only [go_sem, ↓reduceIte, reduceIte, Nat.reduceEqDiff, Nat.reduceLT, Nat.reduceLeDiff, Nat.reduceAdd, Nat.reduceSub, Nat.reduceMul, Nat.reduceDiv, Nat.reduceMod, Nat.reduceBEq, Int.reduceEq, Int.reduceLT, Int.reduceLE, Int.reduceNeg, Int.reduceToNat, reduceCtorEq]; with_reducible rfl) (by simp only [go_sem, ↓reduceIte, reduceIte, Nat.reduceEqDiff, Nat.reduceLT, Nat.reduceLeDiff, Nat.reduceAdd, Nat.reduceSub, Nat.reduceMul, Nat.reduceDiv, Nat.reduceMod, Nat.reduceBEq, Int.reduceEq, Int.reduceLT, Int.reduceLE, Int.reduceNeg, Int.reduceToNat, reduceCtorEq]; with_reducible rfl) (by simp only [go_sem, ↓reduceIte, reduceIte, Nat.reduceEqDiff, Nat.reduceLT, Nat.reduceLeDiff, Nat.reduceAdd, Nat.reduceSub, Nat.reduceMul, Nat.reduceDiv, Nat.reduceMod, Nat.reduceBEq, Int.reduceEq, Int.reduceLT, Int.reduceLE, Int.reduceNeg, Int.reduceToNat, reduceCtorEq]; with_reducible rfl) (by simp only [go_sem, ↓reduceIte, reduceIte, Nat.reduceEqDiff, Nat.reduceLT, Nat.reduceLeDiff, Nat.reduceAdd, Nat.reduceSub, Nat.reduceMul, Nat.reduceDiv, Nat.reduceMod, Nat.reduceBEq, Int.reduceEq, Int.reduceLT, Int.reduceLE, Int.reduceNeg, Int.reduceToNat, reduceCtorEq]; with_reducible rfl) (by simp only [go_sem, ↓reduceIte, reduceIte, Nat.reduceEqDiff, Nat.reduceLT, Nat.reduceLeDiff, Nat.reduceAdd, Nat.reduceSub, Nat.reduceMul, Nat.reduceDiv, Nat.reduceMod, Nat.reduceBEq, Int.reduceEq, Int.reduceLT, Int.reduceLE, Int.reduceNeg, Int.reduceToNat, reduceCtorEq]; with_reducible rfl), l + 1, met', q ++ [kk], _, _, _, rfl, rfl, hes, rfl, by rw [List.map_append]; rfl, hnd', hrg', hM.old (by rw [hps]; exact hk), by omega⟩
        · have hget : mapGet es (.agg [.int .i64 u, .int .i64 v]) = none := by rw [hes]; exact keyEntries_get_none (f := tPair) tPair_inj' hx
          have hset : mapSet es (.agg [.int .i64 u, .int .i64 v]) (.int .i64 (met'.length : Int)) = keyEntries tPair (met' ++ [(u, v)]) := by rw [hes]; exact keyEntries_set (f := tPair) tPair_inj' hx
          repeat' (first | (with_reducible first | refine SW_seq ?_ | refine SW_block ?_ | refine SThen_n ?_ | refine SThen_r ?_ | refine SThen_e ?_ | refine SIn_n ?_ | refine SIn_r ?_ | refine SIn_eq ?_ | refine SW_skip ?_ | refine SW_exit ?_ | refine SW_ret ?_ | refine SPost_r ?_) | ((with_reducible refine SIn_ne ?_ ?_); focus decide) | ((with_reducible refine SW_true ?_ ?_); focus exact rfl) | ((with_reducible refine SW_false ?_ ?_); focus exact rfl) | ((first | (with_reducible apply SW_run tt_ok hG htb) | ((with_reducible apply SW_draw rfl tt_ok hG htb); (focus kernel_rfl); (focus (simp only [List.range, List.range.loop, List.size_toArray, List.length_cons, List.length_nil, Nat.reduceAdd])))); focus ((repeat' (first | (with_reducible exact runX_nil) | (with_reducible exact runI_nil) | ((first | (with_reducible apply runX_cons) | (with_reducible apply runI_cons)); focus (simp (discharger := omega) only [go_sem, tPair, hat', hel2, hget, ↓reduceIte, reduceIte, Nat.reduceEqDiff, Nat.reduceLT, Nat.reduceLeDiff, Nat.reduceAdd, Nat.reduceSub, Nat.reduceMul, Nat.reduceDiv, Nat.reduceMod, Nat.reduceBEq, Int.reduceEq, Int.reduceLT, Int.reduceLE, Int.reduceNeg, Int.reduceToNat, reduceCtorEq]; with_reducible rfl)))); done)))
          exact ⟨n - (l + 1), _, by omega, Norm.headS (own := [(14, 3, 1, true), (25, 92, 2, false), (26, 24, 1, false), (27, 4, 1, false), (29, 3, 1, false)]) (keep := [1, 2, 3, 4, 8, 14, 23, 24, 25, 26, 27, 28, 29, 126, 127, 128]) (by simp (discharger := omega) only [go_sem, ↓reduceIte, reduceIte, Nat.reduceEqDiff, Nat.reduceLT, Nat.reduceLeDiff, Nat.reduceAdd, Nat.reduceSub, Nat.reduceMul, Nat.reduceDiv, Nat.reduceMod, Nat.reduceBEq, Int.reduceEq, Int.reduceLT, Int.reduceLE, Int.reduceNeg, Int.reduceToNat, reduceCtorEq]; with_reducible rfl) (by simp only [go_sem, ↓reduceIte, reduceIte, Nat.reduceEqDiff, Nat.reduceLT, Nat.reduceLeDiff, Nat.reduceAdd, Nat.reduceSub, Nat.reduceMul, Nat.reduceDiv, Nat.reduceMod, Nat.reduceBEq, Int.reduceEq, Int.reduceLT, Int.reduceLE, Int.reduceNeg, Int.reduceToNat, reduceCtorEq]; with_reducible rfl) (by simp only [go_sem, ↓reduceIte, reduceIte, Nat.reduceEqDiff, Nat.reduceLT, Nat.reduceLeDiff, Nat.reduceAdd, Nat.reduceSub, Nat.reduceMul, Nat.reduceDiv, Nat.reduceMod, Nat.reduceBEq, Int.reduceEq, Int.reduceLT, Int.reduceLE, Int.reduceNeg, Int.reduceToNat, reduceCtorEq]; with_reducible rfl) (by simp only [go_sem, ↓reduceIte, reduceIte, Nat.reduceEqDiff, Nat.reduceLT, Nat.reduceLeDiff, Nat.reduceAdd, Nat.reduceSub, Nat.reduceMul, Nat.reduceDiv, Nat.reduceMod, Nat.reduceBEq, Int.reduceEq, Int.reduceLT, Int.reduceLE, Int.reduceNeg, Int.reduceToNat, reduceCtorEq]; with_reducible rfl) (by simp only [go_sem, ↓reduceIte, reduceIte, Nat.reduceEqDiff, Nat.reduceLT, Nat.reduceLeDiff, Nat.reduceAdd, Nat.reduceSub, Nat.reduceMul, Nat.reduceDiv, Nat.reduceMod, Nat.reduceBEq, Int.reduceEq, Int.reduceLT, Int.reduceLE, Int.reduceNeg, Int.reduceToNat, reduceCtorEq]; with_reducible rfl), l + 1, met' ++ [(u, v)], q ++ [met'.length], _, _, _, rfl, rfl, hset, by rw [List.map_append]; rfl, by rw [List.map_append]; simp [tNat, hel], nodup_snoc hnd' hx, fun p hp => by
              rcases List.mem_append.1 hp with h | h
              · exact hrg' p h
              · simp at h; subst h; exact hstep, by have := hM.new; rwa [hps] at this, by omega⟩
      · obtain rfl : l = n := by omega
        have htk := hM.take hio
        have hnt : rows.map tInts ++ [T.list (q.map tNat)] = (rows ++ [q.map fun (k : Nat) => (k : Int)]).map tInts := by simp [tInts, tNat, tInt]
        have hfin : ∀ b, b = lnEnd less c (x, y) → et ++ [T.bool b] = (met'.take (i + 1)).map (fun p => T.bool (lnEnd less c p)) := fun b hb => by
          rw [htk, List.map_append, hetE, hb]; rfl
        cases less with
        | true =>
          by_cases hv : x + c < 0
          · have hb : true = lnEnd true c (x, y) := by simp [lnEnd, hv]
            repeat' (first | (with_reducible first | refine SW_seq ?_ | refine SW_block ?_ | refine SThen_n ?_ | refine SThen_r ?_ | refine SThen_e ?_ | refine SIn_n ?_ | refine SIn_r ?_ | refine SIn_eq ?_ | refine SW_skip ?_ | refine SW_exit ?_ | refine SW_ret ?_ | refine SPost_r ?_) | ((with_reducible refine SIn_ne ?_ ?_); focus decide) | ((with_reducible refine SW_true ?_ ?_); focus exact rfl) | ((with_reducible refine SW_false ?_ ?_); focus exact rfl) | ((first | (with_reducible apply SW_run tt_ok hG htb) | ((with_reducible apply SW_draw rfl tt_ok hG htb); (focus kernel_rfl); (focus (simp only [List.range, List.range.loop, List.size_toArray, List.length_cons, List.length_nil, Nat.reduceAdd])))); focus ((repeat' (first | (with_reducible exact runX_nil) | (with_reducible exact runI_nil) | ((first | (with_reducible apply runX_cons) | (with_reducible apply runI_cons)); focus (simp (discharger := omega) only [go_sem, tPair, hat', ↓reduceIte, reduceIte, Nat.reduceEqDiff, Nat.reduceLT, Nat.reduceLeDiff, Nat.reduceAdd, Nat.reduceSub, Nat.reduceMul, Nat.reduceDiv, Nat.reduceMod, Nat.reduceBEq, Int.reduceEq, Int.reduceLT, Int.reduceLE, Int.reduceNeg, Int.reduceToNat, reduceCtorEq]; with_reducible rfl)))); done)))
            exact ⟨43143 - (i + 1), _, by omega, Norm.headS (own := [(14, 3, 1, true), (25, 92, 2, false), (26, 24, 1, false), (27, 4, 1, false)]) (keep := [1, 2, 3, 4, 8, 14, 23, 24, 25, 26, 27, 28]) (by simp (discharger := omega) only [go_sem, ↓reduceIte, reduceIte, Nat.reduceEqDiff, Nat.reduceLT, Nat.reduceLeDiff, Nat.reduceAdd, Nat.reduceSub, Nat.reduceMul, Nat.reduceDiv, Nat.reduceMod, Nat.reduceBEq, Int.reduceEq, Int.reduceLT, Int.reduceLE, Int.reduceNeg, Int.reduceToNat, reduceCtorEq]; with_reducible rfl) (by simp only [go_sem, ↓reduceIte, reduceIte, Nat.reduceEqDiff, Nat.reduceLT, Nat.reduceLeDiff, Nat.reduceAdd, Nat.reduceSub, Nat.reduceMul, Nat.reduceDiv, Nat.reduceMod, Nat.reduceBEq, Int.reduceEq, Int.reduceLT, Int.reduceLE, Int.reduceNeg, Int.reduceToNat, reduceCtorEq]; with_reducible rfl) (by simp only [go_sem, ↓reduceIte, reduceIte, Nat.reduceEqDiff, Nat.reduceLT, Nat.reduceLeDiff, Nat.reduceAdd, Nat.reduceSub, Nat.reduceMul, Nat.reduceDiv, Nat.reduceMod, Nat.reduceBEq, Int.reduceEq, Int.reduceLT, Int.reduceLE, Int.reduceNeg, Int.reduceToNat, reduceCtorEq]; with_reducible rfl) (by simp only [go_sem, ↓reduceIte, reduceIte, Nat.reduceEqDiff, Nat.reduceLT, Nat.reduceLeDiff, Nat.reduceAdd, Nat.reduceSub, Nat.reduceMul, Nat.reduceDiv, Nat.reduceMod, Nat.reduceBEq, Int.reduceEq, Int.reduceLT, Int.reduceLE, Int.reduceNeg, Int.reduceToNat, reduceCtorEq]; with_reducible rfl) (by simp only [go_sem, ↓reduceIte, reduceIte, Nat.reduceEqDiff, Nat.reduceLT, Nat.reduceLeDiff, Nat.reduceAdd, Nat.reduceSub, Nat.reduceMul, Nat.reduceDiv, Nat.reduceMod, Nat.reduceBEq, Int.reduceEq, Int.reduceLT, Int.reduceLE, Int.reduceNeg, Int.reduceToNat, reduceCtorEq]; with_reducible rfl), i + 1, met', rows ++ [q.map fun (k : Nat) => (k : Int)], _, _, _, _, rfl, rfl, hes, rfl, hnt, hfin _ hb, hnd', hrg', pre_get hM.pre hz0, hM.fin hex hrl hio, by simp [hrl], by omega⟩
          · have hb : false = lnEnd true c (x, y) := by simp [lnEnd, hv]
            repeat' (first | (with_reducible first | refine SW_seq ?_ | refine SW_block ?_ | refine SThen_n ?_ | refine SThen_r ?_ | refine SThen_e ?_ | refine SIn_n ?_ | refine SIn_r ?_ | refine SIn_eq ?_ | refine SW_skip ?_ | refine SW_exit ?_ | refine SW_ret ?_ | refine SPost_r ?_) | ((with_reducible refine SIn_ne ?_ ?_); focus decide) | ((with_reducible refine SW_true ?_ ?_); focus exact rfl) | ((with_reducible refine SW_false ?_ ?_); focus exact rfl) | ((first | (with_reducible apply SW_run tt_ok hG htb) | ((with_reducible apply SW_draw rfl tt_ok hG htb); (focus kernel_rfl); (focus (simp only [List.range, List.range.loop, List.size_toArray, List.length_cons, List.length_nil, Nat.reduceAdd])))); focus ((repeat' (first | (with_reducible exact runX_nil) | (with_reducible exact runI_nil) | ((first | (with_reducible apply runX_cons) | (with_reducible apply runI_cons)); focus (simp (discharger := omega) only [go_sem, tPair, hat', ↓reduceIte, reduceIte, Nat.reduceEqDiff, Nat.reduceLT, Nat.reduceLeDiff, Nat.reduceAdd, Nat.reduceSub, Nat.reduceMul, Nat.reduceDiv, Nat.reduceMod, Nat.reduceBEq, Int.reduceEq, Int.reduceLT, Int.reduceLE, Int.reduceNeg, Int.reduceToNat, reduceCtorEq]; with_reducible rfl)))); done)))
            exact ⟨43143 - (i + 1), _, by omega, Norm.headS (own := [(14, 3, 1, true), (25, 92, 2, false), (26, 24, 1, false), (27, 4, 1, false)]) (keep := [1, 2, 3, 4, 8, 14, 23, 24, 25, 26, 27, 28]) (by simp (discharger := omega) only [go_sem, ↓reduceIte, reduceIte, Nat.reduceEqDiff, Nat.reduceLT, Nat.reduceLeDiff, Nat.reduceAdd, Nat.reduceSub, Nat.reduceMul, Nat.reduceDiv, Nat.reduceMod, Nat.reduceBEq, Int.reduceEq, Int.reduceLT, Int.reduceLE, Int.reduceNeg, Int.reduceToNat, reduceCtorEq]; with_reducible rfl) (by simp only [go_sem, ↓reduceIte, reduceIte, Nat.reduceEqDiff, Nat.reduceLT, Nat.reduceLeDiff, Nat.reduceAdd, Nat.reduceSub, Nat.reduceMul, Nat.reduceDiv, Nat.reduceMod, Nat.reduceBEq, Int.reduceEq, Int.reduceLT, Int.reduceLE, Int.reduceNeg, Int.reduceToNat, reduceCtorEq]; with_reducible rfl) (by simp only [go_sem, ↓reduceIte, reduceIte, Nat.reduceEqDiff, Nat.reduceLT, Nat.reduceLeDiff, Nat.reduceAdd, Nat.reduceSub, Nat.reduceMul, Nat.reduceDiv, Nat.reduceMod, Nat.reduceBEq, Int.reduceEq, Int.reduceLT, Int.reduceLE, Int.reduceNeg, Int.reduceToNat, reduceCtorEq]; with_reducible rfl) (by simp only [go_sem, ↓reduceIte, reduceIte, Nat.reduceEqDiff, Nat.reduceLT, Nat.reduceLeDiff, Nat.reduceAdd, Nat.reduceSub, Nat.reduceMul, Nat.reduceDiv, Nat.reduceMod, Nat.reduceBEq, Int.reduceEq, Int.reduceLT, Int.reduceLE, Int.reduceNeg, Int.reduceToNat, reduceCtorEq]; with_reducible rfl) (by simp only [go_sem, ↓reduceIte, reduceIte, Nat.reduceEqDiff, Nat.reduceLT, Nat.reduceLeDiff, Nat.reduceAdd, Nat.reduceSub, Nat.reduceMul, Nat.reduceDiv, Nat.reduceMod, Nat.reduceBEq, Int.reduceEq, Int.reduceLT, Int.reduceLE, Int.reduceNeg, Int.reduceToNat, reduceCtorEq]; with_reducible rfl), i + 1, met', rows ++ [q.map fun (k : Nat) => (k : Int)], _, _, _, _, rfl, rfl, hes, rfl, hnt, hfin _ hb, hnd', hrg', pre_get hM.pre hz0, hM.fin hex hrl hio, by simp [hrl], by omega⟩
        | false =>
          by_cases hv : x + c = 0
          · have hb : true = lnEnd false c (x, y) := by simp [lnEnd, hv]
            repeat' (first | (with_reducible first | refine SW_seq ?_ | refine SW_block ?_ | refine SThen_n ?_ | refine SThen_r ?_ | refine SThen_e ?_ | refine SIn_n ?_ | refine SIn_r ?_ | refine SIn_eq ?_ | refine SW_skip ?_ | refine SW_exit ?_ | refine SW_ret ?_ | refine SPost_r ?_) | ((with_reducible refine SIn_ne ?_ ?_); focus decide) | ((with_reducible refine SW_true ?_ ?_); focus exact rfl) | ((with_reducible refine SW_false ?_ ?_); focus exact rfl) | ((first | (with_reducible apply SW_run tt_ok hG htb) | ((with_reducible apply SW_draw rfl tt_ok hG htb); (focus kernel_rfl); (focus (simp only [List.range, List.range.loop, List.size_toArray, List.length_cons, List.length_nil, Nat.reduceAdd])))); focus ((repeat' (first | (with_reducible exact runX_nil) | (with_reducible exact runI_nil) | ((first | (with_reducible apply runX_cons) | (with_reducible apply runI_cons)); focus (simp (discharger := omega) only [go_sem, tPair, hat', hv, ↓reduceIte, reduceIte, Nat.reduceEqDiff, Nat.reduceLT, Nat.reduceLeDiff, Nat.reduceAdd, Nat.reduceSub, Nat.reduceMul, Nat.reduceDiv, Nat.reduceMod, Nat.reduceBEq, Int.reduceEq, Int.reduceLT, Int.reduceLE, Int.reduceNeg, Int.reduceToNat, reduceCtorEq]; with_reducible rfl)))); done)))
            exact ⟨43143 - (i + 1), _, by omega, Norm.headS (own := [(14, 3, 1, true), (25, 92, 2, false), (26, 24, 1, false), (27, 4, 1, false)]) (keep := [1, 2, 3, 4, 8, 14, 23, 24, 25, 26, 27, 28]) (by simp (discharger := omega) only [go_sem, ↓reduceIte, reduceIte, Nat.reduceEqDiff, Nat.reduceLT, Nat.reduceLeDiff, Nat.reduceAdd, Nat.reduceSub, Nat.reduceMul, Nat.reduceDiv, Nat.reduceMod, Nat.reduceBEq, Int.reduceEq, Int.reduceLT, Int.reduceLE, Int.reduceNeg, Int.reduceToNat, reduceCtorEq]; with_reducible rfl) (by simp only [go_sem, ↓reduceIte, reduceIte, Nat.reduceEqDiff, Nat.reduceLT, Nat.reduceLeDiff, Nat.reduceAdd, Nat.reduceSub, Nat.reduceMul, Nat.reduceDiv, Nat.reduceMod, Nat.reduceBEq, Int.reduceEq, Int.reduceLT, Int.reduceLE, Int.reduceNeg, Int.reduceToNat, reduceCtorEq]; with_reducible rfl) (by simp only [go_sem, ↓reduceIte, reduceIte, Nat.reduceEqDiff, Nat.reduceLT, Nat.reduceLeDiff, Nat.reduceAdd, Nat.reduceSub, Nat.reduceMul, Nat.reduceDiv, Nat.reduceMod, Nat.reduceBEq, Int.reduceEq, Int.reduceLT, Int.reduceLE, Int.reduceNeg, Int.reduceToNat, reduceCtorEq]; with_reducible rfl) (by simp only [go_sem, ↓reduceIte, reduceIte, Nat.reduceEqDiff, Nat.reduceLT, Nat.reduceLeDiff, Nat.reduceAdd, Nat.reduceSub, Nat.reduceMul, Nat.reduceDiv, Nat.reduceMod, Nat.reduceBEq, Int.reduceEq, Int.reduceLT, Int.reduceLE, Int.reduceNeg, Int.reduceToNat, reduceCtorEq]; with_reducible rfl) (by simp only [go_sem, ↓reduceIte, reduceIte, Nat.reduceEqDiff, Nat.reduceLT, Nat.reduceLeDiff, Nat.reduceAdd, Nat.reduceSub, Nat.reduceMul, Nat.reduceDiv, Nat.reduceMod, Nat.reduceBEq, Int.reduceEq, Int.reduceLT, Int.reduceLE, Int.reduceNeg, Int.reduceToNat, reduceCtorEq]; with_reducible rfl), i + 1, met', rows ++ [q.map fun (k : Nat) => (k : Int)], _, _, _, _, rfl, rfl, hes, rfl, hnt, hfin _ hb, hnd', hrg', pre_get hM.pre hz0, hM.fin hex hrl hio, by simp [hrl], by omega⟩
          · have hb : false = lnEnd false c (x, y) := by simp [lnEnd, hv]
            repeat' (first | (with_reducible first | refine SW_seq ?_ | refine SW_block ?_ | refine SThen_n ?_ | refine SThen_r ?_ | refine SThen_e ?_ | refine SIn_n ?_ | refine SIn_r ?_ | refine SIn_eq ?_ | refine SW_skip ?_ | refine SW_exit ?_ | refine SW_ret ?_ | refine SPost_r ?_) | ((with_reducible refine SIn_ne ?_ ?_); focus decide) | ((with_reducible refine SW_true ?_ ?_); focus exact rfl) | ((with_reducible refine SW_false ?_ ?_); focus exact rfl) | ((first | (with_reducible apply SW_run tt_ok hG htb) | ((with_reducible apply SW_draw rfl tt_ok hG htb); (focus kernel_rfl); (focus (simp only [List.range, List.range.loop, List.size_toArray, List.length_cons, List.length_nil, Nat.reduceAdd])))); focus ((repeat' (first | (with_reducible exact runX_nil) | (with_reducible exact runI_nil) | ((first | (with_reducible apply runX_cons) | (with_reducible apply runI_cons)); focus (simp (discharger := omega) only [go_sem, tPair, hat', hv, ↓reduceIte, reduceIte, Nat.reduceEqDiff, Nat.reduceLT, Nat.reduceLeDiff, Nat.reduceAdd, Nat.reduceSub, Nat.reduceMul, Nat.reduceDiv, Nat.reduceMod, Nat.reduceBEq, Int.reduceEq, Int.reduceLT, Int.reduceLE, Int.reduceNeg, Int.reduceToNat, reduceCtorEq]; with_reducible rfl)))); done)))
            exact ⟨43143 - (i + 1), _, by omega, Norm.headS (own := [(14, 3, 1, true), (25, 92, 2, false), (26, 24, 1, false), (27, 4, 1, false)]) (keep := [1, 2, 3, 4, 8, 14, 23, 24, 25, 26, 27, 28]) (by simp (discharger := omega) only [go_sem, ↓reduceIte, reduceIte, Nat.reduceEqDiff, Nat.reduceLT, Nat.reduceLeDiff, Nat.reduceAdd, Nat.reduceSub, Nat.reduceMul, Nat.reduceDiv, Nat.reduceMod, Nat.reduceBEq, Int.reduceEq, Int.reduceLT, Int.reduceLE, Int.reduceNeg, Int.reduceToNat, reduceCtorEq]; with_reducible rfl) (by simp only [go_sem, ↓reduceIte, reduceIte, Nat.reduceEqDiff, Nat.reduceLT, Nat.reduceLeDiff, Nat.reduceAdd, Nat.reduceSub, Nat.reduceMul, Nat.reduceDiv, Nat.reduceMod, Nat.reduceBEq, Int.reduceEq, Int.reduceLT, Int.reduceLE, Int.reduceNeg, Int.reduceToNat, reduceCtorEq]; with_reducible rfl) (by simp only [go_sem, ↓reduceIte, reduceIte, Nat.reduceEqDiff, Nat.reduceLT, Nat.reduceLeDiff, Nat.reduceAdd, Nat.reduceSub, Nat.reduceMul, Nat.reduceDiv, Nat.reduceMod, Nat.reduceBEq, Int.reduceEq, Int.reduceLT, Int.reduceLE, Int.reduceNeg, Int.reduceToNat, reduceCtorEq]; with_reducible rfl) (by simp only [go_sem, ↓reduceIte, reduceIte, Nat.reduceEqDiff, Nat.reduceLT, Nat.reduceLeDiff, Nat.reduceAdd, Nat.reduceSub, Nat.reduceMul, Nat.reduceDiv, Nat.reduceMod, Nat.reduceBEq, Int.reduceEq, Int.reduceLT, Int.reduceLE, Int.reduceNeg, Int.reduceToNat, reduceCtorEq]; with_reducible rfl) (by simp only [go_sem, ↓reduceIte, reduceIte, Nat.reduceEqDiff, Nat.reduceLT, Nat.reduceLeDiff, Nat.reduceAdd, Nat.reduceSub, Nat.reduceMul, Nat.reduceDiv, Nat.reduceMod, Nat.reduceBEq, Int.reduceEq, Int.reduceLT, Int.reduceLE, Int.reduceNeg, Int.reduceToNat, reduceCtorEq]; with_reducible rfl), i + 1, met', rows ++ [q.map fun (k : Nat) => (k : Int)], _, _, _, _, rfl, rfl, hes, rfl, hnt, hfin _ hb, hnd', hrg', pre_get hM.pre hz0, hM.fin hex hrl hio, by simp [hrl], by omega⟩
    · have hie : i = met.length := by omega
      have hsE : (met.take i).map (fun p => T.bool (lnEnd less c p)) = (met.map (lnEnd less c)).map T.bool := by rw [hie, List.take_length, List.map_map]; rfl
      rw [hsE]
      have hRm : rows.length = met.length := by omega
      have hT := hex.table hRm
      have hm1 : 0 < met.length := (List.getElem?_eq_some_iff.1 hz0).1
      have hlang : ∀ w, Ltr n w → lang rows (met.map (lnEnd less c)) 0 w = lnEnd less c (lnRun base (addL base coefs) w) := fun w hw => by
        rw [hex.lang hRm hz0 (E := lnEnd less c) (fun i s h => by rw [List.getElem?_map, h]; rfl) hw]
        exact lineL_cut g (.inr (by rw [hsz]; omega)) less hw
      have hm2 : base ≠ 1 → met.length ≤ 1000 := fun hb => by
        have := ln_count (A := 98) (B := 0) hnd fun p hp => by
          have := hrg p hp
          have h1 := this.x
          have h2 := this.z hb
          omega
        omega
      obtain ⟨s1, s2⟩ := line_small g less hT hm1 hm2 hlang
      have hlall := (allA_isLeast g.many g.n_eq).1
      have c4 := LBoth_snd hG base g.many g.n_eq hT (by simp) ⟨hm1, by omega⟩ (gauto_eta' _ _ _ hlall.base hlall.tracks) rfl s1
      have ee : errL n (fun w => lang rows (met.map (lnEnd less c)) 0 w && rightWd base coefs.length w) = errL n (lineL base coefs c less) := by unfold errL; rw [s2]
      have ea : autoL base coefs.length n (fun w => lang rows (met.map (lnEnd less c)) 0 w && rightWd base coefs.length w) = autoL base coefs.length n (lineL base coefs c less) := by unfold autoL; rw [ee, s2]
      rw [ea, ee] at c4
      generalize autoL base coefs.length n (lineL base coefs c less) = au at *
      generalize errL n (lineL base coefs c less) = er at *
      generalize met.map (lnEnd less c) = ends at *
      clear htb
      have htb := Tab.cons c4 Tab.nil
      refine SW_norm (Norm.frz 26 rfl rfl) ?_
      refine SW_norm (Norm.frz 27 rfl rfl) ?_
      repeat' (first | (with_reducible first | refine SW_seq ?_ | refine SW_block ?_ | refine SThen_n ?_ | refine SThen_r ?_ | refine SThen_e ?_ | refine SIn_n ?_ | refine SIn_r ?_ | refine SIn_eq ?_ | refine SW_skip ?_ | refine SW_exit ?_ | refine SW_ret ?_ | refine SPost_r ?_) | ((with_reducible refine SIn_ne ?_ ?_); focus decide) | ((with_reducible refine SW_true ?_ ?_); focus exact rfl) | ((with_reducible refine SW_false ?_ ?_); focus exact rfl) | ((first | (with_reducible apply SW_run tt_ok hG htb) | ((with_reducible apply SW_draw rfl tt_ok hG htb); (focus kernel_rfl); (focus (simp only [List.range, List.range.loop, List.size_toArray, List.length_cons, List.length_nil, Nat.reduceAdd])))); focus ((repeat' (first | (with_reducible exact runX_nil) | (with_reducible exact runI_nil) | ((first | (with_reducible apply runX_cons) | (with_reducible apply runI_cons)); focus (simp (discharger := omega) only [go_sem, tAuto, ↓reduceIte, reduceIte, Nat.reduceEqDiff, Nat.reduceLT, Nat.reduceLeDiff, Nat.reduceAdd, Nat.reduceSub, Nat.reduceMul, Nat.reduceDiv, Nat.reduceMod, Nat.reduceBEq, Int.reduceEq, Int.reduceLT, Int.reduceLE, Int.reduceNeg, Int.reduceToNat, reduceCtorEq]; with_reducible rfl)))); done)))
      exact (by simp (discharger := omega) only [go_sem, tAuto, ↓reduceIte, reduceIte, Nat.reduceEqDiff, Nat.reduceLT, Nat.reduceLeDiff, Nat.reduceAdd, Nat.reduceSub, Nat.reduceMul, Nat.reduceDiv, Nat.reduceMod, Nat.reduceBEq, Int.reduceEq, Int.reduceLT, Int.reduceLE, Int.reduceNeg, Int.reduceToNat, reduceCtorEq])
theorem LOf_snd (base : Int) (coefs : List Int) (c : Int) (less : Bool) : Snd Try.prog G 18 [tInt base, tInts coefs, tInt c, .bool less] (.tup [tAuto (lineOf base coefs c less), tErr (lineErr base coefs c less)]) := by
  by_cases h : lineFault base coefs c = 0
  · have e1 : lineErr base coefs c less = errL (manyOf base coefs.length).toNat (lineL base coefs c less) := by unfold lineErr; rw [if_neg (by omega)]
    have e2 : lineOf base coefs c less = autoL base coefs.length (manyOf base coefs.length).toNat (lineL base coefs c less) := by unfold lineOf; rw [if_neg (by omega)]
    rw [e1, e2]
    exact LOf_fine hG base coefs c less (line_ok h)
  · have e1 : lineErr base coefs c less = lineFault base coefs c := by unfold lineErr; rw [if_pos h]
    have e2 : lineOf base coefs c less = .zero := by unfold lineOf; rw [if_pos h]
    rw [e1, e2]
    have c1 := Many_snd hG base coefs.length
    have c2 := Size_snd hG coefs
    refine snd_of_body (n := 196) (tm := [(0, .t (tInt base)), (1, .t (tInts coefs)), (2, .t (tInt c)), (3, .t (.bool less))]) (rs := [.cell 8 44, .tmp 9]) tt_ok Try.func18 rfl rfl rfl rfl rfl ?_
    unfold lineFault at h ⊢
    by_cases h1 : manyErr base coefs.length = 0
    · rw [if_neg (by omega)] at h ⊢
      rw [h1] at c1
      obtain ⟨t, n, e, hn, ht5, hn0, hn36⟩ := many_nat h1
      have h2 : 12 < sizeA coefs ∨ c < -60 ∨ 60 < c := Classical.byContradiction fun h2 => h (by rw [if_neg h2])
      rw [if_pos h2]
      unfold sizeT at c2
      cases hz : szAll coefs with
      | true =>
        rw [if_pos hz, szW_eq hz (by omega)] at c2
        generalize sizeA coefs = sz at *
        have htb := Tab.cons c1 (Tab.cons c2 Tab.nil)
        by_cases h3 : 12 < sz
        · repeat' (first | (with_reducible first | refine SW_seq ?_ | refine SW_block ?_ | refine SThen_n ?_ | refine SThen_r ?_ | refine SThen_e ?_ | refine SIn_n ?_ | refine SIn_r ?_ | refine SIn_eq ?_ | refine SW_skip ?_ | refine SW_exit ?_ | refine SW_ret ?_ | refine SPost_r ?_) | ((with_reducible refine SIn_ne ?_ ?_); focus decide) | ((with_reducible refine SW_true ?_ ?_); focus exact rfl) | ((with_reducible refine SW_false ?_ ?_); focus exact rfl) | ((first | (with_reducible apply SW_run tt_ok hG htb) | ((with_reducible apply SW_draw rfl tt_ok hG htb); (focus kernel_rfl); (focus (simp only [List.range, List.range.loop, List.size_toArray, List.length_cons, List.length_nil, Nat.reduceAdd])))); focus ((repeat' (first | (with_reducible exact runX_nil) | (with_reducible exact runI_nil) | ((first | (with_reducible apply runX_cons) | (with_reducible apply runI_cons)); focus (simp (discharger := omega) only [go_sem, tErr, ↓reduceIte, reduceIte, Nat.reduceEqDiff, Nat.reduceLT, Nat.reduceLeDiff, Nat.reduceAdd, Nat.reduceSub, Nat.reduceMul, Nat.reduceDiv, Nat.reduceMod, Nat.reduceBEq, Int.reduceEq, Int.reduceLT, Int.reduceLE, Int.reduceNeg, Int.reduceToNat, reduceCtorEq]; with_reducible rfl)))); done)))
          exact (by simp (discharger := omega) only [go_sem, tAuto, GAuto.zero, tErr, ↓reduceIte, reduceIte, Nat.reduceEqDiff, Nat.reduceLT, Nat.reduceLeDiff, Nat.reduceAdd, Nat.reduceSub, Nat.reduceMul, Nat.reduceDiv, Nat.reduceMod, Nat.reduceBEq, Int.reduceEq, Int.reduceLT, Int.reduceLE, Int.reduceNeg, Int.reduceToNat, reduceCtorEq])
        · by_cases h4 : c < -60
          · repeat' (first | (with_reducible first | refine SW_seq ?_ | refine SW_block ?_ | refine SThen_n ?_ | refine SThen_r ?_ | refine SThen_e ?_ | refine SIn_n ?_ | refine SIn_r ?_ | refine SIn_eq ?_ | refine SW_skip ?_ | refine SW_exit ?_ | refine SW_ret ?_ | refine SPost_r ?_) | ((with_reducible refine SIn_ne ?_ ?_); focus decide) | ((with_reducible refine SW_true ?_ ?_); focus exact rfl) | ((with_reducible refine SW_false ?_ ?_); focus exact rfl) | ((first | (with_reducible apply SW_run tt_ok hG htb) | ((with_reducible apply SW_draw rfl tt_ok hG htb); (focus kernel_rfl); (focus (simp only [List.range, List.range.loop, List.size_toArray, List.length_cons, List.length_nil, Nat.reduceAdd])))); focus ((repeat' (first | (with_reducible exact runX_nil) | (with_reducible exact runI_nil) | ((first | (with_reducible apply runX_cons) | (with_reducible apply runI_cons)); focus (simp (discharger := omega) only [go_sem, tErr, ↓reduceIte, reduceIte, Nat.reduceEqDiff, Nat.reduceLT, Nat.reduceLeDiff, Nat.reduceAdd, Nat.reduceSub, Nat.reduceMul, Nat.reduceDiv, Nat.reduceMod, Nat.reduceBEq, Int.reduceEq, Int.reduceLT, Int.reduceLE, Int.reduceNeg, Int.reduceToNat, reduceCtorEq]; with_reducible rfl)))); done)))
            exact (by simp (discharger := omega) only [go_sem, tAuto, GAuto.zero, tErr, ↓reduceIte, reduceIte, Nat.reduceEqDiff, Nat.reduceLT, Nat.reduceLeDiff, Nat.reduceAdd, Nat.reduceSub, Nat.reduceMul, Nat.reduceDiv, Nat.reduceMod, Nat.reduceBEq, Int.reduceEq, Int.reduceLT, Int.reduceLE, Int.reduceNeg, Int.reduceToNat, reduceCtorEq])
          · have h5 : 60 < c := by omega
            repeat' (first | (with_reducible first | refine SW_seq ?_ | refine SW_block ?_ | refine SThen_n ?_ | refine SThen_r ?_ | refine SThen_e ?_ | refine SIn_n ?_ | refine SIn_r ?_ | refine SIn_eq ?_ | refine SW_skip ?_ | refine SW_exit ?_ | refine SW_ret ?_ | refine SPost_r ?_) | ((with_reducible refine SIn_ne ?_ ?_); focus decide) | ((with_reducible refine SW_true ?_ ?_); focus exact rfl) | ((with_reducible refine SW_false ?_ ?_); focus exact rfl) | ((first | (with_reducible apply SW_run tt_ok hG htb) | ((with_reducible apply SW_draw rfl tt_ok hG htb); (focus kernel_rfl); (focus (simp only [List.range, List.range.loop, List.size_toArray, List.length_cons, List.length_nil, Nat.reduceAdd])))); focus ((repeat' (first | (with_reducible exact runX_nil) | (with_reducible exact runI_nil) | ((first | (with_reducible apply runX_cons) | (with_reducible apply runI_cons)); focus (simp (discharger := omega) only [go_sem, tErr, ↓reduceIte, reduceIte, Nat.reduceEqDiff, Nat.reduceLT, Nat.reduceLeDiff, Nat.reduceAdd, Nat.reduceSub, Nat.reduceMul, Nat.reduceDiv, Nat.reduceMod, Nat.reduceBEq, Int.reduceEq, Int.reduceLT, Int.reduceLE, Int.reduceNeg, Int.reduceToNat, reduceCtorEq]; with_reducible rfl)))); done)))
            exact (by simp (discharger := omega) only [go_sem, tAuto, GAuto.zero, tErr, ↓reduceIte, reduceIte, Nat.reduceEqDiff, Nat.reduceLT, Nat.reduceLeDiff, Nat.reduceAdd, Nat.reduceSub, Nat.reduceMul, Nat.reduceDiv, Nat.reduceMod, Nat.reduceBEq, Int.reduceEq, Int.reduceLT, Int.reduceLE, Int.reduceNeg, Int.reduceToNat, reduceCtorEq])
      | false =>
        rw [if_neg (by rw [hz]; decide)] at c2
        have htb := Tab.cons c1 (Tab.cons c2 Tab.nil)
        repeat' (first | (with_reducible first | refine SW_seq ?_ | refine SW_block ?_ | refine SThen_n ?_ | refine SThen_r ?_ | refine SThen_e ?_ | refine SIn_n ?_ | refine SIn_r ?_ | refine SIn_eq ?_ | refine SW_skip ?_ | refine SW_exit ?_ | refine SW_ret ?_ | refine SPost_r ?_) | ((with_reducible refine SIn_ne ?_ ?_); focus decide) | ((with_reducible refine SW_true ?_ ?_); focus exact rfl) | ((with_reducible refine SW_false ?_ ?_); focus exact rfl) | ((first | (with_reducible apply SW_run tt_ok hG htb) | ((with_reducible apply SW_draw rfl tt_ok hG htb); (focus kernel_rfl); (focus (simp only [List.range, List.range.loop, List.size_toArray, List.length_cons, List.length_nil, Nat.reduceAdd])))); focus ((repeat' (first | (with_reducible exact runX_nil) | (with_reducible exact runI_nil) | ((first | (with_reducible apply runX_cons) | (with_reducible apply runI_cons)); focus (simp (discharger := omega) only [go_sem, tErr, ↓reduceIte, reduceIte, Nat.reduceEqDiff, Nat.reduceLT, Nat.reduceLeDiff, Nat.reduceAdd, Nat.reduceSub, Nat.reduceMul, Nat.reduceDiv, Nat.reduceMod, Nat.reduceBEq, Int.reduceEq, Int.reduceLT, Int.reduceLE, Int.reduceNeg, Int.reduceToNat, reduceCtorEq]; with_reducible rfl)))); done)))
        exact (by simp (discharger := omega) only [go_sem, tAuto, GAuto.zero, tErr, ↓reduceIte, reduceIte, Nat.reduceEqDiff, Nat.reduceLT, Nat.reduceLeDiff, Nat.reduceAdd, Nat.reduceSub, Nat.reduceMul, Nat.reduceDiv, Nat.reduceMod, Nat.reduceBEq, Int.reduceEq, Int.reduceLT, Int.reduceLE, Int.reduceNeg, Int.reduceToNat, reduceCtorEq])
    · rw [if_pos h1] at h ⊢
      generalize manyErr base coefs.length = f at *
      have htb := Tab.cons c1 Tab.nil
      repeat' (first | (with_reducible first | refine SW_seq ?_ | refine SW_block ?_ | refine SThen_n ?_ | refine SThen_r ?_ | refine SThen_e ?_ | refine SIn_n ?_ | refine SIn_r ?_ | refine SIn_eq ?_ | refine SW_skip ?_ | refine SW_exit ?_ | refine SW_ret ?_ | refine SPost_r ?_) | ((with_reducible refine SIn_ne ?_ ?_); focus decide) | ((with_reducible refine SW_true ?_ ?_); focus exact rfl) | ((with_reducible refine SW_false ?_ ?_); focus exact rfl) | ((first | (with_reducible apply SW_run tt_ok hG htb) | ((with_reducible apply SW_draw rfl tt_ok hG htb); (focus kernel_rfl); (focus (simp only [List.range, List.range.loop, List.size_toArray, List.length_cons, List.length_nil, Nat.reduceAdd])))); focus ((repeat' (first | (with_reducible exact runX_nil) | (with_reducible exact runI_nil) | ((first | (with_reducible apply runX_cons) | (with_reducible apply runI_cons)); focus (simp (discharger := omega) only [go_sem, tErr, h1, ↓reduceIte, reduceIte, Nat.reduceEqDiff, Nat.reduceLT, Nat.reduceLeDiff, Nat.reduceAdd, Nat.reduceSub, Nat.reduceMul, Nat.reduceDiv, Nat.reduceMod, Nat.reduceBEq, Int.reduceEq, Int.reduceLT, Int.reduceLE, Int.reduceNeg, Int.reduceToNat, reduceCtorEq]; with_reducible rfl)))); done)))
      exact (by simp (discharger := omega) only [go_sem, tAuto, GAuto.zero, tErr, h1, ↓reduceIte, reduceIte, Nat.reduceEqDiff, Nat.reduceLT, Nat.reduceLeDiff, Nat.reduceAdd, Nat.reduceSub, Nat.reduceMul, Nat.reduceDiv, Nat.reduceMod, Nat.reduceBEq, Int.reduceEq, Int.reduceLT, Int.reduceLE, Int.reduceNeg, Int.reduceToNat, reduceCtorEq])
end
end Go.Proofs.Ytfhncnhkeodngaa
namespace Go.Proofs.Ytfhncnhkeodngaa

/-- Digits of which no two that stand side by side are both 1, in base Fib. -/
def okAdj (base : Int) (d : List Int) : Bool := base != 1 || (List.range (d.length - 1)).all fun i => !(d.getD (i + 1) 0 == 1 && d.getD i 0 == 1)
def tracksOk (base : Int) (t : Nat) (w : List Int) : Bool := (List.range t).all fun k => okAdj base (w.map fun l => digitAt (radix base) t l k)
theorem getD_map {α β : Type} (f : α → β) (l : List α) (i : Nat) (d : α) (e : β) (h : i < l.length) : (l.map f).getD i e = f (l.getD i d) := by
  rw [getD_lt (by simpa using h), getD_lt h]; simp
theorem tracks_right {base : Int} {t : Nat} {w : List Int} (hw : ∀ l ∈ w, 0 ≤ l) : tracksOk base t w = rightWd base t (w.map Int.toNat) := by
  by_cases h1 : base = 1
  · subst h1
    have key : tracksOk 1 t w = true ↔ rightWd 1 t (w.map Int.toNat) = true := by
      unfold rightWd
      rw [chain_iff]
      have hc : ∀ i, i < w.length → ((((w.map Int.toNat).getD i 0 : Nat)) : Int) = w.getD i 0 := fun i hi => by
        rw [getD_map Int.toNat w i 0 0 hi, getD_lt hi]
        have := hw _ (List.getElem_mem hi); omega
      have hl : (w.map Int.toNat).length = w.length := by simp
      rw [hl]
      constructor
      · intro h i hi
        unfold clash
        rw [hc i (by omega), hc (i + 1) hi]
        simp only [beq_self_eq_true, Bool.true_and]
        rw [List.any_eq_false]
        intro k hk
        unfold tracksOk okAdj at h
        rw [List.all_eq_true] at h
        have h2 := h k hk
        simp only [bne_self_eq_false, Bool.false_or, List.all_eq_true, List.length_map] at h2
        have h3 := h2 i (List.mem_range.2 (by omega))
        rw [getD_map (fun l => digitAt (radix 1) t l k) w i 0 0 (by omega), getD_map (fun l => digitAt (radix 1) t l k) w (i + 1) 0 0 hi] at h3
        simp only [Bool.not_eq_true', Bool.and_eq_false_iff] at h3
        simp only [Bool.and_eq_true, not_and, Bool.not_eq_true]
        intro h4
        rcases h3 with h3 | h3
        · exact h3
        · rw [h4] at h3; simp at h3
      · intro h
        unfold tracksOk okAdj
        rw [List.all_eq_true]
        intro k hk
        simp only [bne_self_eq_false, Bool.false_or, List.all_eq_true, List.length_map]
        intro i hi
        have hi2 := List.mem_range.1 hi
        have h2 := h i (by omega)
        unfold clash at h2
        rw [hc i (by omega), hc (i + 1) (by omega)] at h2
        simp only [beq_self_eq_true, Bool.true_and] at h2
        rw [List.any_eq_false] at h2
        have h3 := h2 k hk
        rw [getD_map (fun l => digitAt (radix 1) t l k) w i 0 0 (by omega), getD_map (fun l => digitAt (radix 1) t l k) w (i + 1) 0 0 (by omega)]
        simp only [Bool.and_eq_true, not_and, Bool.not_eq_true] at h3
        simp only [Bool.not_eq_true', Bool.and_eq_false_iff]
        cases h4 : digitAt (radix 1) t (w.getD i 0) k == 1 with
        | false => exact .inr rfl
        | true => exact .inl (h3 h4)
    cases h : tracksOk 1 t w with
    | true => exact (key.1 h).symm
    | false =>
      cases h' : rightWd 1 t (w.map Int.toNat) with
      | false => rfl
      | true => rw [key.2 h'] at h; exact h.symm
  · have e1 : tracksOk base t w = true := by
      unfold tracksOk okAdj
      rw [List.all_eq_true]
      intro k _
      simp [h1]
    rw [e1]
    exact (chain_free (clash_other h1 t) _).symm
end Go.Proofs.Ytfhncnhkeodngaa
namespace Go.Proofs.Ytfhncnhkeodngaa

theorem takes_lng' {a : GAuto} {n m : Nat} (g : Good a n m) {w : List Int} (h : w.length ≤ 400 ∧ ∀ l ∈ w, 0 ≤ l ∧ l < (n : Int)) : takesOf a w = lng a (w.map Int.toNat) := by
  rw [takes_good g h.1 h.2, runFrom_runS]; rfl
theorem ltr_toNat' {n : Nat} {w : List Int} (h : ∀ l ∈ w, 0 ≤ l ∧ l < (n : Int)) : Ltr n (w.map Int.toNat) := fun x hx => by
  obtain ⟨l, hl, rfl⟩ := List.mem_map.1 hx
  have := h l hl; omega
end Go.Proofs.Ytfhncnhkeodngaa
namespace Go.Proofs.Ytfhncnhkeodngaa

theorem snoc_ind {α : Type} {P : List α → Prop} (h0 : P []) (h1 : ∀ w x, P w → P (w ++ [x])) (w : List α) : P w := by
  have : ∀ r : List α, P r.reverse := fun r => by
    induction r with
    | nil => exact h0
    | cons x r ih => rw [List.reverse_cons]; exact h1 _ _ ih
  have h := this w.reverse
  rwa [List.reverse_reverse] at h
theorem dotN_ext (coefs : List Int) {f g : Nat → Int} : ∀ i, (∀ j, j < i → f j = g j) → dotN coefs f i = dotN coefs g i
  | 0, _ => rfl
  | i + 1, h => by
    show dotN coefs f i + _ = dotN coefs g i + _
    rw [dotN_ext coefs i fun j hj => h j (by omega), h i (by omega)]
theorem dotN_zero (coefs : List Int) : ∀ i, dotN coefs (fun _ => 0) i = 0
  | 0 => rfl
  | i + 1 => by
    show dotN coefs _ i + coefs.getD i 0 * 0 = 0
    rw [dotN_zero coefs i, Int.mul_zero]; rfl
theorem dotN_add (coefs : List Int) (f g : Nat → Int) : ∀ i, dotN coefs (fun j => f j + g j) i = dotN coefs f i + dotN coefs g i
  | 0 => rfl
  | i + 1 => by
    show dotN coefs _ i + coefs.getD i 0 * (f i + g i) = (dotN coefs f i + coefs.getD i 0 * f i) + (dotN coefs g i + coefs.getD i 0 * g i)
    rw [dotN_add coefs f g i, Int.mul_add]; omega
theorem dotN_mul (coefs : List Int) (f : Nat → Int) (k : Int) : ∀ i, dotN coefs (fun j => f j * k) i = dotN coefs f i * k
  | 0 => by simp [dotN]
  | i + 1 => by
    show dotN coefs _ i + coefs.getD i 0 * (f i * k) = (dotN coefs f i + coefs.getD i 0 * f i) * k
    rw [dotN_mul coefs f k i, Int.add_mul, Int.mul_assoc]
theorem all_congr' {α : Type} {p q : α → Bool} : ∀ {l : List α}, (∀ x ∈ l, p x = q x) → l.all p = l.all q
  | [], _ => rfl
  | x :: l, h => by rw [List.all_cons, List.all_cons, h x List.mem_cons_self, all_congr' fun y hy => h y (List.mem_cons_of_mem x hy)]
/-- The digits on a track. -/
def trk (base : Int) (t : Nat) (w : List Nat) (i : Nat) : List Int := w.map fun (l : Nat) => digitAt (radix base) t (l : Int) i
theorem lnRun_val (base : Int) (coefs : List Int) (w : List Nat) : lnRun base (addL base coefs) w = (dotN coefs (fun i => (valFold base (trk base coefs.length w i)).1) coefs.length, if base = 1 then dotN coefs (fun i => (valFold base (trk base coefs.length w i)).2) coefs.length else 0) := by
  refine snoc_ind (P := fun w => lnRun base (addL base coefs) w = (dotN coefs (fun i => (valFold base (trk base coefs.length w i)).1) coefs.length, if base = 1 then dotN coefs (fun i => (valFold base (trk base coefs.length w i)).2) coefs.length else 0)) ?_ (fun w l ih => ?_) w
  · have h0 := dotN_zero coefs coefs.length
    have h1 : ∀ i, valFold base (trk base coefs.length [] i) = (0, 0) := fun _ => rfl
    simp only [h1, h0, ite_self]
    rfl
  · have hs : lnRun base (addL base coefs) (w ++ [l]) = lnStep base (lnRun base (addL base coefs) w) (addL base coefs l) := by simp [lnRun, List.foldl_append]
    have ht : ∀ i, trk base coefs.length (w ++ [l]) i = trk base coefs.length w i ++ [digitAt (radix base) coefs.length (l : Int) i] := fun i => by simp [trk]
    rw [hs, ih]
    simp only [ht, valFold_snoc]
    unfold lnStep valStep addL
    by_cases hb : base = 1
    · simp only [if_pos hb, dotN_add]
    · simp only [if_neg hb, dotN_add, dotN_mul]
theorem lnRun_nums (base : Int) (coefs : List Int) (w : List Nat) : (lnRun base (addL base coefs) w).1 = dotN coefs (fun i => wv base (trk base coefs.length w i)) coefs.length := by
  rw [lnRun_val]
  simp only [valFold_eq]
theorem trackOf_trk {base : Int} {t : Nat} {w : List Int} (hw : ∀ l ∈ w, 0 ≤ l) (i : Nat) : trackOf (radix base) t w i = trk base t (w.map Int.toNat) i := by
  unfold trackOf trk
  rw [List.map_map]
  refine List.map_congr_left fun l hl => ?_
  show _ = digitAt (radix base) t ((l.toNat : Nat) : Int) i
  have := hw l hl
  rw [show ((l.toNat : Nat) : Int) = l by omega]; rfl
theorem valErr_zero {base : Int} {d : List Int} (h : valErr base d = 0) : digitsFault base d = 0 ∧ wv base d ≤ 1099511627776 ∧ valOf base d = wv base d := by
  have h1 : valOf base d = wv base d := by unfold valOf; rw [if_pos h]
  unfold valErr at h
  split at h
  · omega
  · rename_i h2
    split at h
    · omega
    · exact ⟨by omega, by omega, h1⟩
theorem split_zero {base : Int} {t : Nat} {w : List Int} (h : splitErr base t w = 0) : manyErr base t = 0 ∧ w.length ≤ 60 ∧ (∀ l ∈ w, 0 ≤ l ∧ l < manyOf base t) ∧ splitOf base t w = (List.range t).map (trk base t (w.map Int.toNat)) := by
  have h1 : splitOf base t w = (List.range t).map (trackOf (radix base) t w) := by unfold splitOf; rw [if_pos h]; simp
  unfold splitErr at h
  split at h
  · omega
  · rename_i h2
    split at h
    · omega
    · split at h
      · rename_i h3 h4
        have h5 : ∀ l ∈ w, 0 ≤ l ∧ l < manyOf base t := fun l hl => by simpa using List.all_eq_true.1 h4 l hl
        refine ⟨by omega, by omega, h5, ?_⟩
        rw [h1]
        exact List.map_congr_left fun i _ => trackOf_trk (fun l hl => (h5 l hl).1) i
      · omega
/-- The numbers of a word are what its tracks count. -/
theorem nums_get {base : Int} {t : Nat} {w : List Int} (h : numsErr base t w = 0) : splitErr base t w = 0 ∧ (numsOf base t w).length = t ∧ ∀ j, j < t → (numsOf base t w).getD j 0 = wv base (trk base t (w.map Int.toNat) j) ∧ 0 ≤ wv base (trk base t (w.map Int.toNat) j) ∧ wv base (trk base t (w.map Int.toNat) j) ≤ 1099511627776 := by
  have hn : numsOf base t w = (splitOf base t w).map (valOf base) := by unfold numsOf; rw [if_pos h]
  unfold numsErr at h
  split at h
  · omega
  · rename_i h1
    have h1 : splitErr base t w = 0 := by omega
    obtain ⟨h2, _, _, h3⟩ := split_zero h1
    rw [firstErr_zero] at h
    refine ⟨h1, by rw [hn, h3]; simp, fun j hj => ?_⟩
    have hm : trk base t (w.map Int.toNat) j ∈ splitOf base t w := by rw [h3]; exact List.mem_map.2 ⟨j, List.mem_range.2 hj, rfl⟩
    obtain ⟨k1, k2, k3⟩ := valErr_zero (h _ hm)
    have k4 := fault_zero.1 k1
    refine ⟨?_, wv_nonneg k4.1 k4.2.2, k2⟩
    rw [hn, h3, List.map_map, getD_lt (by simpa using hj)]
    simp only [List.getElem_map, List.getElem_range, Function.comp]
    exact k3
theorem okAdj_right {base : Int} (d : List Int) : okAdj base d = rightOf base d := by
  unfold okAdj rightOf
  by_cases hb : base = 1
  · subst hb
    simp only [bne_self_eq_false, Bool.false_or, decide_true, Bool.not_true]
    have key : ((List.range (d.length - 1)).all fun i => !(d.getD (i + 1) 0 == 1 && d.getD i 0 == 1)) = true ↔ noTwo d = true := by
      rw [noTwo_iff, List.all_eq_true]
      constructor
      · intro h j hj
        have hl := (List.getElem?_eq_some_iff.1 hj.2).1
        have := h j (List.mem_range.2 (by omega))
        rw [List.getD_eq_getElem?_getD, List.getD_eq_getElem?_getD, hj.1, hj.2] at this
        simp at this
      · intro h i hi
        have hi := List.mem_range.1 hi
        have := h i
        rw [List.getElem?_eq_getElem (show i < d.length by omega), List.getElem?_eq_getElem (show i + 1 < d.length by omega)] at this
        rw [getD_lt (show i < d.length by omega), getD_lt (show i + 1 < d.length by omega)]
        simp only [Option.some.injEq] at this
        simp only [Bool.not_eq_true', Bool.and_eq_false_iff, beq_eq_false_iff_ne, ne_eq]
        by_cases e : d[i + 1] = 1
        · exact .inr fun e2 => this ⟨e2, e⟩
        · exact .inl e
    cases h1 : ((List.range (d.length - 1)).all fun i => !(d.getD (i + 1) 0 == 1 && d.getD i 0 == 1)) with
    | true => rw [key.1 h1]
    | false =>
      cases h2 : noTwo d with
      | false => rfl
      | true => rw [key.2 h2] at h1; cases h1
  · have e1 : (base != 1) = true := by simpa using hb
    have e2 : decide (base = 1) = false := by simpa using hb
    rw [e1, e2]; rfl
theorem rightW_get {base : Int} {t : Nat} {w : List Int} (h : rightWErr base t w = 0) : splitErr base t w = 0 ∧ rightWRes base t w = rightWd base t (w.map Int.toNat) := by
  have hres : rightWRes base t w = (splitOf base t w).all (rightRes base) := by unfold rightWRes; rw [h]; simp
  unfold rightWErr at h
  split at h
  · omega
  · rename_i h1
    have h1 : splitErr base t w = 0 := by omega
    obtain ⟨h2, _, h4, h3⟩ := split_zero h1
    rw [firstErr_zero] at h
    refine ⟨h1, ?_⟩
    rw [hres, ← tracks_right fun l hl => (h4 l hl).1]
    have : ∀ r ∈ splitOf base t w, rightRes base r = okAdj base r := fun r hr => by
      unfold rightRes
      rw [okAdj_right, h r hr]
      simp
    rw [all_congr' this, h3, List.all_map]
    unfold tracksOk
    refine all_congr' fun k _ => ?_
    show okAdj base (trk base t (w.map Int.toNat) k) = _
    rw [← trackOf_trk fun l hl => (h4 l hl).1]
    rfl
end Go.Proofs.Ytfhncnhkeodngaa
namespace Go.Proofs.Ytfhncnhkeodngaa

theorem rightWd_base {base : Int} (h : base ≠ 1) (t : Nat) (w : List Nat) : rightWd base t w = true := by
  have key : ∀ (w : List Nat) (s : Nat), walkOk (clash base t) s w = true := fun w => by
    induction w with
    | nil => intro s; rfl
    | cons l w ih => intro s; show (!clash base t s l && walkOk (clash base t) l w) = true; rw [clash_other h, ih l]; rfl
  cases w with
  | nil => rfl
  | cons x w => exact key w x
def plusN : List (List Int) := [[0, 1, 2, 0, 2, 0, 2, 2], [2, 2, 1, 2, 1, 2, 0, 1], [2, 2, 2, 2, 2, 2, 2, 2]]
def plusE : List Bool := [true, false, false]
def plusS (v : Int) : Int := if v = 0 then 0 else if v = -1 then 1 else 2
theorem plus_add : ∀ l, l < 8 → addL 2 [1, 1, -1] l = [0, -1, 1, 0, 1, 0, 2, 1].getD l 0 := by decide +kernel
theorem plus_nx2 : ∀ l, l < 8 → nx plusN 2 l = 2 := by decide +kernel
theorem plus_nx0 : ∀ l, l < 8 → nx plusN 0 l = plusS ([0, -1, 1, 0, 1, 0, 2, 1].getD l 0) := by decide +kernel
theorem plus_nx1 : ∀ l, l < 8 → nx plusN 1 l = plusS (-2 + [0, -1, 1, 0, 1, 0, 2, 1].getD l 0) := by decide +kernel
theorem plus_bd : ∀ l, l < 8 → -1 ≤ ([0, -1, 1, 0, 1, 0, 2, 1] : List Int).getD l 0 ∧ ([0, -1, 1, 0, 1, 0, 2, 1] : List Int).getD l 0 ≤ 2 := by decide +kernel
theorem plus_step (v : Int) {l : Nat} (hl : l < 8) : nx plusN (plusS v) l = plusS (v * 2 + addL 2 [1, 1, -1] l) := by
  rw [plus_add l hl]
  by_cases h0 : v = 0
  · subst h0
    rw [show plusS 0 = 0 by decide, plus_nx0 l hl, Int.zero_mul, Int.zero_add]
  · by_cases h1 : v = -1
    · subst h1
      rw [show plusS (-1) = 1 by decide, plus_nx1 l hl]; rfl
    · have := plus_bd l hl
      have e : plusS v = 2 := by unfold plusS; rw [if_neg h0, if_neg h1]
      rw [e, plus_nx2 l hl]
      unfold plusS
      rw [if_neg (by omega), if_neg (by omega)]
theorem plus_run : ∀ (w : List Nat) (v y : Int), Ltr 8 w → runS plusN (plusS v) w = plusS ((w.foldl (fun p l => lnStep 2 p (addL 2 [1, 1, -1] l)) (v, y)).1)
  | [], _, _, _ => rfl
  | l :: w, v, y, hw => by
    show runS plusN (nx plusN (plusS v) l) w = plusS ((w.foldl _ (lnStep 2 (v, y) (addL 2 [1, 1, -1] l))).1)
    rw [plus_step v (hw l List.mem_cons_self)]
    exact plus_run w _ _ fun x hx => hw x (List.mem_cons_of_mem _ hx)
theorem plus_lang {w : List Nat} (hw : Ltr 8 w) : lang plusN plusE 0 w = lineL 2 [1, 1, -1] 0 false w := by
  have h := plus_run w 0 0 hw
  rw [show plusS 0 = 0 by decide] at h
  unfold lang lineL
  rw [h, rightWd_base (by decide), Bool.and_true]
  show endOf plusE (plusS (lnRun 2 (addL 2 [1, 1, -1]) w).1) = decide ((lnRun 2 (addL 2 [1, 1, -1]) w).1 + 0 = 0)
  generalize (lnRun 2 (addL 2 [1, 1, -1]) w).1 = x
  rw [Int.add_zero]
  unfold plusS
  by_cases h0 : x = 0
  · rw [if_pos h0, decide_eq_true h0]; rfl
  · rw [if_neg h0, decide_eq_false h0]
    split <;> rfl
theorem plus_least : leastL 8 (lineL 2 [1, 1, -1] 0 false) = (plusN, plusE) :=
  leastL_eq ((least_chk [[], [6]] (by decide +kernel)).lang_congr fun w hw => plus_lang hw)
theorem plus_of : lineErr 2 [1, 1, -1] 0 false = 0 ∧ lineOf 2 [1, 1, -1] 0 false = ⟨2, 3, plusN, plusE⟩ := by
  have hf : lineFault 2 [1, 1, -1] 0 = 0 := by decide +kernel
  have hn : (manyOf 2 (([1, 1, -1] : List Int).length : Nat)).toNat = 8 := by decide +kernel
  have he : errL 8 (lineL 2 [1, 1, -1] 0 false) = 0 := by unfold errL; rw [plus_least]; decide
  have ha : autoL 2 (([1, 1, -1] : List Int).length : Nat) 8 (lineL 2 [1, 1, -1] 0 false) = ⟨2, 3, plusN, plusE⟩ := by unfold autoL; rw [if_pos he, plus_least]; rfl
  unfold lineErr lineOf
  rw [if_neg (by rw [hf]; decide), if_neg (by rw [hf]; decide), hn]
  exact ⟨he, ha⟩

end Go.Proofs.Ytfhncnhkeodngaa
namespace Go.Proofs.Ytfhncnhkeodngaa

section
variable {σ : Type} {P : σ → Prop} {δ : σ → Nat → σ} {s0 : σ} {code : σ → Nat} {dec : Nat → σ} {m n : Nat}
theorem numd_run (hd : ∀ p, P p → dec (code p) = p) (hs : ∀ p l, P p → l < n → P (δ p l)) : ∀ (w : List Nat) (p : σ), P p → Ltr n w → runN (fun s l => code (δ (dec s) l)) (code p) w = code (w.foldl δ p) ∧ P (w.foldl δ p)
  | [], _, hp, _ => ⟨rfl, hp⟩
  | l :: w, p, hp, hw => by
    have h1 := hs p l hp (hw l List.mem_cons_self)
    have h2 := numd_run hd hs w (δ p l) h1 fun x hx => hw x (List.mem_cons_of_mem _ hx)
    show runN _ (code (δ (dec (code p)) l)) w = _ ∧ _
    rw [hd p hp]
    exact h2
theorem numd_lang (h0 : code s0 = 0) (hP0 : P s0) (hm : ∀ p, code p < m) (hd : ∀ p, P p → dec (code p) = p) (hs : ∀ p l, P p → l < n → P (δ p l)) (E : σ → Bool) {w : List Nat} (hw : Ltr n w) :
    lang (tabN m n fun s l => code (δ (dec s) l)) (tabE m fun s => E (dec s)) 0 w = E (w.foldl δ s0) := by
  have h := tab_lang (d := fun s l => code (δ (dec s) l)) (e := fun s => E (dec s)) (fun s l _ _ => hm _) (s := 0) (by have := hm s0; omega) hw
  obtain ⟨h1, h2⟩ := numd_run hd hs w s0 hP0 hw
  rw [h0] at h1
  rw [h1, hd _ h2] at h
  exact h
end
def codeP (p : Int × Int) : Nat := if p = (0, 0) then 0 else if (-98 ≤ p.1 ∧ p.1 ≤ 98) ∧ -109 ≤ p.2 ∧ p.2 ≤ 109 then 1 + ((p.1 + 98) * 219 + (p.2 + 109)).toNat else 0
def decP (k : Nat) : Int × Int := if k = 0 then (0, 0) else ((((k - 1) / 219 : Nat) : Int) - 98, (((k - 1) % 219 : Nat) : Int) - 109)
theorem codeP_lt (p : Int × Int) : codeP p < 43144 := by
  unfold codeP
  split
  · omega
  · split <;> omega
theorem decP_code {p : Int × Int} (h1 : -98 ≤ p.1 ∧ p.1 ≤ 98) (h2 : -109 ≤ p.2 ∧ p.2 ≤ 109) : decP (codeP p) = p := by
  unfold codeP
  by_cases h0 : p = (0, 0)
  · rw [if_pos h0, h0]; rfl
  · rw [if_neg h0, if_pos ⟨h1, h2⟩]
    unfold decP
    rw [if_neg (by omega)]
    refine Prod.ext ?_ ?_
    · simp only; omega
    · simp only; omega
section
variable {base : Int} {coefs : List Int} {c : Int} {n : Nat}
theorem LineOk.regular (g : LineOk base coefs c n) (less : Bool) : Regular n (lineL base coefs c less) := by
  have hs := g.sz
  have hc := g.c60
  have hstep : ∀ (p : Int × Int) (l : Nat), LnPt base 97 (sizeA coefs) 109 p → l < n → LnPt base 97 (sizeA coefs) 109 (lnCut 97 base p (addL base coefs l)) := fun p l hp _ => hp.step hs.1 (by omega) (.inl (by omega)) (g.lnOk l)
  have hlang : ∀ w, Ltr n w → lang (tabN 43144 n fun s l => codeP (lnCut 97 base (decP s) (addL base coefs l))) (tabE 43144 fun s => lnEnd less c (decP s)) 0 w = lnEnd less c (lnRun base (addL base coefs) w) := fun w hw => by
    refine (numd_lang (P := LnPt base 97 (sizeA coefs) 109) (δ := fun p l => lnCut 97 base p (addL base coefs l)) (s0 := (0, 0)) (code := codeP) (dec := decP) (by unfold codeP; rw [if_pos rfl]) (.zero hs.1 (by omega) (by omega)) codeP_lt (fun p hp => decP_code (by have := hp.x; omega) hp.y) hstep (lnEnd less c) hw).trans ?_
    exact ln_end (k := 60) g.r hs.1 (by omega) (by omega) (by omega) (fun l _ => g.lnOk l) less hw
  have hR : Rows0 n 43144 (tabN 43144 n fun s l => codeP (lnCut 97 base (decP s) (addL base coefs l))) := tab_rows fun s l _ _ => codeP_lt _
  obtain ⟨t1, t2⟩ := rgt_table (ends := tabE 43144 fun s => lnEnd less c (decP s)) g.many g.n_eq hR (by omega)
  exact Regular.of t1 t2 fun w hw => by
    rw [rgt_lang g.many g.n_eq hR (by omega) hw, hlang w hw]; rfl
end
/-- What a sum's automaton is, if there is one. -/
theorem lineOf_ok {base : Int} {coefs : List Int} {c : Int} {less : Bool} (h : lineErr base coefs c less = 0) : ∃ n, LineOk base coefs c n ∧ n = (manyOf base coefs.length).toNat ∧ errL n (lineL base coefs c less) = 0 ∧ lineOf base coefs c less = autoL base coefs.length n (lineL base coefs c less) ∧
    IsLeast (lineOf base coefs c less) n base coefs.length (lineL base coefs c less) ∧ (lineOf base coefs c less).next.length ≤ 80 ∧ Good (lineOf base coefs c less) n (lineOf base coefs c less).next.length := by
  unfold lineErr at h
  split at h
  · omega
  · rename_i h1
    have h1 : lineFault base coefs c = 0 := Classical.not_not.1 h1
    have g := line_ok h1
    have e : lineOf base coefs c less = autoL base coefs.length (manyOf base coefs.length).toNat (lineL base coefs c less) := by unfold lineOf; rw [if_neg (by omega)]
    obtain ⟨h2, h3⟩ := autoL_isLeast (base := base) (t := coefs.length) (g.regular less) h
    refine ⟨_, g, rfl, h, e, ?_, ?_, ?_⟩
    · rw [e]; exact h2
    · rw [e]; exact h3
    · rw [e]; exact h2.good2 g.many g.n_eq h3
end Go.Proofs.Ytfhncnhkeodngaa
namespace Go.Proofs.Ytfhncnhkeodngaa
open Go.RowKit

set_option maxHeartbeats 400000 in
theorem Radix_calls (base : Int) (w : World) :
    Calls Try.prog 42 #[.int .i64 base] w (RetS (.int .i64 (radix base)) w) := by
  by_cases h1 : base = 1
  · subst h1
    go_enter Try.func42, Try.ntmps42
    go_wp2
    go_ret
    exact RetS.mk rfl
  · have hr := Lib.hid (show radix base = if 2 ≤ base ∧ base ≤ 6 then base else 0 by simp [radix, h1])
    have h1' : (base == 1) = false := by simp [h1]
    clear h1
    by_cases h2 : 2 ≤ base
    · by_cases h3 : base ≤ 6
      · have hr' := Lib.hid (show radix base = base by rw [hr.out, if_pos ⟨h2, h3⟩])
        go_enter Try.func42, Try.ntmps42
        go_wp2
        go_ret
        exact RetS.mk (by rw [hr'.out]; rfl)
      · have hr' := Lib.hid (show radix base = 0 by rw [hr.out, if_neg (by omega)])
        go_enter Try.func42, Try.ntmps42
        go_wp2
        go_ret
        exact RetS.mk (by rw [hr'.out]; rfl)
    · have hr' := Lib.hid (show radix base = 0 by rw [hr.out, if_neg (by omega)])
      go_enter Try.func42, Try.ntmps42
      go_wp2
      go_ret
      exact RetS.mk (by rw [hr'.out]; rfl)

end Go.Proofs.Ytfhncnhkeodngaa
namespace Go.Proofs.Ytfhncnhkeodngaa
open Go.RowKit

set_option maxHeartbeats 400000 in
theorem check_calls (S : Nat → Prop) (base : Int) (v : Value) (d : List Int) (w : World) (hd : Ints S w v d) :
    Calls Try.prog 63 #[.int .i64 base, v] w (RetS (errV 68 (digitsFault base d)) w) := by
  obtain ⟨a, cap, rfl, hlen, hcell⟩ := hd
  by_cases h0 : radix base = 0
  · have e0 : (radix base == 0) = true := by simp [h0]
    have hfin := Lib.hid (show digitsFault base d = 1 by simp [digitsFault, h0])
    clear h0
    go_enter Try.func63, Try.ntmps63
    go_wp2_with (go_at_call 42; refine (Radix_calls _ _).mono ?_; rintro e w' ⟨rfl, rfl⟩)
    go_ret
    exact RetS.mk (by rw [hfin.out]; rfl)
  · have e0 : (radix base == 0) = false := by simp [h0]
    by_cases h1 : 60 < d.length
    · have hfin := Lib.hid (show digitsFault base d = 3 by simp [digitsFault, h0, h1])
      clear h0
      have h1' : (60:Int) < d.length := by omega
      clear h1
      go_enter Try.func63, Try.ntmps63
      go_wp2_with (go_at_call 42; refine (Radix_calls _ _).mono ?_; rintro e w' ⟨rfl, rfl⟩)
      go_ret
      exact RetS.mk (by rw [hfin.out]; rfl)
    · have hfin := Lib.hid (show digitsFault base d = if d.all (fun x => decide (0 ≤ x ∧ x < radix base)) then 0 else 1 by simp [digitsFault, h0, h1])
      clear h0
      have h1' : ¬ (60:Int) < d.length := by omega
      clear h1
      go_enter Try.func63, Try.ntmps63
      go_wp2_with (go_at_call 42; refine (Radix_calls _ _).mono ?_; rintro e w' ⟨rfl, rfl⟩)
      go_loop [19] (fun i => ∃ k : Nat, k ≤ d.length ∧ i = .int .i64 k ∧ ∀ j (h : j < k) (h' : j < d.length), 0 ≤ d[j] ∧ d[j] < radix base) (fun i => d.length - (intOf i).toNat)
      case atStart => exact ⟨0, by omega, rfl, fun j h => by omega⟩
      case round =>
        obtain ⟨k, hk, rfl, hall⟩ := hrel
        have Hall := Lib.hid hall; clear hall
        by_cases hlt : k < d.length
        · obtain ⟨b, off, x, ha, hS, hc, hx, hi⟩ := hcell k hlt
          subst ha hx
          by_cases c1 : 0 ≤ d[k]
          · by_cases c2 : d[k] < radix base
            · go_wp2
              go_round
              case rel => exact ⟨k + 1, by omega, by go_num, fun j h h' => by
                by_cases e : j < k
                · exact Hall.out j e h'
                · obtain rfl : j = k := by omega
                  exact ⟨c1, c2⟩⟩
              case measure => (simp [intOf] <;> omega)
            · have hne := Lib.hid (show (if d.all (fun x => decide (0 ≤ x ∧ x < radix base)) then 0 else 1 : Int) = 1 by
                rw [if_neg]; intro h; rw [List.all_eq_true] at h; have := h d[k] (List.getElem_mem _); simp at this; omega)
              go_wp2
              go_ret
              exact RetS.mk (by rw [hfin.out, hne.out]; rfl)
          · have hne := Lib.hid (show (if d.all (fun x => decide (0 ≤ x ∧ x < radix base)) then 0 else 1 : Int) = 1 by
              rw [if_neg]; intro h; rw [List.all_eq_true] at h; have := h d[k] (List.getElem_mem _); simp at this; omega)
            go_wp2
            go_ret
            exact RetS.mk (by rw [hfin.out, hne.out]; rfl)
        · have hne := Lib.hid (show (if d.all (fun x => decide (0 ≤ x ∧ x < radix base)) then 0 else 1 : Int) = 0 by
            rw [if_pos]; rw [List.all_eq_true]; intro x hx; obtain ⟨j, hj, rfl⟩ := List.mem_iff_getElem.1 hx; have := Hall.out j (by omega) hj; simp; omega)
          go_wp2
          go_ret
          exact RetS.mk (by rw [hfin.out, hne.out]; rfl)

set_option maxHeartbeats 400000 in
theorem Right_calls (S : Nat → Prop) (base : Int) (v : Value) (d : List Int) (w : World) (hd : Ints S w v d) :
    Calls Try.prog 57 #[.int .i64 base, v] w
      (RetS (.tuple #[.bool (rightRes base d), errV 68 (digitsFault base d)]) w) := by
  have hd' := Lib.hid hd
  obtain ⟨a, cap, rfl, hlen, hcell⟩ := hd
  by_cases h0 : digitsFault base d = 0
  · have E0 := Lib.hid (show errV 68 (digitsFault base d) = .nilIface by simp [errV, h0])
    by_cases hb : base = 1
    · have e1 : (base == 1) = true := by simp [hb]
      have Hb := Lib.hid (And.intro h0 hb)
      clear h0 hb
      go_enter Try.func57, Try.ntmps57
      go_wp2_with (go_at_call 63; refine (check_calls S _ _ _ _ hd'.out).mono ?_; rintro e w' ⟨rfl, rfl⟩; rw [E0.out])
      go_loopw [7] (fun i wr => ∃ k : Nat, i = .int .i64 (k + 1) ∧ (k < d.length ∨ k = 0) ∧ wr = w ∧ ∀ j, j < k → ¬ (d[j]? = some (1 : Int) ∧ d[j + 1]? = some (1 : Int))) (fun i _ => d.length - (intOf i).toNat)
      case atStart => exact ⟨0, rfl, by omega, rfl, fun j h => by omega⟩
      case round =>
        obtain ⟨k, rfl, hk, rfl, hall⟩ := hrel
        have Hall := Lib.hid hall; clear hall
        by_cases hlt : k + 1 < d.length
        · obtain ⟨b, off, x, ha, hS, hc, hx, hi⟩ := hcell k (by omega)
          obtain ⟨b', off', x', ha', hS', hc', hx', hi'⟩ := hcell (k + 1) hlt
          subst ha hx hx'
          obtain ⟨rfl, rfl⟩ : b = b' ∧ off = off' := by simpa using ha'
          have c1 : (k : Int) + 1 < d.length := by omega
          have step : ¬ (d[k] = 1 ∧ d[k + 1] = 1) → ∀ j, j < k + 1 → ¬ (d[j]? = some (1 : Int) ∧ d[j + 1]? = some (1 : Int)) := fun hn j hj => by
            by_cases e : j < k
            · exact Hall.out j e
            · obtain rfl : j = k := by omega
              simpa [List.getElem?_eq_getElem hlt, List.getElem?_eq_getElem (show j < d.length by omega)] using hn
          have Step := Lib.hid step; clear step
          by_cases e2 : d[k] = 1
          · by_cases e3 : d[k + 1] = 1
            · have hno := Lib.hid (show rightRes base d = false by
                unfold rightRes
                rw [decide_eq_false_iff_not]; rintro ⟨_, h⟩
                unfold rightOf at h
                rw [Hb.out.2] at h
                exact (noTwo_iff d).1 (by simpa using h) k (by simp [List.getElem?_eq_getElem hlt, List.getElem?_eq_getElem (show k < d.length by omega), e2, e3]))
              have e2' : (d[k] == 1) = true := by simp [e2]
              have e3' : (d[k + 1] == 1) = true := by simp [e3]
              clear e2 e3
              go_wp2
              go_ret2
              exact RetS.mk (by rw [hno.out, E0.out]; rfl)
            · have hs := Lib.hid (Step.out (fun h => e3 h.2))
              have e2' : (d[k] == 1) = true := by simp [e2]
              have e3' : (d[k + 1] == 1) = false := by simp [e3]
              clear e2 e3
              go_wp2
              go_roundw
              case rel => exact ⟨k + 1, by go_num, by omega, trivial, hs.out⟩
              case measure => (simp [intOf] <;> omega)
          · have hs := Lib.hid (Step.out (fun h => e2 h.1))
            have e2' : (d[k] == 1) = false := by simp [e2]
            clear e2
            go_wp2
            go_roundw
            case rel => exact ⟨k + 1, by go_num, by omega, trivial, hs.out⟩
            case measure => (simp [intOf] <;> omega)
        · have c1 : ¬ (k : Int) + 1 < d.length := by omega
          have hyes := Lib.hid (show rightRes base d = true by
            unfold rightRes
            rw [decide_eq_true_iff]; refine ⟨Hb.out.1, ?_⟩
            unfold rightOf; rw [Hb.out.2]; simp only [Bool.or_eq_true]; right
            rw [noTwo_iff]; intro j
            by_cases e : j < k
            · exact Hall.out j e
            · rintro ⟨_, h⟩; have := (List.getElem?_eq_some_iff.1 h).1; omega)
          go_wp2
          go_ret2
          exact RetS.mk (by rw [hyes.out, E0.out]; rfl)
    · have e1 : (base == 1) = false := by simp [hb]
      have hyes := Lib.hid (show rightRes base d = true by
        unfold rightRes
        rw [decide_eq_true_iff]; exact ⟨h0, by simp [rightOf, hb]⟩)
      clear h0 hb
      go_enter Try.func57, Try.ntmps57
      go_wp2_with (go_at_call 63; refine (check_calls S _ _ _ _ hd'.out).mono ?_; rintro e w' ⟨rfl, rfl⟩; rw [E0.out])
      go_loopw [7] (fun i wr => i = .int .i64 1 ∧ wr = w) (fun _ _ => 0)
      case atStart => exact ⟨rfl, rfl⟩
      case round =>
        obtain ⟨rfl, rfl⟩ := hrel
        by_cases hlt : (1 : Int) < d.length
        all_goals
          go_wp2
          go_ret2
          exact RetS.mk (by rw [hyes.out, E0.out]; rfl)
  · obtain ⟨e, he⟩ : ∃ e, digitsFault base d = e := ⟨_, rfl⟩
    rw [he] at h0
    have hno := Lib.hid (show rightRes base d = false by
      unfold rightRes
      rw [decide_eq_false_iff_not]; rintro ⟨h, _⟩; omega)
    have E0 := Lib.hid (show errV 68 (digitsFault base d) = .iface 68 (.int .i64 e) by simp [errV, he, h0])
    clear h0 he
    go_enter Try.func57, Try.ntmps57
    go_wp2_with (go_at_call 63; refine (check_calls S _ _ _ _ hd'.out).mono ?_; rintro e w' ⟨rfl, rfl⟩; rw [E0.out])
    go_ret2
    exact RetS.mk (by rw [hno.out, E0.out]; rfl)

end Go.Proofs.Ytfhncnhkeodngaa
namespace Go.Proofs.Ytfhncnhkeodngaa
open Go.RowKit


set_option maxHeartbeats 1000000 in
theorem Many_calls (base t : Int) (w : World) :
    Calls Try.prog 40 #[.int .i64 base, .int .i64 t] w (RetS (.tuple #[.int .i64 (manyOf base t), errV 68 (manyErr base t)]) w) := by
  by_cases hbad : radix base = 0 ∨ t < 0 ∨ 5 < t
  · have H := Lib.hid (show manyErr base t = 1 ∧ manyOf base t = 0 by simp [manyErr, manyOf, hbad])
    by_cases h1 : radix base = 0
    · have e0 : (radix base == 0) = true := by simp [h1]
      clear hbad h1
      go_enter Try.func40, Try.ntmps40
      go_wp2_with (go_at_call 42; refine (Radix_calls _ _).mono ?_; rintro e w' ⟨rfl, rfl⟩)
      go_ret2
      exact RetS.mk (by rw [H.out.1, H.out.2]; rfl)
    · have e0 : (radix base == 0) = false := by simp [h1]
      by_cases h2 : t < 0
      · clear hbad h1
        go_enter Try.func40, Try.ntmps40
        go_wp2_with (go_at_call 42; refine (Radix_calls _ _).mono ?_; rintro e w' ⟨rfl, rfl⟩)
        go_ret2
        exact RetS.mk (by rw [H.out.1, H.out.2]; rfl)
      · have h3 : 5 < t := by omega
        clear hbad h1
        go_enter Try.func40, Try.ntmps40
        go_wp2_with (go_at_call 42; refine (Radix_calls _ _).mono ?_; rintro e w' ⟨rfl, rfl⟩)
        go_ret2
        exact RetS.mk (by rw [H.out.1, H.out.2]; rfl)
  · have H := Lib.hid (show manyErr base t = if 36 < powW (radix base) t.toNat then 3 else 0 by simp only [manyErr, if_neg hbad])
    obtain ⟨t, rfl⟩ := Int.eq_ofNat_of_zero_le (show 0 ≤ t by omega)
    simp only [Int.toNat_natCast] at H
    have h1 : radix base ≠ 0 := by omega
    have e0 : (radix base == 0) = false := by simp [h1]
    have h2 : ¬ ((t : Int) < 0) := by omega
    have h3 : ¬ (5 < (t : Int)) := by omega
    have ht5 : t ≤ 5 := by omega
    obtain ⟨r2, r6⟩ := radix_two h1
    have HP := Lib.hid (show ∀ j, j ≤ 5 → 1 ≤ powW (radix base) j ∧ powW (radix base) j ≤ 7776 from fun j hj => powW_bd r2 r6 hj)
    have HM := Lib.hid (show manyErr base t = 0 → manyOf base t = powW (radix base) t by intro h; simp [manyOf, h])
    have HM0 := Lib.hid (show manyErr base t ≠ 0 → manyOf base t = 0 by intro h; simp [manyOf, h])
    clear hbad h1
    generalize hk : radix base = k at *
    have Hk := Lib.hid hk; clear hk
    go_enter Try.func40, Try.ntmps40
    go_wp2_with (go_at_call 42; refine (Radix_calls _ _).mono ?_; rintro e w' ⟨rfl, rfl⟩; rw [Hk.out])
    go_loopw [7, 22] (fun n i wr => ∃ j : Nat, j ≤ t ∧ i = .int .i64 j ∧ n = .int .i64 (powW k j) ∧ wr = w) (fun _ i _ => t - (intOf i).toNat)
    case atStart => exact ⟨0, by omega, rfl, rfl, rfl⟩
    case round =>
      obtain ⟨j, hj, rfl, rfl, rfl⟩ := hrel
      by_cases hlt : j < t
      · have p1 := (HP.out j (by omega)).1
        have p2 := (HP.out j (by omega)).2
        have p3 : 0 ≤ powW k j * k := Int.mul_nonneg (by omega) (by omega)
        have p4 : powW k j * k ≤ 46656 := by
          have := Int.mul_le_mul p2 r6 (by omega) (by omega)
          omega
        go_wp2
        go_roundw
        case rel => exact ⟨j + 1, by omega, by go_num, rfl, trivial⟩
        case measure => (simp [intOf] <;> omega)
      · obtain rfl : j = t := by omega
        by_cases hbig : 36 < powW k j
        · have R := Lib.hid (show manyErr base j = 3 ∧ manyOf base j = 0 by
            have : manyErr base j = 3 := by rw [H.out, if_pos hbig]
            exact ⟨this, HM0.out (by omega)⟩)
          go_wp2
          go_ret2
          exact RetS.mk (by rw [R.out.1, R.out.2]; rfl)
        · have R := Lib.hid (show manyErr base j = 0 ∧ manyOf base j = powW k j by
            have : manyErr base j = 0 := by rw [H.out, if_neg hbig]
            exact ⟨this, HM.out this⟩)
          go_wp2
          go_ret2
          exact RetS.mk (by rw [R.out.1, R.out.2]; rfl)


end Go.Proofs.Ytfhncnhkeodngaa
namespace Go.Proofs.Ytfhncnhkeodngaa
open Go.RowKit

theorem valErr_fault {base : Int} {d : List Int} (h : digitsFault base d ≠ 0) : valErr base d = digitsFault base d ∧ valOf base d = 0 := by
  have : valErr base d = digitsFault base d := by simp [valErr, h]
  exact ⟨this, by simp [valOf, this, h]⟩
theorem valErr_full {base : Int} {d : List Int} (h : digitsFault base d = 0) (hv : 1099511627776 < wv base d) : valErr base d = 3 ∧ valOf base d = 0 := by
  have : valErr base d = 3 := by simp [valErr, h, hv]
  exact ⟨this, by simp [valOf, this]⟩
theorem valErr_ok {base : Int} {d : List Int} (h : digitsFault base d = 0) (hv : wv base d ≤ 1099511627776) : valErr base d = 0 ∧ valOf base d = wv base d := by
  have : valErr base d = 0 := by simp [valErr, h]; omega
  exact ⟨this, by simp [valOf, this]⟩

set_option maxHeartbeats 1000000 in
theorem Value_calls (S : Nat → Prop) (base : Int) (v : Value) (d : List Int) (w : World) (hd : Ints S w v d) :
    Calls Try.prog 56 #[.int .i64 base, v] w (RetS (.tuple #[.int .i64 (valOf base d), errV 68 (valErr base d)]) w) := by
  have hd' := Lib.hid hd
  obtain ⟨a, cap, rfl, hlen, hcell⟩ := hd
  by_cases h0 : digitsFault base d = 0
  · have E0 := Lib.hid (show errV 68 (digitsFault base d) = .nilIface by simp [errV, h0])
    obtain ⟨hr, hl60, hok⟩ := fault_zero.1 h0
    have H0 := Lib.hid h0; clear h0
    have Hok := Lib.hid hok; clear hok
    have Hr := Lib.hid (radix_pos hr)
    have Hr' := Lib.hid hr; clear hr
    by_cases hb : base = 1
    · have e1 : (base == 1) = true := by simp [hb]
      have Hb := Lib.hid hb; clear hb
      go_enter Try.func56, Try.ntmps56
      go_wp2_with (go_at_call 63; refine (check_calls S _ _ _ _ hd'.out).mono ?_; rintro e w' ⟨rfl, rfl⟩; rw [E0.out])
      go_loopw [7, 8, 19] (fun v low i wr => ∃ (k : Nat) (x y : Int), i = .int .i64 k ∧ v = .int .i64 x ∧ low = .int .i64 y ∧ k ≤ d.length ∧ wr = w ∧ 0 ≤ y ∧ y ≤ x ∧ x ≤ 1099511627776 ∧ valFold base (d.take k) = (x, y)) (fun _ _ i _ => d.length - (intOf i).toNat)
      case atStart => exact ⟨0, 0, 0, rfl, rfl, rfl, by omega, rfl, by omega, by omega, by omega, rfl⟩
      case round =>
        obtain ⟨k, x, y, rfl, rfl, rfl, hk, rfl, h1, h2, h3, hf⟩ := hrel
        have Hf := Lib.hid hf; clear hf
        by_cases hlt : k < d.length
        · obtain ⟨b, off, z, ha, hS, hc, hx, hi⟩ := hcell k hlt
          subst ha hx
          have hz := Hok.out d[k] (List.getElem_mem _)
          have hz1 := hz.1
          have hz2 : d[k] ≤ 6 := by have := Hr.out; have := hz.2; omega
          clear hz
          have hst : valFold base (d.take (k + 1)) = (x + y + d[k], x + d[k]) := by
            rw [List.take_succ_eq_append_getElem hlt, valFold_snoc, Hf.out]; simp [valStep, Hb.out]
          have Hst := Lib.hid hst; clear hst
          by_cases hbig : 1099511627776 < x + y + d[k]
          · have hv := valErr_full H0.out (show 1099511627776 < wv base d by
              have := wv_take_le Hr'.out (d.take (k + 1)) (d.drop (k + 1)) (by rw [List.take_append_drop]; exact Hok.out)
              rw [List.take_append_drop, ← valFold_eq, Hst.out] at this
              exact Int.lt_of_lt_of_le hbig this)
            have Hv := Lib.hid hv; clear hv
            go_wp2
            go_ret2
            exact RetS.mk (by rw [Hv.out.1, Hv.out.2]; rfl)
          · go_wp2
            go_roundw
            case rel => exact ⟨k + 1, _, _, by go_num, rfl, rfl, by omega, trivial, by omega, by omega, by omega, Hst.out⟩
            case measure => (simp [intOf] <;> omega)
        · have hw : wv base d = x := by
            have := Hf.out
            rw [List.take_of_length_le (by omega)] at this
            rw [← valFold_eq, this]
          have hv := valErr_ok H0.out (show wv base d ≤ 1099511627776 by omega)
          rw [hw] at hv
          have Hv := Lib.hid hv; clear hv hw
          go_wp2
          go_ret2
          exact RetS.mk (by rw [Hv.out.1, Hv.out.2]; rfl)
    · have e1 : (base == 1) = false := by simp [hb]
      have Hb := Lib.hid hb
      have hb2 : 2 ≤ base := by have := Hr.out; omega
      have hb6 : base ≤ 6 := by have := Hr.out; omega
      clear hb
      go_enter Try.func56, Try.ntmps56
      go_wp2_with (go_at_call 63; refine (check_calls S _ _ _ _ hd'.out).mono ?_; rintro e w' ⟨rfl, rfl⟩; rw [E0.out])
      go_loopw [7, 19] (fun v i wr => ∃ (k : Nat) (x : Int), i = .int .i64 k ∧ v = .int .i64 x ∧ k ≤ d.length ∧ wr = w ∧ 0 ≤ x ∧ x ≤ 1099511627776 ∧ valFold base (d.take k) = (x, 0)) (fun _ i _ => d.length - (intOf i).toNat)
      case atStart => exact ⟨0, 0, rfl, rfl, by omega, rfl, by omega, by omega, rfl⟩
      case round =>
        obtain ⟨k, x, rfl, rfl, hk, rfl, h1, h3, hf⟩ := hrel
        have Hf := Lib.hid hf; clear hf
        by_cases hlt : k < d.length
        · obtain ⟨b, off, z, ha, hS, hc, hx, hi⟩ := hcell k hlt
          subst ha hx
          have hz := Hok.out d[k] (List.getElem_mem _)
          have hz1 := hz.1
          have hz2 : d[k] ≤ 6 := by have := Hr.out; have := hz.2; omega
          clear hz
          have hm1 : 0 ≤ x * base := Int.mul_nonneg h1 (by omega)
          have hm2 : x * base ≤ 6597069766656 := by
            have := Int.mul_le_mul h3 hb6 (by omega) (by omega)
            omega
          have hst : valFold base (d.take (k + 1)) = (x * base + d[k], 0) := by
            rw [List.take_succ_eq_append_getElem hlt, valFold_snoc, Hf.out]; simp [valStep, Hb.out]
          have Hst := Lib.hid hst; clear hst
          by_cases hbig : 1099511627776 < x * base + d[k]
          · have hv := valErr_full H0.out (show 1099511627776 < wv base d by
              have := wv_take_le Hr'.out (d.take (k + 1)) (d.drop (k + 1)) (by rw [List.take_append_drop]; exact Hok.out)
              rw [List.take_append_drop, ← valFold_eq, Hst.out] at this
              exact Int.lt_of_lt_of_le hbig this)
            have Hv := Lib.hid hv; clear hv
            go_wp2
            go_ret2
            exact RetS.mk (by rw [Hv.out.1, Hv.out.2]; rfl)
          · go_wp2
            go_roundw
            case rel => exact ⟨k + 1, _, by go_num, rfl, by omega, trivial, by omega, by omega, Hst.out⟩
            case measure => (simp [intOf] <;> omega)
        · have hw : wv base d = x := by
            have := Hf.out
            rw [List.take_of_length_le (by omega)] at this
            rw [← valFold_eq, this]
          have hv := valErr_ok H0.out (show wv base d ≤ 1099511627776 by omega)
          rw [hw] at hv
          have Hv := Lib.hid hv; clear hv hw
          go_wp2
          go_ret2
          exact RetS.mk (by rw [Hv.out.1, Hv.out.2]; rfl)
  · have hv := valErr_fault h0
    have Hv := Lib.hid hv; clear hv
    obtain ⟨e, he⟩ : ∃ e, digitsFault base d = e := ⟨_, rfl⟩
    rw [he] at h0
    have E0 := Lib.hid (show errV 68 (digitsFault base d) = .iface 68 (.int .i64 e) by simp [errV, he, h0])
    clear h0 he
    go_enter Try.func56, Try.ntmps56
    go_wp2_with (go_at_call 63; refine (check_calls S _ _ _ _ hd'.out).mono ?_; rintro e w' ⟨rfl, rfl⟩; rw [E0.out])
    go_ret2
    exact RetS.mk (by rw [Hv.out.1, Hv.out.2, E0.out]; rfl)

end Go.Proofs.Ytfhncnhkeodngaa
namespace Go.Proofs.Ytfhncnhkeodngaa
open Go.RowKit

end Go.Proofs.Ytfhncnhkeodngaa
namespace Go.Proofs.Ytfhncnhkeodngaa
open Go.RowKit

end Go.Proofs.Ytfhncnhkeodngaa
namespace Go.Proofs.Ytfhncnhkeodngaa
open Go.RowKit

def okNum (n : Int) : Bool := decide (0 ≤ n ∧ n ≤ 1099511627776)
def wordErr (base : Int) (nums : List Int) : Int := if manyErr base nums.length ≠ 0 then manyErr base nums.length else if nums.all okNum then 0 else 1
/-- Rows of digits of numbers. -/
def RowsOf (base : Int) (nums : List Int) (rows : List (List Int)) : Prop := rows.length = nums.length ∧ ∀ i (h1 : i < nums.length) (h2 : i < rows.length), IsOf base nums[i] rows[i]
/-- What Word answers. -/
def WordIs (base : Int) (nums : List Int) (l : List Int) : Prop :=
  (wordErr base nums ≠ 0 → l = []) ∧ (wordErr base nums = 0 → ∃ rows, RowsOf base nums rows ∧ l = wordRows (radix base) (longest rows) rows)

theorem pad_at (long : Nat) (d : List Int) (i : Nat) (hd : d.length ≤ long) (hi : i < long) :
    (pad long d).getD i 0 = if h : long ≤ i + d.length then d[i + d.length - long]'(by omega) else 0 := by
  unfold pad
  rw [List.getD_eq_getElem?_getD, List.getElem?_append]
  by_cases h : long ≤ i + d.length
  · rw [dif_pos h, if_neg (by simp; omega)]
    have : i - (List.replicate (long - d.length) (0 : Int)).length = i + d.length - long := by simp; omega
    rw [this, List.getElem?_eq_getElem (by omega)]; rfl
  · rw [dif_neg h, if_pos (by simp; omega)]
    rw [List.getElem?_replicate, if_pos (by omega)]; rfl

end Go.Proofs.Ytfhncnhkeodngaa
namespace Go.Proofs.Ytfhncnhkeodngaa
open Go.RowKit


set_option maxHeartbeats 1000000 in
set_option maxRecDepth 100000 in
theorem Unpack_calls (base t l : Int) (w : World) :
    Calls Try.prog 46 #[.int .i64 base, .int .i64 t, .int .i64 l] w
      (RetQ (fun v w' => ∃ x, v = .tuple #[x, errV 68 (unpackErr base t l)] ∧ Ints (w.heap.size ≤ ·) w' x (unpackOf base t l)) w) := by
  by_cases h0 : manyErr base t = 0
  · have E0 := Lib.hid (show errV 68 (manyErr base t) = .nilIface by rw [h0]; rfl)
    by_cases hl : l < 0 ∨ manyOf base t ≤ l
    · have R := Lib.hid (unpackErr_letter h0 hl)
      by_cases hl0 : l < 0
      · clear hl h0
        go_enter Try.func46, Try.ntmps46
        go_wp2_with (go_at_call 40; refine (Many_calls _ _ _).mono ?_; rintro e w' ⟨rfl, rfl⟩; rw [E0.out])
        go_ret2
        exact RetQ.mk ⟨_, by rw [R.out.1]; rfl, by rw [R.out.2]; exact Sl.nil _ _ _⟩ (Below.refl _ _)
      · have hl1 : manyOf base t ≤ l := by omega
        clear hl h0
        go_enter Try.func46, Try.ntmps46
        go_wp2_with (go_at_call 40; refine (Many_calls _ _ _).mono ?_; rintro e w' ⟨rfl, rfl⟩; rw [E0.out])
        go_ret2
        exact RetQ.mk ⟨_, by rw [R.out.1]; rfl, by rw [R.out.2]; exact Sl.nil _ _ _⟩ (Below.refl _ _)
    · have R := Lib.hid (unpackErr_ok h0 hl)
      have hl0 : ¬ l < 0 := by omega
      have hl1 : ¬ manyOf base t ≤ l := by omega
      obtain ⟨h1, ht0, h5, hp36, hmo⟩ := many_ok h0
      obtain ⟨r2, r6⟩ := radix_two h1
      obtain ⟨t, rfl⟩ := Int.eq_ofNat_of_zero_le ht0
      simp only [Int.toNat_natCast] at R hp36 hmo
      have hl36 : l ≤ 36 := by omega
      have ht5 : t ≤ 5 := by omega
      clear hl h0 h1 hp36 hmo
      generalize hk : radix base = k at *
      have Hk := Lib.hid hk; clear hk
      obtain ⟨i0, hi, hz0, hz1, hz2⟩ := info_parts infoInt
      go_enter Try.func46, Try.ntmps46
      go_wp2_with fail
      refine (Many_calls _ _ _).mono ?_; rintro e w' ⟨rfl, rfl⟩; rw [E0.out]
      go_wp2_with fail
      refine (Radix_calls _ _).mono ?_; rintro e w' ⟨rfl, rfl⟩; rw [Hk.out]
      go_wp2_with (at_make; go_loud (refine wpList_make_full w rfl _ _ 24 rfl w.heap.size 3 i0 (.int .i64 0) 1 Try.underlying24 hi hz0 hz1 .i64 .i64 _ _ t rfl rfl rfl rfl ?c1 ?c2 (Nat.le_refl _) ?_))
      case c1 => rw [hz2]; omega
      case c2 => simp only [maxLen]; omega
      intro w1 hown hgrow
      have HB := Lib.hid ((Below.refl w.heap.size w).grown hgrow (Nat.le_refl _) (by simp)); clear hgrow
      have hown' : w1.ownsRow w.heap.size 3 1 (.slice (some ⟨w.heap.size, 0, none⟩) t t) t ((List.replicate t 0 ++ ([] : List Int)).map (Value.int .i64)) := by
        have e : (madeCells (Value.int .i64 0).cells (t * 1)).toList = (List.replicate t 0 ++ ([] : List Int)).map (Value.int .i64) := by
          show (madeCells #[Value.int .i64 0] (t * 1)).toList = _
          rw [toList_madeCells_one]; simp
        rw [← e, Nat.mul_one]; exact hown
      clear hown
      have Hown := Lib.hid hown'; clear hown'
      go_wp2_with fail
      go_loopw [2, 35] (fun m i wr => ∃ (j : Nat) (q : Int) (u : List Int), j ≤ t ∧ i = .int .i64 j ∧ m = .int .i64 q ∧ 0 ≤ q ∧ q ≤ 36 ∧ u.length = j ∧ Hid (unpack k t l = unpack k (t - j) q ++ u) ∧
        Hid (wr.ownsRow w.heap.size 3 1 (.slice (some ⟨w.heap.size, 0, none⟩) t t) t ((List.replicate (t - j) 0 ++ u).map (Value.int .i64))) ∧ Hid (Below w.heap.size w wr)) (fun _ i _ => t - (intOf i).toNat)
      case atStart => exact ⟨0, l, [], by omega, rfl, rfl, by omega, hl36, rfl, by simp [Hid], Hown.out, HB.out⟩
      case round =>
        obtain ⟨j, q, u, hj, rfl, rfl, q0, q36, hu, HU, HO, HB'⟩ := hrel
        have Hu := Lib.hid hu; clear hu
        by_cases hlt : j < t
        · have q1 : 0 ≤ q % k := Int.emod_nonneg _ (by omega)
          have q2 : q % k < k := Int.emod_lt_of_pos _ (by omega)
          have q3 : 0 ≤ q / k := Int.ediv_nonneg q0 (by omega)
          have q4 : q / k ≤ q := Int.ediv_le_self _ q0
          obtain ⟨r, hr⟩ : ∃ r : Nat, (t : Int) - 1 - j = r := ⟨t - 1 - j, by omega⟩
          have hr' : t - j = r + 1 := by omega
          have HO' := Lib.hid (show wr.ownsRow w.heap.size 3 1 (.slice (some ⟨w.heap.size, 0, none⟩) t t) t ((List.replicate (r + 1) 0 ++ u).map (Value.int .i64)) by rw [← hr']; exact HO.out)
          have hcell : wr.cell? ⟨w.heap.size, r, none⟩ = some (.int .i64 0) := by
            rw [HO'.out.cellAt r (by omega)]
            simp [List.replicate_succ']
          have hfr : wr.frozen? ⟨w.heap.size, r, none⟩ = false := HO'.out.frozenAt r
          have r0 : (r : Int) < t := by omega
          have Hr := Lib.hid hr'; clear hr' HO
          go_wp2
          go_roundw
          case rel =>
            refine ⟨j + 1, q / k, (q % k) :: u, by omega, by go_num, rfl, by omega, by omega, by have := Hu.out; simp; omega, ?_, ?_, ?_⟩
            · have e : t - (j + 1) = r := by have := Hr.out; omega
              show unpack k t l = unpack k (t - (j + 1)) (q / k) ++ q % k :: u
              rw [HU.out, e, Hr.out, unpack, List.append_assoc]; rfl
            · have e : t - (j + 1) = r := by have := Hr.out; omega
              have := (HO'.out.stored r (.int .i64 (q % k))).1
              have e2 : ((List.replicate (r + 1) 0 ++ u).map (Value.int .i64)).set r (.int .i64 (q % k)) = (List.replicate (t - (j + 1)) 0 ++ (q % k) :: u).map (Value.int .i64) := by
                rw [e, List.replicate_succ', List.append_assoc, List.map_append, List.map_append, List.set_append_right (h := by simp)]
                simp
              rw [e2] at this
              exact this
            · exact HB'.out.setCell (Nat.le_refl _) _
          case measure => (simp [intOf] <;> omega)
        · obtain rfl : j = t := by omega
          have Hfin := Lib.hid (show unpackOf base j l = u by rw [R.out.2, HU.out]; simp [unpack])
          have HO' := Lib.hid (show wr.ownsRow w.heap.size 3 1 (.slice (some ⟨w.heap.size, 0, none⟩) j j) j (u.map (Value.int .i64)) by simpa using HO.out)
          clear HO
          go_wp2
          go_ret2
          refine RetQ.mk ⟨_, by rw [R.out.1]; rfl, ?_⟩ HB'.out
          rw [Hfin.out]
          refine Ints.of_own HO'.out Hu.out fun x hx => ?_
          have hx' : x ∈ unpack k j l := by rw [HU.out]; simp [hx]
          have := unpack_ok r2 _ _ x hx'
          exact ⟨by omega, by omega⟩
  · have R := Lib.hid (unpackErr_many (l := l) h0)
    have E := Lib.hid (errV_ne 68 h0)
    clear h0
    go_enter Try.func46, Try.ntmps46
    go_wp2_with (go_at_call 40; refine (Many_calls _ _ _).mono ?_; rintro e w' ⟨rfl, rfl⟩; rw [E.out])
    go_ret2
    exact RetQ.mk ⟨_, by rw [R.out.1, E.out]; rfl, by rw [R.out.2]; exact Sl.nil _ _ _⟩ (Below.refl _ _)
end Go.Proofs.Ytfhncnhkeodngaa
namespace Go.Proofs.Ytfhncnhkeodngaa
open Go.RowKit

theorem splitErr_many {base t : Int} {l : List Int} (h : manyErr base t ≠ 0) : splitErr base t l = manyErr base t ∧ splitOf base t l = [] := by
  have : splitErr base t l = manyErr base t := by simp [splitErr, h]
  exact ⟨this, by simp [splitOf, this, h]⟩
theorem splitErr_long {base t : Int} {l : List Int} (h : manyErr base t = 0) (hl : 60 < l.length) : splitErr base t l = 3 ∧ splitOf base t l = [] := by
  have : splitErr base t l = 3 := by simp [splitErr, h, hl]
  exact ⟨this, by simp [splitOf, this]⟩
theorem splitErr_letter {base t : Int} {l : List Int} (h : manyErr base t = 0) (hl : ¬ 60 < l.length) {i : Nat} (hi : i < l.length) (hx : l[i] < 0 ∨ manyOf base t ≤ l[i]) : splitErr base t l = 1 ∧ splitOf base t l = [] := by
  have : splitErr base t l = 1 := by
    unfold splitErr
    rw [if_neg (by omega), if_neg hl, if_neg]
    intro hall
    have := List.all_eq_true.1 hall l[i] (List.getElem_mem _)
    simp at this
    omega
  exact ⟨this, by simp [splitOf, this]⟩
theorem splitErr_ok {base t : Int} {l : List Int} (h : manyErr base t = 0) (hl : ¬ 60 < l.length) (hx : ∀ i (hi : i < l.length), ¬ (l[i] < 0 ∨ manyOf base t ≤ l[i])) :
    splitErr base t l = 0 ∧ splitOf base t l = (List.range t.toNat).map (trackOf (radix base) t.toNat l) := by
  have : splitErr base t l = 0 := by
    unfold splitErr
    rw [if_neg (by omega), if_neg hl, if_pos]
    rw [List.all_eq_true]
    intro x hx'
    obtain ⟨i, hi, rfl⟩ := List.mem_iff_getElem.1 hx'
    have := hx i hi
    simp; omega
  exact ⟨this, by simp [splitOf, this]⟩
theorem trackOf_snoc (k : Int) (t : Nat) (l : List Int) (x : Int) (i : Nat) : trackOf k t (l ++ [x]) i = trackOf k t l i ++ [(unpack k t x).getD i 0] := by simp [trackOf]

/-- Rows under way: each is owned, no two share. -/
structure RowsOwn (w : World) (B : Nat) (xs : List Value) (L : Nat → List Int) : Prop where
  own : ∀ i (h : i < xs.length), w.ownsRow (B + 1) 3 1 xs[i] (L i).length ((L i).map (Value.int .i64))
  apart : ∀ i j (h1 : i < xs.length) (h2 : j < xs.length), i ≠ j → ∀ b, xs[i].ownBlock = some b → xs[j].ownBlock ≠ some b
theorem RowsOwn.congr {w : World} {B : Nat} {xs : List Value} {L L' : Nat → List Int} (h : RowsOwn w B xs L) (hL : ∀ i, i < xs.length → L i = L' i) : RowsOwn w B xs L' :=
  ⟨fun i hi => by rw [← hL i hi]; exact h.own i hi, h.apart⟩
theorem RowsOwn.keep {w w' : World} {B : Nat} {xs : List Value} {L : Nat → List Int} (h : RowsOwn w B xs L) (hb : ∀ k, B < k → k < w.heap.size → w'.heap[k]? = w.heap[k]?) : RowsOwn w' B xs L := by
  refine ⟨fun i hi => ?_, h.apart⟩
  have ho := h.own i hi
  refine ⟨ho.1, ?_⟩
  rcases ho.2 with hn | ⟨g, cap, cur, hv, hB, hg, rest⟩
  · exact .inl hn
  · exact .inr ⟨g, cap, cur, hv, hB, by rw [hb g (by omega) (block_lt hg)]; exact hg, rest⟩
theorem RowsOwn.append {w w' : World} {B : Nat} {xs : List Value} {L : Nat → List Int} (h : RowsOwn w B xs L) (q : Nat) (hq : q < xs.length) (v' : Value) (x : Int)
    (hown : w'.ownsRow (B + 1) 3 1 v' ((L q).length + 1) ((L q).map (Value.int .i64) ++ [.int .i64 x])) (hgrow : w.grownBy w' xs[q].ownBlock)
    (hwhere : v'.ownBlock = xs[q].ownBlock ∨ v'.ownBlock = some (w.heap.size + 1)) :
    RowsOwn w' B (xs.set q v') (fun i => if i = q then L q ++ [x] else L i) := by
  have hlt : ∀ i (hi : i < xs.length) b, xs[i].ownBlock = some b → b < w.heap.size := fun i hi b hb => ((h.own i hi).lt b hb).2
  refine ⟨fun i hi => ?_, fun i j h1 h2 hij b => ?_⟩
  · by_cases e : i = q
    · subst e
      rw [List.getElem_set_self, if_pos rfl]
      simpa using hown
    · rw [List.getElem_set_ne (Ne.symm e), if_neg e]
      have hi' : i < xs.length := by simpa using hi
      refine (h.own i hi').kept hgrow ?_
      cases hb : xs[i].ownBlock with
      | none => exact .inl rfl
      | some b => exact .inr fun e' => h.apart i q hi' hq e b hb e'.symm
  · have h1' : i < xs.length := by simpa using h1
    have h2' : j < xs.length := by simpa using h2
    by_cases ei : i = q
    · subst ei
      rw [List.getElem_set_self, List.getElem_set_ne hij]
      intro hb hb'
      rcases hwhere with hw | hw
      · exact h.apart i j h1' h2' hij b (hw ▸ hb) hb'
      · rw [hw] at hb
        have := hlt j h2' b hb'
        simp at hb; omega
    · rw [List.getElem_set_ne (Ne.symm ei)]
      by_cases ej : j = q
      · subst ej
        rw [List.getElem_set_self]
        intro hb hb'
        rcases hwhere with hw | hw
        · exact h.apart i j h1' h2' hij b hb (hw ▸ hb')
        · rw [hw] at hb'
          have := hlt i h1' b hb
          simp at hb'; omega
      · rw [List.getElem_set_ne (Ne.symm ej)]
        exact h.apart i j h1' h2' hij b
theorem RowsOwn.start (w : World) (B n : Nat) : RowsOwn w B (List.replicate n (.slice none 0 0)) (fun _ => []) :=
  ⟨fun i hi => by rw [List.getElem_replicate]; exact World.ownsRow_nil _ _ _ _, fun i j h1 h2 _ b hb => by rw [List.getElem_replicate] at hb; cases hb⟩
/-- No row under way lies in a block. -/
def Clear (xs : List Value) (B b : Nat) : Prop := b ≠ B ∧ ∀ i (h : i < xs.length), xs[i].ownBlock ≠ some b
end Go.Proofs.Ytfhncnhkeodngaa
namespace Go.Proofs.Ytfhncnhkeodngaa
open Go.RowKit

theorem repNilInts (S : Nat → Prop) (w : World) : RepT S w (tInts []) (.slice none 0 0) :=
  .list [] none 0 1 (fun _ => undef) (Nat.zero_le _) Nat.one_pos (fun x hx => by simp at hx) (fun h => (h rfl).elim) (fun k hk => by simp at hk) (fun k y hy => by simp [flat] at hy) (Nat.le_refl _)
theorem repOwnInts {w : World} {B e n : Nat} {v : Value} {l : List Int} (h : w.ownsRow B e 1 v n (l.map (Value.int .i64))) (hl : l.length = n) (_ : ∀ x ∈ l, I64 x) : RepT (B ≤ ·) w (tInts l) v := by
  subst hl
  rcases h.2 with ⟨rfl, h0⟩ | ⟨g, cap, cur, rfl, h1, h2, h3, h4, h5, h6⟩
  · obtain rfl : l = [] := List.length_eq_zero_iff.1 h0
    exact repNilInts _ _
  · have hfl : ∀ l : List Int, flat (l.map tInt) = l.map tInt := fun l => by
      induction l with
      | nil => rfl
      | cons x t ih =>
        simp only [flat, List.map_cons, List.flatMap_cons] at ih ⊢
        rw [ih]; rfl
    have hlen : (l.map tInt).length = l.length := by simp
    have hcell : ∀ k (hk : k < l.length), cur[k]? = some (Value.int .i64 l[k]) := fun k hk => by
      have h7 : (cur.toList.take (l.length * 1))[k]? = some (Value.int .i64 l[k]) := by rw [h6]; simp [hk]
      rw [List.getElem?_take_of_lt (by omega)] at h7
      simpa using h7
    have := RepT.list (S := (B ≤ ·)) (w := w) (l.map tInt) (some ⟨g, 0, none⟩) cap 1 (fun k => if h : k < l.length then Value.int .i64 l[k] else undef) (by simp; omega) Nat.one_pos (fun x hx => by obtain ⟨n, _, rfl⟩ := List.mem_map.1 hx; rfl)
      (fun _ => ⟨g, 0, rfl, h1, fun k hk => by
        have hk2 : k < l.length := by simpa using hk
        rw [Nat.zero_add, World.cell?, h2]
        simp only [hk2, dif_pos]
        exact hcell k hk2⟩)
      (fun k hk => by
        have hk2 : k < l.length := by simpa using hk
        simp only [hk2, dif_pos]; rfl)
      (fun k y hy => by
        rw [hfl, List.getElem?_map, Option.map_eq_some_iff] at hy
        obtain ⟨n, hn, rfl⟩ := hy
        obtain ⟨hk2, rfl⟩ := List.getElem?_eq_some_iff.1 hn
        simp only [hk2, dif_pos]
        exact .int _ _) (by simp; omega)
    rw [hlen] at this
    exact this

set_option maxHeartbeats 1000000 in
set_option maxRecDepth 100000 in
theorem Of_baseT (base n : Int) (w : World) (hb2 : 2 ≤ base) (hb6 : base ≤ 6) (hn0 : 0 < n) (hn1 : n ≤ 1099511627776) :
    Calls Try.prog 41 #[.int .i64 base, .int .i64 n] w
      (RetQ (fun v w' => ∃ x l, v = .tuple #[x, .nilIface] ∧ RepT (w.heap.size ≤ ·) w' (tInts l) x ∧ IsOf base n l) w) := by
  have hr : radix base = base := by simp [radix]; omega
  have e0 : (base == 0) = false := by simp; omega
  have e1 : (base != 1) = true := by simp; omega
  have e2 : decide (n < 0) = false := by simp; omega
  have e3 : decide (1099511627776 < n) = false := by simp; omega
  have Hr := Lib.hid hr; clear hr
  have Hrz := Lib.hid (show radix base ≠ 0 by rw [Hr.out]; omega)
  have Hb1 := Lib.hid (show base ≠ 1 by omega)
  go_enter Try.func41, Try.ntmps41
  go_wp2_with (go_at_call 42; refine (Radix_calls _ _).mono ?_; rintro e w' ⟨rfl, rfl⟩; rw [Hr.out])
  go_loopw [1, 8] (fun q at_ wr => ∃ (k : Nat) (m : Int) (t : List Int) (C : Array Value), at_ = .int .i64 k ∧ q = .int .i64 m ∧ 0 ≤ m ∧ m ≤ 1099511627776 ∧ k + t.length = 64 ∧ k ≤ 64 ∧ Hid (m * W base t.length + wv base t = n ∧ okDigits base t ∧ (m = 0 → noLead t ∧ t ≠ [])) ∧
      Hid (wr.heap[w.heap.size]? = some (.cells C 118 (0, 0)) ∧ C.toList.drop k = t.map (Value.int .i64) ∧ C.size = 64) ∧ Hid (Below w.heap.size w wr)) (fun q _ _ => (intOf q).toNat)
  case atStart => exact ⟨64, n, [], _, rfl, rfl, by omega, by omega, rfl, by omega, ⟨by simp [W, powW, wv, Hb1.out], by simp [okDigits], fun h => by omega⟩, ⟨heap_alloc_new w _, rfl, rfl⟩, (Below.refl _ _).alloc (Nat.le_refl _) _⟩
  case round =>
    obtain ⟨k, m, t, C, rfl, rfl, hm0, hm1, hkt, hk64, Hm, HC, HB⟩ := hrel
    by_cases hlt : 0 < m
    · have hk : 1 ≤ k := by
        have h1 := Hm.out.1
        have h2 := wv_nonneg Hrz.out Hm.out.2.1
        rcases Nat.lt_or_ge t.length 58 with c | c
        · omega
        · have := W_big Hrz.out c
          have : 1 * W base t.length ≤ m * W base t.length := Int.mul_le_mul_of_nonneg_right (by omega) (by omega)
          omega
      obtain ⟨j, rfl⟩ : ∃ j, k = j + 1 := ⟨k - 1, by omega⟩
      have q0 : 0 ≤ m % base := Int.emod_nonneg _ (by omega)
      have q1 : m % base < base := Int.emod_lt_of_pos _ (by omega)
      have q2 : 0 ≤ m / base := Int.ediv_nonneg hm0 (by omega)
      have q3 : m / base < m := Int.ediv_lt_self_of_pos_of_ne_one (by omega) (by omega)
      have q5 : m / base ≤ 1099511627776 := by omega
      have Q4 := Lib.hid (show m = base * (m / base) + m % base from (Int.mul_ediv_add_emod m base).symm)
      have hcell : wr.cell? ⟨w.heap.size, j, none⟩ = some (C[j]'(by have := HC.out.2.2; omega)) := by
        rw [cell_of_row wr _ j C 118 (0, 0) HC.out.1]; exact Array.getElem?_eq_getElem _
      have hfr : wr.frozen? ⟨w.heap.size, j, none⟩ = false := frozen_of_block HC.out.1 j
      go_wp2
      go_roundw
      case rel =>
        refine ⟨j, m / base, (m % base) :: t, C.setIfInBounds j (.int .i64 (m % base)), by go_num, rfl, q2, q5, by simp at hkt ⊢; omega, by omega, ⟨?_, ?_, ?_⟩, ⟨?_, ?_, ?_⟩, ?_⟩
        · have h1 := Hm.out.1
          have e : W base ((m % base) :: t).length = W base t.length * base := by simp [W, Hb1.out, powW]
          rw [e]
          show m / base * (W base t.length * base) + (m % base * W base t.length + wv base t) = n
          have : m * W base t.length = (base * (m / base) + m % base) * W base t.length := by rw [← Q4.out]
          rw [this, Int.add_mul] at h1
          rw [← Int.mul_assoc, Int.mul_comm (m / base * W base t.length) base, ← Int.mul_assoc]
          omega
        · intro x hx
          rcases List.mem_cons.1 hx with rfl | hx
          · rw [Hr.out]; exact ⟨q0, q1⟩
          · exact Hm.out.2.1 x hx
        · intro hz
          refine ⟨?_, by simp⟩
          intro hl
          have h4 := Q4.out
          simp at hl
          rw [hz, hl] at h4
          simp at h4
          omega
        · exact heap_setCell_at HC.out.1 _
        · have h2 := HC.out.2.1
          have h3 := HC.out.2.2
          rw [List.map_cons, ← h2, Array.toList_setIfInBounds, List.drop_set]
          simp
          rw [List.drop_eq_getElem_cons (by simp; omega)]
          simp
        · have := HC.out.2.2; simp; omega
        · exact HB.out.setCell (Nat.le_refl _) _
      case measure => (simp [intOf] <;> omega)
    · obtain rfl : m = 0 := by omega
      have ht0 : t ≠ [] := (Hm.out.2.2 rfl).2
      have hk' : (k : Int) < 64 := by
        have : 0 < t.length := List.length_pos_iff.2 ht0
        omega
      clear ht0
      obtain ⟨i0, hi, hz0, hz1, hz2⟩ := info_parts infoInt
      have hsl := slice64 wr w.heap.size k (by omega)
      go_wp2_with (at_builtin; go_loud (refine wpList_append_own _ rfl _ _ 24 rfl w.heap.size 3 i0 (.int .i64 0) 1 8 Try.underlying24 hi hz0 hz1 hz2 rfl (by decide) _ _ _ rfl (World.ownsRow_nil _ _ _ _) ⟨w.heap.size, k, none⟩ (64 - k) (64 - k) (t.map (Value.int .i64)) rfl ?c1 ?c2 ?c3 ?c4 ?c5 ?c6 ?_))
      case c1 => omega
      case c2 =>
        intro j u hj
        have h2 := HC.out.2.1
        rw [cell_of_row wr _ (k + j) C 118 (0, 0) HC.out.1, ← Array.getElem?_toList, ← List.getElem?_drop, h2]
        simp [hj]
      case c3 => intro u _; rfl
      case c4 => simp only [maxLen]; omega
      case c5 => omega
      case c6 => exact HB.out.size
      intro v' w' hown hgrow hnil
      go_wp2
      go_ret2
      refine RetQ.mk ⟨_, t, rfl, repOwnInts hown (by omega) ?_, ⟨Hm.out.2.1, ?_, (Hm.out.2.2 (by trivial)).1, ?_⟩⟩ (HB.out.grown hgrow HB.out.size (by simp [Value.ownBlock]))
      · intro x hx
        have := Hm.out.2.1 x hx
        rw [Hr.out] at this
        exact ⟨by omega, by omega⟩
      · simp [rightOf, Hb1.out]
      · have := Hm.out.1; omega

set_option maxHeartbeats 1000000 in
set_option maxRecDepth 100000 in
theorem Of_fibT (n : Int) (w : World) (hn0 : 0 ≤ n) (hn1 : n ≤ 1099511627776) :
    Calls Try.prog 41 #[.int .i64 1, .int .i64 n] w
      (RetQ (fun v w' => ∃ x l, v = .tuple #[x, .nilIface] ∧ RepT (w.heap.size ≤ ·) w' (tInts l) x ∧ IsOf 1 n l) w) := by
  have Hr := Lib.hid (show radix 1 = 2 from rfl)
  have e2 : decide (n < 0) = false := by simp; omega
  have e3 : decide (1099511627776 < n) = false := by simp; omega
  go_enter Try.func41, Try.ntmps41
  go_wp2_with (go_at_call 42; refine (Radix_calls _ _).mono ?_; rintro e w' ⟨rfl, rfl⟩; rw [Hr.out])
  go_loopw [10] (fun q wr => ∃ (m : Nat) (C : Array Value), q = .int .i64 ((m : Int) + 2) ∧ Hid (m = 0 ∨ fibW m ≤ n) ∧
      Hid (wr.heap[w.heap.size + 1]? = some (.cells C 118 (0, 0)) ∧ C.size = 64 ∧ ∀ i, i < m + 2 → C[i]? = some (.int .i64 (fibW i))) ∧ Hid (Below w.heap.size w wr)) (fun q _ => 64 - (intOf q).toNat)
  case atStart => 
    refine ⟨0, _, rfl, .inl rfl, ⟨heap_alloc_at _ _ (by simp), by simp, ?_⟩, ?_⟩
    · intro i hi
      have : i = 0 ∨ i = 1 := by omega
      rcases this with rfl | rfl <;> rfl
    · exact ((Below.refl _ _).alloc (Nat.le_refl _) _).alloc (by simp) _
  case round =>
    obtain ⟨m, C, rfl, Hm, HC, HB⟩ := hrel
    have hm : m ≤ 57 := by
      rcases Hm.out with h | h
      · omega
      · exact fibW_small h hn1
    have hcell : wr.cell? ⟨w.heap.size + 1, m + 1, none⟩ = some (.int .i64 (fibW (m + 1))) := by
      rw [cell_of_row wr _ _ C 118 (0, 0) HC.out.1]; exact HC.out.2.2 _ (by omega)
    have hcell0 : wr.cell? ⟨w.heap.size + 1, m, none⟩ = some (.int .i64 (fibW m)) := by
      rw [cell_of_row wr _ _ C 118 (0, 0) HC.out.1]; exact HC.out.2.2 _ (by omega)
    by_cases hle : fibW (m + 1) ≤ n
    · have hp := (fibW_pos m)
      have hp1 := hp.1
      have hp2 := hp.2
      clear hp
      have hcell2 : wr.cell? ⟨w.heap.size + 1, m + 2, none⟩ = some (C[m + 2]'(by have := HC.out.2.1; omega)) := by
        rw [cell_of_row wr _ _ C 118 (0, 0) HC.out.1]; exact Array.getElem?_eq_getElem _
      have hfr : wr.frozen? ⟨w.heap.size + 1, m + 2, none⟩ = false := frozen_of_block HC.out.1 _
      go_wp2
      go_region
      go_wp2
      go_roundw
      case rel =>
        refine ⟨m + 1, C.setIfInBounds (m + 2) (.int .i64 (fibW (m + 2))), by go_num, .inr hle, ⟨?_, ?_, ?_⟩, ?_⟩
        · exact heap_setCell_at HC.out.1 _
        · simpa using HC.out.2.1
        · intro i hi
          rw [Array.getElem?_setIfInBounds]
          by_cases e : m + 2 = i
          · subst e; rw [if_pos rfl, if_pos (by have := HC.out.2.1; omega)]
          · rw [if_neg e]; exact HC.out.2.2 i (by omega)
        · exact (HB.out.setCell (p := ⟨w.heap.size + 1, m + 2, none⟩) (by simp) _).drew
      case measure => (simp [intOf] <;> omega)
    · have G := Lib.hid (Greedy.start hn0 (show n < fibW (m + 1) by omega) (by omega))
      have H0 := Lib.hid (And.intro hn0 hn1)
      clear hcell0 e2 e3
      obtain ⟨i0, hi, hz0, hz1, hz2⟩ := info_parts infoInt
      go_wp2_with fail
      clear hcell hle hn0 hn1
      go_loopw [1, 11, 12] (fun q out i wr' => ∃ (j : Nat) (r : Int) (l : List Int), q = .int .i64 r ∧ i = .int .i64 ((j : Int) - 1) ∧ j ≤ m + 2 ∧ Hid (Greedy n j r l) ∧ wr'.ownsRow (w.heap.size + 2) 3 1 out l.length (l.map (Value.int .i64)) ∧
        Hid (wr'.heap[w.heap.size + 1]? = some (.cells C 118 (0, 0))) ∧ Hid (Below w.heap.size w wr')) (fun _ _ i _ => (intOf i + 1).toNat)
      case atStart => exact ⟨m + 2, n, [], rfl, by go_num, Nat.le_refl _, G.out, World.ownsRow_nil _ _ _ _, HC.out.1, HB.out⟩
      case round =>
        obtain ⟨j, r, l, rfl, rfl, hj, HG, hown, HC', HB'⟩ := hrel
        obtain ⟨a, cap, rfl⟩ := own_form hown
        have hbase : w.heap.size + 2 ≤ wr.heap.size := by have := block_lt HC'.out; omega
        rcases Nat.eq_zero_or_pos j with hj0 | hj0
        · subst hj0
          have D := Lib.hid HG.out.done
          go_wp2
          go_ret2
          refine RetQ.mk ⟨_, l, rfl, ?_, D.out⟩ HB'.out
          refine (repOwnInts hown rfl ?_).mono (fun b (hb : w.heap.size + 2 ≤ b) => show w.heap.size ≤ b by omega)
          intro x hx
          have := D.out.ok x hx
          simp [radix] at this
          exact ⟨by omega, by omega⟩
        · obtain ⟨j', rfl⟩ : ∃ j', j = j' + 1 := ⟨j - 1, by omega⟩
          have hpos : (0 : Int) ≤ ((j' + 1 : Nat) : Int) - 1 := by omega
          have hj64 : ((j' + 1 : Nat) : Int) - 1 < 64 := by omega
          have hcell : wr.cell? ⟨w.heap.size + 1, j', none⟩ = some (.int .i64 (fibW j')) := by
            rw [cell_of_row wr _ _ C 118 (0, 0) HC'.out]; exact HC.out.2.2 _ (by omega)
          have hr0 := HG.out.r0
          have hr1 : r ≤ 1099511627776 := by
            have h1 := HG.out.val
            have h2 := wv_nonneg (b := 1) (d := l ++ List.replicate (j' + 1) 0) (by simp [radix]) (by
              intro x hx
              rcases List.mem_append.1 hx with hx | hx
              · exact HG.out.ok x hx
              · have := List.eq_of_mem_replicate hx; subst this; simp [radix])
            have := H0.out
            omega
          have hf1 := (fibW_pos j').1
          by_cases hle : fibW j' ≤ r
          · have D := Lib.hid (HG.out.one hle)
            have hlen64 := HG.out.len
            go_wp2_with (at_builtin; go_loud (refine wpList_append_own _ rfl _ _ 24 rfl (w.heap.size + 2) 3 i0 (.int .i64 0) 1 8 Try.underlying24 hi hz0 hz1 hz2 rfl (by decide) _ _ _ rfl (hown.alloc _) ⟨wr.heap.size, 0, none⟩ 1 1 [.int .i64 1] rfl rfl ?c1 ?c2 ?c3 ?c4 ?c5 ?_))
            case c1 => exact cell_one_new _ _ _
            case c2 => simp [Value.oneCell']
            case c3 => simp only [maxLen]; omega
            case c4 => omega
            case c5 => simp; omega
            intro v' w' hown' hgrow _
            have HBn := Lib.hid ((HB'.out.alloc HB'.out.size _).grown hgrow (by have := HB'.out.size; simp; omega) (fun k hk => by have := hown.lt k (by rw [hk]); omega))
            have HCn := Lib.hid (show w'.heap[w.heap.size + 1]? = some (.cells C 118 (0, 0)) by
              rw [hgrow.block _ (by simp; omega) (fun e => by have := hown.lt _ e.symm; omega), Below.heap_alloc _ _ _ (by omega)]; exact HC'.out)
            clear hgrow hown
            go_wp2
            go_roundw
            case rel => exact ⟨j', _, l ++ [1], rfl, by go_num, by omega, D.out, by simpa using hown', HCn.out, HBn.out⟩
            case measure => (simp [intOf] <;> omega)
          · have hlt : r < fibW j' := by omega
            clear hle
            by_cases hl : l = []
            · have D := Lib.hid (show Greedy n j' r l by subst hl; exact HG.out.none hlt)
              have hz : (l.length : Int) ≤ 0 := by subst hl; simp
              clear hl
              go_wp2
              go_roundw
              case rel => exact ⟨j', r, l, rfl, by go_num, by omega, D.out, hown, HC'.out, HB'.out⟩
              case measure => (simp [intOf] <;> omega)
            · have D := Lib.hid (HG.out.zero hlt hl)
              have hz : (0 : Int) < (l.length : Int) := by have := List.length_pos_iff.2 hl; omega
              have hlen64 := HG.out.len
              clear hl
              go_wp2_with (at_builtin; go_loud (refine wpList_append_own _ rfl _ _ 24 rfl (w.heap.size + 2) 3 i0 (.int .i64 0) 1 8 Try.underlying24 hi hz0 hz1 hz2 rfl (by decide) _ _ _ rfl (hown.alloc _) ⟨wr.heap.size, 0, none⟩ 1 1 [.int .i64 0] rfl rfl ?c1 ?c2 ?c3 ?c4 ?c5 ?_))
              case c1 => exact cell_one_new _ _ _
              case c2 => simp [Value.oneCell']
              case c3 => simp only [maxLen]; omega
              case c4 => omega
              case c5 => simp; omega
              intro v' w' hown' hgrow _
              have HBn := Lib.hid ((HB'.out.alloc HB'.out.size _).grown hgrow (by have := HB'.out.size; simp; omega) (fun k hk => by have := hown.lt k (by rw [hk]); omega))
              have HCn := Lib.hid (show w'.heap[w.heap.size + 1]? = some (.cells C 118 (0, 0)) by
                rw [hgrow.block _ (by simp; omega) (fun e => by have := hown.lt _ e.symm; omega), Below.heap_alloc _ _ _ (by omega)]; exact HC'.out)
              clear hgrow hown
              go_wp2
              go_roundw
              case rel => exact ⟨j', _, l ++ [0], rfl, by go_num, by omega, D.out, by simpa using hown', HCn.out, HBn.out⟩
              case measure => (simp [intOf] <;> omega)

theorem isOf_zeroT (b : Int) : IsOf b 0 [] := ⟨by simp [okDigits], by simp [rightOf, noTwo], by simp [noLead], rfl⟩

set_option maxHeartbeats 1000000 in
set_option maxRecDepth 100000 in
theorem Of_zeroT (base : Int) (w : World) (hb2 : 2 ≤ base) (hb6 : base ≤ 6) :
    Calls Try.prog 41 #[.int .i64 base, .int .i64 0] w
      (RetQ (fun v w' => ∃ x l, v = .tuple #[x, .nilIface] ∧ RepT (w.heap.size ≤ ·) w' (tInts l) x ∧ IsOf base 0 l) w) := by
  have hr : radix base = base := by simp [radix]; omega
  have e0 : (base == 0) = false := by simp; omega
  have e1 : (base != 1) = true := by simp; omega
  have Hr := Lib.hid hr; clear hr
  go_enter Try.func41, Try.ntmps41
  go_wp2_with (go_at_call 42; refine (Radix_calls _ _).mono ?_; rintro e w' ⟨rfl, rfl⟩; rw [Hr.out])
  refine wp_loop_rounds 1 ?_
  rw [rounds_succ]
  go_wp2
  go_ret2
  exact RetQ.mk ⟨_, [], rfl, repNilInts _ _, isOf_zeroT base⟩ ((Below.refl _ _).alloc (Nat.le_refl _) _)

def ofErr (base n : Int) : Int := if radix base = 0 ∨ n < 0 ∨ 1099511627776 < n then 1 else 0

set_option maxHeartbeats 1000000 in
set_option maxRecDepth 100000 in
theorem Of_badT (base n : Int) (w : World) (h : radix base = 0 ∨ n < 0 ∨ 1099511627776 < n) :
    Calls Try.prog 41 #[.int .i64 base, .int .i64 n] w (RetS (.tuple #[.slice none 0 0, .iface 68 (.int .i64 1)]) w) := by
  by_cases h1 : radix base = 0
  · have e0 : (radix base == 0) = true := by simp [h1]
    clear h h1
    go_enter Try.func41, Try.ntmps41
    go_wp2_with (go_at_call 42; refine (Radix_calls _ _).mono ?_; rintro e w' ⟨rfl, rfl⟩)
    go_ret2
    exact RetS.mk rfl
  · have e0 : (radix base == 0) = false := by simp [h1]
    by_cases h2 : n < 0
    · clear h h1
      go_enter Try.func41, Try.ntmps41
      go_wp2_with (go_at_call 42; refine (Radix_calls _ _).mono ?_; rintro e w' ⟨rfl, rfl⟩)
      go_ret2
      exact RetS.mk rfl
    · have h3 : 1099511627776 < n := by omega
      clear h h1
      go_enter Try.func41, Try.ntmps41
      go_wp2_with (go_at_call 42; refine (Radix_calls _ _).mono ?_; rintro e w' ⟨rfl, rfl⟩)
      go_ret2
      exact RetS.mk rfl

theorem Of_goodT (base n : Int) (w : World) (h : radix base ≠ 0) (hn0 : 0 ≤ n) (hn1 : n ≤ 1099511627776) :
    Calls Try.prog 41 #[.int .i64 base, .int .i64 n] w
      (RetQ (fun v w' => ∃ x l, v = .tuple #[x, .nilIface] ∧ RepT (w.heap.size ≤ ·) w' (tInts l) x ∧ IsOf base n l) w) := by
  rcases radix_pos h with ⟨rfl, _⟩ | ⟨h2, h6, _⟩
  · exact Of_fibT n w hn0 hn1
  · rcases Int.lt_or_eq_of_le hn0 with h0 | h0
    · exact Of_baseT base n w h2 h6 h0 hn1
    · subst h0; exact Of_zeroT base w h2 h6
theorem Of_callsT (base n : Int) (w : World) :
    Calls Try.prog 41 #[.int .i64 base, .int .i64 n] w
      (RetQ (fun v w' => ∃ x l, v = .tuple #[x, errV 68 (ofErr base n)] ∧ RepT (w.heap.size ≤ ·) w' (tInts l) x ∧ (ofErr base n = 0 → IsOf base n l) ∧ (ofErr base n ≠ 0 → l = [])) w) := by
  by_cases hbad : radix base = 0 ∨ n < 0 ∨ 1099511627776 < n
  · have H : ofErr base n = 1 := by simp [ofErr, hbad]
    refine (Of_badT base n w hbad).mono ?_
    rintro e w' ⟨rfl, rfl⟩
    exact RetQ.mk ⟨_, [], by rw [H]; rfl, repNilInts _ _, fun h => by omega, fun _ => rfl⟩ (Below.refl _ _)
  · have H : ofErr base n = 0 := by simp [ofErr, hbad]
    refine (Of_goodT base n w (by omega) (by omega) (by omega)).mono ?_
    rintro e w' ⟨v, rfl, ⟨x, l, rfl, hl, hof⟩, hb⟩
    exact RetQ.mk ⟨_, l, by rw [H]; rfl, hl, fun _ => hof, fun h => absurd H h⟩ hb
open Classical in
/-- The digits of a number, nothing of what is none. -/
noncomputable def ofL (base n : Int) : List Int := if h : ofErr base n = 0 ∧ ∃ l, IsOf base n l then Classical.choose h.2 else []
theorem ofL_eq {base n : Int} {l : List Int} (h1 : ofErr base n = 0 → IsOf base n l) (h2 : ofErr base n ≠ 0 → l = []) : ofL base n = l := by
  unfold ofL
  by_cases h : ofErr base n = 0
  · have hr : radix base ≠ 0 := by
      intro hr; simp [ofErr, hr] at h
    have hx : ofErr base n = 0 ∧ ∃ l, IsOf base n l := ⟨h, l, h1 h⟩
    rw [dif_pos hx]
    exact (Classical.choose_spec hx.2).unique hr (h1 h)
  · rw [dif_neg (fun hx => h hx.1), h2 h]
section
variable {G : World → Prop}
theorem Of_snd (base n : Int) : Snd Try.prog G 41 [tInt base, tInt n] (.tup [tInts (ofL base n), tErr (ofErr base n)]) := by
  refine ⟨enter_of Try.func41 rfl rfl, fun S w vs hG hs hr => ?_⟩
  obtain ⟨l⟩ := vs
  match l, hs with
  | [v0, v1], _ =>
    obtain rfl := intInv (hr 0 _ v0 rfl rfl)
    obtain rfl := intInv (hr 1 _ v1 rfl rfl)
    refine (Of_callsT base n w).mono ?_
    rintro e w' ⟨v, rfl, ⟨x, l, rfl, hl, hof, hno⟩, hb⟩
    refine ⟨_, rfl, ?_, hb⟩
    rw [ofL_eq hof hno]
    refine .tup _ _ rfl fun k z q a b => ?_
    match k, a, b with
    | 0, a, b => cases a; cases b; exact hl.mono fun b hb => .inr hb
    | 1, a, b =>
      cases a; cases b
      unfold tErr errV
      split
      · exact .nilI
      · exact .iface _ _ _ (.int _ _)
    | k + 2, a, b => cases a
end
end Go.Proofs.Ytfhncnhkeodngaa
