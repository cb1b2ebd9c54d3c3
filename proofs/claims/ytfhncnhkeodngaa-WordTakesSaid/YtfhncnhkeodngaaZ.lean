/- The law WordTakes returns true at every input and leaves its arguments as they read. No conditions. -/
import Derived.Test.YtfhncnhkeodngaaM5
set_option linter.unusedSimpArgs false
set_option linter.unusedVariables false
set_option linter.unnecessarySimpa false
set_option linter.unusedSectionVars false
namespace Go.Proofs.Ytfhncnhkeodngaa
open Go.RowKit

noncomputable def wordL (base : Int) (nums : List Int) : List Int := if wordErr base nums = 0 then wordRows (radix base) (longest (nums.map (ofL base))) (nums.map (ofL base)) else []
theorem wordErr_zero {base : Int} {nums : List Int} (h : wordErr base nums = 0) : manyErr base nums.length = 0 ∧ ∀ x ∈ nums, 0 ≤ x ∧ x ≤ 1099511627776 := by
  unfold wordErr at h
  split at h
  · omega
  · split at h
    · rename_i h1 h2
      exact ⟨by omega, fun x hx => by simpa [okNum] using List.all_eq_true.1 h2 x hx⟩
    · omega
theorem wordErr_ok {base : Int} {nums : List Int} (h1 : manyErr base nums.length = 0) (h2 : ∀ x ∈ nums, 0 ≤ x ∧ x ≤ 1099511627776) : wordErr base nums = 0 := by
  unfold wordErr
  rw [if_neg (by omega), if_pos]
  rw [List.all_eq_true]
  exact fun x hx => by simpa [okNum] using h2 x hx
theorem wordL_is (base : Int) (nums : List Int) : WordIs base nums (wordL base nums) := by
  refine ⟨fun h => by unfold wordL; rw [if_neg h], fun h => ?_⟩
  obtain ⟨h1, h2⟩ := wordErr_zero h
  refine ⟨nums.map (ofL base), ⟨by simp, fun i h3 h4 => ?_⟩, by unfold wordL; rw [if_pos h]⟩
  rw [List.getElem_map]
  exact ofL_is (ofErr_zero.2 ⟨(many_ok h1).1, h2 _ (List.getElem_mem h3)⟩)
theorem set_mid {α : Type} {A : List α} {k : Nat} {z y : α} {n : Nat} (h : A.length = n) : (A ++ List.replicate (k + 1) z).set n y = (A ++ [y]) ++ List.replicate k z := by
  subst h
  rw [List.set_append_right _ _ (Nat.le_refl _), Nat.sub_self, List.replicate_succ, List.set_cons_zero, List.append_assoc]
  rfl
section
variable {G : World → Prop} (hG : Lasting G)
include hG
set_option maxHeartbeats 8000000 in
set_option maxRecDepth 100000 in
theorem Word_snd (base : Int) (nums : List Int) : Snd Try.prog G 15 [tInt base, tInts nums] (.tup [tInts (wordL base nums), tErr (wordErr base nums)]) := by
  have c1 := Many_snd hG base nums.length
  refine snd_of_body (n := 94) (tm := [(0, .t (tInt base)), (1, .t (tInts nums))]) (rs := [.tmp 4, .tmp 5]) tt_ok Try.func15 rfl rfl rfl rfl rfl ?_
  have bad : ∀ e, wordErr base nums = e → e ≠ 0 → wordL base nums = [] := fun e h1 h2 => by unfold wordL; rw [if_neg (by omega)]
  by_cases h0 : manyErr base nums.length = 0
  · rw [h0] at c1
    obtain ⟨hr, ht0, ht5, _, _⟩ := many_ok h0
    have hr2 := radix_two hr
    have hofl : ∀ x, 0 ≤ x ∧ x ≤ 1099511627776 → IsOf base x (ofL base x) ∧ (ofL base x).length ≤ 58 := fun x hx => by
      have := ofL_is (ofErr_zero.2 ⟨hr, hx⟩)
      exact ⟨this, this.len hr hx.2⟩
    generalize manyOf base nums.length = mo at *
    have htb := Tab.cons c1 Tab.nil
    repeat' (first | (with_reducible first | refine SW_seq ?_ | refine SW_block ?_ | refine SThen_n ?_ | refine SThen_r ?_ | refine SThen_e ?_ | refine SIn_n ?_ | refine SIn_r ?_ | refine SIn_eq ?_ | refine SW_skip ?_ | refine SW_exit ?_ | refine SW_ret ?_ | refine SPost_r ?_) | ((with_reducible refine SIn_ne ?_ ?_); focus decide) | ((with_reducible refine SW_true ?_ ?_); focus exact rfl) | ((with_reducible refine SW_false ?_ ?_); focus exact rfl) | ((first | (with_reducible apply SW_run tt_ok hG htb) | ((with_reducible apply SW_draw rfl tt_ok hG htb); (focus kernel_rfl); (focus (simp only [List.range, List.range.loop, List.size_toArray, List.length_cons, List.length_nil, Nat.reduceAdd])))); focus ((repeat' (first | (with_reducible exact runX_nil) | (with_reducible exact runI_nil) | ((first | (with_reducible apply runX_cons) | (with_reducible apply runI_cons)); focus (simp (discharger := omega) only [go_sem, tErr, ↓reduceIte, reduceIte, Nat.reduceEqDiff, Nat.reduceLT, Nat.reduceLeDiff, Nat.reduceAdd, Nat.reduceSub, Nat.reduceMul, Nat.reduceDiv, Nat.reduceMod, Nat.reduceBEq, Int.reduceEq, Int.reduceLT, Int.reduceLE, Int.reduceNeg, Int.reduceToNat, reduceCtorEq]; with_reducible rfl)))); done)))
    clear htb c1
    refine SW_loop (fun mm s => ∃ (j : Nat) (rt : List T), mm = nums.length - j ∧ s = ⟨94, [(0, .t (tInt base)), (8, .t (tNat (longest ((nums.take j).map (ofL base))))), (9, .sref 0), (34, .t (tInts nums)), (35, .t (tInt nums.length)), (36, .t (tNat j))], [.row 24 1 true rt]⟩ ∧
        rt = ((nums.take j).map (ofL base)).map tInts ++ List.replicate (nums.length - j) (.list []) ∧ j ≤ nums.length ∧ (∀ x ∈ nums.take j, 0 ≤ x ∧ x ≤ 1099511627776)) (nums.length)
      ⟨_, Norm.headS (own := [(9, 24, 1, true)]) (keep := [0, 8, 9, 34, 35, 36]) (by simp (discharger := omega) only [go_sem, ↓reduceIte, reduceIte, Nat.reduceEqDiff, Nat.reduceLT, Nat.reduceLeDiff, Nat.reduceAdd, Nat.reduceSub, Nat.reduceMul, Nat.reduceDiv, Nat.reduceMod, Nat.reduceBEq, Int.reduceEq, Int.reduceLT, Int.reduceLE, Int.reduceNeg, Int.reduceToNat, reduceCtorEq]; with_reducible rfl) (by simp only [go_sem, ↓reduceIte, reduceIte, Nat.reduceEqDiff, Nat.reduceLT, Nat.reduceLeDiff, Nat.reduceAdd, Nat.reduceSub, Nat.reduceMul, Nat.reduceDiv, Nat.reduceMod, Nat.reduceBEq, Int.reduceEq, Int.reduceLT, Int.reduceLE, Int.reduceNeg, Int.reduceToNat, reduceCtorEq]; with_reducible rfl) (by simp only [go_sem, ↓reduceIte, reduceIte, Nat.reduceEqDiff, Nat.reduceLT, Nat.reduceLeDiff, Nat.reduceAdd, Nat.reduceSub, Nat.reduceMul, Nat.reduceDiv, Nat.reduceMod, Nat.reduceBEq, Int.reduceEq, Int.reduceLT, Int.reduceLE, Int.reduceNeg, Int.reduceToNat, reduceCtorEq]; with_reducible rfl) (by simp only [go_sem, ↓reduceIte, reduceIte, Nat.reduceEqDiff, Nat.reduceLT, Nat.reduceLeDiff, Nat.reduceAdd, Nat.reduceSub, Nat.reduceMul, Nat.reduceDiv, Nat.reduceMod, Nat.reduceBEq, Int.reduceEq, Int.reduceLT, Int.reduceLE, Int.reduceNeg, Int.reduceToNat, reduceCtorEq]; with_reducible rfl) (by simp only [go_sem, ↓reduceIte, reduceIte, Nat.reduceEqDiff, Nat.reduceLT, Nat.reduceLeDiff, Nat.reduceAdd, Nat.reduceSub, Nat.reduceMul, Nat.reduceDiv, Nat.reduceMod, Nat.reduceBEq, Int.reduceEq, Int.reduceLT, Int.reduceLE, Int.reduceNeg, Int.reduceToNat, reduceCtorEq]; with_reducible rfl), 0, _, rfl, rfl, by simp, Nat.zero_le _, fun x hx => by simp at hx⟩ ?_
    rintro mm s ⟨j, rt, rfl, rfl, hrt, hj, hA⟩
    have hL58 : longest ((nums.take j).map (ofL base)) ≤ 58 := by
      rcases longest_mem ((nums.take j).map (ofL base)) with h | ⟨d, hd, h⟩
      · omega
      · obtain ⟨x, hx, rfl⟩ := List.mem_map.1 hd
        rw [← h]; exact (hofl x (hA x hx)).2
    have hrl : rt.length = nums.length := by rw [hrt]; simp; omega
    by_cases hlt : j < nums.length
    · obtain ⟨x, hx⟩ : ∃ x, nums[j]! = x := ⟨_, rfl⟩
      have hat := bang_at hx hlt
      have cO := Of_snd (G := G) base x
      by_cases hx0 : 0 ≤ x ∧ x ≤ 1099511627776
      · rw [ofErr_zero.2 ⟨hr, hx0⟩] at cO
        have htk := take_next hx hlt
        obtain ⟨_, hd58⟩ := hofl x hx0
        have hlg : longest ((nums.take (j + 1)).map (ofL base)) = max (longest ((nums.take j).map (ofL base))) (ofL base x).length := by rw [htk, List.map_append]; exact longest_snoc _ _
        have hrt2 : rt.set j (.list ((ofL base x).map tInt)) = ((nums.take (j + 1)).map (ofL base)).map tInts ++ List.replicate (nums.length - (j + 1)) (.list []) := by
          obtain ⟨k, hk⟩ : ∃ k, nums.length - j = k + 1 := ⟨nums.length - j - 1, by omega⟩
          rw [hrt, hk, set_mid (by simp; omega), show nums.length - (j + 1) = k by omega, htk]
          simp [tInts]
        generalize hdE : ofL base x = d at *
        generalize hLE : longest ((nums.take j).map (ofL base)) = L at *
        have hmx : (if (d.length : Int) > (L : Int) then (d.length : Int) else (L : Int)) = ((max L d.length : Nat) : Int) := by split <;> omega
        have htb := Tab.cons cO Tab.nil
        repeat' (first | (with_reducible first | refine SW_seq ?_ | refine SW_block ?_ | refine SThen_n ?_ | refine SThen_r ?_ | refine SThen_e ?_ | refine SIn_n ?_ | refine SIn_r ?_ | refine SIn_eq ?_ | refine SW_skip ?_ | refine SW_exit ?_ | refine SW_ret ?_ | refine SPost_r ?_) | ((with_reducible refine SIn_ne ?_ ?_); focus decide) | ((with_reducible refine SW_true ?_ ?_); focus exact rfl) | ((with_reducible refine SW_false ?_ ?_); focus exact rfl) | ((first | (with_reducible apply SW_run tt_ok hG htb) | ((with_reducible apply SW_draw rfl tt_ok hG htb); (focus kernel_rfl); (focus (simp only [List.range, List.range.loop, List.size_toArray, List.length_cons, List.length_nil, Nat.reduceAdd])))); focus ((repeat' (first | (with_reducible exact runX_nil) | (with_reducible exact runI_nil) | ((first | (with_reducible apply runX_cons) | (with_reducible apply runI_cons)); focus (simp (discharger := omega) only [go_sem, tErr, hx, hmx, ↓reduceIte, reduceIte, Nat.reduceEqDiff, Nat.reduceLT, Nat.reduceLeDiff, Nat.reduceAdd, Nat.reduceSub, Nat.reduceMul, Nat.reduceDiv, Nat.reduceMod, Nat.reduceBEq, Int.reduceEq, Int.reduceLT, Int.reduceLE, Int.reduceNeg, Int.reduceToNat, reduceCtorEq]; with_reducible rfl)))); done)))
        exact ⟨nums.length - (j + 1), _, by omega, Norm.headS (own := [(9, 24, 1, true)]) (keep := [0, 8, 9, 34, 35, 36]) (by simp (discharger := omega) only [go_sem, ↓reduceIte, reduceIte, Nat.reduceEqDiff, Nat.reduceLT, Nat.reduceLeDiff, Nat.reduceAdd, Nat.reduceSub, Nat.reduceMul, Nat.reduceDiv, Nat.reduceMod, Nat.reduceBEq, Int.reduceEq, Int.reduceLT, Int.reduceLE, Int.reduceNeg, Int.reduceToNat, reduceCtorEq]; with_reducible rfl) (by simp only [go_sem, ↓reduceIte, reduceIte, Nat.reduceEqDiff, Nat.reduceLT, Nat.reduceLeDiff, Nat.reduceAdd, Nat.reduceSub, Nat.reduceMul, Nat.reduceDiv, Nat.reduceMod, Nat.reduceBEq, Int.reduceEq, Int.reduceLT, Int.reduceLE, Int.reduceNeg, Int.reduceToNat, reduceCtorEq]; with_reducible rfl) (by simp only [go_sem, ↓reduceIte, reduceIte, Nat.reduceEqDiff, Nat.reduceLT, Nat.reduceLeDiff, Nat.reduceAdd, Nat.reduceSub, Nat.reduceMul, Nat.reduceDiv, Nat.reduceMod, Nat.reduceBEq, Int.reduceEq, Int.reduceLT, Int.reduceLE, Int.reduceNeg, Int.reduceToNat, reduceCtorEq]; with_reducible rfl) (by simp only [go_sem, ↓reduceIte, reduceIte, Nat.reduceEqDiff, Nat.reduceLT, Nat.reduceLeDiff, Nat.reduceAdd, Nat.reduceSub, Nat.reduceMul, Nat.reduceDiv, Nat.reduceMod, Nat.reduceBEq, Int.reduceEq, Int.reduceLT, Int.reduceLE, Int.reduceNeg, Int.reduceToNat, reduceCtorEq]; with_reducible rfl) (by simp only [go_sem, ↓reduceIte, reduceIte, Nat.reduceEqDiff, Nat.reduceLT, Nat.reduceLeDiff, Nat.reduceAdd, Nat.reduceSub, Nat.reduceMul, Nat.reduceDiv, Nat.reduceMod, Nat.reduceBEq, Int.reduceEq, Int.reduceLT, Int.reduceLE, Int.reduceNeg, Int.reduceToNat, reduceCtorEq]; with_reducible rfl), j + 1, _, rfl, by rw [hlg]; rfl, hrt2, by omega, fun y hy => by
          rw [htk] at hy
          rcases List.mem_append.1 hy with h | h
          · exact hA y h
          · simp at h; subst h; exact hx0⟩
      · have e : ofErr base x = 1 := by unfold ofErr; rw [if_pos (by omega)]
        rw [e] at cO
        have he : wordErr base nums = 1 := by
          unfold wordErr
          rw [if_neg (by omega), if_neg]
          intro h
          have := List.all_eq_true.1 h x (by rw [← hat]; exact List.getElem_mem hlt)
          exact hx0 (by simpa [okNum] using this)
        rw [bad 1 he (by decide), he]
        generalize ofL base x = d at *
        generalize longest ((nums.take j).map (ofL base)) = L at *
        have htb := Tab.cons cO Tab.nil
        repeat' (first | (with_reducible first | refine SW_seq ?_ | refine SW_block ?_ | refine SThen_n ?_ | refine SThen_r ?_ | refine SThen_e ?_ | refine SIn_n ?_ | refine SIn_r ?_ | refine SIn_eq ?_ | refine SW_skip ?_ | refine SW_exit ?_ | refine SW_ret ?_ | refine SPost_r ?_) | ((with_reducible refine SIn_ne ?_ ?_); focus decide) | ((with_reducible refine SW_true ?_ ?_); focus exact rfl) | ((with_reducible refine SW_false ?_ ?_); focus exact rfl) | ((first | (with_reducible apply SW_run tt_ok hG htb) | ((with_reducible apply SW_draw rfl tt_ok hG htb); (focus kernel_rfl); (focus (simp only [List.range, List.range.loop, List.size_toArray, List.length_cons, List.length_nil, Nat.reduceAdd])))); focus ((repeat' (first | (with_reducible exact runX_nil) | (with_reducible exact runI_nil) | ((first | (with_reducible apply runX_cons) | (with_reducible apply runI_cons)); focus (simp (discharger := omega) only [go_sem, tErr, hx, ↓reduceIte, reduceIte, Nat.reduceEqDiff, Nat.reduceLT, Nat.reduceLeDiff, Nat.reduceAdd, Nat.reduceSub, Nat.reduceMul, Nat.reduceDiv, Nat.reduceMod, Nat.reduceBEq, Int.reduceEq, Int.reduceLT, Int.reduceLE, Int.reduceNeg, Int.reduceToNat, reduceCtorEq]; with_reducible rfl)))); done)))
        exact (by simp (discharger := omega) only [go_sem, tErr, ↓reduceIte, reduceIte, Nat.reduceEqDiff, Nat.reduceLT, Nat.reduceLeDiff, Nat.reduceAdd, Nat.reduceSub, Nat.reduceMul, Nat.reduceDiv, Nat.reduceMod, Nat.reduceBEq, Int.reduceEq, Int.reduceLT, Int.reduceLE, Int.reduceNeg, Int.reduceToNat, reduceCtorEq])
    · obtain rfl : j = nums.length := by omega
      rw [List.take_length, Nat.sub_self, List.replicate_zero, List.append_nil] at hrt
      rw [List.take_length] at hL58 hA ⊢
      subst hrt
      have he : wordErr base nums = 0 := by
        unfold wordErr
        rw [if_neg (by omega), if_pos]
        rw [List.all_eq_true]
        exact fun x hx => by simpa [okNum] using hA x hx
      have hw : wordL base nums = wordRows (radix base) (longest (nums.map (ofL base))) (nums.map (ofL base)) := by unfold wordL; rw [if_pos he]
      rw [he, hw]
      have hrok : ∀ d ∈ nums.map (ofL base), okDigits base d := fun d hd => by
        obtain ⟨x, hx, rfl⟩ := List.mem_map.1 hd
        exact (hofl x (hA x hx)).1.ok
      have hge := @longest_ge (nums.map (ofL base))
      have hrl2 : (nums.map (ofL base)).length = nums.length := by simp
      generalize hLE : longest (nums.map (ofL base)) = L at *
      generalize nums.map (ofL base) = rows at *
      have cR := Radix_snd hG base
      have htb := Tab.cons cR Tab.nil
      repeat' (first | (with_reducible first | refine SW_seq ?_ | refine SW_block ?_ | refine SThen_n ?_ | refine SThen_r ?_ | refine SThen_e ?_ | refine SIn_n ?_ | refine SIn_r ?_ | refine SIn_eq ?_ | refine SW_skip ?_ | refine SW_exit ?_ | refine SW_ret ?_ | refine SPost_r ?_) | ((with_reducible refine SIn_ne ?_ ?_); focus decide) | ((with_reducible refine SW_true ?_ ?_); focus exact rfl) | ((with_reducible refine SW_false ?_ ?_); focus exact rfl) | ((first | (with_reducible apply SW_run tt_ok hG htb) | ((with_reducible apply SW_draw rfl tt_ok hG htb); (focus kernel_rfl); (focus (simp only [List.range, List.range.loop, List.size_toArray, List.length_cons, List.length_nil, Nat.reduceAdd])))); focus ((repeat' (first | (with_reducible exact runX_nil) | (with_reducible exact runI_nil) | ((first | (with_reducible apply runX_cons) | (with_reducible apply runI_cons)); focus (simp (discharger := omega) only [go_sem, ↓reduceIte, reduceIte, Nat.reduceEqDiff, Nat.reduceLT, Nat.reduceLeDiff, Nat.reduceAdd, Nat.reduceSub, Nat.reduceMul, Nat.reduceDiv, Nat.reduceMod, Nat.reduceBEq, Int.reduceEq, Int.reduceLT, Int.reduceLE, Int.reduceNeg, Int.reduceToNat, reduceCtorEq]; with_reducible rfl)))); done)))
      refine SW_norm ((Norm.frzRow 0 rfl).trans (Norm.datum 9 0 rfl rfl)) ?_
      refine SW_loop (fun mm s => ∃ (a : Nat) (ot : List T), mm = L - a ∧ s = ⟨94, [(0, .t (tInt base)), (8, .t (tNat L)), (9, .t (tIntss rows)), (14, .sref 0), (59, .t (tNat L)), (60, .t (tNat a))], [.row 3 1 false ot]⟩ ∧
          ot = ((wordRows (radix base) L rows).take a).map tInt ∧ a ≤ L) L
        ⟨_, Norm.headS (own := [(14, 3, 1, false)]) (keep := [0, 8, 9, 14, 59, 60]) (by simp (discharger := omega) only [go_sem, ↓reduceIte, reduceIte, Nat.reduceEqDiff, Nat.reduceLT, Nat.reduceLeDiff, Nat.reduceAdd, Nat.reduceSub, Nat.reduceMul, Nat.reduceDiv, Nat.reduceMod, Nat.reduceBEq, Int.reduceEq, Int.reduceLT, Int.reduceLE, Int.reduceNeg, Int.reduceToNat, reduceCtorEq]; with_reducible rfl) (by simp only [go_sem, ↓reduceIte, reduceIte, Nat.reduceEqDiff, Nat.reduceLT, Nat.reduceLeDiff, Nat.reduceAdd, Nat.reduceSub, Nat.reduceMul, Nat.reduceDiv, Nat.reduceMod, Nat.reduceBEq, Int.reduceEq, Int.reduceLT, Int.reduceLE, Int.reduceNeg, Int.reduceToNat, reduceCtorEq]; with_reducible rfl) (by simp only [go_sem, ↓reduceIte, reduceIte, Nat.reduceEqDiff, Nat.reduceLT, Nat.reduceLeDiff, Nat.reduceAdd, Nat.reduceSub, Nat.reduceMul, Nat.reduceDiv, Nat.reduceMod, Nat.reduceBEq, Int.reduceEq, Int.reduceLT, Int.reduceLE, Int.reduceNeg, Int.reduceToNat, reduceCtorEq]; with_reducible rfl) (by simp only [go_sem, ↓reduceIte, reduceIte, Nat.reduceEqDiff, Nat.reduceLT, Nat.reduceLeDiff, Nat.reduceAdd, Nat.reduceSub, Nat.reduceMul, Nat.reduceDiv, Nat.reduceMod, Nat.reduceBEq, Int.reduceEq, Int.reduceLT, Int.reduceLE, Int.reduceNeg, Int.reduceToNat, reduceCtorEq]; with_reducible rfl) (by simp only [go_sem, ↓reduceIte, reduceIte, Nat.reduceEqDiff, Nat.reduceLT, Nat.reduceLeDiff, Nat.reduceAdd, Nat.reduceSub, Nat.reduceMul, Nat.reduceDiv, Nat.reduceMod, Nat.reduceBEq, Int.reduceEq, Int.reduceLT, Int.reduceLE, Int.reduceNeg, Int.reduceToNat, reduceCtorEq]; with_reducible rfl), 0, _, rfl, rfl, by simp, Nat.zero_le _⟩ ?_
      rintro mm s ⟨a, ot, rfl, rfl, hot, ha⟩
      have hwl : (wordRows (radix base) L rows).length = L := by simp [wordRows]
      have hotl : ot.length = a := by rw [hot]; simp; omega
      by_cases hlt2 : a < L
      · repeat' (first | (with_reducible first | refine SW_seq ?_ | refine SW_block ?_ | refine SThen_n ?_ | refine SThen_r ?_ | refine SThen_e ?_ | refine SIn_n ?_ | refine SIn_r ?_ | refine SIn_eq ?_ | refine SW_skip ?_ | refine SW_exit ?_ | refine SW_ret ?_ | refine SPost_r ?_) | ((with_reducible refine SIn_ne ?_ ?_); focus decide) | ((with_reducible refine SW_true ?_ ?_); focus exact rfl) | ((with_reducible refine SW_false ?_ ?_); focus exact rfl) | ((first | (with_reducible apply SW_run tt_ok hG htb) | ((with_reducible apply SW_draw rfl tt_ok hG htb); (focus kernel_rfl); (focus (simp only [List.range, List.range.loop, List.size_toArray, List.length_cons, List.length_nil, Nat.reduceAdd])))); focus ((repeat' (first | (with_reducible exact runX_nil) | (with_reducible exact runI_nil) | ((first | (with_reducible apply runX_cons) | (with_reducible apply runI_cons)); focus (simp (discharger := omega) only [go_sem, ↓reduceIte, reduceIte, Nat.reduceEqDiff, Nat.reduceLT, Nat.reduceLeDiff, Nat.reduceAdd, Nat.reduceSub, Nat.reduceMul, Nat.reduceDiv, Nat.reduceMod, Nat.reduceBEq, Int.reduceEq, Int.reduceLT, Int.reduceLE, Int.reduceNeg, Int.reduceToNat, reduceCtorEq]; with_reducible rfl)))); done)))
        refine SW_loop (fun mm s => ∃ (i : Nat) (l : Int), mm = rows.length - i ∧ s = ⟨94, [(0, .t (tInt base)), (8, .t (tNat L)), (9, .t (tIntss rows)), (14, .sref 0), (15, .t (tNat a)), (16, .t (tInt l)), (59, .t (tNat L)), (60, .t (tNat a)), (63, .t (tIntss rows)), (64, .t (tInt rows.length)), (65, .t (tNat i))], [.row 3 1 false ot]⟩ ∧
            l = pack (radix base) ((column L rows a).take i) ∧ i ≤ rows.length) rows.length
          ⟨_, Norm.headS (own := [(14, 3, 1, false)]) (keep := [0, 8, 9, 14, 15, 16, 59, 60, 63, 64, 65]) (by simp (discharger := omega) only [go_sem, ↓reduceIte, reduceIte, Nat.reduceEqDiff, Nat.reduceLT, Nat.reduceLeDiff, Nat.reduceAdd, Nat.reduceSub, Nat.reduceMul, Nat.reduceDiv, Nat.reduceMod, Nat.reduceBEq, Int.reduceEq, Int.reduceLT, Int.reduceLE, Int.reduceNeg, Int.reduceToNat, reduceCtorEq]; with_reducible rfl) (by simp only [go_sem, ↓reduceIte, reduceIte, Nat.reduceEqDiff, Nat.reduceLT, Nat.reduceLeDiff, Nat.reduceAdd, Nat.reduceSub, Nat.reduceMul, Nat.reduceDiv, Nat.reduceMod, Nat.reduceBEq, Int.reduceEq, Int.reduceLT, Int.reduceLE, Int.reduceNeg, Int.reduceToNat, reduceCtorEq]; with_reducible rfl) (by simp only [go_sem, ↓reduceIte, reduceIte, Nat.reduceEqDiff, Nat.reduceLT, Nat.reduceLeDiff, Nat.reduceAdd, Nat.reduceSub, Nat.reduceMul, Nat.reduceDiv, Nat.reduceMod, Nat.reduceBEq, Int.reduceEq, Int.reduceLT, Int.reduceLE, Int.reduceNeg, Int.reduceToNat, reduceCtorEq]; with_reducible rfl) (by simp only [go_sem, ↓reduceIte, reduceIte, Nat.reduceEqDiff, Nat.reduceLT, Nat.reduceLeDiff, Nat.reduceAdd, Nat.reduceSub, Nat.reduceMul, Nat.reduceDiv, Nat.reduceMod, Nat.reduceBEq, Int.reduceEq, Int.reduceLT, Int.reduceLE, Int.reduceNeg, Int.reduceToNat, reduceCtorEq]; with_reducible rfl) (by simp only [go_sem, ↓reduceIte, reduceIte, Nat.reduceEqDiff, Nat.reduceLT, Nat.reduceLeDiff, Nat.reduceAdd, Nat.reduceSub, Nat.reduceMul, Nat.reduceDiv, Nat.reduceMod, Nat.reduceBEq, Int.reduceEq, Int.reduceLT, Int.reduceLE, Int.reduceNeg, Int.reduceToNat, reduceCtorEq]; with_reducible rfl), 0, _, rfl, rfl, by simp [pack], Nat.zero_le _⟩ ?_
        rintro mm s ⟨i, l, rfl, rfl, hl, hi⟩
        have hcl : (column L rows a).length = rows.length := by simp [column]
        have hcok := column_ok hr (long := L) hrok a
        have hlb := pack_bd hr2.1 ((column L rows a).take i) fun x hx => hcok x (List.mem_of_mem_take hx)
        have hp5 := (powW_bd hr2.1 hr2.2 (j := ((column L rows a).take i).length) (by simp; omega)).2
        rw [← hl] at hlb
        have hlb2 : 0 ≤ l ∧ l < 7776 := by omega
        clear hlb hp5
        by_cases hlt3 : i < rows.length
        · obtain ⟨d, hd⟩ : ∃ d, rows[i]! = d := ⟨_, rfl⟩
          have hdm := bang_mem hd hlt3
          have hdL := hge hdm
          have hdok := hrok d hdm
          have hpa := pad_at L d a hdL hlt2
          obtain ⟨x, hx⟩ : ∃ x, (pad L d).getD a 0 = x := ⟨_, rfl⟩
          rw [hx] at hpa
          have hcx : (column L rows a)[i]! = x := by
            rw [getElem!_pos _ i (by omega)]
            simp only [column, List.getElem_map]
            rw [bang_at hd hlt3, hx]
          have hxb := hcok x (bang_mem hcx (by omega))
          have hnx : pack (radix base) ((column L rows a).take (i + 1)) = l * radix base + x := by rw [take_next hcx (by omega), pack_snoc, ← hl]
          have hlm : 0 ≤ l * radix base ∧ l * radix base ≤ 46656 := by
            have m1 : l * radix base ≤ l * 6 := Int.mul_le_mul_of_nonneg_left hr2.2 (by omega)
            have m2 : 0 ≤ l * radix base := Int.mul_nonneg (by omega) (by omega)
            omega
          repeat' (first | (with_reducible first | refine SW_seq ?_ | refine SW_block ?_ | refine SThen_n ?_ | refine SThen_r ?_ | refine SThen_e ?_ | refine SIn_n ?_ | refine SIn_r ?_ | refine SIn_eq ?_ | refine SW_skip ?_ | refine SW_exit ?_ | refine SW_ret ?_ | refine SPost_r ?_) | ((with_reducible refine SIn_ne ?_ ?_); focus decide) | ((with_reducible refine SW_true ?_ ?_); focus exact rfl) | ((with_reducible refine SW_false ?_ ?_); focus exact rfl) | ((first | (with_reducible apply SW_run tt_ok hG htb) | ((with_reducible apply SW_draw rfl tt_ok hG htb); (focus kernel_rfl); (focus (simp only [List.range, List.range.loop, List.size_toArray, List.length_cons, List.length_nil, Nat.reduceAdd])))); focus ((repeat' (first | (with_reducible exact runX_nil) | (with_reducible exact runI_nil) | ((first | (with_reducible apply runX_cons) | (with_reducible apply runI_cons)); focus (simp (discharger := omega) only [go_sem, hd, ↓reduceIte, reduceIte, Nat.reduceEqDiff, Nat.reduceLT, Nat.reduceLeDiff, Nat.reduceAdd, Nat.reduceSub, Nat.reduceMul, Nat.reduceDiv, Nat.reduceMod, Nat.reduceBEq, Int.reduceEq, Int.reduceLT, Int.reduceLE, Int.reduceNeg, Int.reduceToNat, reduceCtorEq]; with_reducible rfl)))); done)))
          refine SW_meetG ⟨94, [(0, .t (tInt base)), (8, .t (tNat L)), (9, .t (tIntss rows)), (14, .sref 0), (15, .t (tNat a)), (16, .t (tInt l)), (19, .t (tInt x)), (59, .t (tNat L)), (60, .t (tNat a)), (63, .t (tIntss rows)), (64, .t (tInt rows.length)), (65, .t (tNat i))], [.row 3 1 false ot]⟩ Weak.sw (SW_if rfl (fun hp => ?_) (fun hp => ?_)) ?_
          · rw [dif_pos (by omega)] at hpa
            have hxk : d[a + d.length - L]! = x := by rw [getElem!_pos d _ (by omega), hpa]
            have hxe : (a : Int) - ((L : Int) - (d.length : Int)) = ((a + d.length - L : Nat) : Int) := by omega
            have hxe2 : a + d.length - L < d.length := by omega
            clear hpa
            generalize a + d.length - L = kk at *
            repeat' (first | (with_reducible first | refine SW_seq ?_ | refine SW_block ?_ | refine SThen_n ?_ | refine SThen_r ?_ | refine SThen_e ?_ | refine SIn_n ?_ | refine SIn_r ?_ | refine SIn_eq ?_ | refine SW_skip ?_ | refine SW_exit ?_ | refine SW_ret ?_ | refine SPost_r ?_) | ((with_reducible refine SIn_ne ?_ ?_); focus decide) | ((with_reducible refine SW_true ?_ ?_); focus exact rfl) | ((with_reducible refine SW_false ?_ ?_); focus exact rfl) | ((first | (with_reducible apply SW_run tt_ok hG htb) | ((with_reducible apply SW_draw rfl tt_ok hG htb); (focus kernel_rfl); (focus (simp only [List.range, List.range.loop, List.size_toArray, List.length_cons, List.length_nil, Nat.reduceAdd])))); focus ((repeat' (first | (with_reducible exact runX_nil) | (with_reducible exact runI_nil) | ((first | (with_reducible apply runX_cons) | (with_reducible apply runI_cons)); focus (simp (discharger := omega) only [go_sem, hd, hxe, hxk, ↓reduceIte, reduceIte, Nat.reduceEqDiff, Nat.reduceLT, Nat.reduceLeDiff, Nat.reduceAdd, Nat.reduceSub, Nat.reduceMul, Nat.reduceDiv, Nat.reduceMod, Nat.reduceBEq, Int.reduceEq, Int.reduceLT, Int.reduceLE, Int.reduceNeg, Int.reduceToNat, reduceCtorEq]; with_reducible rfl)))); done)))
            exact Meet.h ⟨_, Norm.headS (own := [(14, 3, 1, false)]) (keep := [0, 8, 9, 14, 15, 16, 19, 59, 60, 63, 64, 65]) (by simp (discharger := omega) only [go_sem, ↓reduceIte, reduceIte, Nat.reduceEqDiff, Nat.reduceLT, Nat.reduceLeDiff, Nat.reduceAdd, Nat.reduceSub, Nat.reduceMul, Nat.reduceDiv, Nat.reduceMod, Nat.reduceBEq, Int.reduceEq, Int.reduceLT, Int.reduceLE, Int.reduceNeg, Int.reduceToNat, reduceCtorEq]; with_reducible rfl) (by simp only [go_sem, ↓reduceIte, reduceIte, Nat.reduceEqDiff, Nat.reduceLT, Nat.reduceLeDiff, Nat.reduceAdd, Nat.reduceSub, Nat.reduceMul, Nat.reduceDiv, Nat.reduceMod, Nat.reduceBEq, Int.reduceEq, Int.reduceLT, Int.reduceLE, Int.reduceNeg, Int.reduceToNat, reduceCtorEq]; with_reducible rfl) (by simp only [go_sem, ↓reduceIte, reduceIte, Nat.reduceEqDiff, Nat.reduceLT, Nat.reduceLeDiff, Nat.reduceAdd, Nat.reduceSub, Nat.reduceMul, Nat.reduceDiv, Nat.reduceMod, Nat.reduceBEq, Int.reduceEq, Int.reduceLT, Int.reduceLE, Int.reduceNeg, Int.reduceToNat, reduceCtorEq]; with_reducible rfl) (by simp only [go_sem, ↓reduceIte, reduceIte, Nat.reduceEqDiff, Nat.reduceLT, Nat.reduceLeDiff, Nat.reduceAdd, Nat.reduceSub, Nat.reduceMul, Nat.reduceDiv, Nat.reduceMod, Nat.reduceBEq, Int.reduceEq, Int.reduceLT, Int.reduceLE, Int.reduceNeg, Int.reduceToNat, reduceCtorEq]; with_reducible rfl) (by simp only [go_sem, ↓reduceIte, reduceIte, Nat.reduceEqDiff, Nat.reduceLT, Nat.reduceLeDiff, Nat.reduceAdd, Nat.reduceSub, Nat.reduceMul, Nat.reduceDiv, Nat.reduceMod, Nat.reduceBEq, Int.reduceEq, Int.reduceLT, Int.reduceLE, Int.reduceNeg, Int.reduceToNat, reduceCtorEq]; with_reducible rfl), rfl⟩
          · rw [dif_neg (by omega)] at hpa
            subst hpa
            repeat' (first | (with_reducible first | refine SW_seq ?_ | refine SW_block ?_ | refine SThen_n ?_ | refine SThen_r ?_ | refine SThen_e ?_ | refine SIn_n ?_ | refine SIn_r ?_ | refine SIn_eq ?_ | refine SW_skip ?_ | refine SW_exit ?_ | refine SW_ret ?_ | refine SPost_r ?_) | ((with_reducible refine SIn_ne ?_ ?_); focus decide) | ((with_reducible refine SW_true ?_ ?_); focus exact rfl) | ((with_reducible refine SW_false ?_ ?_); focus exact rfl) | ((first | (with_reducible apply SW_run tt_ok hG htb) | ((with_reducible apply SW_draw rfl tt_ok hG htb); (focus kernel_rfl); (focus (simp only [List.range, List.range.loop, List.size_toArray, List.length_cons, List.length_nil, Nat.reduceAdd])))); focus ((repeat' (first | (with_reducible exact runX_nil) | (with_reducible exact runI_nil) | ((first | (with_reducible apply runX_cons) | (with_reducible apply runI_cons)); focus (simp (discharger := omega) only [go_sem, hd, ↓reduceIte, reduceIte, Nat.reduceEqDiff, Nat.reduceLT, Nat.reduceLeDiff, Nat.reduceAdd, Nat.reduceSub, Nat.reduceMul, Nat.reduceDiv, Nat.reduceMod, Nat.reduceBEq, Int.reduceEq, Int.reduceLT, Int.reduceLE, Int.reduceNeg, Int.reduceToNat, reduceCtorEq]; with_reducible rfl)))); done)))
            exact Meet.h ⟨_, Norm.headS (own := [(14, 3, 1, false)]) (keep := [0, 8, 9, 14, 15, 16, 19, 59, 60, 63, 64, 65]) (by simp (discharger := omega) only [go_sem, ↓reduceIte, reduceIte, Nat.reduceEqDiff, Nat.reduceLT, Nat.reduceLeDiff, Nat.reduceAdd, Nat.reduceSub, Nat.reduceMul, Nat.reduceDiv, Nat.reduceMod, Nat.reduceBEq, Int.reduceEq, Int.reduceLT, Int.reduceLE, Int.reduceNeg, Int.reduceToNat, reduceCtorEq]; with_reducible rfl) (by simp only [go_sem, ↓reduceIte, reduceIte, Nat.reduceEqDiff, Nat.reduceLT, Nat.reduceLeDiff, Nat.reduceAdd, Nat.reduceSub, Nat.reduceMul, Nat.reduceDiv, Nat.reduceMod, Nat.reduceBEq, Int.reduceEq, Int.reduceLT, Int.reduceLE, Int.reduceNeg, Int.reduceToNat, reduceCtorEq]; with_reducible rfl) (by simp only [go_sem, ↓reduceIte, reduceIte, Nat.reduceEqDiff, Nat.reduceLT, Nat.reduceLeDiff, Nat.reduceAdd, Nat.reduceSub, Nat.reduceMul, Nat.reduceDiv, Nat.reduceMod, Nat.reduceBEq, Int.reduceEq, Int.reduceLT, Int.reduceLE, Int.reduceNeg, Int.reduceToNat, reduceCtorEq]; with_reducible rfl) (by simp only [go_sem, ↓reduceIte, reduceIte, Nat.reduceEqDiff, Nat.reduceLT, Nat.reduceLeDiff, Nat.reduceAdd, Nat.reduceSub, Nat.reduceMul, Nat.reduceDiv, Nat.reduceMod, Nat.reduceBEq, Int.reduceEq, Int.reduceLT, Int.reduceLE, Int.reduceNeg, Int.reduceToNat, reduceCtorEq]; with_reducible rfl) (by simp only [go_sem, ↓reduceIte, reduceIte, Nat.reduceEqDiff, Nat.reduceLT, Nat.reduceLeDiff, Nat.reduceAdd, Nat.reduceSub, Nat.reduceMul, Nat.reduceDiv, Nat.reduceMod, Nat.reduceBEq, Int.reduceEq, Int.reduceLT, Int.reduceLE, Int.reduceNeg, Int.reduceToNat, reduceCtorEq]; with_reducible rfl), rfl⟩
          · repeat' (first | (with_reducible first | refine SW_seq ?_ | refine SW_block ?_ | refine SThen_n ?_ | refine SThen_r ?_ | refine SThen_e ?_ | refine SIn_n ?_ | refine SIn_r ?_ | refine SIn_eq ?_ | refine SW_skip ?_ | refine SW_exit ?_ | refine SW_ret ?_ | refine SPost_r ?_) | ((with_reducible refine SIn_ne ?_ ?_); focus decide) | ((with_reducible refine SW_true ?_ ?_); focus exact rfl) | ((with_reducible refine SW_false ?_ ?_); focus exact rfl) | ((first | (with_reducible apply SW_run tt_ok hG htb) | ((with_reducible apply SW_draw rfl tt_ok hG htb); (focus kernel_rfl); (focus (simp only [List.range, List.range.loop, List.size_toArray, List.length_cons, List.length_nil, Nat.reduceAdd])))); focus ((repeat' (first | (with_reducible exact runX_nil) | (with_reducible exact runI_nil) | ((first | (with_reducible apply runX_cons) | (with_reducible apply runI_cons)); focus (simp (discharger := omega) only [go_sem, ↓reduceIte, reduceIte, Nat.reduceEqDiff, Nat.reduceLT, Nat.reduceLeDiff, Nat.reduceAdd, Nat.reduceSub, Nat.reduceMul, Nat.reduceDiv, Nat.reduceMod, Nat.reduceBEq, Int.reduceEq, Int.reduceLT, Int.reduceLE, Int.reduceNeg, Int.reduceToNat, reduceCtorEq]; with_reducible rfl)))); done)))
            exact ⟨rows.length - (i + 1), _, by omega, Norm.headS (own := [(14, 3, 1, false)]) (keep := [0, 8, 9, 14, 15, 16, 59, 60, 63, 64, 65]) (by simp (discharger := omega) only [go_sem, ↓reduceIte, reduceIte, Nat.reduceEqDiff, Nat.reduceLT, Nat.reduceLeDiff, Nat.reduceAdd, Nat.reduceSub, Nat.reduceMul, Nat.reduceDiv, Nat.reduceMod, Nat.reduceBEq, Int.reduceEq, Int.reduceLT, Int.reduceLE, Int.reduceNeg, Int.reduceToNat, reduceCtorEq]; with_reducible rfl) (by simp only [go_sem, ↓reduceIte, reduceIte, Nat.reduceEqDiff, Nat.reduceLT, Nat.reduceLeDiff, Nat.reduceAdd, Nat.reduceSub, Nat.reduceMul, Nat.reduceDiv, Nat.reduceMod, Nat.reduceBEq, Int.reduceEq, Int.reduceLT, Int.reduceLE, Int.reduceNeg, Int.reduceToNat, reduceCtorEq]; with_reducible rfl) (by simp only [go_sem, ↓reduceIte, reduceIte, Nat.reduceEqDiff, Nat.reduceLT, Nat.reduceLeDiff, Nat.reduceAdd, Nat.reduceSub, Nat.reduceMul, Nat.reduceDiv, Nat.reduceMod, Nat.reduceBEq, Int.reduceEq, Int.reduceLT, Int.reduceLE, Int.reduceNeg, Int.reduceToNat, reduceCtorEq]; with_reducible rfl) (by simp only [go_sem, ↓reduceIte, reduceIte, Nat.reduceEqDiff, Nat.reduceLT, Nat.reduceLeDiff, Nat.reduceAdd, Nat.reduceSub, Nat.reduceMul, Nat.reduceDiv, Nat.reduceMod, Nat.reduceBEq, Int.reduceEq, Int.reduceLT, Int.reduceLE, Int.reduceNeg, Int.reduceToNat, reduceCtorEq]; with_reducible rfl) (by simp only [go_sem, ↓reduceIte, reduceIte, Nat.reduceEqDiff, Nat.reduceLT, Nat.reduceLeDiff, Nat.reduceAdd, Nat.reduceSub, Nat.reduceMul, Nat.reduceDiv, Nat.reduceMod, Nat.reduceBEq, Int.reduceEq, Int.reduceLT, Int.reduceLE, Int.reduceNeg, Int.reduceToNat, reduceCtorEq]; with_reducible rfl), i + 1, _, rfl, rfl, hnx.symm, by omega⟩
        · obtain rfl : i = rows.length := by omega
          rw [List.take_of_length_le (by omega)] at hl
          have hwa : (wordRows (radix base) L rows)[a]! = l := by
            rw [getElem!_pos _ a (by omega), hl]
            simp [wordRows]
          have htk := take_next hwa (by omega)
          repeat' (first | (with_reducible first | refine SW_seq ?_ | refine SW_block ?_ | refine SThen_n ?_ | refine SThen_r ?_ | refine SThen_e ?_ | refine SIn_n ?_ | refine SIn_r ?_ | refine SIn_eq ?_ | refine SW_skip ?_ | refine SW_exit ?_ | refine SW_ret ?_ | refine SPost_r ?_) | ((with_reducible refine SIn_ne ?_ ?_); focus decide) | ((with_reducible refine SW_true ?_ ?_); focus exact rfl) | ((with_reducible refine SW_false ?_ ?_); focus exact rfl) | ((first | (with_reducible apply SW_run tt_ok hG htb) | ((with_reducible apply SW_draw rfl tt_ok hG htb); (focus kernel_rfl); (focus (simp only [List.range, List.range.loop, List.size_toArray, List.length_cons, List.length_nil, Nat.reduceAdd])))); focus ((repeat' (first | (with_reducible exact runX_nil) | (with_reducible exact runI_nil) | ((first | (with_reducible apply runX_cons) | (with_reducible apply runI_cons)); focus (simp (discharger := omega) only [go_sem, ↓reduceIte, reduceIte, Nat.reduceEqDiff, Nat.reduceLT, Nat.reduceLeDiff, Nat.reduceAdd, Nat.reduceSub, Nat.reduceMul, Nat.reduceDiv, Nat.reduceMod, Nat.reduceBEq, Int.reduceEq, Int.reduceLT, Int.reduceLE, Int.reduceNeg, Int.reduceToNat, reduceCtorEq]; with_reducible rfl)))); done)))
          exact ⟨L - (a + 1), _, by omega, Norm.headS (own := [(14, 3, 1, false)]) (keep := [0, 8, 9, 14, 59, 60]) (by simp (discharger := omega) only [go_sem, ↓reduceIte, reduceIte, Nat.reduceEqDiff, Nat.reduceLT, Nat.reduceLeDiff, Nat.reduceAdd, Nat.reduceSub, Nat.reduceMul, Nat.reduceDiv, Nat.reduceMod, Nat.reduceBEq, Int.reduceEq, Int.reduceLT, Int.reduceLE, Int.reduceNeg, Int.reduceToNat, reduceCtorEq]; with_reducible rfl) (by simp only [go_sem, ↓reduceIte, reduceIte, Nat.reduceEqDiff, Nat.reduceLT, Nat.reduceLeDiff, Nat.reduceAdd, Nat.reduceSub, Nat.reduceMul, Nat.reduceDiv, Nat.reduceMod, Nat.reduceBEq, Int.reduceEq, Int.reduceLT, Int.reduceLE, Int.reduceNeg, Int.reduceToNat, reduceCtorEq]; with_reducible rfl) (by simp only [go_sem, ↓reduceIte, reduceIte, Nat.reduceEqDiff, Nat.reduceLT, Nat.reduceLeDiff, Nat.reduceAdd, Nat.reduceSub, Nat.reduceMul, Nat.reduceDiv, Nat.reduceMod, Nat.reduceBEq, Int.reduceEq, Int.reduceLT, Int.reduceLE, Int.reduceNeg, Int.reduceToNat, reduceCtorEq]; with_reducible rfl) (by simp only [go_sem, ↓reduceIte, reduceIte, Nat.reduceEqDiff, Nat.reduceLT, Nat.reduceLeDiff, Nat.reduceAdd, Nat.reduceSub, Nat.reduceMul, Nat.reduceDiv, Nat.reduceMod, Nat.reduceBEq, Int.reduceEq, Int.reduceLT, Int.reduceLE, Int.reduceNeg, Int.reduceToNat, reduceCtorEq]; with_reducible rfl) (by simp only [go_sem, ↓reduceIte, reduceIte, Nat.reduceEqDiff, Nat.reduceLT, Nat.reduceLeDiff, Nat.reduceAdd, Nat.reduceSub, Nat.reduceMul, Nat.reduceDiv, Nat.reduceMod, Nat.reduceBEq, Int.reduceEq, Int.reduceLT, Int.reduceLE, Int.reduceNeg, Int.reduceToNat, reduceCtorEq]; with_reducible rfl), a + 1, _, rfl, rfl, by rw [htk, List.map_append, hot]; rfl, by omega⟩
      · obtain rfl : a = L := by omega
        rw [List.take_of_length_le (by omega)] at hot
        generalize wordRows (radix base) a rows = wd at *
        subst hot
        repeat' (first | (with_reducible first | refine SW_seq ?_ | refine SW_block ?_ | refine SThen_n ?_ | refine SThen_r ?_ | refine SThen_e ?_ | refine SIn_n ?_ | refine SIn_r ?_ | refine SIn_eq ?_ | refine SW_skip ?_ | refine SW_exit ?_ | refine SW_ret ?_ | refine SPost_r ?_) | ((with_reducible refine SIn_ne ?_ ?_); focus decide) | ((with_reducible refine SW_true ?_ ?_); focus exact rfl) | ((with_reducible refine SW_false ?_ ?_); focus exact rfl) | ((first | (with_reducible apply SW_run tt_ok hG htb) | ((with_reducible apply SW_draw rfl tt_ok hG htb); (focus kernel_rfl); (focus (simp only [List.range, List.range.loop, List.size_toArray, List.length_cons, List.length_nil, Nat.reduceAdd])))); focus ((repeat' (first | (with_reducible exact runX_nil) | (with_reducible exact runI_nil) | ((first | (with_reducible apply runX_cons) | (with_reducible apply runI_cons)); focus (simp (discharger := omega) only [go_sem, ↓reduceIte, reduceIte, Nat.reduceEqDiff, Nat.reduceLT, Nat.reduceLeDiff, Nat.reduceAdd, Nat.reduceSub, Nat.reduceMul, Nat.reduceDiv, Nat.reduceMod, Nat.reduceBEq, Int.reduceEq, Int.reduceLT, Int.reduceLE, Int.reduceNeg, Int.reduceToNat, reduceCtorEq]; with_reducible rfl)))); done)))
        exact (by simp (discharger := omega) only [go_sem, tErr, ↓reduceIte, reduceIte, Nat.reduceEqDiff, Nat.reduceLT, Nat.reduceLeDiff, Nat.reduceAdd, Nat.reduceSub, Nat.reduceMul, Nat.reduceDiv, Nat.reduceMod, Nat.reduceBEq, Int.reduceEq, Int.reduceLT, Int.reduceLE, Int.reduceNeg, Int.reduceToNat, reduceCtorEq])
  · have he : wordErr base nums = manyErr base nums.length := by unfold wordErr; rw [if_pos h0]
    rw [bad _ he h0, he]
    generalize manyErr base nums.length = f at *
    generalize manyOf base nums.length = mo at *
    have htb := Tab.cons c1 Tab.nil
    repeat' (first | (with_reducible first | refine SW_seq ?_ | refine SW_block ?_ | refine SThen_n ?_ | refine SThen_r ?_ | refine SThen_e ?_ | refine SIn_n ?_ | refine SIn_r ?_ | refine SIn_eq ?_ | refine SW_skip ?_ | refine SW_exit ?_ | refine SW_ret ?_ | refine SPost_r ?_) | ((with_reducible refine SIn_ne ?_ ?_); focus decide) | ((with_reducible refine SW_true ?_ ?_); focus exact rfl) | ((with_reducible refine SW_false ?_ ?_); focus exact rfl) | ((first | (with_reducible apply SW_run tt_ok hG htb) | ((with_reducible apply SW_draw rfl tt_ok hG htb); (focus kernel_rfl); (focus (simp only [List.range, List.range.loop, List.size_toArray, List.length_cons, List.length_nil, Nat.reduceAdd])))); focus ((repeat' (first | (with_reducible exact runX_nil) | (with_reducible exact runI_nil) | ((first | (with_reducible apply runX_cons) | (with_reducible apply runI_cons)); focus (simp (discharger := omega) only [go_sem, tErr, h0, ↓reduceIte, reduceIte, Nat.reduceEqDiff, Nat.reduceLT, Nat.reduceLeDiff, Nat.reduceAdd, Nat.reduceSub, Nat.reduceMul, Nat.reduceDiv, Nat.reduceMod, Nat.reduceBEq, Int.reduceEq, Int.reduceLT, Int.reduceLE, Int.reduceNeg, Int.reduceToNat, reduceCtorEq]; with_reducible rfl)))); done)))
    exact (by simp (discharger := omega) only [go_sem, tErr, h0, ↓reduceIte, reduceIte, Nat.reduceEqDiff, Nat.reduceLT, Nat.reduceLeDiff, Nat.reduceAdd, Nat.reduceSub, Nat.reduceMul, Nat.reduceDiv, Nat.reduceMod, Nat.reduceBEq, Int.reduceEq, Int.reduceLT, Int.reduceLE, Int.reduceNeg, Int.reduceToNat, reduceCtorEq])
end
end Go.Proofs.Ytfhncnhkeodngaa
namespace Go.Proofs.Ytfhncnhkeodngaa

/-- What was read so far counts at, and what it would count a place lower (of Fib); behind one more letter. -/
def lnStep (base : Int) (p : Int × Int) (e : Int) : Int × Int := if base = 1 then (p.1 + p.2 + e, p.1 + e) else (p.1 * base + e, 0)
def lnCap (far : Int) (q : Int × Int) : Int × Int := if far < q.1 then (far + 1, 0) else if q.1 < -far then (-far - 1, 0) else q
def lnCut (far base : Int) (p : Int × Int) (e : Int) : Int × Int := if p = (far + 1, 0) ∨ p = (-far - 1, 0) then p else lnCap far (lnStep base p e)
def lnEnd (less : Bool) (c : Int) (p : Int × Int) : Bool := if less then decide (p.1 + c < 0) else decide (p.1 + c = 0)

/-- Sums over places. -/
def dotN (coefs : List Int) (f : Nat → Int) : Nat → Int
  | 0 => 0
  | i + 1 => dotN coefs f i + coefs.getD i 0 * f i
def posN (coefs : List Int) : Nat → Int := dotN (coefs.map fun c => max c 0) fun _ => 1
def negN (coefs : List Int) : Nat → Int := dotN (coefs.map fun c => max (-c) 0) fun _ => 1
def absN (coefs : List Int) : Nat → Int := dotN (coefs.map fun c => max c (-c)) fun _ => 1
theorem getD_map0 (f : Int → Int) (h0 : f 0 = 0) (l : List Int) (i : Nat) : (l.map f).getD i 0 = f (l.getD i 0) := by
  rw [List.getD_eq_getElem?_getD, List.getElem?_map, List.getD_eq_getElem?_getD]
  cases l[i]? with
  | none => exact h0.symm
  | some x => rfl
theorem posN_succ (coefs : List Int) (i : Nat) : posN coefs (i + 1) = posN coefs i + max (coefs.getD i 0) 0 := by
  show posN coefs i + (coefs.map fun c => max c 0).getD i 0 * 1 = _
  rw [getD_map0 (fun c => max c 0) (by decide), Int.mul_one]
theorem negN_succ (coefs : List Int) (i : Nat) : negN coefs (i + 1) = negN coefs i + max (-(coefs.getD i 0)) 0 := by
  show negN coefs i + (coefs.map fun c => max (-c) 0).getD i 0 * 1 = _
  rw [getD_map0 (fun c => max (-c) 0) (by decide), Int.mul_one]
theorem absN_succ (coefs : List Int) (i : Nat) : absN coefs (i + 1) = absN coefs i + max (coefs.getD i 0) (-(coefs.getD i 0)) := by
  show absN coefs i + (coefs.map fun c => max c (-c)).getD i 0 * 1 = _
  rw [getD_map0 (fun c => max c (-c)) (by decide), Int.mul_one]
theorem posneg (coefs : List Int) : ∀ i, posN coefs i + negN coefs i = absN coefs i ∧ 0 ≤ posN coefs i ∧ 0 ≤ negN coefs i
  | 0 => ⟨rfl, Int.le_refl _, Int.le_refl _⟩
  | i + 1 => by
    have := posneg coefs i
    rw [posN_succ, negN_succ, absN_succ]
    omega
theorem dotN_bd (coefs : List Int) {f : Nat → Int} {r : Int} : ∀ i, (∀ j, j < i → 0 ≤ f j ∧ f j ≤ r) → -(negN coefs i * r) ≤ dotN coefs f i ∧ dotN coefs f i ≤ posN coefs i * r
  | 0, _ => by simp [dotN, posN, negN]
  | i + 1, h => by
    obtain ⟨h1, h2⟩ := dotN_bd coefs (f := f) (r := r) i fun j hj => h j (by omega)
    obtain ⟨h3, h4⟩ := h i (by omega)
    rw [posN_succ, negN_succ, Int.add_mul, Int.add_mul]
    show -(_ + _) ≤ dotN coefs f i + coefs.getD i 0 * f i ∧ dotN coefs f i + coefs.getD i 0 * f i ≤ _
    generalize coefs.getD i 0 = c
    by_cases hc : 0 ≤ c
    · have e1 : c * f i ≤ c * r := Int.mul_le_mul_of_nonneg_left h4 hc
      have e2 : 0 ≤ c * f i := Int.mul_nonneg hc h3
      rw [show max c 0 = c by omega, show max (-c) 0 = 0 by omega, Int.zero_mul]
      omega
    · have e1 : (-c) * f i ≤ (-c) * r := Int.mul_le_mul_of_nonneg_left h4 (by omega)
      have e2 : 0 ≤ (-c) * f i := Int.mul_nonneg (by omega) h3
      have e3 : (-c) * f i = -(c * f i) := Int.neg_mul _ _
      rw [show max c 0 = 0 by omega, show max (-c) 0 = -c by omega, Int.zero_mul]
      omega

structure LJ (S : Int) (q : Int × Int) : Prop where
  a : ¬ (3 * S < q.1 ∧ q.2 < 0)
  b : ¬ (q.1 < S ∧ 3 * S < q.2)
  c : ¬ (2 * S < q.1 ∧ q.2 < -2 * S)
  d : ¬ (q.1 < -S ∧ 4 * S < q.2)
  a' : ¬ (q.1 < -3 * S ∧ 0 < q.2)
  b' : ¬ (-S < q.1 ∧ q.2 < -3 * S)
  c' : ¬ (q.1 < -2 * S ∧ 2 * S < q.2)
  d' : ¬ (S < q.1 ∧ q.2 < -4 * S)
theorem LJ.zero {S : Int} (hS : 0 ≤ S) : LJ S (0, 0) := by constructor <;> simp only <;> omega
theorem LJ.step {S : Int} {q : Int × Int} {e : Int} (hS : 0 ≤ S) (h : LJ S q) (he : -S ≤ e ∧ e ≤ S) : LJ S (q.1 + q.2 + e, q.1 + e) := by
  obtain ⟨a, b, c, d, a', b', c', d'⟩ := h
  constructor <;> simp only <;> omega
theorem LJ.neg {S : Int} {q : Int × Int} (h : LJ S q) : LJ S (-q.1, -q.2) := by
  obtain ⟨a, b, c, d, a', b', c', d'⟩ := h
  constructor <;> simp only <;> omega
/-- So far above that it stays there. -/
def High (base S k : Int) (q : Int × Int) : Prop := if base = 1 then (3 * S + k < q.1 ∧ 0 ≤ q.2) ∨ (2 * S + k < q.1 ∧ S ≤ q.2) else S + k < q.1
theorem High.gt {base S k : Int} {q : Int × Int} (hS : 0 ≤ S) (h : High base S k q) : k < q.1 := by
  unfold High at h
  split at h <;> omega
theorem lnStep_neg (base : Int) (q : Int × Int) (e : Int) : lnStep base (-q.1, -q.2) (-e) = (-(lnStep base q e).1, -(lnStep base q e).2) := by
  unfold lnStep
  split
  · ext <;> simp only <;> omega
  · ext
    · simp only; rw [Int.neg_mul]; omega
    · simp
/-- What a letter may add. -/
def lnOk (base S e : Int) : Prop := -(S * (radix base - 1)) ≤ e ∧ e ≤ S * (radix base - 1)
theorem lnOk.neg {base S e : Int} (h : lnOk base S e) : lnOk base S (-e) := by unfold lnOk at *; omega
theorem lnOk.fib {S e : Int} (h : lnOk 1 S e) : -S ≤ e ∧ e ≤ S := by
  have h2 : radix 1 - 1 = 1 := rfl
  unfold lnOk at h
  rw [h2] at h; omega
theorem radix_ne {base : Int} (hr : radix base ≠ 0) (h : base ≠ 1) : radix base = base ∧ 2 ≤ base ∧ base ≤ 6 := by
  rcases radix_pos hr with h1 | h1
  · exact (h h1.1).elim
  · exact ⟨h1.2.2, h1.1, h1.2.1⟩
theorem High.step {base S k : Int} {q : Int × Int} {e : Int} (hr : radix base ≠ 0) (hS : 0 ≤ S) (hk : 0 ≤ k) (h : High base S k q) (he : lnOk base S e) : High base S k (lnStep base q e) := by
  unfold High lnStep at *
  by_cases h1 : base = 1
  · subst h1
    have := he.fib
    simp only [if_true] at h ⊢
    omega
  · obtain ⟨e1, e2, e3⟩ := radix_ne hr h1
    unfold lnOk at he
    rw [e1] at he
    simp only [if_neg h1] at h ⊢
    have h2 : 0 ≤ (q.1 - S) * (base - 1) := Int.mul_nonneg (by omega) (by omega)
    rw [Int.sub_mul, Int.mul_sub, Int.mul_one] at h2
    omega
theorem High.enter {base S k far : Int} {q : Int × Int} (hS : 0 ≤ S) (hk : 0 ≤ k) (hfar : 3 * S + k ≤ far) (hJ : base = 1 → LJ S q) (h : far < q.1) : High base S k q := by
  unfold High
  split
  · have := (hJ ‹_›).a
    omega
  · omega
/-- The cut off state, and the one that is not. -/
def LnRel (base far S k : Int) (p q : Int × Int) : Prop :=
  (p = q ∧ -far ≤ q.1 ∧ q.1 ≤ far ∧ (base = 1 → LJ S q)) ∨ (p = (far + 1, 0) ∧ High base S k q) ∨ (p = (-far - 1, 0) ∧ High base S k (-q.1, -q.2))
theorem LnRel.zero {base far S k : Int} (hS : 0 ≤ S) (hf : 0 ≤ far) : LnRel base far S k (0, 0) (0, 0) := .inl ⟨rfl, by simp only; omega, by simp only; omega, fun _ => .zero hS⟩
theorem LnRel.step {base far S k : Int} {p q : Int × Int} {e : Int} (hr : radix base ≠ 0) (hS : 0 ≤ S) (hk : 0 ≤ k) (hfar : 3 * S + k ≤ far) (h : LnRel base far S k p q) (he : lnOk base S e) : LnRel base far S k (lnCut far base p e) (lnStep base q e) := by
  rcases h with ⟨rfl, h1, h2, h3⟩ | ⟨rfl, h1⟩ | ⟨rfl, h1⟩
  · have hn : ¬ (p = (far + 1, 0) ∨ p = (-far - 1, 0)) := by
      rintro (e | e) <;> rw [e] at h1 h2 <;> simp only at h1 h2 <;> omega
    have hJ : base = 1 → LJ S (lnStep base p e) := fun hb => by
      subst hb
      have := (h3 rfl).step hS he.fib
      exact this
    unfold lnCut
    rw [if_neg hn]
    unfold lnCap
    split
    · exact .inr (.inl ⟨rfl, High.enter hS hk hfar hJ ‹_›⟩)
    · split
      · exact .inr (.inr ⟨rfl, High.enter hS hk hfar (fun hb => (hJ hb).neg) (by simp only; omega)⟩)
      · exact .inl ⟨rfl, by omega, by omega, hJ⟩
  · unfold lnCut
    rw [if_pos (.inl rfl)]
    exact .inr (.inl ⟨rfl, h1.step hr hS hk he⟩)
  · unfold lnCut
    rw [if_pos (.inr rfl)]
    refine .inr (.inr ⟨rfl, ?_⟩)
    have := h1.step hr hS hk he.neg
    rwa [lnStep_neg] at this
theorem LnRel.fin {base far S k c : Int} {p q : Int × Int} (hS : 0 ≤ S) (hfar : 3 * S + k ≤ far) (hc : -k ≤ c ∧ c ≤ k) (less : Bool) (h : LnRel base far S k p q) : lnEnd less c p = lnEnd less c q := by
  rcases h with ⟨rfl, _⟩ | ⟨rfl, h1⟩ | ⟨rfl, h1⟩
  · rfl
  · have := h1.gt hS
    unfold lnEnd
    split <;> simp only [decide_eq_decide] <;> omega
  · have := h1.gt hS
    simp only at this
    unfold lnEnd
    split <;> simp only [decide_eq_decide] <;> omega
def lnRun (base : Int) (add : Nat → Int) (w : List Nat) : Int × Int := w.foldl (fun p l => lnStep base p (add l)) (0, 0)
def lnCutRun (far base : Int) (add : Nat → Int) (w : List Nat) : Int × Int := w.foldl (fun p l => lnCut far base p (add l)) (0, 0)
theorem ln_rel {base far S k : Int} {n : Nat} {add : Nat → Int} (hr : radix base ≠ 0) (hS : 0 ≤ S) (hk : 0 ≤ k) (hfar : 3 * S + k ≤ far) (ha : ∀ l, l < n → lnOk base S (add l)) (w : List Nat) (hw : Ltr n w) : LnRel base far S k (lnCutRun far base add w) (lnRun base add w) := by
  unfold lnCutRun lnRun
  have : ∀ (w : List Nat) (p q : Int × Int), Ltr n w → LnRel base far S k p q → LnRel base far S k (w.foldl (fun p l => lnCut far base p (add l)) p) (w.foldl (fun p l => lnStep base p (add l)) q) := by
    intro w
    induction w with
    | nil => exact fun _ _ _ h => h
    | cons l w ih => exact fun p q hw h => ih _ _ (fun x hx => hw x (List.mem_cons_of_mem _ hx)) (h.step hr hS hk hfar (ha l (hw l List.mem_cons_self)))
  exact this w _ _ hw (.zero hS (by omega))
/-- Where a cut off state lies. -/
structure LnPt (base far S B : Int) (p : Int × Int) : Prop where
  x : -far - 1 ≤ p.1 ∧ p.1 ≤ far + 1
  y : -B ≤ p.2 ∧ p.2 ≤ B
  z : base ≠ 1 → p.2 = 0
  j : p = (far + 1, 0) ∨ p = (-far - 1, 0) ∨ (-far ≤ p.1 ∧ p.1 ≤ far ∧ (base = 1 → LJ S p))
theorem LnPt.zero {base far S B : Int} (hS : 0 ≤ S) (hf : 0 ≤ far) (hB : 0 ≤ B) : LnPt base far S B (0, 0) :=
  ⟨by simp only; omega, by simp only; omega, fun _ => rfl, .inr (.inr ⟨by simp only; omega, by simp only; omega, fun _ => .zero hS⟩)⟩
theorem LnPt.step {base far S B : Int} {p : Int × Int} {e : Int} (hS : 0 ≤ S) (hf : 0 ≤ far) (hB : far + S ≤ B ∨ (far + 1 ≤ B ∧ 4 * S ≤ far)) (h : LnPt base far S B p) (he : lnOk base S e) : LnPt base far S B (lnCut far base p e) := by
  by_cases hn : p = (far + 1, 0) ∨ p = (-far - 1, 0)
  · unfold lnCut; rw [if_pos hn]; exact h
  · obtain ⟨h1, h2, h3⟩ : -far ≤ p.1 ∧ p.1 ≤ far ∧ (base = 1 → LJ S p) := by
      rcases h.j with e | e | e
      · exact (hn (.inl e)).elim
      · exact (hn (.inr e)).elim
      · exact e
    have hJ : base = 1 → LJ S (lnStep base p e) := fun hb => by
      subst hb
      exact (h3 rfl).step hS he.fib
    have hB0 : 0 ≤ B := by omega
    unfold lnCut
    rw [if_neg hn]
    unfold lnCap
    split
    · exact ⟨by simp only; omega, by simp only; omega, fun _ => rfl, .inl rfl⟩
    · split
      · exact ⟨by simp only; omega, by simp only; omega, fun _ => rfl, .inr (.inl rfl)⟩
      · refine ⟨by omega, ?_, fun hb => ?_, .inr (.inr ⟨by omega, by omega, hJ⟩)⟩
        · by_cases hb : base = 1
          · subst hb
            have he := he.fib
            have h4 := h3 rfl
            have ea := h4.a
            have ea' := h4.a'
            rename_i h5 h6
            simp only [lnStep, if_true] at h5 h6 ⊢
            omega
          · simp only [lnStep, if_neg hb]; omega
        · simp only [lnStep, if_neg hb]
end Go.Proofs.Ytfhncnhkeodngaa
namespace Go.Proofs.Ytfhncnhkeodngaa

def lastL (s : Nat) (v : List Nat) : Nat := v.foldl (fun _ l => l) s
theorem walkOk_append {c : Nat → Nat → Bool} : ∀ (v x : List Nat) (s : Nat), walkOk c s (v ++ x) = (walkOk c s v && walkOk c (lastL s v) x)
  | [], x, s => by simp [walkOk, lastL]
  | l :: v, x, s => by
    show (!c s l && walkOk c l (v ++ x)) = ((!c s l && walkOk c l v) && walkOk c (lastL l v) x)
    rw [walkOk_append v x l, Bool.and_assoc]
theorem chain_walk {c : Nat → Nat → Bool} (h : ∀ l, c 0 l = false) (w : List Nat) : chain c w = walkOk c 0 w := by
  cases w with
  | nil => rfl
  | cons l w => show _ = (!c 0 l && walkOk c l w); rw [h l]; rfl
theorem unpack_zero (k : Int) : ∀ t : Nat, ∀ x ∈ unpack k t 0, x = 0
  | 0, x, h => by simp [unpack] at h
  | t + 1, x, h => by
    have ih := unpack_zero k t
    simp only [unpack, Int.zero_ediv, Int.zero_emod] at h
    rcases List.mem_append.1 h with h | h
    · exact ih x h
    · simpa using h
theorem clash_zero (base : Int) (t l : Nat) : clash base t 0 l = false := by
  unfold clash
  rw [Bool.and_eq_false_iff]
  right
  rw [List.any_eq_false]
  intro k _
  have : digitAt (radix base) t ((0 : Nat) : Int) k = 0 := by
    unfold digitAt
    rw [List.getD_eq_getElem?_getD]
    cases h : (unpack (radix base) t ((0 : Nat) : Int))[k]? with
    | none => rfl
    | some x => exact unpack_zero (radix base) t x (List.mem_of_getElem? h)
  rw [this]; simp
theorem rightWd_walk (base : Int) (t : Nat) (w : List Nat) : rightWd base t w = walkOk (clash base t) 0 w := chain_walk (clash_zero base t) w
theorem rightWd_append (base : Int) (t : Nat) (v x : List Nat) : rightWd base t (v ++ x) = (rightWd base t v && walkOk (clash base t) (lastL 0 v) x) := by
  rw [rightWd_walk, rightWd_walk, walkOk_append]
theorem lastL_lt {n : Nat} : ∀ (v : List Nat) (s : Nat), s < n → Ltr n v → lastL s v < n
  | [], s, h, _ => h
  | l :: v, _, _, hv => lastL_lt v l (hv l List.mem_cons_self) fun x hx => hv x (List.mem_cons_of_mem _ hx)

section
variable {n : Nat} {add : Nat → Int} {P N : Int}
/-- Near a line. -/
def Strip (P N : Int) (q : Int × Int) : Prop := -(3 + 56 * N + 35 * P) ≤ 89 * q.2 - 55 * q.1 ∧ 89 * q.2 - 55 * q.1 ≤ 3 + 56 * P + 35 * N
theorem Strip.step {q : Int × Int} {e : Int} (h0 : 0 ≤ P ∧ 0 ≤ N) (h : Strip P N q) (hq : -97 ≤ q.1 ∧ q.1 ≤ 97) (he : -N ≤ e ∧ e ≤ P) : Strip P N (q.1 + q.2 + e, q.1 + e) := by
  unfold Strip at *
  simp only
  omega
def InStrip (P N : Int) (p : Int × Int) : Prop := Strip P N p ∧ -96 ≤ p.1 ∧ p.1 ≤ 96 ∨ p = (97, 0) ∨ p = (-97, 0)
theorem lnCut_96 (p : Int × Int) (e : Int) : lnCut 96 1 p e = if p = (97, 0) ∨ p = (-97, 0) then p else lnCap 96 (p.1 + p.2 + e, p.1 + e) := rfl
theorem InStrip.step {p : Int × Int} {e : Int} (h0 : 0 ≤ P ∧ 0 ≤ N) (h : InStrip P N p) (he : -N ≤ e ∧ e ≤ P) : InStrip P N (lnCut 96 1 p e) := by
  rw [lnCut_96]
  by_cases hn : p = (97, 0) ∨ p = (-97, 0)
  · rw [if_pos hn]; exact .inr hn
  · have hs : Strip P N p ∧ -96 ≤ p.1 ∧ p.1 ≤ 96 := by
      rcases h with h | h
      · exact h
      · exact (hn h).elim
    rw [if_neg hn]
    have := hs.1.step h0 ⟨by omega, by omega⟩ he
    unfold lnCap
    split
    · exact .inr (.inl rfl)
    · split
      · exact .inr (.inr rfl)
      · exact .inl ⟨this, by omega, by omega⟩
theorem ln_strip (h0 : 0 ≤ P ∧ 0 ≤ N) (ha : ∀ l, l < n → -N ≤ add l ∧ add l ≤ P) : ∀ (w : List Nat) (p : Int × Int), Ltr n w → InStrip P N p → InStrip P N (w.foldl (fun p l => lnCut 96 1 p (add l)) p)
  | [], _, _, h => h
  | l :: w, p, hw, h => ln_strip h0 ha w _ (fun x hx => hw x (List.mem_cons_of_mem _ hx)) (h.step h0 (ha l (hw l List.mem_cons_self)))
def runFrom1 (add : Nat → Int) (q : Int × Int) (w : List Nat) : Int × Int := w.foldl (fun p l => lnStep 1 p (add l)) q
theorem high_run {S k : Int} (hS : 0 ≤ S) (hk : 0 ≤ k) (ha : ∀ l, l < n → lnOk 1 S (add l)) : ∀ (x : List Nat) (q : Int × Int), Ltr n x → High 1 S k q → High 1 S k (runFrom1 add q x)
  | [], _, _, h => h
  | l :: x, q, hx, h => high_run hS hk ha x _ (fun y hy => hx y (List.mem_cons_of_mem _ hy)) (h.step (by decide) hS hk (ha l (hx l List.mem_cons_self)))
theorem runFrom1_neg (add : Nat → Int) : ∀ (x : List Nat) (q : Int × Int), runFrom1 (fun l => -(add l)) (-q.1, -q.2) x = (-(runFrom1 add q x).1, -(runFrom1 add q x).2)
  | [], _ => rfl
  | l :: x, q => by
    show runFrom1 (fun l => -(add l)) (lnStep 1 (-q.1, -q.2) (-(add l))) x = _
    rw [lnStep_neg]
    exact runFrom1_neg add x _
/-- Above 72 it stays above 60. -/
theorem above {S : Int} (hS : 0 ≤ S ∧ S ≤ 12) (h0 : 0 ≤ P ∧ 0 ≤ N ∧ P + N = S) (ha : ∀ l, l < n → -N ≤ add l ∧ add l ≤ P) {q : Int × Int} (hq : High 1 S 60 q ∨ (72 < q.1 ∧ Strip P N q)) {x : List Nat} (hx : Ltr n x) : 60 < (runFrom1 add q x).1 := by
  have ha' : ∀ l, l < n → lnOk 1 S (add l) := fun l hl => by
    have := ha l hl
    have h2 : radix 1 - 1 = 1 := rfl
    unfold lnOk; rw [h2]; omega
  rcases hq with hq | ⟨h1, h2⟩
  · exact (high_run hS.1 (by omega) ha' x q hx hq).gt hS.1
  · cases x with
    | nil => show 60 < q.1; omega
    | cons l x =>
      have h3 := ha l (hx l List.mem_cons_self)
      unfold Strip at h2
      have : High 1 S 60 (lnStep 1 q (add l)) := by
        unfold High lnStep
        simp only [if_true]
        right
        omega
      exact (high_run hS.1 (by omega) ha' x _ (fun y hy => hx y (List.mem_cons_of_mem _ hy)) this).gt hS.1
theorem Strip.neg {q : Int × Int} (h : Strip P N q) : Strip N P (-q.1, -q.2) := by unfold Strip at *; simp only; omega
theorem below {S : Int} (hS : 0 ≤ S ∧ S ≤ 12) (h0 : 0 ≤ P ∧ 0 ≤ N ∧ P + N = S) (ha : ∀ l, l < n → -N ≤ add l ∧ add l ≤ P) {q : Int × Int} (hq : High 1 S 60 (-q.1, -q.2) ∨ (q.1 < -72 ∧ Strip P N q)) {x : List Nat} (hx : Ltr n x) : (runFrom1 add q x).1 < -60 := by
  have := above (P := N) (N := P) (add := fun l => -(add l)) (q := (-q.1, -q.2)) hS ⟨h0.2.1, h0.1, by omega⟩ (fun l hl => by have := ha l hl; omega) (by
    rcases hq with h | ⟨h1, h2⟩
    · exact .inl h
    · exact .inr ⟨by simp only; omega, h2.neg⟩) hx
  rw [runFrom1_neg] at this
  simp only at this
  omega
/-- What kind of word. -/
def lnKind (t : Nat) (add : Nat → Int) (P N : Int) (v : List Nat) : Nat :=
  if rightWd 1 t v = false then 0
  else if 72 < (lnCutRun 96 1 add v).1 then 1 + lastL 0 v
  else if (lnCutRun 96 1 add v).1 < -72 then 33 + lastL 0 v
  else 65 + (((lnCutRun 96 1 add v).1 + 72).toNat * 13 + ((lnCutRun 96 1 add v).2 - (55 * (lnCutRun 96 1 add v).1 - (3 + 56 * N + 35 * P) + 88) / 89).toNat) * 32 + lastL 0 v
theorem lnRun_append (add : Nat → Int) (v x : List Nat) : lnRun 1 add (v ++ x) = runFrom1 add (lnRun 1 add v) x := by
  unfold lnRun runFrom1; rw [List.foldl_append]
theorem ln_kinds {t : Nat} {S c : Int} (hS : 0 ≤ S ∧ S ≤ 12) (h0 : 0 ≤ P ∧ 0 ≤ N ∧ P + N = S) (ha : ∀ l, l < n → -N ≤ add l ∧ add l ≤ P) (hc : -60 ≤ c ∧ c ≤ 60) (hn : 0 < n ∧ n ≤ 32) (less : Bool)
    {X : List (List Int)} {E : List Bool} (h : Least n X E fun w => lnEnd less c (lnRun 1 add w) && rightWd 1 t w) : X.length ≤ 65536 := by
  have ha' : ∀ l, l < n → lnOk 1 S (add l) := fun l hl => by
    have := ha l hl
    have h2 : radix 1 - 1 = 1 := rfl
    unfold lnOk; rw [h2]; omega
  have hst : ∀ v, Ltr n v → (Strip P N (lnCutRun 96 1 add v) ∧ -96 ≤ (lnCutRun 96 1 add v).1 ∧ (lnCutRun 96 1 add v).1 ≤ 96 ∨ lnCutRun 96 1 add v = (97, 0) ∨ lnCutRun 96 1 add v = (-97, 0)) := fun v hv =>
    ln_strip ⟨h0.1, h0.2.1⟩ ha v _ hv (.inl ⟨by unfold Strip; simp only; omega, by simp only; omega, by simp only; omega⟩)
  have hrl : ∀ v, Ltr n v → LnRel 1 96 S 60 (lnCutRun 96 1 add v) (lnRun 1 add v) := fun v hv => ln_rel (by decide) hS.1 (by omega) (by omega) ha' v hv
  have hup : ∀ v, Ltr n v → 72 < (lnCutRun 96 1 add v).1 → High 1 S 60 (lnRun 1 add v) ∨ (72 < (lnRun 1 add v).1 ∧ Strip P N (lnRun 1 add v)) := fun v hv h1 => by
    rcases hrl v hv with ⟨e, h2, h3, _⟩ | ⟨e, h2⟩ | ⟨e, h2⟩
    · rw [e] at h1
      have h4 := hst v hv
      rw [e] at h4
      refine .inr ⟨h1, ?_⟩
      rcases h4 with h4 | h4 | h4
      · exact h4.1
      · rw [h4] at h3; simp only at h3; omega
      · rw [h4] at h2; simp only at h2; omega
    · exact .inl h2
    · rw [e] at h1; simp only at h1; omega
  have hdn : ∀ v, Ltr n v → (lnCutRun 96 1 add v).1 < -72 → High 1 S 60 (-(lnRun 1 add v).1, -(lnRun 1 add v).2) ∨ ((lnRun 1 add v).1 < -72 ∧ Strip P N (lnRun 1 add v)) := fun v hv h1 => by
    rcases hrl v hv with ⟨e, h2, h3, _⟩ | ⟨e, h2⟩ | ⟨e, h2⟩
    · rw [e] at h1
      have h4 := hst v hv
      rw [e] at h4
      refine .inr ⟨h1, ?_⟩
      rcases h4 with h4 | h4 | h4
      · exact h4.1
      · rw [h4] at h3; simp only at h3; omega
      · rw [h4] at h2; simp only at h2; omega
    · rw [e] at h1; simp only at h1; omega
    · exact .inl h2
  have hmid : ∀ v, Ltr n v → ¬ 72 < (lnCutRun 96 1 add v).1 → ¬ (lnCutRun 96 1 add v).1 < -72 → lnCutRun 96 1 add v = lnRun 1 add v ∧ Strip P N (lnCutRun 96 1 add v) := fun v hv h1 h2 => by
    refine ⟨?_, ?_⟩
    · rcases hrl v hv with ⟨e, _⟩ | ⟨e, _⟩ | ⟨e, _⟩
      · exact e
      · rw [e] at h1; simp only at h1; omega
      · rw [e] at h2; simp only at h2; omega
    · rcases hst v hv with h | e | e
      · exact h.1
      · rw [e] at h1; simp only at h1; omega
      · rw [e] at h2; simp only at h2; omega
  have hlast : ∀ v, Ltr n v → lastL 0 v < 32 := fun v hv => Nat.lt_of_lt_of_le (lastL_lt v 0 hn.1 hv) hn.2
  refine Nat.le_trans (h.bound 60385 (lnKind t add P N) (fun v hv => ?_) fun v w hv hw e x hx => ?_) (by omega)
  · have hl := hlast v hv
    unfold lnKind
    split
    · omega
    · split
      · omega
      · split
        · omega
        · have h1 := (hmid v hv ‹_› ‹_›).2
          unfold Strip at h1
          omega
  · have hlv := hlast v hv
    have hlw := hlast w hw
    simp only [lnRun_append, rightWd_append]
    have kind : ∀ v, Ltr n v → (rightWd 1 t v = false ∧ lnKind t add P N v = 0) ∨ (rightWd 1 t v = true ∧ 72 < (lnCutRun 96 1 add v).1 ∧ lnKind t add P N v = 1 + lastL 0 v) ∨ (rightWd 1 t v = true ∧ (lnCutRun 96 1 add v).1 < -72 ∧ lnKind t add P N v = 33 + lastL 0 v) ∨
        (rightWd 1 t v = true ∧ ¬ 72 < (lnCutRun 96 1 add v).1 ∧ ¬ (lnCutRun 96 1 add v).1 < -72 ∧ lnKind t add P N v = 65 + (((lnCutRun 96 1 add v).1 + 72).toNat * 13 + ((lnCutRun 96 1 add v).2 - (55 * (lnCutRun 96 1 add v).1 - (3 + 56 * N + 35 * P) + 88) / 89).toNat) * 32 + lastL 0 v) := fun v hv => by
      cases hr : rightWd 1 t v with
      | false => exact .inl ⟨rfl, by unfold lnKind; rw [if_pos hr]⟩
      | true =>
        have hr' : ¬ rightWd 1 t v = false := by rw [hr]; decide
        by_cases h1 : 72 < (lnCutRun 96 1 add v).1
        · exact .inr (.inl ⟨rfl, h1, by unfold lnKind; rw [if_neg hr', if_pos h1]⟩)
        · by_cases h2 : (lnCutRun 96 1 add v).1 < -72
          · exact .inr (.inr (.inl ⟨rfl, h2, by unfold lnKind; rw [if_neg hr', if_neg h1, if_pos h2]⟩))
          · exact .inr (.inr (.inr ⟨rfl, h1, h2, by unfold lnKind; rw [if_neg hr', if_neg h1, if_neg h2]⟩))
    have kv := kind v hv
    have kw := kind w hw
    clear kind
    have fin_up : ∀ q : Int × Int, 60 < q.1 → lnEnd less c q = false := fun q hq => by
      unfold lnEnd
      split <;> simp only [decide_eq_false_iff_not] <;> omega
    have fin_dn : ∀ q : Int × Int, q.1 < -60 → lnEnd less c q = less := fun q hq => by
      unfold lnEnd
      cases less
      · simp only [Bool.false_eq_true, if_false, decide_eq_false_iff_not]; omega
      · simp only [if_true, decide_eq_true_eq]; omega
    rcases kv with ⟨r1, k1⟩ | ⟨r1, a1, k1⟩ | ⟨r1, a1, k1⟩ | ⟨r1, a1, b1, k1⟩ <;> rcases kw with ⟨r2, k2⟩ | ⟨r2, a2, k2⟩ | ⟨r2, a2, k2⟩ | ⟨r2, a2, b2, k2⟩ <;> (try (exfalso; omega))
    · rw [r1, r2]; simp
    · rw [fin_up _ (above hS h0 ha (hup v hv a1) hx), fin_up _ (above hS h0 ha (hup w hw a2) hx)]
      simp
    · rw [fin_dn _ (below hS h0 ha (hdn v hv a1) hx), fin_dn _ (below hS h0 ha (hdn w hw a2) hx), r1, r2, show lastL 0 v = lastL 0 w by omega]
    · obtain ⟨e1, s1⟩ := hmid v hv a1 b1
      obtain ⟨e2, s2⟩ := hmid w hw a2 b2
      unfold Strip at s1 s2
      have hx1 : (lnCutRun 96 1 add v).1 = (lnCutRun 96 1 add w).1 := by omega
      have hl : lastL 0 v = lastL 0 w := by omega
      have hx2 : (lnCutRun 96 1 add v).2 = (lnCutRun 96 1 add w).2 := by
        rw [hx1] at k1 s1
        omega
      rw [← e1, ← e2, r1, r2, hl, Prod.ext hx1 hx2]
end
end Go.Proofs.Ytfhncnhkeodngaa
namespace Go.Proofs.Ytfhncnhkeodngaa

section
variable {n n' m : Nat} {next : List (List Int)} {to : List Int}
end
theorem digitAt_ok {k : Int} (hk : 2 ≤ k) (t : Nat) (l : Int) (i : Nat) : 0 ≤ digitAt k t l i ∧ digitAt k t l i < k := by
  unfold digitAt
  by_cases h : i < (unpack k t l).length
  · rw [getD_lt h]; exact unpack_ok hk t l _ (List.getElem_mem h)
  · rw [List.getD_eq_getElem?_getD, List.getElem?_eq_none (by omega)]
    simp only [Option.getD_none]; omega
end Go.Proofs.Ytfhncnhkeodngaa
namespace Go.Proofs.Ytfhncnhkeodngaa

def sizeA (coefs : List Int) : Int := absN coefs coefs.length
def addL (base : Int) (coefs : List Int) (l : Nat) : Int := dotN coefs (fun i => digitAt (radix base) coefs.length (l : Int) i) coefs.length
def lineL (base : Int) (coefs : List Int) (c : Int) (less : Bool) (w : List Nat) : Bool := lnEnd less c (lnRun base (addL base coefs) w) && rightWd base coefs.length w
structure LineOk (base : Int) (coefs : List Int) (c : Int) (n : Nat) : Prop where
  many : manyErr base coefs.length = 0
  n_eq : manyOf base coefs.length = n
  r : radix base ≠ 0
  t5 : coefs.length ≤ 5
  n0 : 0 < n
  n36 : n ≤ 36
  sz : 0 ≤ sizeA coefs ∧ sizeA coefs ≤ 12
  c60 : -60 ≤ c ∧ c ≤ 60
section
variable {base : Int} {coefs : List Int} {c : Int} {n : Nat}
theorem LineOk.add (g : LineOk base coefs c n) (l : Nat) : -(negN coefs coefs.length * (radix base - 1)) ≤ addL base coefs l ∧ addL base coefs l ≤ posN coefs coefs.length * (radix base - 1) :=
  dotN_bd coefs (r := radix base - 1) _ fun j _ => by
    have := digitAt_ok (radix_two g.r).1 coefs.length (l : Int) j
    omega
theorem LineOk.lnOk (g : LineOk base coefs c n) (l : Nat) : lnOk base (sizeA coefs) (addL base coefs l) := by
  have h := g.add l
  have h1 := (posneg coefs coefs.length).1
  obtain ⟨h2, h3⟩ := (posneg coefs coefs.length).2
  have hr := (radix_two g.r).1
  have h4 : posN coefs coefs.length * (radix base - 1) ≤ sizeA coefs * (radix base - 1) := Int.mul_le_mul_of_nonneg_right (by unfold sizeA; omega) (by omega)
  have h5 : negN coefs coefs.length * (radix base - 1) ≤ sizeA coefs * (radix base - 1) := Int.mul_le_mul_of_nonneg_right (by unfold sizeA; omega) (by omega)
  unfold Go.Proofs.Ytfhncnhkeodngaa.lnOk
  omega
/-- Of base Fib there are not too many kinds of words. -/
theorem LineOk.kinds (g : LineOk base coefs c n) (hb : base = 1) (less : Bool) {X : List (List Int)} {E : List Bool} (h : Least n X E (lineL base coefs c less)) : X.length ≤ 65536 := by
  subst hb
  have h1 := (posneg coefs coefs.length).1
  obtain ⟨h2, h3⟩ := (posneg coefs coefs.length).2
  have hs := g.sz
  unfold sizeA at hs
  have hn32 : n ≤ 32 := by
    obtain ⟨_, _, _, _, hm⟩ := many_ok g.many
    have h2 : radix 1 = 2 := rfl
    rw [h2, powW_two, Int.toNat_natCast, g.n_eq] at hm
    have h5 : n = 2 ^ coefs.length := by omega
    rw [h5]
    exact Nat.pow_le_pow_right (by omega) g.t5
  refine ln_kinds (n := n) (P := posN coefs coefs.length) (N := negN coefs coefs.length) (S := sizeA coefs) (t := coefs.length) (c := c) ⟨hs.1, hs.2⟩ ⟨h2, h3, h1⟩ (fun l hl => ?_) g.c60 ⟨g.n0, hn32⟩ less h
  have := g.add l
  have h2 : radix 1 - 1 = 1 := rfl
  rw [h2] at this
  omega
end
end Go.Proofs.Ytfhncnhkeodngaa
namespace Go.Proofs.Ytfhncnhkeodngaa

/-- Digits of which no two that stand side by side are both 1, in base Fib. -/
def okAdj (base : Int) (d : List Int) : Bool := base != 1 || (List.range (d.length - 1)).all fun i => !(d.getD (i + 1) 0 == 1 && d.getD i 0 == 1)
def tracksOk (base : Int) (t : Nat) (w : List Int) : Bool := (List.range t).all fun k => okAdj base (w.map fun l => digitAt (radix base) t l k)
theorem getD_map {α β : Type} (f : α → β) (l : List α) (i : Nat) (d : α) (e : β) (h : i < l.length) : (l.map f).getD i e = f (l.getD i d) := by
  rw [getD_lt (by simpa using h), getD_lt h]; simp
theorem tracks_right {base : Int} {t : Nat} {w : List Int} (hw : ∀ l ∈ w, 0 ≤ l) : tracksOk base t w = rightWd base t (w.map Int.toNat) := by
  by_cases h1 : base = 1
  · subst h1
    have key : tracksOk 1 t w = true ↔ rightWd 1 t (w.map Int.toNat) = true := by
      unfold rightWd
      rw [chain_iff]
      have hc : ∀ i, i < w.length → ((((w.map Int.toNat).getD i 0 : Nat)) : Int) = w.getD i 0 := fun i hi => by
        rw [getD_map Int.toNat w i 0 0 hi, getD_lt hi]
        have := hw _ (List.getElem_mem hi); omega
      have hl : (w.map Int.toNat).length = w.length := by simp
      rw [hl]
      constructor
      · intro h i hi
        unfold clash
        rw [hc i (by omega), hc (i + 1) hi]
        simp only [beq_self_eq_true, Bool.true_and]
        rw [List.any_eq_false]
        intro k hk
        unfold tracksOk okAdj at h
        rw [List.all_eq_true] at h
        have h2 := h k hk
        simp only [bne_self_eq_false, Bool.false_or, List.all_eq_true, List.length_map] at h2
        have h3 := h2 i (List.mem_range.2 (by omega))
        rw [getD_map (fun l => digitAt (radix 1) t l k) w i 0 0 (by omega), getD_map (fun l => digitAt (radix 1) t l k) w (i + 1) 0 0 hi] at h3
        simp only [Bool.not_eq_true', Bool.and_eq_false_iff] at h3
        simp only [Bool.and_eq_true, not_and, Bool.not_eq_true]
        intro h4
        rcases h3 with h3 | h3
        · exact h3
        · rw [h4] at h3; simp at h3
      · intro h
        unfold tracksOk okAdj
        rw [List.all_eq_true]
        intro k hk
        simp only [bne_self_eq_false, Bool.false_or, List.all_eq_true, List.length_map]
        intro i hi
        have hi2 := List.mem_range.1 hi
        have h2 := h i (by omega)
        unfold clash at h2
        rw [hc i (by omega), hc (i + 1) (by omega)] at h2
        simp only [beq_self_eq_true, Bool.true_and] at h2
        rw [List.any_eq_false] at h2
        have h3 := h2 k hk
        rw [getD_map (fun l => digitAt (radix 1) t l k) w i 0 0 (by omega), getD_map (fun l => digitAt (radix 1) t l k) w (i + 1) 0 0 (by omega)]
        simp only [Bool.and_eq_true, not_and, Bool.not_eq_true] at h3
        simp only [Bool.not_eq_true', Bool.and_eq_false_iff]
        cases h4 : digitAt (radix 1) t (w.getD i 0) k == 1 with
        | false => exact .inr rfl
        | true => exact .inl (h3 h4)
    cases h : tracksOk 1 t w with
    | true => exact (key.1 h).symm
    | false =>
      cases h' : rightWd 1 t (w.map Int.toNat) with
      | false => rfl
      | true => rw [key.2 h'] at h; exact h.symm
  · have e1 : tracksOk base t w = true := by
      unfold tracksOk okAdj
      rw [List.all_eq_true]
      intro k _
      simp [h1]
    rw [e1]
    exact (chain_free (clash_other h1 t) _).symm
end Go.Proofs.Ytfhncnhkeodngaa
namespace Go.Proofs.Ytfhncnhkeodngaa

theorem takes_lng' {a : GAuto} {n m : Nat} (g : Good a n m) {w : List Int} (h : w.length ≤ 400 ∧ ∀ l ∈ w, 0 ≤ l ∧ l < (n : Int)) : takesOf a w = lng a (w.map Int.toNat) := by
  rw [takes_good g h.1 h.2, runFrom_runS]; rfl
theorem ltr_toNat' {n : Nat} {w : List Int} (h : ∀ l ∈ w, 0 ≤ l ∧ l < (n : Int)) : Ltr n (w.map Int.toNat) := fun x hx => by
  obtain ⟨l, hl, rfl⟩ := List.mem_map.1 hx
  have := h l hl; omega
end Go.Proofs.Ytfhncnhkeodngaa
namespace Go.Proofs.Ytfhncnhkeodngaa

theorem all_congr' {α : Type} {p q : α → Bool} : ∀ {l : List α}, (∀ x ∈ l, p x = q x) → l.all p = l.all q
  | [], _ => rfl
  | x :: l, h => by rw [List.all_cons, List.all_cons, h x List.mem_cons_self, all_congr' fun y hy => h y (List.mem_cons_of_mem x hy)]
/-- The digits on a track. -/
def trk (base : Int) (t : Nat) (w : List Nat) (i : Nat) : List Int := w.map fun (l : Nat) => digitAt (radix base) t (l : Int) i
theorem trackOf_trk {base : Int} {t : Nat} {w : List Int} (hw : ∀ l ∈ w, 0 ≤ l) (i : Nat) : trackOf (radix base) t w i = trk base t (w.map Int.toNat) i := by
  unfold trackOf trk
  rw [List.map_map]
  refine List.map_congr_left fun l hl => ?_
  show _ = digitAt (radix base) t ((l.toNat : Nat) : Int) i
  have := hw l hl
  rw [show ((l.toNat : Nat) : Int) = l by omega]; rfl
theorem valErr_zero {base : Int} {d : List Int} (h : valErr base d = 0) : digitsFault base d = 0 ∧ wv base d ≤ 1099511627776 ∧ valOf base d = wv base d := by
  have h1 : valOf base d = wv base d := by unfold valOf; rw [if_pos h]
  unfold valErr at h
  split at h
  · omega
  · rename_i h2
    split at h
    · omega
    · exact ⟨by omega, by omega, h1⟩
theorem split_zero {base : Int} {t : Nat} {w : List Int} (h : splitErr base t w = 0) : manyErr base t = 0 ∧ w.length ≤ 60 ∧ (∀ l ∈ w, 0 ≤ l ∧ l < manyOf base t) ∧ splitOf base t w = (List.range t).map (trk base t (w.map Int.toNat)) := by
  have h1 : splitOf base t w = (List.range t).map (trackOf (radix base) t w) := by unfold splitOf; rw [if_pos h]; simp
  unfold splitErr at h
  split at h
  · omega
  · rename_i h2
    split at h
    · omega
    · split at h
      · rename_i h3 h4
        have h5 : ∀ l ∈ w, 0 ≤ l ∧ l < manyOf base t := fun l hl => by simpa using List.all_eq_true.1 h4 l hl
        refine ⟨by omega, by omega, h5, ?_⟩
        rw [h1]
        exact List.map_congr_left fun i _ => trackOf_trk (fun l hl => (h5 l hl).1) i
      · omega
/-- The numbers of a word are what its tracks count. -/
theorem nums_get {base : Int} {t : Nat} {w : List Int} (h : numsErr base t w = 0) : splitErr base t w = 0 ∧ (numsOf base t w).length = t ∧ ∀ j, j < t → (numsOf base t w).getD j 0 = wv base (trk base t (w.map Int.toNat) j) ∧ 0 ≤ wv base (trk base t (w.map Int.toNat) j) ∧ wv base (trk base t (w.map Int.toNat) j) ≤ 1099511627776 := by
  have hn : numsOf base t w = (splitOf base t w).map (valOf base) := by unfold numsOf; rw [if_pos h]
  unfold numsErr at h
  split at h
  · omega
  · rename_i h1
    have h1 : splitErr base t w = 0 := by omega
    obtain ⟨h2, _, _, h3⟩ := split_zero h1
    rw [firstErr_zero] at h
    refine ⟨h1, by rw [hn, h3]; simp, fun j hj => ?_⟩
    have hm : trk base t (w.map Int.toNat) j ∈ splitOf base t w := by rw [h3]; exact List.mem_map.2 ⟨j, List.mem_range.2 hj, rfl⟩
    obtain ⟨k1, k2, k3⟩ := valErr_zero (h _ hm)
    have k4 := fault_zero.1 k1
    refine ⟨?_, wv_nonneg k4.1 k4.2.2, k2⟩
    rw [hn, h3, List.map_map, getD_lt (by simpa using hj)]
    simp only [List.getElem_map, List.getElem_range, Function.comp]
    exact k3
theorem okAdj_right {base : Int} (d : List Int) : okAdj base d = rightOf base d := by
  unfold okAdj rightOf
  by_cases hb : base = 1
  · subst hb
    simp only [bne_self_eq_false, Bool.false_or, decide_true, Bool.not_true]
    have key : ((List.range (d.length - 1)).all fun i => !(d.getD (i + 1) 0 == 1 && d.getD i 0 == 1)) = true ↔ noTwo d = true := by
      rw [noTwo_iff, List.all_eq_true]
      constructor
      · intro h j hj
        have hl := (List.getElem?_eq_some_iff.1 hj.2).1
        have := h j (List.mem_range.2 (by omega))
        rw [List.getD_eq_getElem?_getD, List.getD_eq_getElem?_getD, hj.1, hj.2] at this
        simp at this
      · intro h i hi
        have hi := List.mem_range.1 hi
        have := h i
        rw [List.getElem?_eq_getElem (show i < d.length by omega), List.getElem?_eq_getElem (show i + 1 < d.length by omega)] at this
        rw [getD_lt (show i < d.length by omega), getD_lt (show i + 1 < d.length by omega)]
        simp only [Option.some.injEq] at this
        simp only [Bool.not_eq_true', Bool.and_eq_false_iff, beq_eq_false_iff_ne, ne_eq]
        by_cases e : d[i + 1] = 1
        · exact .inr fun e2 => this ⟨e2, e⟩
        · exact .inl e
    cases h1 : ((List.range (d.length - 1)).all fun i => !(d.getD (i + 1) 0 == 1 && d.getD i 0 == 1)) with
    | true => rw [key.1 h1]
    | false =>
      cases h2 : noTwo d with
      | false => rfl
      | true => rw [key.2 h2] at h1; cases h1
  · have e1 : (base != 1) = true := by simpa using hb
    have e2 : decide (base = 1) = false := by simpa using hb
    rw [e1, e2]; rfl
theorem rightW_get {base : Int} {t : Nat} {w : List Int} (h : rightWErr base t w = 0) : splitErr base t w = 0 ∧ rightWRes base t w = rightWd base t (w.map Int.toNat) := by
  have hres : rightWRes base t w = (splitOf base t w).all (rightRes base) := by unfold rightWRes; rw [h]; simp
  unfold rightWErr at h
  split at h
  · omega
  · rename_i h1
    have h1 : splitErr base t w = 0 := by omega
    obtain ⟨h2, _, h4, h3⟩ := split_zero h1
    rw [firstErr_zero] at h
    refine ⟨h1, ?_⟩
    rw [hres, ← tracks_right fun l hl => (h4 l hl).1]
    have : ∀ r ∈ splitOf base t w, rightRes base r = okAdj base r := fun r hr => by
      unfold rightRes
      rw [okAdj_right, h r hr]
      simp
    rw [all_congr' this, h3, List.all_map]
    unfold tracksOk
    refine all_congr' fun k _ => ?_
    show okAdj base (trk base t (w.map Int.toNat) k) = _
    rw [← trackOf_trk fun l hl => (h4 l hl).1]
    rfl
end Go.Proofs.Ytfhncnhkeodngaa
namespace Go.Proofs.Ytfhncnhkeodngaa
open Go.ChangeShapes Go.WideShapes Go.ChangeAt Go.RowKit Go.Joins Go.Deep

section
variable {H : Type} {enc : TypeId × Value → H} {w : World} {sp : Nat → Bool} {held : Bool}
/-- One cell that reads as a datum. -/
def OpensT (enc : TypeId × Value → H) (w : World) (sp : Nat → Bool) (held : Bool) (T : TypeId) (Q : Go.Proofs.Ytfhncnhkeodngaa.T → Prop) : Prop :=
  ∀ n v y, DataW.trod enc Try.prog w 0 sp held n T [v] = some y → v.oneCell' = true ∧ ∃ x, Q x ∧ x.cells = [x] ∧ RepT (· < w.heap.size) w x v
theorem flat_cells : ∀ {l : List Go.Proofs.Ytfhncnhkeodngaa.T}, (∀ x ∈ l, x.cells = [x]) → Go.Proofs.Ytfhncnhkeodngaa.flat l = l
  | [], _ => rfl
  | a :: t, h => by
    have := flat_cells fun x hx => h x (List.mem_cons_of_mem a hx)
    simp only [Go.Proofs.Ytfhncnhkeodngaa.flat, List.flatMap_cons] at this ⊢
    rw [this, h a List.mem_cons_self]; rfl
theorem opensT_int {T : TypeId} (ht : Try.prog.underlying T = some (.int .i64)) : OpensT enc w sp held T fun x => ∃ n, x = tInt n ∧ I64 n := by
  intro n v y h
  obtain ⟨a, rfl, h2⟩ := opens_int ht n v y h
  exact ⟨rfl, _, ⟨a, rfl, h2⟩, rfl, .int _ _⟩
theorem opensT_slice {T e : TypeId} {Q : Go.Proofs.Ytfhncnhkeodngaa.T → Prop} (ht : Try.prog.underlying T = some (.slice e)) (hc : Try.prog.cellsOf e = 1) (hE : OpensT enc w sp held e Q) :
    OpensT enc w sp held T fun x => ∃ l, x = .list l ∧ ∀ y ∈ l, Q y := by
  intro n v y h
  rcases open_slice1 ht hc h with ⟨hcs, _⟩ | ⟨a, len, cap, m, n', V, D, Pl, hcs, _, hl, hcap, hm, _, hx⟩
  · obtain rfl : v = .slice none 0 0 := by simpa using hcs
    exact ⟨rfl, _, ⟨[], rfl, fun y hy => by simp at hy⟩, rfl, .list [] none 0 1 (fun _ => undef) (Nat.zero_le _) Nat.one_pos (fun x hx => by simp at hx) (fun h => (h rfl).elim) (fun k hk => by simp at hk) (fun k y hy => by simp [Go.Proofs.Ytfhncnhkeodngaa.flat] at hy) (Nat.le_refl _)⟩
  · obtain rfl : v = .slice (some a) len cap := by simpa using hcs
    have hlm : len ≤ m := by rw [hm]; split <;> omega
    have hall : ∀ i, i < len → (V i).oneCell' = true ∧ ∃ b, Q b ∧ b.cells = [b] ∧ RepT (· < w.heap.size) w b (V i) := fun i hi => hE _ _ _ (hx i (by omega)).2
    have key : ∀ k, k ≤ len → ∃ l : List Go.Proofs.Ytfhncnhkeodngaa.T, l.length = k ∧ ∀ i (hi : i < l.length), Q l[i] ∧ l[i].cells = [l[i]] ∧ RepT (· < w.heap.size) w l[i] (V i) := by
      intro k
      induction k with
      | zero => intro _; exact ⟨[], rfl, fun i hi => absurd hi (by simp)⟩
      | succ k ih =>
        intro hk
        obtain ⟨l, hl1, hl2⟩ := ih (by omega)
        obtain ⟨_, b, hb⟩ := hall k (by omega)
        refine ⟨l ++ [b], by simp [hl1], fun i hi => ?_⟩
        rw [List.getElem_append]
        split
        · exact hl2 i ‹_›
        · obtain rfl : i = k := by simp at hi; omega
          simpa using hb
    obtain ⟨l, hl1, hl2⟩ := key len (Nat.le_refl _)
    subst hl1
    have hcells : ∀ x ∈ l, x.cells = [x] := fun x hx => by obtain ⟨i, hi, rfl⟩ := List.mem_iff_getElem.1 hx; exact (hl2 i hi).2.1
    have hfl := flat_cells hcells
    refine ⟨rfl, _, ⟨l, rfl, fun y hy => by obtain ⟨i, hi, rfl⟩ := List.mem_iff_getElem.1 hy; exact (hl2 i hi).1⟩, rfl, ?_⟩
    refine .list l (some a) cap 1 V (by simp only [maxLen] at hcap ⊢; omega) Nat.one_pos (fun x hx => by rw [hcells x hx]; rfl) (fun hne => ?_) (fun k hk => (hall k (by omega)).1) (fun k y hy => ?_) (by omega)
    · obtain ⟨b, off, spot⟩ := a
      have hpos : 0 < l.length := List.length_pos_iff.2 hne
      have hc1 := (hx 0 (by omega)).1
      have hspot : spot = none := by simpa [Addr.add] using World.cell?_spot hc1
      subst hspot
      have hadd : ∀ i, (⟨b, off, none⟩ : Addr).add i = ⟨b, off + i, none⟩ := fun i => by unfold Addr.add; split <;> simp_all
      refine ⟨b, off, rfl, ?_, fun k hk => ?_⟩
      · rw [hadd] at hc1; exact cell_lt hc1
      · have := (hx k (by omega)).1
        rw [hadd] at this; exact this
    · rw [hfl] at hy
      obtain ⟨hk, rfl⟩ := List.getElem?_eq_some_iff.1 hy
      exact (hl2 k hk).2.2
theorem allMap {α : Type} {f : α → Go.Proofs.Ytfhncnhkeodngaa.T} {Q : α → Prop} : ∀ {l : List Go.Proofs.Ytfhncnhkeodngaa.T}, (∀ y ∈ l, ∃ a, y = f a ∧ Q a) → ∃ q : List α, l = q.map f ∧ ∀ a ∈ q, Q a
  | [], _ => ⟨[], rfl, fun a ha => by simp at ha⟩
  | x :: t, h => by
    obtain ⟨a, rfl, ha⟩ := h x List.mem_cons_self
    obtain ⟨q, rfl, hq⟩ := allMap fun y hy => h y (List.mem_cons_of_mem _ hy)
    exact ⟨a :: q, rfl, fun b hb => by
      rcases List.mem_cons.1 hb with rfl | hb
      · exact ha
      · exact hq b hb⟩
theorem opensT_ints {T : TypeId} (h : OpensT enc w sp held T fun x => ∃ l, x = .list l ∧ ∀ y ∈ l, ∃ n, y = tInt n ∧ I64 n) : OpensT enc w sp held T fun x => ∃ l, x = tInts l ∧ I64s l := fun n v y hy => by
  obtain ⟨h1, x, ⟨l, rfl, hl⟩, h2, h3⟩ := h n v y hy
  obtain ⟨q, rfl, hq⟩ := allMap hl
  exact ⟨h1, _, ⟨q, rfl, hq⟩, rfl, h3⟩
theorem opensIntsT : OpensT enc w sp held 24 fun x => ∃ l, x = tInts l ∧ I64s l := opensT_ints (opensT_slice Try.underlying24 (by kernel_rfl) (opensT_int Try.underlying3))
theorem opensIntssT : OpensT enc w sp held 37 fun x => ∃ l, x = tIntss l ∧ ∀ r ∈ l, I64s r := fun n v y hy => by
  obtain ⟨h1, x, ⟨l, rfl, hl⟩, h2, h3⟩ := opensT_slice Try.underlying37 (by kernel_rfl) opensIntsT n v y hy
  obtain ⟨q, rfl, hq⟩ := allMap hl
  exact ⟨h1, _, ⟨q, rfl, hq⟩, rfl, h3⟩
end
theorem walkN {P : Program} {G : World → Prop} {f : Nat} {xs : List T} {w : World} {vs : Array Value} (h : Snd P G f xs (.bool true)) (hG : G w) (hl : vs.size = xs.length) (hx : ∀ (k : Nat) (y : T) (v : Value), xs[k]? = some y → vs[k]? = some v → RepT (· < w.heap.size) w y v) : Calls P f vs w (Ret (.bool true) w) :=
  (h.calls (· < w.heap.size) w vs hG hl hx).mono fun e w' hq => by obtain ⟨u, h1, h2, h3⟩ := hq; cases h2; exact ⟨h1, h3⟩
end Go.Proofs.Ytfhncnhkeodngaa
namespace Go.Proofs.Ytfhncnhkeodngaa
open Go.ChangeShapes Go.WideShapes Go.ChangeAt Go.RowKit Go.Joins Go.Deep

section
variable {H : Type} {enc : TypeId × Value → H} {w : World} {sp : Nat → Bool} {held : Bool}
set_option maxRecDepth 100000 in
theorem openAggT {base : Nat} {t : TypeId} {fs : Array Field} {v : Value} {d : DataW H} {p : List MemPlace} (hs : Try.prog.underlying t = some (.struct fs)) (hone : oneCellFields Try.prog fs = true) (hC : Try.prog.cellsOf t = fs.size)
    (Qs : List (Go.Proofs.Ytfhncnhkeodngaa.T → Prop)) (hF : ∀ (k : Nat) (f : Field), fs[k]? = some f → ∃ Q, Qs[k]? = some Q ∧ OpensT enc w sp held f.type Q) (hv : Value.okWide Try.prog w .any base t v) (h : DataW.Trod enc Try.prog w 0 sp held t v d p) :
    ∃ xs : List Go.Proofs.Ytfhncnhkeodngaa.T, xs.length = fs.size ∧ (∀ (k : Nat) x Q, xs[k]? = some x → Qs[k]? = some Q → Q x) ∧ RepT (· < w.heap.size) w (.agg xs) v := by
  obtain ⟨cs, rfl, hsz⟩ := okWide_struct hs hv
  obtain ⟨fuel, hf⟩ := h
  obtain ⟨ys, n, _, _, hl, hlen, hg⟩ := DataW.trod_struct hs hf
  have hcell : ∀ k, k < fs.size → ∃ x Q, Qs[k]? = some Q ∧ Q x ∧ ∃ u, cs[k]? = some u ∧ u.oneCell' = true ∧ RepT (· < w.heap.size) w x u := fun k hk => by
    have hfk : fs[k]? = some fs[k] := Array.getElem?_eq_getElem hk
    obtain ⟨Q, hQ, hO⟩ := hF k _ hfk
    obtain ⟨o, c⟩ := hone_of hone k _ hfk
    have hg2 := hg k _ hfk
    have hkc : k < cs.size := by omega
    have hy : k < ys.length := by omega
    have e : ((Value.agg cs).cells.toList.drop fs[k].offset).take (Try.prog.cellsOf fs[k].type) = [cs[k]] := by
      rw [o, c]
      show (cs.toList.drop k).take 1 = [cs[k]]
      rw [List.drop_eq_getElem_cons (by simpa using hkc)]
      simp
    rw [e] at hg2
    obtain ⟨h1, x, hx1, _, hx2⟩ := hO _ _ _ (hg2.trans (List.getElem?_eq_getElem hy))
    exact ⟨x, Q, hQ, hx1, cs[k], Array.getElem?_eq_getElem hkc, h1, hx2⟩
  have key : ∀ k, k ≤ fs.size → ∃ l : List Go.Proofs.Ytfhncnhkeodngaa.T, l.length = k ∧ ∀ i (hi : i < l.length), ∃ Q, Qs[i]? = some Q ∧ Q l[i] ∧ ∃ u, cs[i]? = some u ∧ u.oneCell' = true ∧ RepT (· < w.heap.size) w l[i] u := by
    intro k
    induction k with
    | zero => intro _; exact ⟨[], rfl, fun i hi => absurd hi (by simp)⟩
    | succ k ih =>
      intro hk
      obtain ⟨l, hl1, hl2⟩ := ih (by omega)
      obtain ⟨x, Q, q1, q2, q3⟩ := hcell k (by omega)
      refine ⟨l ++ [x], by simp [hl1], fun i hi => ?_⟩
      rw [List.getElem_append]
      split
      · exact hl2 i ‹_›
      · obtain rfl : i = k := by simp at hi; omega
        simpa using ⟨Q, q1, q2, q3⟩
  obtain ⟨l, hl1, hl2⟩ := key fs.size (Nat.le_refl _)
  refine ⟨l, hl1, fun k x Q hx hQ => ?_, .agg _ _ (by omega) (fun k u hu => ?_) fun k y u hy hu => ?_⟩
  · obtain ⟨hk, rfl⟩ := List.getElem?_eq_some_iff.1 hx
    obtain ⟨Q', q1, q2, _⟩ := hl2 k hk
    rw [hQ] at q1; cases q1; exact q2
  · have hk := (Array.getElem?_eq_some_iff.1 hu).1
    obtain ⟨_, _, _, u', h1, h2, _⟩ := hl2 k (by omega)
    rw [hu] at h1; cases h1; exact h2
  · obtain ⟨hk, rfl⟩ := List.getElem?_eq_some_iff.1 hy
    obtain ⟨_, _, _, u', h1, _, h3⟩ := hl2 k hk
    rw [hu] at h1; cases h1; exact h3
end
end Go.Proofs.Ytfhncnhkeodngaa
namespace Go.Proofs.Ytfhncnhkeodngaa
open Go.ChangeShapes Go.WideShapes Go.ChangeAt Go.RowKit Go.Joins Go.Deep

def ReadsOut (w : World) (v : Value) (o : GOut) : Prop := RepT (· < w.heap.size) w (tOut o) v
section
variable {H : Type} {enc : TypeId × Value → H} {w : World} {sp : Nat → Bool} {held : Bool}
set_option maxRecDepth 100000 in
theorem openOutT {base : Nat} {v : Value} {d : DataW H} {p : List MemPlace} (hv : Value.okWide Try.prog w .any base 39 v) (h : DataW.Trod enc Try.prog w 0 sp held 39 v d p) : ∃ o : GOut, ReadsOut w v o := by
  obtain ⟨xs, hl, hx, hr⟩ := openAggT Try.underlying39 (by kernel_rfl) (by kernel_rfl)
    [fun x => ∃ n, x = tInt n ∧ I64 n, fun x => ∃ l, x = tIntss l ∧ ∀ r ∈ l, I64s r, fun x => ∃ l, x = tInts l ∧ I64s l]
    (fun k f hf => by
      match k, hf with
      | 0, hf => cases hf; exact ⟨_, rfl, opensT_int Try.underlying3⟩
      | 1, hf => cases hf; exact ⟨_, rfl, opensIntssT⟩
      | 2, hf => cases hf; exact ⟨_, rfl, opensIntsT⟩) hv h
  match xs, hl with
  | [x, y, z], _ =>
    obtain ⟨a, rfl, _⟩ := hx 0 x _ rfl rfl
    obtain ⟨b, rfl, _⟩ := hx 1 y _ rfl rfl
    obtain ⟨c, rfl, _⟩ := hx 2 z _ rfl rfl
    exact ⟨⟨a, b, c⟩, hr⟩
end
end Go.Proofs.Ytfhncnhkeodngaa
namespace Go.Proofs.Ytfhncnhkeodngaa
open Go.RowKit

theorem isL_regular {o : GOut} {k m : Nat} (g : OkOut o k m) (v : Int) : Regular k (isL o v) := by
  obtain ⟨m1, m2⟩ := many_one g.k_eq g.k2
  have hR := late_rows g.rows g.m0
  obtain ⟨t1, t2⟩ := rgt_table (ends := (lateO o.outs).map fun x => decide (x = v)) m1 m2 hR (Nat.succ_pos _)
  exact Regular.of t1 t2 fun w hw => by
    rw [rgt_lang m1 m2 hR (Nat.succ_pos _) hw, lang_says g (fun x => decide (x = v)) hw]; rfl
theorem likeL_regular {o p : GOut} {k m mp : Nat} (g : OkOut o k m) (g2 : OkOut p k mp) : Regular (k * k) (likeL o p k) := by
  obtain ⟨m1, m2⟩ := many_two g.k_eq g.k2
  have hk := g.k2
  have hA := late_rows g.rows g.m0
  have hB := late_rows g2.rows g2.m0
  have hf : ∀ l, l < k * k → l / k < k := fun l hl => Nat.div_lt_of_lt_mul hl
  have hg : ∀ l, l < k * k → l % k < k := fun l _ => Nat.mod_lt _ (by omega)
  have hR := (g_expl (n := k * k) (f := (· / k)) (g := (· % k)) hA hB hf hg).table g_len
  have hp : 0 < (gPairs (late o.next).length (late p.next).length).length := by
    rw [gPairs_length, hA.len, hB.len]
    exact Nat.mul_pos (by omega) (by omega)
  obtain ⟨t1, t2⟩ := rgt_table (ends := (gPairs (late o.next).length (late p.next).length).map fun q => decide (sayAt o q.1 = sayAt p q.2)) m1 m2 hR hp
  exact Regular.of t1 t2 fun w hw => by
    rw [rgt_lang m1 m2 hR hp hw, g_lang hA hB (by omega) (by omega) hf hg (fun q => decide (sayAt o q.1 = sayAt p q.2)) hw]; rfl
theorem isOf_ok {o : GOut} {v : Int} (h : isErr o v = 0) : ∃ k m, OkOut o k m ∧ IsLeast (isOf o v) k o.base (1 : Nat) (isL o v) ∧ Good (isOf o v) k (isOf o v).next.length := by
  unfold isErr at h
  split at h
  · omega
  · rename_i h1
    have h1 : outErr o = 0 := Classical.not_not.1 h1
    split at h
    · omega
    · rename_i h2
      have g := out_ok h1
      obtain ⟨m1, m2⟩ := many_one g.k_eq g.k2
      have e : isOf o v = autoL o.base 1 (radix o.base).toNat (isL o v) := by unfold isOf; rw [if_neg (by omega)]
      obtain ⟨h3, h4⟩ := autoL_isLeast (base := o.base) (t := 1) (isL_regular g v) h
      rw [e]
      exact ⟨_, _, g, h3, IsLeast.good2 (t := 1) m1 m2 h3 h4⟩
theorem likeOf_ok {o p : GOut} (h : likeErr o p = 0) : ∃ k m mp, OkOut o k m ∧ OkOut p k mp ∧ o.base = p.base ∧ IsLeast (likeOf o p) (k * k) o.base (2 : Nat) (likeL o p k) ∧ Good (likeOf o p) (k * k) (likeOf o p).next.length := by
  unfold likeErr at h
  split at h
  · omega
  · rename_i h1
    have h1 : outErr o = 0 := Classical.not_not.1 h1
    split at h
    · omega
    · rename_i h2
      have h2 : outErr p = 0 := Classical.not_not.1 h2
      split at h
      · omega
      · rename_i h3
        have h3 : o.base = p.base := Classical.not_not.1 h3
        have g := out_ok h1
        have g2 := out_ok h2
        rw [← h3] at g2
        obtain ⟨m1, m2⟩ := many_two g.k_eq g.k2
        have e : likeOf o p = autoL o.base 2 ((radix o.base).toNat * (radix o.base).toNat) (likeL o p (radix o.base).toNat) := by
          unfold likeOf
          rw [if_neg]
          rintro (e | e | e)
          · exact e h1
          · exact e h2
          · exact e h3
        obtain ⟨h4, h5⟩ := autoL_isLeast (base := o.base) (t := 2) (likeL_regular g g2) h
        rw [e]
        exact ⟨_, _, _, g, g2, h3, h4, IsLeast.good2 (t := 2) m1 m2 h4 h5⟩
theorem wordL_one {base n : Int} (h : wordErr base [n] = 0) : wordL base [n] = ofL base n := by
  unfold wordL
  rw [if_pos h]
  have hl : longest ([n].map (ofL base)) = (ofL base n).length := by simp [longest]
  rw [hl]
  apply List.ext_getElem
  · simp [wordRows]
  · intro i h1 h2
    simp only [wordRows, List.getElem_map, List.getElem_range, column, List.map_cons, List.map_nil, pack, List.foldl_cons, List.foldl_nil]
    rw [show pad (ofL base n).length (ofL base n) = ofL base n by simp [pad], getD_lt h2]
    omega
theorem wordL_two {base n q : Int} {k : Nat} (hk : radix base = k) (h2 : 2 ≤ k) (h : wordErr base [n, q] = 0) : ∃ L, (ofL base n).length ≤ L ∧ (ofL base q).length ≤ L ∧ ((wordL base [n, q]).map Int.toNat).map (· / k) = (pad L (ofL base n)).map Int.toNat ∧ ((wordL base [n, q]).map Int.toNat).map (· % k) = (pad L (ofL base q)).map Int.toNat := by
  obtain ⟨hm, hall⟩ := wordErr_zero h
  have hr : radix base ≠ 0 := by omega
  have ok1 := (ofL_is (ofErr_zero.2 ⟨hr, hall n (by simp)⟩)).ok
  have ok2 := (ofL_is (ofErr_zero.2 ⟨hr, hall q (by simp)⟩)).ok
  have hL1 : (ofL base n).length ≤ longest ([n, q].map (ofL base)) := longest_ge (by simp)
  have hL2 : (ofL base q).length ≤ longest ([n, q].map (ofL base)) := longest_ge (by simp)
  have hw : wordL base [n, q] = wordRows (radix base) (longest ([n, q].map (ofL base))) ([n, q].map (ofL base)) := by unfold wordL; rw [if_pos h]
  rw [hw]
  generalize longest ([n, q].map (ofL base)) = L at *
  have p1 := pad_ok hr (long := L) ok1
  have p2 := pad_ok hr (long := L) ok2
  have l1 := pad_length hL1
  have l2 := pad_length hL2
  have key : ∀ i (h1 : i < (pad L (ofL base n)).length) (h2 : i < (pad L (ofL base q)).length), pack (radix base) (column L ([n, q].map (ofL base)) i) = (pad L (ofL base n))[i] * k + (pad L (ofL base q))[i] := fun i h1 h2 => by
    simp only [column, List.map_cons, List.map_nil, pack, List.foldl_cons, List.foldl_nil]
    rw [getD_lt h1, getD_lt h2, hk, Int.zero_mul, Int.zero_add]
  have split : ∀ x y : Int, 0 ≤ x → 0 ≤ y → y < k → (x * k + y).toNat / k = x.toNat ∧ (x * k + y).toNat % k = y.toNat := fun x y hx hy hyk => by
    obtain ⟨x, rfl⟩ := Int.eq_ofNat_of_zero_le hx
    obtain ⟨y, rfl⟩ := Int.eq_ofNat_of_zero_le hy
    have e : ((x : Int) * k + y).toNat = y + k * x := by
      have : ((x : Int) * k + y) = ((y + k * x : Nat) : Int) := by push_cast; rw [Int.mul_comm]; omega
      rw [this, Int.toNat_natCast]
    rw [e, Nat.add_mul_div_left _ _ (by omega), Nat.add_mul_mod_self_left, Nat.div_eq_of_lt (by omega), Nat.mod_eq_of_lt (by omega)]
    simp
  refine ⟨L, hL1, hL2, ?_, ?_⟩
  · apply List.ext_getElem
    · simp [wordRows, l1]
    · intro i h1 h3
      have h4 : i < (pad L (ofL base n)).length := by simpa using h3
      simp only [List.getElem_map, wordRows, List.getElem_range]
      rw [key i h4 (by omega)]
      have a := p1 _ (List.getElem_mem h4)
      have b := p2 _ (List.getElem_mem (show i < (pad L (ofL base q)).length by omega))
      exact (split _ _ a.1 b.1 (by omega)).1
  · apply List.ext_getElem
    · simp [wordRows, l2]
    · intro i h1 h3
      have h4 : i < (pad L (ofL base q)).length := by simpa using h3
      simp only [List.getElem_map, wordRows, List.getElem_range]
      rw [key i (by omega) h4]
      have a := p1 _ (List.getElem_mem (show i < (pad L (ofL base n)).length by omega))
      have b := p2 _ (List.getElem_mem h4)
      exact (split _ _ a.1 b.1 (by omega)).2
/-- What is said behind a number's digits, with 0s ahead. -/
theorem say_digits {o : GOut} {k m : Nat} (g : OkOut o k m) {n : Int} (hn : 0 ≤ n ∧ n ≤ 1099511627776) (j : Nat) : sayAt o (runS (late o.next) 0 ((List.replicate j 0 ++ ofL o.base n).map Int.toNat)) = said o n ∧ Ltr k ((ofL o.base n).map Int.toNat) := by
  have hr : radix o.base ≠ 0 := by have := g.k_eq; have := g.k2; omega
  have hi := ofL_is (ofErr_zero.2 ⟨hr, hn⟩)
  have hL : Ltr k ((ofL o.base n).map Int.toNat) := fun x hx => by
    obtain ⟨y, hy, rfl⟩ := List.mem_map.1 hx
    have := hi.ok y hy
    have := g.k_eq
    omega
  refine ⟨?_, hL⟩
  have hh : ((ofL o.base n).map Int.toNat).head? ≠ some 0 := by
    have := hi.lead
    have hok := hi.ok
    cases hc : ofL o.base n with
    | nil => simp
    | cons x t =>
      rw [hc] at this hok
      have hx := hok x List.mem_cons_self
      simp only [noLead, List.head?_cons, ne_eq, Option.some.injEq, List.map_cons] at this ⊢
      omega
  unfold sayAt said
  rw [List.map_append, List.map_replicate, show (0 : Int).toNat = 0 from rfl, late_said g.rows g.m0 (by have := g.k2; omega) j hL hh, runFrom_runS]
theorem rightWd_zeros (base : Int) (t : Nat) (w : List Nat) : ∀ j, rightWd base t (List.replicate j 0 ++ w) = rightWd base t w
  | 0 => rfl
  | j + 1 => by
    have := rightWd_zeros base t w j
    rw [rightWd_walk] at this ⊢
    show (!clash base t 0 0 && walkOk (clash base t) 0 (List.replicate j 0 ++ w)) = _
    rw [clash_zero, this]; rfl
/-- An output's automaton takes a number's word just if that is said there. -/
theorem is_takes {o : GOut} {v n : Int} (he : isErr o v = 0) (hn : 0 ≤ n ∧ n ≤ 1099511627776) : wordErr o.base [n] = 0 ∧ ∀ j : Nat, j ≤ 20 → (List.replicate j 0 ++ wordL o.base [n]).length ≤ 400 ∧ runErr (isOf o v) (List.replicate j 0 ++ wordL o.base [n]) = 0 ∧ takesOf (isOf o v) (List.replicate j 0 ++ wordL o.base [n]) = decide (said o n = v) := by
  obtain ⟨k, m, g, hl, gm⟩ := isOf_ok he
  obtain ⟨m1, m2⟩ := many_one g.k_eq g.k2
  have hr : radix o.base ≠ 0 := by have := g.k_eq; have := g.k2; omega
  have hw : wordErr o.base [n] = 0 := wordErr_ok m1 fun x hx => by simp at hx; subst hx; exact hn
  refine ⟨hw, fun j hj => ?_⟩
  obtain ⟨_, _, b3, b4, _, hlen⟩ := word_back hw (wordL_is o.base [n])
  have hrw := (rightW_get (t := 1) b3).2
  rw [show rightWRes o.base ((1 : Nat) : Int) (wordL o.base [n]) = true from b4] at hrw
  rw [wordL_one hw] at hrw hlen ⊢
  obtain ⟨s1, s2⟩ := say_digits g hn j
  have hok : ∀ l ∈ List.replicate j 0 ++ ofL o.base n, 0 ≤ l ∧ l < (k : Int) := fun l hl => by
    rcases List.mem_append.1 hl with h | h
    · rw [List.eq_of_mem_replicate h]; have := g.k2; omega
    · have := (ofL_is (ofErr_zero.2 ⟨hr, hn⟩)).ok l h
      have := g.k_eq
      omega
  have hrr : (List.replicate j 0 ++ ofL o.base n).length ≤ 400 ∧ ∀ l ∈ List.replicate j 0 ++ ofL o.base n, 0 ≤ l ∧ l < (k : Int) := ⟨by simp; omega, hok⟩
  refine ⟨hrr.1, (runErr_good gm _).2 hrr, ?_⟩
  rw [takes_lng' gm hrr, hl.lng (ltr_toNat' hok)]
  unfold isL
  rw [s1, List.map_append, List.map_replicate, show (0 : Int).toNat = 0 from rfl, rightWd_zeros, ← hrw, Bool.and_true]
theorem like_takes {o p : GOut} {n q : Int} (he : likeErr o p = 0) (hn : 0 ≤ n ∧ n ≤ 1099511627776) (hq : 0 ≤ q ∧ q ≤ 1099511627776) : wordErr o.base [n, q] = 0 ∧ runErr (likeOf o p) (wordL o.base [n, q]) = 0 ∧ takesOf (likeOf o p) (wordL o.base [n, q]) = decide (said o n = said p q) := by
  obtain ⟨k, m, mp, g, g2, hb, hl, gm⟩ := likeOf_ok he
  obtain ⟨m1, m2⟩ := many_two g.k_eq g.k2
  have hw : wordErr o.base [n, q] = 0 := wordErr_ok m1 fun x hx => by simp at hx; rcases hx with rfl | rfl; exact hn; exact hq
  obtain ⟨b1, _, b3, b4, _, hlen⟩ := word_back hw (wordL_is o.base [n, q])
  have hrw := (rightW_get (t := 2) b3).2
  rw [show rightWRes o.base ((2 : Nat) : Int) (wordL o.base [n, q]) = true from b4] at hrw
  obtain ⟨L, _, _, d1, d2⟩ := wordL_two g.k_eq g.k2.1 hw
  obtain ⟨_, _, hok, _⟩ := split_zero (t := 2) (nums_get (t := 2) b1).1
  have hrr : (wordL o.base [n, q]).length ≤ 400 ∧ ∀ l ∈ wordL o.base [n, q], 0 ≤ l ∧ l < ((k * k : Nat) : Int) := ⟨by omega, fun l hl => by have := hok l hl; omega⟩
  refine ⟨hw, (runErr_good gm _).2 hrr, ?_⟩
  rw [takes_lng' gm hrr, hl.lng (ltr_toNat' hrr.2)]
  unfold likeL
  rw [d1, d2, ← hrw, Bool.and_true]
  have s1 := (say_digits g hn (L - (ofL o.base n).length)).1
  have s2 := (say_digits g2 hq (L - (ofL p.base q).length)).1
  rw [← hb] at s2
  unfold pad
  rw [s1, s2]
section
variable {G : World → Prop} (hG : Lasting G)
include hG
set_option maxHeartbeats 8000000 in
set_option maxRecDepth 100000 in
theorem WordTakes_snd (o p : GOut) (v n q zeros : Int) : Snd Try.prog G 4 [tOut o, tOut p, tInt v, tInt n, tInt q, tInt zeros] (.bool true) := by
  have c1 := At_snd (G := G) hG o n
  have c2 := At_snd (G := G) hG p q
  have c3 := Is_snd (G := G) hG o v
  refine snd_of_body (n := 135) (tm := [(0, .t (tOut o)), (1, .t (tOut p)), (2, .t (tInt v)), (3, .t (tInt n)), (4, .t (tInt q)), (5, .t (tInt zeros))]) (rs := [.tmp 12]) tt_ok Try.func4 rfl rfl rfl rfl rfl ?_
  by_cases e1 : atErr o n = 0
  · by_cases e2 : atErr p q = 0
    · by_cases e3 : isErr o v = 0
      · have hz : zeros < 0 ∨ 20 < zeros ∨ (0 ≤ zeros ∧ zeros ≤ 20) := by omega
        have hn : 0 ≤ n ∧ n ≤ 1099511627776 := by unfold atErr at e1; split at e1; omega; split at e1 <;> omega
        have hq : 0 ≤ q ∧ q ≤ 1099511627776 := by unfold atErr at e2; split at e2; omega; split at e2 <;> omega
        have a1 : atOf o n = said o n := by unfold atOf; rw [if_pos e1]
        have a2 : atOf p q = said p q := by unfold atOf; rw [if_pos e2]
        rw [e1, a1] at c1
        rw [e2, a2] at c2
        rw [e3] at c3
        obtain ⟨w1, w2⟩ := is_takes e3 hn
        have cW := Word_snd hG o.base [n]
        rw [w1] at cW
        have cL := Like_snd (G := G) hG o p
        have lk := fun he => like_takes (o := o) (p := p) (n := n) (q := q) he hn hq
        have cW2 := Word_snd hG o.base [n, q]
        have cT := fun w => Takes_snd hG (isOf o v) w
        have cT2 := fun w => Takes_snd hG (likeOf o p) w
        generalize said o n = x at *
        generalize said p q = y at *
        generalize isOf o v = m at *
        generalize likeOf o p = lm at *
        generalize likeErr o p = le at *
        generalize wordL o.base [n, q] = wd2 at *
        generalize wordErr o.base [n, q] = we2 at *
        generalize wordL o.base [n] = wd at *
        have htb := Tab.cons c1 Tab.nil
        repeat' (first | (with_reducible first | refine SW_seq ?_ | refine SW_block ?_ | refine SThen_n ?_ | refine SThen_r ?_ | refine SThen_e ?_ | refine SIn_n ?_ | refine SIn_r ?_ | refine SIn_eq ?_ | refine SW_skip ?_ | refine SW_exit ?_ | refine SW_ret ?_ | refine SPost_r ?_) | ((with_reducible refine SIn_ne ?_ ?_); focus decide) | ((with_reducible refine SW_true ?_ ?_); focus exact rfl) | ((with_reducible refine SW_false ?_ ?_); focus exact rfl) | ((first | (with_reducible apply SW_run tt_ok hG htb) | ((with_reducible apply SW_draw rfl tt_ok hG htb); (focus kernel_rfl); (focus (simp only [List.range, List.range.loop, List.size_toArray, List.length_cons, List.length_nil, Nat.reduceAdd])))); focus ((repeat' (first | (with_reducible exact runX_nil) | (with_reducible exact runI_nil) | ((first | (with_reducible apply runX_cons) | (with_reducible apply runI_cons)); focus (simp (discharger := omega) only [go_sem, tOut, tErr0, ↓reduceIte, reduceIte, Nat.reduceEqDiff, Nat.reduceLT, Nat.reduceLeDiff, Nat.reduceAdd, Nat.reduceSub, Nat.reduceMul, Nat.reduceDiv, Nat.reduceMod, Nat.reduceBEq, Int.reduceEq, Int.reduceLT, Int.reduceLE, Int.reduceNeg, Int.reduceToNat, reduceCtorEq]; with_reducible rfl)))); done)))
        clear htb
        have htb := Tab.cons c2 (Tab.cons c3 Tab.nil)
        rcases hz with hz | hz | hz
        · repeat' (first | (with_reducible first | refine SW_seq ?_ | refine SW_block ?_ | refine SThen_n ?_ | refine SThen_r ?_ | refine SThen_e ?_ | refine SIn_n ?_ | refine SIn_r ?_ | refine SIn_eq ?_ | refine SW_skip ?_ | refine SW_exit ?_ | refine SW_ret ?_ | refine SPost_r ?_) | ((with_reducible refine SIn_ne ?_ ?_); focus decide) | ((with_reducible refine SW_true ?_ ?_); focus exact rfl) | ((with_reducible refine SW_false ?_ ?_); focus exact rfl) | ((first | (with_reducible apply SW_run tt_ok hG htb) | ((with_reducible apply SW_draw rfl tt_ok hG htb); (focus kernel_rfl); (focus (simp only [List.range, List.range.loop, List.size_toArray, List.length_cons, List.length_nil, Nat.reduceAdd])))); focus ((repeat' (first | (with_reducible exact runX_nil) | (with_reducible exact runI_nil) | ((first | (with_reducible apply runX_cons) | (with_reducible apply runI_cons)); focus (simp (discharger := omega) only [go_sem, tOut, tErr0, tAuto, ↓reduceIte, reduceIte, Nat.reduceEqDiff, Nat.reduceLT, Nat.reduceLeDiff, Nat.reduceAdd, Nat.reduceSub, Nat.reduceMul, Nat.reduceDiv, Nat.reduceMod, Nat.reduceBEq, Int.reduceEq, Int.reduceLT, Int.reduceLE, Int.reduceNeg, Int.reduceToNat, reduceCtorEq]; with_reducible rfl)))); done)))
          exact (by simp (discharger := omega) only [go_sem, ↓reduceIte, reduceIte, Nat.reduceEqDiff, Nat.reduceLT, Nat.reduceLeDiff, Nat.reduceAdd, Nat.reduceSub, Nat.reduceMul, Nat.reduceDiv, Nat.reduceMod, Nat.reduceBEq, Int.reduceEq, Int.reduceLT, Int.reduceLE, Int.reduceNeg, Int.reduceToNat, reduceCtorEq])
        · repeat' (first | (with_reducible first | refine SW_seq ?_ | refine SW_block ?_ | refine SThen_n ?_ | refine SThen_r ?_ | refine SThen_e ?_ | refine SIn_n ?_ | refine SIn_r ?_ | refine SIn_eq ?_ | refine SW_skip ?_ | refine SW_exit ?_ | refine SW_ret ?_ | refine SPost_r ?_) | ((with_reducible refine SIn_ne ?_ ?_); focus decide) | ((with_reducible refine SW_true ?_ ?_); focus exact rfl) | ((with_reducible refine SW_false ?_ ?_); focus exact rfl) | ((first | (with_reducible apply SW_run tt_ok hG htb) | ((with_reducible apply SW_draw rfl tt_ok hG htb); (focus kernel_rfl); (focus (simp only [List.range, List.range.loop, List.size_toArray, List.length_cons, List.length_nil, Nat.reduceAdd])))); focus ((repeat' (first | (with_reducible exact runX_nil) | (with_reducible exact runI_nil) | ((first | (with_reducible apply runX_cons) | (with_reducible apply runI_cons)); focus (simp (discharger := omega) only [go_sem, tOut, tErr0, tAuto, ↓reduceIte, reduceIte, Nat.reduceEqDiff, Nat.reduceLT, Nat.reduceLeDiff, Nat.reduceAdd, Nat.reduceSub, Nat.reduceMul, Nat.reduceDiv, Nat.reduceMod, Nat.reduceBEq, Int.reduceEq, Int.reduceLT, Int.reduceLE, Int.reduceNeg, Int.reduceToNat, reduceCtorEq]; with_reducible rfl)))); done)))
          exact (by simp (discharger := omega) only [go_sem, ↓reduceIte, reduceIte, Nat.reduceEqDiff, Nat.reduceLT, Nat.reduceLeDiff, Nat.reduceAdd, Nat.reduceSub, Nat.reduceMul, Nat.reduceDiv, Nat.reduceMod, Nat.reduceBEq, Int.reduceEq, Int.reduceLT, Int.reduceLE, Int.reduceNeg, Int.reduceToNat, reduceCtorEq])
        · obtain ⟨z, rfl⟩ := Int.eq_ofNat_of_zero_le hz.1
          obtain ⟨w5, w3, w4⟩ := w2 z (by omega)
          clear w2
          have cTz := cT (List.replicate z 0 ++ wd)
          rw [w3, w4] at cTz
          clear cT
          repeat' (first | (with_reducible first | refine SW_seq ?_ | refine SW_block ?_ | refine SThen_n ?_ | refine SThen_r ?_ | refine SThen_e ?_ | refine SIn_n ?_ | refine SIn_r ?_ | refine SIn_eq ?_ | refine SW_skip ?_ | refine SW_exit ?_ | refine SW_ret ?_ | refine SPost_r ?_) | ((with_reducible refine SIn_ne ?_ ?_); focus decide) | ((with_reducible refine SW_true ?_ ?_); focus exact rfl) | ((with_reducible refine SW_false ?_ ?_); focus exact rfl) | ((first | (with_reducible apply SW_run tt_ok hG htb) | ((with_reducible apply SW_draw rfl tt_ok hG htb); (focus kernel_rfl); (focus (simp only [List.range, List.range.loop, List.size_toArray, List.length_cons, List.length_nil, Nat.reduceAdd])))); focus ((repeat' (first | (with_reducible exact runX_nil) | (with_reducible exact runI_nil) | ((first | (with_reducible apply runX_cons) | (with_reducible apply runI_cons)); focus (simp (discharger := omega) only [go_sem, tOut, tErr0, tAuto, ↓reduceIte, reduceIte, Nat.reduceEqDiff, Nat.reduceLT, Nat.reduceLeDiff, Nat.reduceAdd, Nat.reduceSub, Nat.reduceMul, Nat.reduceDiv, Nat.reduceMod, Nat.reduceBEq, Int.reduceEq, Int.reduceLT, Int.reduceLE, Int.reduceNeg, Int.reduceToNat, reduceCtorEq]; with_reducible rfl)))); done)))
          clear htb
          have htb := Tab.cons cW Tab.nil
          repeat' (first | (with_reducible first | refine SW_seq ?_ | refine SW_block ?_ | refine SThen_n ?_ | refine SThen_r ?_ | refine SThen_e ?_ | refine SIn_n ?_ | refine SIn_r ?_ | refine SIn_eq ?_ | refine SW_skip ?_ | refine SW_exit ?_ | refine SW_ret ?_ | refine SPost_r ?_) | ((with_reducible refine SIn_ne ?_ ?_); focus decide) | ((with_reducible refine SW_true ?_ ?_); focus exact rfl) | ((with_reducible refine SW_false ?_ ?_); focus exact rfl) | ((first | (with_reducible apply SW_run tt_ok hG htb) | ((with_reducible apply SW_draw rfl tt_ok hG htb); (focus kernel_rfl); (focus (simp only [List.range, List.range.loop, List.size_toArray, List.length_cons, List.length_nil, Nat.reduceAdd])))); focus ((repeat' (first | (with_reducible exact runX_nil) | (with_reducible exact runI_nil) | ((first | (with_reducible apply runX_cons) | (with_reducible apply runI_cons)); focus (simp (discharger := omega) only [go_sem, tOut, tErr0, tAuto, ↓reduceIte, reduceIte, Nat.reduceEqDiff, Nat.reduceLT, Nat.reduceLeDiff, Nat.reduceAdd, Nat.reduceSub, Nat.reduceMul, Nat.reduceDiv, Nat.reduceMod, Nat.reduceBEq, Int.reduceEq, Int.reduceLT, Int.reduceLE, Int.reduceNeg, Int.reduceToNat, reduceCtorEq]; with_reducible rfl)))); done)))
          refine SW_loop (fun mm s => ∃ (i : Nat) (ot : List T), mm = z - i ∧ s = ⟨135, [(2, .t (tInt v)), (3, .t (tInt n)), (4, .t (tInt q)), (5, .t (tInt z)), (6, .bptr 0 0), (7, .bptr 1 0), (13, .t (tInt x)), (14, .t .nilI), (15, .t (tInt y)), (17, .bptr 2 0), (19, .t (tInts wd)), (20, .sref 3), (21, .t (tInt i))], [.box [.t (tInt o.base), .t (tIntss o.next), .t (tInts o.outs)], .box [.t (tInt p.base), .t (tIntss p.next), .t (tInts p.outs)], .box [.t (tInt m.base), .t (tInt m.tracks), .t (tIntss m.next), .t (tBools m.ends)], .row 3 1 false ot]⟩ ∧ i ≤ z ∧ ot = (List.replicate i 0).map tInt) z
            ⟨_, Norm.headS (own := [(20, 3, 1, false)]) (keep := [2, 3, 4, 5, 6, 7, 13, 14, 15, 17, 19, 20, 21]) (by simp (discharger := omega) only [go_sem, ↓reduceIte, reduceIte, Nat.reduceEqDiff, Nat.reduceLT, Nat.reduceLeDiff, Nat.reduceAdd, Nat.reduceSub, Nat.reduceMul, Nat.reduceDiv, Nat.reduceMod, Nat.reduceBEq, Int.reduceEq, Int.reduceLT, Int.reduceLE, Int.reduceNeg, Int.reduceToNat, reduceCtorEq]; with_reducible rfl) (by simp only [go_sem, ↓reduceIte, reduceIte, Nat.reduceEqDiff, Nat.reduceLT, Nat.reduceLeDiff, Nat.reduceAdd, Nat.reduceSub, Nat.reduceMul, Nat.reduceDiv, Nat.reduceMod, Nat.reduceBEq, Int.reduceEq, Int.reduceLT, Int.reduceLE, Int.reduceNeg, Int.reduceToNat, reduceCtorEq]; with_reducible rfl) (by simp only [go_sem, ↓reduceIte, reduceIte, Nat.reduceEqDiff, Nat.reduceLT, Nat.reduceLeDiff, Nat.reduceAdd, Nat.reduceSub, Nat.reduceMul, Nat.reduceDiv, Nat.reduceMod, Nat.reduceBEq, Int.reduceEq, Int.reduceLT, Int.reduceLE, Int.reduceNeg, Int.reduceToNat, reduceCtorEq]; with_reducible rfl) (by simp only [go_sem, ↓reduceIte, reduceIte, Nat.reduceEqDiff, Nat.reduceLT, Nat.reduceLeDiff, Nat.reduceAdd, Nat.reduceSub, Nat.reduceMul, Nat.reduceDiv, Nat.reduceMod, Nat.reduceBEq, Int.reduceEq, Int.reduceLT, Int.reduceLE, Int.reduceNeg, Int.reduceToNat, reduceCtorEq]; with_reducible rfl) (by simp only [go_sem, ↓reduceIte, reduceIte, Nat.reduceEqDiff, Nat.reduceLT, Nat.reduceLeDiff, Nat.reduceAdd, Nat.reduceSub, Nat.reduceMul, Nat.reduceDiv, Nat.reduceMod, Nat.reduceBEq, Int.reduceEq, Int.reduceLT, Int.reduceLE, Int.reduceNeg, Int.reduceToNat, reduceCtorEq]; with_reducible rfl), 0, _, rfl, rfl, Nat.zero_le _, rfl⟩ ?_
          rintro mm s ⟨i, ot, rfl, rfl, hi, hot⟩
          have hol : ot.length = i := by rw [hot]; simp
          by_cases hlt : i < z
          · repeat' (first | (with_reducible first | refine SW_seq ?_ | refine SW_block ?_ | refine SThen_n ?_ | refine SThen_r ?_ | refine SThen_e ?_ | refine SIn_n ?_ | refine SIn_r ?_ | refine SIn_eq ?_ | refine SW_skip ?_ | refine SW_exit ?_ | refine SW_ret ?_ | refine SPost_r ?_) | ((with_reducible refine SIn_ne ?_ ?_); focus decide) | ((with_reducible refine SW_true ?_ ?_); focus exact rfl) | ((with_reducible refine SW_false ?_ ?_); focus exact rfl) | ((first | (with_reducible apply SW_run tt_ok hG htb) | ((with_reducible apply SW_draw rfl tt_ok hG htb); (focus kernel_rfl); (focus (simp only [List.range, List.range.loop, List.size_toArray, List.length_cons, List.length_nil, Nat.reduceAdd])))); focus ((repeat' (first | (with_reducible exact runX_nil) | (with_reducible exact runI_nil) | ((first | (with_reducible apply runX_cons) | (with_reducible apply runI_cons)); focus (simp (discharger := omega) only [go_sem, ↓reduceIte, reduceIte, Nat.reduceEqDiff, Nat.reduceLT, Nat.reduceLeDiff, Nat.reduceAdd, Nat.reduceSub, Nat.reduceMul, Nat.reduceDiv, Nat.reduceMod, Nat.reduceBEq, Int.reduceEq, Int.reduceLT, Int.reduceLE, Int.reduceNeg, Int.reduceToNat, reduceCtorEq]; with_reducible rfl)))); done)))
            exact ⟨z - (i + 1), _, by omega, Norm.headS (own := [(20, 3, 1, false)]) (keep := [2, 3, 4, 5, 6, 7, 13, 14, 15, 17, 19, 20, 21]) (by simp (discharger := omega) only [go_sem, ↓reduceIte, reduceIte, Nat.reduceEqDiff, Nat.reduceLT, Nat.reduceLeDiff, Nat.reduceAdd, Nat.reduceSub, Nat.reduceMul, Nat.reduceDiv, Nat.reduceMod, Nat.reduceBEq, Int.reduceEq, Int.reduceLT, Int.reduceLE, Int.reduceNeg, Int.reduceToNat, reduceCtorEq]; with_reducible rfl) (by simp only [go_sem, ↓reduceIte, reduceIte, Nat.reduceEqDiff, Nat.reduceLT, Nat.reduceLeDiff, Nat.reduceAdd, Nat.reduceSub, Nat.reduceMul, Nat.reduceDiv, Nat.reduceMod, Nat.reduceBEq, Int.reduceEq, Int.reduceLT, Int.reduceLE, Int.reduceNeg, Int.reduceToNat, reduceCtorEq]; with_reducible rfl) (by simp only [go_sem, ↓reduceIte, reduceIte, Nat.reduceEqDiff, Nat.reduceLT, Nat.reduceLeDiff, Nat.reduceAdd, Nat.reduceSub, Nat.reduceMul, Nat.reduceDiv, Nat.reduceMod, Nat.reduceBEq, Int.reduceEq, Int.reduceLT, Int.reduceLE, Int.reduceNeg, Int.reduceToNat, reduceCtorEq]; with_reducible rfl) (by simp only [go_sem, ↓reduceIte, reduceIte, Nat.reduceEqDiff, Nat.reduceLT, Nat.reduceLeDiff, Nat.reduceAdd, Nat.reduceSub, Nat.reduceMul, Nat.reduceDiv, Nat.reduceMod, Nat.reduceBEq, Int.reduceEq, Int.reduceLT, Int.reduceLE, Int.reduceNeg, Int.reduceToNat, reduceCtorEq]; with_reducible rfl) (by simp only [go_sem, ↓reduceIte, reduceIte, Nat.reduceEqDiff, Nat.reduceLT, Nat.reduceLeDiff, Nat.reduceAdd, Nat.reduceSub, Nat.reduceMul, Nat.reduceDiv, Nat.reduceMod, Nat.reduceBEq, Int.reduceEq, Int.reduceLT, Int.reduceLE, Int.reduceNeg, Int.reduceToNat, reduceCtorEq]; with_reducible rfl), i + 1, _, rfl, rfl, by omega, by rw [List.replicate_succ', List.map_append, hot]; rfl⟩
          · obtain rfl : i = z := by omega
            have hap : ot ++ wd.map tInt = (List.replicate i 0 ++ wd).map tInt := by rw [hot, List.map_append]
            have hall : ∀ l : List Int, (l.all fun _ => true) = true := fun l => by simp
            have hx5 : wd.length ≤ 400 := by simp at w5; omega
            clear w5
            generalize hbig : List.replicate i (0 : Int) ++ wd = big at *
            clear htb
            by_cases hxv : x = v
            · rw [decide_eq_true hxv] at cTz
              have htb := Tab.cons cTz Tab.nil
              repeat' (first | (with_reducible first | refine SW_seq ?_ | refine SW_block ?_ | refine SThen_n ?_ | refine SThen_r ?_ | refine SThen_e ?_ | refine SIn_n ?_ | refine SIn_r ?_ | refine SIn_eq ?_ | refine SW_skip ?_ | refine SW_exit ?_ | refine SW_ret ?_ | refine SPost_r ?_) | ((with_reducible refine SIn_ne ?_ ?_); focus decide) | ((with_reducible refine SW_true ?_ ?_); focus exact rfl) | ((with_reducible refine SW_false ?_ ?_); focus exact rfl) | ((first | (with_reducible apply SW_run tt_ok hG htb) | ((with_reducible apply SW_draw rfl tt_ok hG htb); (focus kernel_rfl); (focus (simp only [List.range, List.range.loop, List.size_toArray, List.length_cons, List.length_nil, Nat.reduceAdd])))); focus ((repeat' (first | (with_reducible exact runX_nil) | (with_reducible exact runI_nil) | ((first | (with_reducible apply runX_cons) | (with_reducible apply runI_cons)); focus (simp (discharger := omega) only [go_sem, tOut, tErr0, tAuto, Function.comp_def, hall, hap, hxv, ↓reduceIte, reduceIte, Nat.reduceEqDiff, Nat.reduceLT, Nat.reduceLeDiff, Nat.reduceAdd, Nat.reduceSub, Nat.reduceMul, Nat.reduceDiv, Nat.reduceMod, Nat.reduceBEq, Int.reduceEq, Int.reduceLT, Int.reduceLE, Int.reduceNeg, Int.reduceToNat, reduceCtorEq]; with_reducible rfl)))); done)))
              clear htb
              have htb := Tab.cons cL Tab.nil
              by_cases hle : le = 0
              · obtain ⟨k1, k2, k3⟩ := lk hle
                subst hle
                have cT3 := cT2 wd2
                rw [k2, k3] at cT3
                rw [k1] at cW2
                clear cT2 lk k1 k2 k3
                repeat' (first | (with_reducible first | refine SW_seq ?_ | refine SW_block ?_ | refine SThen_n ?_ | refine SThen_r ?_ | refine SThen_e ?_ | refine SIn_n ?_ | refine SIn_r ?_ | refine SIn_eq ?_ | refine SW_skip ?_ | refine SW_exit ?_ | refine SW_ret ?_ | refine SPost_r ?_) | ((with_reducible refine SIn_ne ?_ ?_); focus decide) | ((with_reducible refine SW_true ?_ ?_); focus exact rfl) | ((with_reducible refine SW_false ?_ ?_); focus exact rfl) | ((first | (with_reducible apply SW_run tt_ok hG htb) | ((with_reducible apply SW_draw rfl tt_ok hG htb); (focus kernel_rfl); (focus (simp only [List.range, List.range.loop, List.size_toArray, List.length_cons, List.length_nil, Nat.reduceAdd])))); focus ((repeat' (first | (with_reducible exact runX_nil) | (with_reducible exact runI_nil) | ((first | (with_reducible apply runX_cons) | (with_reducible apply runI_cons)); focus (simp (discharger := omega) only [go_sem, tOut, tErr0, tAuto, ↓reduceIte, reduceIte, Nat.reduceEqDiff, Nat.reduceLT, Nat.reduceLeDiff, Nat.reduceAdd, Nat.reduceSub, Nat.reduceMul, Nat.reduceDiv, Nat.reduceMod, Nat.reduceBEq, Int.reduceEq, Int.reduceLT, Int.reduceLE, Int.reduceNeg, Int.reduceToNat, reduceCtorEq]; with_reducible rfl)))); done)))
                clear htb
                by_cases hxy : x = y
                · rw [decide_eq_true hxy] at cT3
                  have htb := Tab.cons cW2 (Tab.cons cT3 Tab.nil)
                  repeat' (first | (with_reducible first | refine SW_seq ?_ | refine SW_block ?_ | refine SThen_n ?_ | refine SThen_r ?_ | refine SThen_e ?_ | refine SIn_n ?_ | refine SIn_r ?_ | refine SIn_eq ?_ | refine SW_skip ?_ | refine SW_exit ?_ | refine SW_ret ?_ | refine SPost_r ?_) | ((with_reducible refine SIn_ne ?_ ?_); focus decide) | ((with_reducible refine SW_true ?_ ?_); focus exact rfl) | ((with_reducible refine SW_false ?_ ?_); focus exact rfl) | ((first | (with_reducible apply SW_run tt_ok hG htb) | ((with_reducible apply SW_draw rfl tt_ok hG htb); (focus kernel_rfl); (focus (simp only [List.range, List.range.loop, List.size_toArray, List.length_cons, List.length_nil, Nat.reduceAdd])))); focus ((repeat' (first | (with_reducible exact runX_nil) | (with_reducible exact runI_nil) | ((first | (with_reducible apply runX_cons) | (with_reducible apply runI_cons)); focus (simp (discharger := omega) only [go_sem, tOut, tErr0, tAuto, hxy, ↓reduceIte, reduceIte, Nat.reduceEqDiff, Nat.reduceLT, Nat.reduceLeDiff, Nat.reduceAdd, Nat.reduceSub, Nat.reduceMul, Nat.reduceDiv, Nat.reduceMod, Nat.reduceBEq, Int.reduceEq, Int.reduceLT, Int.reduceLE, Int.reduceNeg, Int.reduceToNat, reduceCtorEq]; with_reducible rfl)))); done)))
                  exact (by simp (discharger := omega) only [go_sem, ↓reduceIte, reduceIte, Nat.reduceEqDiff, Nat.reduceLT, Nat.reduceLeDiff, Nat.reduceAdd, Nat.reduceSub, Nat.reduceMul, Nat.reduceDiv, Nat.reduceMod, Nat.reduceBEq, Int.reduceEq, Int.reduceLT, Int.reduceLE, Int.reduceNeg, Int.reduceToNat, reduceCtorEq])
                · rw [decide_eq_false hxy] at cT3
                  have htb := Tab.cons cW2 (Tab.cons cT3 Tab.nil)
                  repeat' (first | (with_reducible first | refine SW_seq ?_ | refine SW_block ?_ | refine SThen_n ?_ | refine SThen_r ?_ | refine SThen_e ?_ | refine SIn_n ?_ | refine SIn_r ?_ | refine SIn_eq ?_ | refine SW_skip ?_ | refine SW_exit ?_ | refine SW_ret ?_ | refine SPost_r ?_) | ((with_reducible refine SIn_ne ?_ ?_); focus decide) | ((with_reducible refine SW_true ?_ ?_); focus exact rfl) | ((with_reducible refine SW_false ?_ ?_); focus exact rfl) | ((first | (with_reducible apply SW_run tt_ok hG htb) | ((with_reducible apply SW_draw rfl tt_ok hG htb); (focus kernel_rfl); (focus (simp only [List.range, List.range.loop, List.size_toArray, List.length_cons, List.length_nil, Nat.reduceAdd])))); focus ((repeat' (first | (with_reducible exact runX_nil) | (with_reducible exact runI_nil) | ((first | (with_reducible apply runX_cons) | (with_reducible apply runI_cons)); focus (simp (discharger := omega) only [go_sem, tOut, tErr0, tAuto, hxy, ↓reduceIte, reduceIte, Nat.reduceEqDiff, Nat.reduceLT, Nat.reduceLeDiff, Nat.reduceAdd, Nat.reduceSub, Nat.reduceMul, Nat.reduceDiv, Nat.reduceMod, Nat.reduceBEq, Int.reduceEq, Int.reduceLT, Int.reduceLE, Int.reduceNeg, Int.reduceToNat, reduceCtorEq]; with_reducible rfl)))); done)))
                  exact (by simp (discharger := omega) only [go_sem, ↓reduceIte, reduceIte, Nat.reduceEqDiff, Nat.reduceLT, Nat.reduceLeDiff, Nat.reduceAdd, Nat.reduceSub, Nat.reduceMul, Nat.reduceDiv, Nat.reduceMod, Nat.reduceBEq, Int.reduceEq, Int.reduceLT, Int.reduceLE, Int.reduceNeg, Int.reduceToNat, reduceCtorEq])
              · repeat' (first | (with_reducible first | refine SW_seq ?_ | refine SW_block ?_ | refine SThen_n ?_ | refine SThen_r ?_ | refine SThen_e ?_ | refine SIn_n ?_ | refine SIn_r ?_ | refine SIn_eq ?_ | refine SW_skip ?_ | refine SW_exit ?_ | refine SW_ret ?_ | refine SPost_r ?_) | ((with_reducible refine SIn_ne ?_ ?_); focus decide) | ((with_reducible refine SW_true ?_ ?_); focus exact rfl) | ((with_reducible refine SW_false ?_ ?_); focus exact rfl) | ((first | (with_reducible apply SW_run tt_ok hG htb) | ((with_reducible apply SW_draw rfl tt_ok hG htb); (focus kernel_rfl); (focus (simp only [List.range, List.range.loop, List.size_toArray, List.length_cons, List.length_nil, Nat.reduceAdd])))); focus ((repeat' (first | (with_reducible exact runX_nil) | (with_reducible exact runI_nil) | ((first | (with_reducible apply runX_cons) | (with_reducible apply runI_cons)); focus (simp (discharger := omega) only [go_sem, tOut, tErr, tAuto, hle, ↓reduceIte, reduceIte, Nat.reduceEqDiff, Nat.reduceLT, Nat.reduceLeDiff, Nat.reduceAdd, Nat.reduceSub, Nat.reduceMul, Nat.reduceDiv, Nat.reduceMod, Nat.reduceBEq, Int.reduceEq, Int.reduceLT, Int.reduceLE, Int.reduceNeg, Int.reduceToNat, reduceCtorEq]; with_reducible rfl)))); done)))
                exact (by simp (discharger := omega) only [go_sem, ↓reduceIte, reduceIte, Nat.reduceEqDiff, Nat.reduceLT, Nat.reduceLeDiff, Nat.reduceAdd, Nat.reduceSub, Nat.reduceMul, Nat.reduceDiv, Nat.reduceMod, Nat.reduceBEq, Int.reduceEq, Int.reduceLT, Int.reduceLE, Int.reduceNeg, Int.reduceToNat, reduceCtorEq])
            · rw [decide_eq_false hxv] at cTz
              have htb := Tab.cons cTz Tab.nil
              repeat' (first | (with_reducible first | refine SW_seq ?_ | refine SW_block ?_ | refine SThen_n ?_ | refine SThen_r ?_ | refine SThen_e ?_ | refine SIn_n ?_ | refine SIn_r ?_ | refine SIn_eq ?_ | refine SW_skip ?_ | refine SW_exit ?_ | refine SW_ret ?_ | refine SPost_r ?_) | ((with_reducible refine SIn_ne ?_ ?_); focus decide) | ((with_reducible refine SW_true ?_ ?_); focus exact rfl) | ((with_reducible refine SW_false ?_ ?_); focus exact rfl) | ((first | (with_reducible apply SW_run tt_ok hG htb) | ((with_reducible apply SW_draw rfl tt_ok hG htb); (focus kernel_rfl); (focus (simp only [List.range, List.range.loop, List.size_toArray, List.length_cons, List.length_nil, Nat.reduceAdd])))); focus ((repeat' (first | (with_reducible exact runX_nil) | (with_reducible exact runI_nil) | ((first | (with_reducible apply runX_cons) | (with_reducible apply runI_cons)); focus (simp (discharger := omega) only [go_sem, tOut, tErr0, tAuto, Function.comp_def, hall, hap, hxv, ↓reduceIte, reduceIte, Nat.reduceEqDiff, Nat.reduceLT, Nat.reduceLeDiff, Nat.reduceAdd, Nat.reduceSub, Nat.reduceMul, Nat.reduceDiv, Nat.reduceMod, Nat.reduceBEq, Int.reduceEq, Int.reduceLT, Int.reduceLE, Int.reduceNeg, Int.reduceToNat, reduceCtorEq]; with_reducible rfl)))); done)))
              clear htb
              have htb := Tab.cons cL Tab.nil
              by_cases hle : le = 0
              · obtain ⟨k1, k2, k3⟩ := lk hle
                subst hle
                have cT3 := cT2 wd2
                rw [k2, k3] at cT3
                rw [k1] at cW2
                clear cT2 lk k1 k2 k3
                repeat' (first | (with_reducible first | refine SW_seq ?_ | refine SW_block ?_ | refine SThen_n ?_ | refine SThen_r ?_ | refine SThen_e ?_ | refine SIn_n ?_ | refine SIn_r ?_ | refine SIn_eq ?_ | refine SW_skip ?_ | refine SW_exit ?_ | refine SW_ret ?_ | refine SPost_r ?_) | ((with_reducible refine SIn_ne ?_ ?_); focus decide) | ((with_reducible refine SW_true ?_ ?_); focus exact rfl) | ((with_reducible refine SW_false ?_ ?_); focus exact rfl) | ((first | (with_reducible apply SW_run tt_ok hG htb) | ((with_reducible apply SW_draw rfl tt_ok hG htb); (focus kernel_rfl); (focus (simp only [List.range, List.range.loop, List.size_toArray, List.length_cons, List.length_nil, Nat.reduceAdd])))); focus ((repeat' (first | (with_reducible exact runX_nil) | (with_reducible exact runI_nil) | ((first | (with_reducible apply runX_cons) | (with_reducible apply runI_cons)); focus (simp (discharger := omega) only [go_sem, tOut, tErr0, tAuto, ↓reduceIte, reduceIte, Nat.reduceEqDiff, Nat.reduceLT, Nat.reduceLeDiff, Nat.reduceAdd, Nat.reduceSub, Nat.reduceMul, Nat.reduceDiv, Nat.reduceMod, Nat.reduceBEq, Int.reduceEq, Int.reduceLT, Int.reduceLE, Int.reduceNeg, Int.reduceToNat, reduceCtorEq]; with_reducible rfl)))); done)))
                clear htb
                by_cases hxy : x = y
                · rw [decide_eq_true hxy] at cT3
                  have htb := Tab.cons cW2 (Tab.cons cT3 Tab.nil)
                  repeat' (first | (with_reducible first | refine SW_seq ?_ | refine SW_block ?_ | refine SThen_n ?_ | refine SThen_r ?_ | refine SThen_e ?_ | refine SIn_n ?_ | refine SIn_r ?_ | refine SIn_eq ?_ | refine SW_skip ?_ | refine SW_exit ?_ | refine SW_ret ?_ | refine SPost_r ?_) | ((with_reducible refine SIn_ne ?_ ?_); focus decide) | ((with_reducible refine SW_true ?_ ?_); focus exact rfl) | ((with_reducible refine SW_false ?_ ?_); focus exact rfl) | ((first | (with_reducible apply SW_run tt_ok hG htb) | ((with_reducible apply SW_draw rfl tt_ok hG htb); (focus kernel_rfl); (focus (simp only [List.range, List.range.loop, List.size_toArray, List.length_cons, List.length_nil, Nat.reduceAdd])))); focus ((repeat' (first | (with_reducible exact runX_nil) | (with_reducible exact runI_nil) | ((first | (with_reducible apply runX_cons) | (with_reducible apply runI_cons)); focus (simp (discharger := omega) only [go_sem, tOut, tErr0, tAuto, hxy, ↓reduceIte, reduceIte, Nat.reduceEqDiff, Nat.reduceLT, Nat.reduceLeDiff, Nat.reduceAdd, Nat.reduceSub, Nat.reduceMul, Nat.reduceDiv, Nat.reduceMod, Nat.reduceBEq, Int.reduceEq, Int.reduceLT, Int.reduceLE, Int.reduceNeg, Int.reduceToNat, reduceCtorEq]; with_reducible rfl)))); done)))
                  exact (by simp (discharger := omega) only [go_sem, ↓reduceIte, reduceIte, Nat.reduceEqDiff, Nat.reduceLT, Nat.reduceLeDiff, Nat.reduceAdd, Nat.reduceSub, Nat.reduceMul, Nat.reduceDiv, Nat.reduceMod, Nat.reduceBEq, Int.reduceEq, Int.reduceLT, Int.reduceLE, Int.reduceNeg, Int.reduceToNat, reduceCtorEq])
                · rw [decide_eq_false hxy] at cT3
                  have htb := Tab.cons cW2 (Tab.cons cT3 Tab.nil)
                  repeat' (first | (with_reducible first | refine SW_seq ?_ | refine SW_block ?_ | refine SThen_n ?_ | refine SThen_r ?_ | refine SThen_e ?_ | refine SIn_n ?_ | refine SIn_r ?_ | refine SIn_eq ?_ | refine SW_skip ?_ | refine SW_exit ?_ | refine SW_ret ?_ | refine SPost_r ?_) | ((with_reducible refine SIn_ne ?_ ?_); focus decide) | ((with_reducible refine SW_true ?_ ?_); focus exact rfl) | ((with_reducible refine SW_false ?_ ?_); focus exact rfl) | ((first | (with_reducible apply SW_run tt_ok hG htb) | ((with_reducible apply SW_draw rfl tt_ok hG htb); (focus kernel_rfl); (focus (simp only [List.range, List.range.loop, List.size_toArray, List.length_cons, List.length_nil, Nat.reduceAdd])))); focus ((repeat' (first | (with_reducible exact runX_nil) | (with_reducible exact runI_nil) | ((first | (with_reducible apply runX_cons) | (with_reducible apply runI_cons)); focus (simp (discharger := omega) only [go_sem, tOut, tErr0, tAuto, hxy, ↓reduceIte, reduceIte, Nat.reduceEqDiff, Nat.reduceLT, Nat.reduceLeDiff, Nat.reduceAdd, Nat.reduceSub, Nat.reduceMul, Nat.reduceDiv, Nat.reduceMod, Nat.reduceBEq, Int.reduceEq, Int.reduceLT, Int.reduceLE, Int.reduceNeg, Int.reduceToNat, reduceCtorEq]; with_reducible rfl)))); done)))
                  exact (by simp (discharger := omega) only [go_sem, ↓reduceIte, reduceIte, Nat.reduceEqDiff, Nat.reduceLT, Nat.reduceLeDiff, Nat.reduceAdd, Nat.reduceSub, Nat.reduceMul, Nat.reduceDiv, Nat.reduceMod, Nat.reduceBEq, Int.reduceEq, Int.reduceLT, Int.reduceLE, Int.reduceNeg, Int.reduceToNat, reduceCtorEq])
              · repeat' (first | (with_reducible first | refine SW_seq ?_ | refine SW_block ?_ | refine SThen_n ?_ | refine SThen_r ?_ | refine SThen_e ?_ | refine SIn_n ?_ | refine SIn_r ?_ | refine SIn_eq ?_ | refine SW_skip ?_ | refine SW_exit ?_ | refine SW_ret ?_ | refine SPost_r ?_) | ((with_reducible refine SIn_ne ?_ ?_); focus decide) | ((with_reducible refine SW_true ?_ ?_); focus exact rfl) | ((with_reducible refine SW_false ?_ ?_); focus exact rfl) | ((first | (with_reducible apply SW_run tt_ok hG htb) | ((with_reducible apply SW_draw rfl tt_ok hG htb); (focus kernel_rfl); (focus (simp only [List.range, List.range.loop, List.size_toArray, List.length_cons, List.length_nil, Nat.reduceAdd])))); focus ((repeat' (first | (with_reducible exact runX_nil) | (with_reducible exact runI_nil) | ((first | (with_reducible apply runX_cons) | (with_reducible apply runI_cons)); focus (simp (discharger := omega) only [go_sem, tOut, tErr, tAuto, hle, ↓reduceIte, reduceIte, Nat.reduceEqDiff, Nat.reduceLT, Nat.reduceLeDiff, Nat.reduceAdd, Nat.reduceSub, Nat.reduceMul, Nat.reduceDiv, Nat.reduceMod, Nat.reduceBEq, Int.reduceEq, Int.reduceLT, Int.reduceLE, Int.reduceNeg, Int.reduceToNat, reduceCtorEq]; with_reducible rfl)))); done)))
                exact (by simp (discharger := omega) only [go_sem, ↓reduceIte, reduceIte, Nat.reduceEqDiff, Nat.reduceLT, Nat.reduceLeDiff, Nat.reduceAdd, Nat.reduceSub, Nat.reduceMul, Nat.reduceDiv, Nat.reduceMod, Nat.reduceBEq, Int.reduceEq, Int.reduceLT, Int.reduceLE, Int.reduceNeg, Int.reduceToNat, reduceCtorEq])
      · generalize atErr o n = f1 at *
        generalize atErr p q = f2 at *
        generalize isErr o v = f3 at *
        generalize isOf o v = m at *
        generalize atOf o n = x at *
        generalize atOf p q = y at *
        subst e1 e2
        have htb := Tab.cons c1 Tab.nil
        repeat' (first | (with_reducible first | refine SW_seq ?_ | refine SW_block ?_ | refine SThen_n ?_ | refine SThen_r ?_ | refine SThen_e ?_ | refine SIn_n ?_ | refine SIn_r ?_ | refine SIn_eq ?_ | refine SW_skip ?_ | refine SW_exit ?_ | refine SW_ret ?_ | refine SPost_r ?_) | ((with_reducible refine SIn_ne ?_ ?_); focus decide) | ((with_reducible refine SW_true ?_ ?_); focus exact rfl) | ((with_reducible refine SW_false ?_ ?_); focus exact rfl) | ((first | (with_reducible apply SW_run tt_ok hG htb) | ((with_reducible apply SW_draw rfl tt_ok hG htb); (focus kernel_rfl); (focus (simp only [List.range, List.range.loop, List.size_toArray, List.length_cons, List.length_nil, Nat.reduceAdd])))); focus ((repeat' (first | (with_reducible exact runX_nil) | (with_reducible exact runI_nil) | ((first | (with_reducible apply runX_cons) | (with_reducible apply runI_cons)); focus (simp (discharger := omega) only [go_sem, tOut, tErr0, ↓reduceIte, reduceIte, Nat.reduceEqDiff, Nat.reduceLT, Nat.reduceLeDiff, Nat.reduceAdd, Nat.reduceSub, Nat.reduceMul, Nat.reduceDiv, Nat.reduceMod, Nat.reduceBEq, Int.reduceEq, Int.reduceLT, Int.reduceLE, Int.reduceNeg, Int.reduceToNat, reduceCtorEq]; with_reducible rfl)))); done)))
        clear htb
        have htb := Tab.cons c2 (Tab.cons c3 Tab.nil)
        repeat' (first | (with_reducible first | refine SW_seq ?_ | refine SW_block ?_ | refine SThen_n ?_ | refine SThen_r ?_ | refine SThen_e ?_ | refine SIn_n ?_ | refine SIn_r ?_ | refine SIn_eq ?_ | refine SW_skip ?_ | refine SW_exit ?_ | refine SW_ret ?_ | refine SPost_r ?_) | ((with_reducible refine SIn_ne ?_ ?_); focus decide) | ((with_reducible refine SW_true ?_ ?_); focus exact rfl) | ((with_reducible refine SW_false ?_ ?_); focus exact rfl) | ((first | (with_reducible apply SW_run tt_ok hG htb) | ((with_reducible apply SW_draw rfl tt_ok hG htb); (focus kernel_rfl); (focus (simp only [List.range, List.range.loop, List.size_toArray, List.length_cons, List.length_nil, Nat.reduceAdd])))); focus ((repeat' (first | (with_reducible exact runX_nil) | (with_reducible exact runI_nil) | ((first | (with_reducible apply runX_cons) | (with_reducible apply runI_cons)); focus (simp (discharger := omega) only [go_sem, tOut, tErr, tAuto, e3, ↓reduceIte, reduceIte, Nat.reduceEqDiff, Nat.reduceLT, Nat.reduceLeDiff, Nat.reduceAdd, Nat.reduceSub, Nat.reduceMul, Nat.reduceDiv, Nat.reduceMod, Nat.reduceBEq, Int.reduceEq, Int.reduceLT, Int.reduceLE, Int.reduceNeg, Int.reduceToNat, reduceCtorEq]; with_reducible rfl)))); done)))
        exact (by simp (discharger := omega) only [go_sem, ↓reduceIte, reduceIte, Nat.reduceEqDiff, Nat.reduceLT, Nat.reduceLeDiff, Nat.reduceAdd, Nat.reduceSub, Nat.reduceMul, Nat.reduceDiv, Nat.reduceMod, Nat.reduceBEq, Int.reduceEq, Int.reduceLT, Int.reduceLE, Int.reduceNeg, Int.reduceToNat, reduceCtorEq])
    · generalize atErr o n = f1 at *
      generalize atErr p q = f2 at *
      generalize isErr o v = f3 at *
      generalize isOf o v = m at *
      generalize atOf o n = x at *
      generalize atOf p q = y at *
      subst e1
      have htb := Tab.cons c1 Tab.nil
      repeat' (first | (with_reducible first | refine SW_seq ?_ | refine SW_block ?_ | refine SThen_n ?_ | refine SThen_r ?_ | refine SThen_e ?_ | refine SIn_n ?_ | refine SIn_r ?_ | refine SIn_eq ?_ | refine SW_skip ?_ | refine SW_exit ?_ | refine SW_ret ?_ | refine SPost_r ?_) | ((with_reducible refine SIn_ne ?_ ?_); focus decide) | ((with_reducible refine SW_true ?_ ?_); focus exact rfl) | ((with_reducible refine SW_false ?_ ?_); focus exact rfl) | ((first | (with_reducible apply SW_run tt_ok hG htb) | ((with_reducible apply SW_draw rfl tt_ok hG htb); (focus kernel_rfl); (focus (simp only [List.range, List.range.loop, List.size_toArray, List.length_cons, List.length_nil, Nat.reduceAdd])))); focus ((repeat' (first | (with_reducible exact runX_nil) | (with_reducible exact runI_nil) | ((first | (with_reducible apply runX_cons) | (with_reducible apply runI_cons)); focus (simp (discharger := omega) only [go_sem, tOut, tErr0, ↓reduceIte, reduceIte, Nat.reduceEqDiff, Nat.reduceLT, Nat.reduceLeDiff, Nat.reduceAdd, Nat.reduceSub, Nat.reduceMul, Nat.reduceDiv, Nat.reduceMod, Nat.reduceBEq, Int.reduceEq, Int.reduceLT, Int.reduceLE, Int.reduceNeg, Int.reduceToNat, reduceCtorEq]; with_reducible rfl)))); done)))
      clear htb
      have htb := Tab.cons c2 (Tab.cons c3 Tab.nil)
      by_cases e3 : f3 = 0
      · repeat' (first | (with_reducible first | refine SW_seq ?_ | refine SW_block ?_ | refine SThen_n ?_ | refine SThen_r ?_ | refine SThen_e ?_ | refine SIn_n ?_ | refine SIn_r ?_ | refine SIn_eq ?_ | refine SW_skip ?_ | refine SW_exit ?_ | refine SW_ret ?_ | refine SPost_r ?_) | ((with_reducible refine SIn_ne ?_ ?_); focus decide) | ((with_reducible refine SW_true ?_ ?_); focus exact rfl) | ((with_reducible refine SW_false ?_ ?_); focus exact rfl) | ((first | (with_reducible apply SW_run tt_ok hG htb) | ((with_reducible apply SW_draw rfl tt_ok hG htb); (focus kernel_rfl); (focus (simp only [List.range, List.range.loop, List.size_toArray, List.length_cons, List.length_nil, Nat.reduceAdd])))); focus ((repeat' (first | (with_reducible exact runX_nil) | (with_reducible exact runI_nil) | ((first | (with_reducible apply runX_cons) | (with_reducible apply runI_cons)); focus (simp (discharger := omega) only [go_sem, tOut, tErr, tAuto, e2, e3, ↓reduceIte, reduceIte, Nat.reduceEqDiff, Nat.reduceLT, Nat.reduceLeDiff, Nat.reduceAdd, Nat.reduceSub, Nat.reduceMul, Nat.reduceDiv, Nat.reduceMod, Nat.reduceBEq, Int.reduceEq, Int.reduceLT, Int.reduceLE, Int.reduceNeg, Int.reduceToNat, reduceCtorEq]; with_reducible rfl)))); done)))
        exact (by simp (discharger := omega) only [go_sem, ↓reduceIte, reduceIte, Nat.reduceEqDiff, Nat.reduceLT, Nat.reduceLeDiff, Nat.reduceAdd, Nat.reduceSub, Nat.reduceMul, Nat.reduceDiv, Nat.reduceMod, Nat.reduceBEq, Int.reduceEq, Int.reduceLT, Int.reduceLE, Int.reduceNeg, Int.reduceToNat, reduceCtorEq])
      · repeat' (first | (with_reducible first | refine SW_seq ?_ | refine SW_block ?_ | refine SThen_n ?_ | refine SThen_r ?_ | refine SThen_e ?_ | refine SIn_n ?_ | refine SIn_r ?_ | refine SIn_eq ?_ | refine SW_skip ?_ | refine SW_exit ?_ | refine SW_ret ?_ | refine SPost_r ?_) | ((with_reducible refine SIn_ne ?_ ?_); focus decide) | ((with_reducible refine SW_true ?_ ?_); focus exact rfl) | ((with_reducible refine SW_false ?_ ?_); focus exact rfl) | ((first | (with_reducible apply SW_run tt_ok hG htb) | ((with_reducible apply SW_draw rfl tt_ok hG htb); (focus kernel_rfl); (focus (simp only [List.range, List.range.loop, List.size_toArray, List.length_cons, List.length_nil, Nat.reduceAdd])))); focus ((repeat' (first | (with_reducible exact runX_nil) | (with_reducible exact runI_nil) | ((first | (with_reducible apply runX_cons) | (with_reducible apply runI_cons)); focus (simp (discharger := omega) only [go_sem, tOut, tErr, tAuto, e2, e3, ↓reduceIte, reduceIte, Nat.reduceEqDiff, Nat.reduceLT, Nat.reduceLeDiff, Nat.reduceAdd, Nat.reduceSub, Nat.reduceMul, Nat.reduceDiv, Nat.reduceMod, Nat.reduceBEq, Int.reduceEq, Int.reduceLT, Int.reduceLE, Int.reduceNeg, Int.reduceToNat, reduceCtorEq]; with_reducible rfl)))); done)))
        exact (by simp (discharger := omega) only [go_sem, ↓reduceIte, reduceIte, Nat.reduceEqDiff, Nat.reduceLT, Nat.reduceLeDiff, Nat.reduceAdd, Nat.reduceSub, Nat.reduceMul, Nat.reduceDiv, Nat.reduceMod, Nat.reduceBEq, Int.reduceEq, Int.reduceLT, Int.reduceLE, Int.reduceNeg, Int.reduceToNat, reduceCtorEq])
  · generalize atErr o n = f1 at *
    generalize atErr p q = f2 at *
    generalize isErr o v = f3 at *
    generalize isOf o v = m at *
    generalize atOf o n = x at *
    generalize atOf p q = y at *
    have htb := Tab.cons c1 Tab.nil
    repeat' (first | (with_reducible first | refine SW_seq ?_ | refine SW_block ?_ | refine SThen_n ?_ | refine SThen_r ?_ | refine SThen_e ?_ | refine SIn_n ?_ | refine SIn_r ?_ | refine SIn_eq ?_ | refine SW_skip ?_ | refine SW_exit ?_ | refine SW_ret ?_ | refine SPost_r ?_) | ((with_reducible refine SIn_ne ?_ ?_); focus decide) | ((with_reducible refine SW_true ?_ ?_); focus exact rfl) | ((with_reducible refine SW_false ?_ ?_); focus exact rfl) | ((first | (with_reducible apply SW_run tt_ok hG htb) | ((with_reducible apply SW_draw rfl tt_ok hG htb); (focus kernel_rfl); (focus (simp only [List.range, List.range.loop, List.size_toArray, List.length_cons, List.length_nil, Nat.reduceAdd])))); focus ((repeat' (first | (with_reducible exact runX_nil) | (with_reducible exact runI_nil) | ((first | (with_reducible apply runX_cons) | (with_reducible apply runI_cons)); focus (simp (discharger := omega) only [go_sem, tOut, tErr, e1, ↓reduceIte, reduceIte, Nat.reduceEqDiff, Nat.reduceLT, Nat.reduceLeDiff, Nat.reduceAdd, Nat.reduceSub, Nat.reduceMul, Nat.reduceDiv, Nat.reduceMod, Nat.reduceBEq, Int.reduceEq, Int.reduceLT, Int.reduceLE, Int.reduceNeg, Int.reduceToNat, reduceCtorEq]; with_reducible rfl)))); done)))
    clear htb
    have htb := Tab.cons c2 (Tab.cons c3 Tab.nil)
    by_cases e2 : f2 = 0
    · by_cases e3 : f3 = 0
      · repeat' (first | (with_reducible first | refine SW_seq ?_ | refine SW_block ?_ | refine SThen_n ?_ | refine SThen_r ?_ | refine SThen_e ?_ | refine SIn_n ?_ | refine SIn_r ?_ | refine SIn_eq ?_ | refine SW_skip ?_ | refine SW_exit ?_ | refine SW_ret ?_ | refine SPost_r ?_) | ((with_reducible refine SIn_ne ?_ ?_); focus decide) | ((with_reducible refine SW_true ?_ ?_); focus exact rfl) | ((with_reducible refine SW_false ?_ ?_); focus exact rfl) | ((first | (with_reducible apply SW_run tt_ok hG htb) | ((with_reducible apply SW_draw rfl tt_ok hG htb); (focus kernel_rfl); (focus (simp only [List.range, List.range.loop, List.size_toArray, List.length_cons, List.length_nil, Nat.reduceAdd])))); focus ((repeat' (first | (with_reducible exact runX_nil) | (with_reducible exact runI_nil) | ((first | (with_reducible apply runX_cons) | (with_reducible apply runI_cons)); focus (simp (discharger := omega) only [go_sem, tOut, tErr, tAuto, e1, e2, e3, ↓reduceIte, reduceIte, Nat.reduceEqDiff, Nat.reduceLT, Nat.reduceLeDiff, Nat.reduceAdd, Nat.reduceSub, Nat.reduceMul, Nat.reduceDiv, Nat.reduceMod, Nat.reduceBEq, Int.reduceEq, Int.reduceLT, Int.reduceLE, Int.reduceNeg, Int.reduceToNat, reduceCtorEq]; with_reducible rfl)))); done)))
        exact (by simp (discharger := omega) only [go_sem, ↓reduceIte, reduceIte, Nat.reduceEqDiff, Nat.reduceLT, Nat.reduceLeDiff, Nat.reduceAdd, Nat.reduceSub, Nat.reduceMul, Nat.reduceDiv, Nat.reduceMod, Nat.reduceBEq, Int.reduceEq, Int.reduceLT, Int.reduceLE, Int.reduceNeg, Int.reduceToNat, reduceCtorEq])
      · repeat' (first | (with_reducible first | refine SW_seq ?_ | refine SW_block ?_ | refine SThen_n ?_ | refine SThen_r ?_ | refine SThen_e ?_ | refine SIn_n ?_ | refine SIn_r ?_ | refine SIn_eq ?_ | refine SW_skip ?_ | refine SW_exit ?_ | refine SW_ret ?_ | refine SPost_r ?_) | ((with_reducible refine SIn_ne ?_ ?_); focus decide) | ((with_reducible refine SW_true ?_ ?_); focus exact rfl) | ((with_reducible refine SW_false ?_ ?_); focus exact rfl) | ((first | (with_reducible apply SW_run tt_ok hG htb) | ((with_reducible apply SW_draw rfl tt_ok hG htb); (focus kernel_rfl); (focus (simp only [List.range, List.range.loop, List.size_toArray, List.length_cons, List.length_nil, Nat.reduceAdd])))); focus ((repeat' (first | (with_reducible exact runX_nil) | (with_reducible exact runI_nil) | ((first | (with_reducible apply runX_cons) | (with_reducible apply runI_cons)); focus (simp (discharger := omega) only [go_sem, tOut, tErr, tAuto, e1, e2, e3, ↓reduceIte, reduceIte, Nat.reduceEqDiff, Nat.reduceLT, Nat.reduceLeDiff, Nat.reduceAdd, Nat.reduceSub, Nat.reduceMul, Nat.reduceDiv, Nat.reduceMod, Nat.reduceBEq, Int.reduceEq, Int.reduceLT, Int.reduceLE, Int.reduceNeg, Int.reduceToNat, reduceCtorEq]; with_reducible rfl)))); done)))
        exact (by simp (discharger := omega) only [go_sem, ↓reduceIte, reduceIte, Nat.reduceEqDiff, Nat.reduceLT, Nat.reduceLeDiff, Nat.reduceAdd, Nat.reduceSub, Nat.reduceMul, Nat.reduceDiv, Nat.reduceMod, Nat.reduceBEq, Int.reduceEq, Int.reduceLT, Int.reduceLE, Int.reduceNeg, Int.reduceToNat, reduceCtorEq])
    · by_cases e3 : f3 = 0
      · repeat' (first | (with_reducible first | refine SW_seq ?_ | refine SW_block ?_ | refine SThen_n ?_ | refine SThen_r ?_ | refine SThen_e ?_ | refine SIn_n ?_ | refine SIn_r ?_ | refine SIn_eq ?_ | refine SW_skip ?_ | refine SW_exit ?_ | refine SW_ret ?_ | refine SPost_r ?_) | ((with_reducible refine SIn_ne ?_ ?_); focus decide) | ((with_reducible refine SW_true ?_ ?_); focus exact rfl) | ((with_reducible refine SW_false ?_ ?_); focus exact rfl) | ((first | (with_reducible apply SW_run tt_ok hG htb) | ((with_reducible apply SW_draw rfl tt_ok hG htb); (focus kernel_rfl); (focus (simp only [List.range, List.range.loop, List.size_toArray, List.length_cons, List.length_nil, Nat.reduceAdd])))); focus ((repeat' (first | (with_reducible exact runX_nil) | (with_reducible exact runI_nil) | ((first | (with_reducible apply runX_cons) | (with_reducible apply runI_cons)); focus (simp (discharger := omega) only [go_sem, tOut, tErr, tAuto, e1, e2, e3, ↓reduceIte, reduceIte, Nat.reduceEqDiff, Nat.reduceLT, Nat.reduceLeDiff, Nat.reduceAdd, Nat.reduceSub, Nat.reduceMul, Nat.reduceDiv, Nat.reduceMod, Nat.reduceBEq, Int.reduceEq, Int.reduceLT, Int.reduceLE, Int.reduceNeg, Int.reduceToNat, reduceCtorEq]; with_reducible rfl)))); done)))
        exact (by simp (discharger := omega) only [go_sem, ↓reduceIte, reduceIte, Nat.reduceEqDiff, Nat.reduceLT, Nat.reduceLeDiff, Nat.reduceAdd, Nat.reduceSub, Nat.reduceMul, Nat.reduceDiv, Nat.reduceMod, Nat.reduceBEq, Int.reduceEq, Int.reduceLT, Int.reduceLE, Int.reduceNeg, Int.reduceToNat, reduceCtorEq])
      · repeat' (first | (with_reducible first | refine SW_seq ?_ | refine SW_block ?_ | refine SThen_n ?_ | refine SThen_r ?_ | refine SThen_e ?_ | refine SIn_n ?_ | refine SIn_r ?_ | refine SIn_eq ?_ | refine SW_skip ?_ | refine SW_exit ?_ | refine SW_ret ?_ | refine SPost_r ?_) | ((with_reducible refine SIn_ne ?_ ?_); focus decide) | ((with_reducible refine SW_true ?_ ?_); focus exact rfl) | ((with_reducible refine SW_false ?_ ?_); focus exact rfl) | ((first | (with_reducible apply SW_run tt_ok hG htb) | ((with_reducible apply SW_draw rfl tt_ok hG htb); (focus kernel_rfl); (focus (simp only [List.range, List.range.loop, List.size_toArray, List.length_cons, List.length_nil, Nat.reduceAdd])))); focus ((repeat' (first | (with_reducible exact runX_nil) | (with_reducible exact runI_nil) | ((first | (with_reducible apply runX_cons) | (with_reducible apply runI_cons)); focus (simp (discharger := omega) only [go_sem, tOut, tErr, tAuto, e1, e2, e3, ↓reduceIte, reduceIte, Nat.reduceEqDiff, Nat.reduceLT, Nat.reduceLeDiff, Nat.reduceAdd, Nat.reduceSub, Nat.reduceMul, Nat.reduceDiv, Nat.reduceMod, Nat.reduceBEq, Int.reduceEq, Int.reduceLT, Int.reduceLE, Int.reduceNeg, Int.reduceToNat, reduceCtorEq]; with_reducible rfl)))); done)))
        exact (by simp (discharger := omega) only [go_sem, ↓reduceIte, reduceIte, Nat.reduceEqDiff, Nat.reduceLT, Nat.reduceLeDiff, Nat.reduceAdd, Nat.reduceSub, Nat.reduceMul, Nat.reduceDiv, Nat.reduceMod, Nat.reduceBEq, Int.reduceEq, Int.reduceLT, Int.reduceLE, Int.reduceNeg, Int.reduceToNat, reduceCtorEq])
end
theorem WordTakes_walk (vo : Value) (o : GOut) (vp : Value) (p : GOut) (v n q z : Int) (w : World) (h : ReadsOut w vo o) (h' : ReadsOut w vp p) (_ : I64 v) (_ : I64 n) (_ : I64 q) (_ : I64 z) : Calls Try.prog 4 #[vo, vp, .int .i64 v, .int .i64 n, .int .i64 q, .int .i64 z] w (Ret (.bool true) w) :=
  walkN (WordTakes_snd (G := fun _ => True) (fun _ _ _ _ => trivial) o p v n q z) trivial rfl fun k y x a b => by
    match k, a, b with
    | 0, a, b => cases a; cases b; exact h
    | 1, a, b => cases a; cases b; exact h'
    | 2, a, b => cases a; cases b; exact .int _ _
    | 3, a, b => cases a; cases b; exact .int _ _
    | 4, a, b => cases a; cases b; exact .int _ _
    | 5, a, b => cases a; cases b; exact .int _ _
end Go.Proofs.Ytfhncnhkeodngaa
namespace Go.Proofs.Ytfhncnhkeodngaa.wordTakes
open Go.ChangeShapes Go.WideShapes Go.ChangeAt Go.RowKit

set_option maxRecDepth 100000 in
theorem lifted (os : Os) (started : os.Started) (H : Type) (enc : TypeId × Value → H) :
    ReturnsInHanded {} Try.checked os 4 .any (Rows.wordTakesSpec.pre6 enc Try.prog Try.f4 Rows.wordTakesRow.domain false) (Rows.wordTakesSpec.post enc Try.prog Try.f4 false true false false) := by
  refine returnsInHanded_of_change (C := Try.checked) own started (by kernel_rfl) Try.func4
    (ChangeSpec.witness6 (enc := enc) (C := Try.checked) false ⟨#[], #[.agg #[.int .i64 0, .slice none 0 0, .slice none 0 0], .agg #[.int .i64 0, .slice none 0 0, .slice none 0 0], .int .i64 0, .int .i64 0, .int .i64 0, .int .i64 0], []⟩ 8 (by kernel_rfl) (by kernel_rfl) (by kernel_rfl) (by kernel_rfl)) ?_
  intro W base args ds gs before hval0 hW hcnd _
  have hval : ∀ (j : Nat) t v, Try.f4.params[j]? = some t → args[j]? = some v → Value.okWide Try.prog W .any base t v := hval0
  have hW' := hW
  obtain ⟨p, q, hA0, hV, rfl, hfz, hnd⟩ := hW
  have hA : DataW.TrodAll enc Try.prog W 0 (fun _ => true) true Try.f4.params.toList args.toList ds p := hA0
  rw [Try.params4] at hA hval
  obtain ⟨v0, vs0, d0, ds0, p0, q0, hargs, rfl, rfl, h0, r0⟩ := trodAll_cons hA
  obtain ⟨v1, vs1, d1, ds1, p1, q1, rfl, rfl, rfl, h1, r1⟩ := trodAll_cons r0
  obtain ⟨v2, vs2, d2, ds2, p2, q2, rfl, rfl, rfl, h2, r2⟩ := trodAll_cons r1
  obtain ⟨v3, vs3, d3, ds3, p3, q3, rfl, rfl, rfl, h3, r3⟩ := trodAll_cons r2
  obtain ⟨v4, vs4, d4, ds4, p4, q4, rfl, rfl, rfl, h4, r4⟩ := trodAll_cons r3
  obtain ⟨v5, vs5, d5, ds5, p5, q5, rfl, rfl, rfl, h5, r5⟩ := trodAll_cons r4
  obtain ⟨rfl, rfl, rfl⟩ := trodAll_nil r5
  obtain rfl : args = #[v0, v1, v2, v3, v4, v5] := by cases args; simp_all
  obtain ⟨rfl, rfl⟩ := trodVars_none hV
  have k0 := h0
  have lt0 : ∀ x ∈ p0, x.block < W.heap.size := by obtain ⟨m, hm⟩ := k0; exact DataW.trod_lt m _ _ _ hm
  obtain ⟨a0, w0⟩ := openOutT (hval 0 39 v0 rfl rfl) h0
  have k1 := h1
  have lt1 : ∀ x ∈ p1, x.block < W.heap.size := by obtain ⟨m, hm⟩ := k1; exact DataW.trod_lt m _ _ _ hm
  obtain ⟨a1, w1⟩ := openOutT (hval 1 39 v1 rfl rfl) h1
  obtain ⟨a2, rfl, rfl, rfl, w2⟩ := open_int Try.underlying3 (hval 2 3 v2 rfl rfl) h2
  obtain ⟨a3, rfl, rfl, rfl, w3⟩ := open_int Try.underlying3 (hval 3 3 v3 rfl rfl) h3
  obtain ⟨a4, rfl, rfl, rfl, w4⟩ := open_int Try.underlying3 (hval 4 3 v4 rfl rfl) h4
  obtain ⟨a5, rfl, rfl, rfl, w5⟩ := open_int Try.underlying3 (hval 5 3 v5 rfl rfl) h5
  clear hA0 hval0
  refine (WordTakes_walk _ a0 _ a1 a2 a3 a4 a5 W w0 w1 (i64_of_wf w2) (i64_of_wf w3) (i64_of_wf w4) (i64_of_wf w5)).mono fun e W' ⟨he, bel⟩ => ?_
  subst he
  exact ⟨_, rfl, _, _, _, [], _, [], hW', trodAll_mk1 (shut_bool Try.underlying4 _), (trodAll_cons_mk (Below.trod laidOut (by kernel_rfl) (of_decide_eq_true (by kernel_rfl)) k0 bel lt0) (trodAll_cons_mk (Below.trod laidOut (by kernel_rfl) (of_decide_eq_true (by kernel_rfl)) k1 bel lt1) (trodAll_cons_mk (shut_int Try.underlying3 w2) (trodAll_cons_mk (shut_int Try.underlying3 w3) (trodAll_cons_mk (shut_int Try.underlying3 w4) (trodAll_cons_mk (shut_int Try.underlying3 w5) trodAll_mk0)))))), rfl, bel.frame _, fun h => by cases h⟩

theorem over : Rows.wordTakesRow.holds Try.pinned (OpenSpec.ofChange Rows.wordTakesSpec) :=
  OpenClaim.holds_of_wide 4 Try.f4 rfl rfl rfl rfl rfl rfl rfl ⟨rfl, rfl, rfl, rfl, rfl⟩ rfl rfl rfl rfl rfl (by kernel_rfl) Try.func4 (by kernel_rfl)
    (of_decide_eq_true (by kernel_rfl)) (by unfold Func.isWrapper; first | (rw [if_pos (by decide +kernel)]; kernel_rfl) | (rw [if_neg (by decide +kernel)]; exact ⟨rfl, rfl⟩))
    (fun os started H enc _ => lifted os started H enc)

/-- THE STATEMENT. -/
theorem proved : Rows.WordTakesSaid := over
#print axioms proved
end Go.Proofs.Ytfhncnhkeodngaa.wordTakes
