/- Plain laws, data behind worlds, and contracts of functions, for the last text. No conditions. -/
import Derived.Test.YtcaopcpofepniaaDoorM5
import Derived.Test.YtcaopcpofepniaaDoorChecked
import Derived.StillTailTactics
set_option linter.unusedSimpArgs false
set_option linter.unusedVariables false
set_option linter.unnecessarySimpa false
set_option linter.unusedSectionVars false
namespace Go.Proofs.YtcaopcpofepniaaDoor
open Go.RowKit
section
variable {G : World → Prop} (hG : Lasting G)
include hG
set_option maxHeartbeats 8000000 in
set_option maxRecDepth 100000 in
theorem RNodeFault_5 (var other word word2 num : Int) (coefs : List Int) : Snd Tryd.prog G 55 [tNode ⟨5, var, other, word, word2, num, coefs⟩] (tInt (nodeErr ⟨5, var, other, word, word2, num, coefs⟩)) := by
  refine snd_of_body (n := 206) (tm := [(0, .t (tNode ⟨5, var, other, word, word2, num, coefs⟩))]) (rs := [.tmp 2]) tt_ok Tryd.func55 rfl rfl rfl rfl rfl ?_
  have htb : Tab.ok Tryd.prog G [] := Tab.nil
  refine SW_lenA (t := 0) (i := 6) rfl rfl fun hcl => ?_
  rw [List.length_map] at hcl
  have hcl : coefs.length ≤ 9223372036854775807 := hcl
  have e3 : nodeErr ⟨5, var, other, word, word2, num, coefs⟩ = if nodeOk ⟨5, var, other, word, word2, num, coefs⟩ = false then 1 else if nodeMore ⟨5, var, other, word, word2, num, coefs⟩ = true then 2 else if 0 < coefs.length ∧ coefs[coefs.length - 1]! = 0 then 2 else 0 := by unfold nodeErr; rw [if_neg (by simp only; omega)]
  have e1 : nodeOk ⟨5, var, other, word, word2, num, coefs⟩ = true := by unfold nodeOk; simp
  have e2 : usedN ⟨5, var, other, word, word2, num, coefs⟩ = ⟨5, 0, 0, 0, 0, 0, []⟩ := by unfold usedN; simp
  have e4 : nodeMore ⟨5, var, other, word, word2, num, coefs⟩ = (decide (var ≠ 0) || decide (other ≠ 0) || decide (word ≠ 0) || decide (word2 ≠ 0) || decide (num ≠ 0) || decide (coefs.length ≠ 0)) := by unfold nodeMore; rw [e2]; simp
  repeat' (first | (with_reducible first | apply w1 | apply w2 | apply w3 | apply w4 | apply w5 | apply w6 | apply w7 | apply w8 | apply w9 | apply wa | apply wb | apply wc) | ((with_reducible apply wd); focus decide) | ((with_reducible apply we); focus exact rfl) | ((with_reducible apply wf); focus exact rfl) | ((first | (with_reducible apply SW_run tt_ok hG htb) | ((with_reducible apply SW_draw rfl tt_ok hG htb); (focus kernel_rfl); focus simp only [List.range, List.range.loop, List.size_toArray, List.length_cons, List.length_nil, Nat.reduceAdd])); focus ((repeat' (first | (with_reducible first | exact wg | exact wh) | ((with_reducible first | apply wi | apply wj); focus (simp (discharger := omega) only [go_sem, tNode, simprocAttr]; with_reducible rfl)))); done)))
  refine SW_norm (Norm.headS (own := []) (keep := [1, 3, 4, 5]) (by refine ⟨?_, ?_⟩; (simp (discharger := omega) only [go_sem, simprocAttr]; with_reducible rfl); refine ⟨?_, ?_, ?_, ?_⟩ <;> (simp only [go_sem, simprocAttr]; with_reducible rfl))) ?_
  have hok : nodeOk ⟨5, var, other, word, word2, num, coefs⟩ = true := by rw [e1]
  have e5 : nodeErr ⟨5, var, other, word, word2, num, coefs⟩ = if nodeMore ⟨5, var, other, word, word2, num, coefs⟩ = true then 2 else if 0 < coefs.length ∧ coefs[coefs.length - 1]! = 0 then 2 else 0 := by rw [e3, hok, if_neg (by decide)]
  by_cases mvar : var = 0
  · skip
    by_cases mother : other = 0
    · skip
      by_cases mword2 : word2 = 0
      · skip
        by_cases mword : word = 0
        · skip
          by_cases mnum : num = 0
          · skip
            by_cases mC : coefs.length = 0
            · skip
              have hmo : nodeMore ⟨5, var, other, word, word2, num, coefs⟩ = false := by rw [e4]; simp [mvar, mother, mword2, mword, mnum, mC]
              rw [e5, hmo, if_neg (by decide)]
              clear e1 e2 e3 e4 e5 hok hmo
              subst mvar
              subst mother
              subst mword2
              subst mword
              subst mnum
              rw [if_neg (by omega)]
              repeat' (first | (with_reducible first | apply w1 | apply w2 | apply w3 | apply w4 | apply w5 | apply w6 | apply w7 | apply w8 | apply w9 | apply wa | apply wb | apply wc) | ((with_reducible apply wd); focus decide) | ((with_reducible apply we); focus exact rfl) | ((with_reducible apply wf); focus exact rfl) | ((first | (with_reducible apply SW_run tt_ok hG htb) | ((with_reducible apply SW_draw rfl tt_ok hG htb); (focus kernel_rfl); focus simp only [List.range, List.range.loop, List.size_toArray, List.length_cons, List.length_nil, Nat.reduceAdd])); focus ((repeat' (first | (with_reducible first | exact wg | exact wh) | ((with_reducible first | apply wi | apply wj); focus (simp (discharger := omega) only [go_sem, tNode, mC, simprocAttr]; with_reducible rfl)))); done)))
              exact (by simp (discharger := omega) only [go_sem, simprocAttr])
            · have hmo : nodeMore ⟨5, var, other, word, word2, num, coefs⟩ = true := by rw [e4]; simp [mC]
              rw [e5, hmo, if_pos rfl]
              clear e1 e2 e3 e4 e5 hok hmo
              subst mvar
              subst mother
              subst mword2
              subst mword
              subst mnum
              repeat' (first | (with_reducible first | apply w1 | apply w2 | apply w3 | apply w4 | apply w5 | apply w6 | apply w7 | apply w8 | apply w9 | apply wa | apply wb | apply wc) | ((with_reducible apply wd); focus decide) | ((with_reducible apply we); focus exact rfl) | ((with_reducible apply wf); focus exact rfl) | ((first | (with_reducible apply SW_run tt_ok hG htb) | ((with_reducible apply SW_draw rfl tt_ok hG htb); (focus kernel_rfl); focus simp only [List.range, List.range.loop, List.size_toArray, List.length_cons, List.length_nil, Nat.reduceAdd])); focus ((repeat' (first | (with_reducible first | exact wg | exact wh) | ((with_reducible first | apply wi | apply wj); focus (simp (discharger := omega) only [go_sem, tNode, mC, simprocAttr]; with_reducible rfl)))); done)))
              exact (by simp (discharger := omega) only [go_sem, simprocAttr])
          · have hmo : nodeMore ⟨5, var, other, word, word2, num, coefs⟩ = true := by rw [e4]; simp [mnum]
            rw [e5, hmo, if_pos rfl]
            clear e1 e2 e3 e4 e5 hok hmo
            subst mvar
            subst mother
            subst mword2
            subst mword
            repeat' (first | (with_reducible first | apply w1 | apply w2 | apply w3 | apply w4 | apply w5 | apply w6 | apply w7 | apply w8 | apply w9 | apply wa | apply wb | apply wc) | ((with_reducible apply wd); focus decide) | ((with_reducible apply we); focus exact rfl) | ((with_reducible apply wf); focus exact rfl) | ((first | (with_reducible apply SW_run tt_ok hG htb) | ((with_reducible apply SW_draw rfl tt_ok hG htb); (focus kernel_rfl); focus simp only [List.range, List.range.loop, List.size_toArray, List.length_cons, List.length_nil, Nat.reduceAdd])); focus ((repeat' (first | (with_reducible first | exact wg | exact wh) | ((with_reducible first | apply wi | apply wj); focus (simp (discharger := omega) only [go_sem, tNode, mnum, simprocAttr]; with_reducible rfl)))); done)))
            exact (by simp (discharger := omega) only [go_sem, simprocAttr])
        · have hmo : nodeMore ⟨5, var, other, word, word2, num, coefs⟩ = true := by rw [e4]; simp [mword]
          rw [e5, hmo, if_pos rfl]
          clear e1 e2 e3 e4 e5 hok hmo
          subst mvar
          subst mother
          subst mword2
          repeat' (first | (with_reducible first | apply w1 | apply w2 | apply w3 | apply w4 | apply w5 | apply w6 | apply w7 | apply w8 | apply w9 | apply wa | apply wb | apply wc) | ((with_reducible apply wd); focus decide) | ((with_reducible apply we); focus exact rfl) | ((with_reducible apply wf); focus exact rfl) | ((first | (with_reducible apply SW_run tt_ok hG htb) | ((with_reducible apply SW_draw rfl tt_ok hG htb); (focus kernel_rfl); focus simp only [List.range, List.range.loop, List.size_toArray, List.length_cons, List.length_nil, Nat.reduceAdd])); focus ((repeat' (first | (with_reducible first | exact wg | exact wh) | ((with_reducible first | apply wi | apply wj); focus (simp (discharger := omega) only [go_sem, tNode, mword, simprocAttr]; with_reducible rfl)))); done)))
          exact (by simp (discharger := omega) only [go_sem, simprocAttr])
      · have hmo : nodeMore ⟨5, var, other, word, word2, num, coefs⟩ = true := by rw [e4]; simp [mword2]
        rw [e5, hmo, if_pos rfl]
        clear e1 e2 e3 e4 e5 hok hmo
        subst mvar
        subst mother
        repeat' (first | (with_reducible first | apply w1 | apply w2 | apply w3 | apply w4 | apply w5 | apply w6 | apply w7 | apply w8 | apply w9 | apply wa | apply wb | apply wc) | ((with_reducible apply wd); focus decide) | ((with_reducible apply we); focus exact rfl) | ((with_reducible apply wf); focus exact rfl) | ((first | (with_reducible apply SW_run tt_ok hG htb) | ((with_reducible apply SW_draw rfl tt_ok hG htb); (focus kernel_rfl); focus simp only [List.range, List.range.loop, List.size_toArray, List.length_cons, List.length_nil, Nat.reduceAdd])); focus ((repeat' (first | (with_reducible first | exact wg | exact wh) | ((with_reducible first | apply wi | apply wj); focus (simp (discharger := omega) only [go_sem, tNode, mword2, simprocAttr]; with_reducible rfl)))); done)))
        exact (by simp (discharger := omega) only [go_sem, simprocAttr])
    · have hmo : nodeMore ⟨5, var, other, word, word2, num, coefs⟩ = true := by rw [e4]; simp [mother]
      rw [e5, hmo, if_pos rfl]
      clear e1 e2 e3 e4 e5 hok hmo
      subst mvar
      repeat' (first | (with_reducible first | apply w1 | apply w2 | apply w3 | apply w4 | apply w5 | apply w6 | apply w7 | apply w8 | apply w9 | apply wa | apply wb | apply wc) | ((with_reducible apply wd); focus decide) | ((with_reducible apply we); focus exact rfl) | ((with_reducible apply wf); focus exact rfl) | ((first | (with_reducible apply SW_run tt_ok hG htb) | ((with_reducible apply SW_draw rfl tt_ok hG htb); (focus kernel_rfl); focus simp only [List.range, List.range.loop, List.size_toArray, List.length_cons, List.length_nil, Nat.reduceAdd])); focus ((repeat' (first | (with_reducible first | exact wg | exact wh) | ((with_reducible first | apply wi | apply wj); focus (simp (discharger := omega) only [go_sem, tNode, mother, simprocAttr]; with_reducible rfl)))); done)))
      exact (by simp (discharger := omega) only [go_sem, simprocAttr])
  · have hmo : nodeMore ⟨5, var, other, word, word2, num, coefs⟩ = true := by rw [e4]; simp [mvar]
    rw [e5, hmo, if_pos rfl]
    clear e1 e2 e3 e4 e5 hok hmo
    repeat' (first | (with_reducible first | apply w1 | apply w2 | apply w3 | apply w4 | apply w5 | apply w6 | apply w7 | apply w8 | apply w9 | apply wa | apply wb | apply wc) | ((with_reducible apply wd); focus decide) | ((with_reducible apply we); focus exact rfl) | ((with_reducible apply wf); focus exact rfl) | ((first | (with_reducible apply SW_run tt_ok hG htb) | ((with_reducible apply SW_draw rfl tt_ok hG htb); (focus kernel_rfl); focus simp only [List.range, List.range.loop, List.size_toArray, List.length_cons, List.length_nil, Nat.reduceAdd])); focus ((repeat' (first | (with_reducible first | exact wg | exact wh) | ((with_reducible first | apply wi | apply wj); focus (simp (discharger := omega) only [go_sem, tNode, mvar, simprocAttr]; with_reducible rfl)))); done)))
    exact (by simp (discharger := omega) only [go_sem, simprocAttr])
set_option maxHeartbeats 8000000 in
set_option maxRecDepth 100000 in
theorem RNodeFault_6 (var other word word2 num : Int) (coefs : List Int) : Snd Tryd.prog G 55 [tNode ⟨6, var, other, word, word2, num, coefs⟩] (tInt (nodeErr ⟨6, var, other, word, word2, num, coefs⟩)) := by
  refine snd_of_body (n := 206) (tm := [(0, .t (tNode ⟨6, var, other, word, word2, num, coefs⟩))]) (rs := [.tmp 2]) tt_ok Tryd.func55 rfl rfl rfl rfl rfl ?_
  have htb : Tab.ok Tryd.prog G [] := Tab.nil
  refine SW_lenA (t := 0) (i := 6) rfl rfl fun hcl => ?_
  rw [List.length_map] at hcl
  have hcl : coefs.length ≤ 9223372036854775807 := hcl
  have e3 : nodeErr ⟨6, var, other, word, word2, num, coefs⟩ = if nodeOk ⟨6, var, other, word, word2, num, coefs⟩ = false then 1 else if nodeMore ⟨6, var, other, word, word2, num, coefs⟩ = true then 2 else if 0 < coefs.length ∧ coefs[coefs.length - 1]! = 0 then 2 else 0 := by unfold nodeErr; rw [if_neg (by simp only; omega)]
  have e1 : nodeOk ⟨6, var, other, word, word2, num, coefs⟩ = true := by unfold nodeOk; simp
  have e2 : usedN ⟨6, var, other, word, word2, num, coefs⟩ = ⟨6, 0, 0, 0, 0, 0, []⟩ := by unfold usedN; simp
  have e4 : nodeMore ⟨6, var, other, word, word2, num, coefs⟩ = (decide (var ≠ 0) || decide (other ≠ 0) || decide (word ≠ 0) || decide (word2 ≠ 0) || decide (num ≠ 0) || decide (coefs.length ≠ 0)) := by unfold nodeMore; rw [e2]; simp
  repeat' (first | (with_reducible first | apply w1 | apply w2 | apply w3 | apply w4 | apply w5 | apply w6 | apply w7 | apply w8 | apply w9 | apply wa | apply wb | apply wc) | ((with_reducible apply wd); focus decide) | ((with_reducible apply we); focus exact rfl) | ((with_reducible apply wf); focus exact rfl) | ((first | (with_reducible apply SW_run tt_ok hG htb) | ((with_reducible apply SW_draw rfl tt_ok hG htb); (focus kernel_rfl); focus simp only [List.range, List.range.loop, List.size_toArray, List.length_cons, List.length_nil, Nat.reduceAdd])); focus ((repeat' (first | (with_reducible first | exact wg | exact wh) | ((with_reducible first | apply wi | apply wj); focus (simp (discharger := omega) only [go_sem, tNode, simprocAttr]; with_reducible rfl)))); done)))
  refine SW_norm (Norm.headS (own := []) (keep := [1, 3, 4, 5]) (by refine ⟨?_, ?_⟩; (simp (discharger := omega) only [go_sem, simprocAttr]; with_reducible rfl); refine ⟨?_, ?_, ?_, ?_⟩ <;> (simp only [go_sem, simprocAttr]; with_reducible rfl))) ?_
  have hok : nodeOk ⟨6, var, other, word, word2, num, coefs⟩ = true := by rw [e1]
  have e5 : nodeErr ⟨6, var, other, word, word2, num, coefs⟩ = if nodeMore ⟨6, var, other, word, word2, num, coefs⟩ = true then 2 else if 0 < coefs.length ∧ coefs[coefs.length - 1]! = 0 then 2 else 0 := by rw [e3, hok, if_neg (by decide)]
  by_cases mvar : var = 0
  · skip
    by_cases mother : other = 0
    · skip
      by_cases mword2 : word2 = 0
      · skip
        by_cases mword : word = 0
        · skip
          by_cases mnum : num = 0
          · skip
            by_cases mC : coefs.length = 0
            · skip
              have hmo : nodeMore ⟨6, var, other, word, word2, num, coefs⟩ = false := by rw [e4]; simp [mvar, mother, mword2, mword, mnum, mC]
              rw [e5, hmo, if_neg (by decide)]
              clear e1 e2 e3 e4 e5 hok hmo
              subst mvar
              subst mother
              subst mword2
              subst mword
              subst mnum
              rw [if_neg (by omega)]
              repeat' (first | (with_reducible first | apply w1 | apply w2 | apply w3 | apply w4 | apply w5 | apply w6 | apply w7 | apply w8 | apply w9 | apply wa | apply wb | apply wc) | ((with_reducible apply wd); focus decide) | ((with_reducible apply we); focus exact rfl) | ((with_reducible apply wf); focus exact rfl) | ((first | (with_reducible apply SW_run tt_ok hG htb) | ((with_reducible apply SW_draw rfl tt_ok hG htb); (focus kernel_rfl); focus simp only [List.range, List.range.loop, List.size_toArray, List.length_cons, List.length_nil, Nat.reduceAdd])); focus ((repeat' (first | (with_reducible first | exact wg | exact wh) | ((with_reducible first | apply wi | apply wj); focus (simp (discharger := omega) only [go_sem, tNode, mC, simprocAttr]; with_reducible rfl)))); done)))
              exact (by simp (discharger := omega) only [go_sem, simprocAttr])
            · have hmo : nodeMore ⟨6, var, other, word, word2, num, coefs⟩ = true := by rw [e4]; simp [mC]
              rw [e5, hmo, if_pos rfl]
              clear e1 e2 e3 e4 e5 hok hmo
              subst mvar
              subst mother
              subst mword2
              subst mword
              subst mnum
              repeat' (first | (with_reducible first | apply w1 | apply w2 | apply w3 | apply w4 | apply w5 | apply w6 | apply w7 | apply w8 | apply w9 | apply wa | apply wb | apply wc) | ((with_reducible apply wd); focus decide) | ((with_reducible apply we); focus exact rfl) | ((with_reducible apply wf); focus exact rfl) | ((first | (with_reducible apply SW_run tt_ok hG htb) | ((with_reducible apply SW_draw rfl tt_ok hG htb); (focus kernel_rfl); focus simp only [List.range, List.range.loop, List.size_toArray, List.length_cons, List.length_nil, Nat.reduceAdd])); focus ((repeat' (first | (with_reducible first | exact wg | exact wh) | ((with_reducible first | apply wi | apply wj); focus (simp (discharger := omega) only [go_sem, tNode, mC, simprocAttr]; with_reducible rfl)))); done)))
              exact (by simp (discharger := omega) only [go_sem, simprocAttr])
          · have hmo : nodeMore ⟨6, var, other, word, word2, num, coefs⟩ = true := by rw [e4]; simp [mnum]
            rw [e5, hmo, if_pos rfl]
            clear e1 e2 e3 e4 e5 hok hmo
            subst mvar
            subst mother
            subst mword2
            subst mword
            repeat' (first | (with_reducible first | apply w1 | apply w2 | apply w3 | apply w4 | apply w5 | apply w6 | apply w7 | apply w8 | apply w9 | apply wa | apply wb | apply wc) | ((with_reducible apply wd); focus decide) | ((with_reducible apply we); focus exact rfl) | ((with_reducible apply wf); focus exact rfl) | ((first | (with_reducible apply SW_run tt_ok hG htb) | ((with_reducible apply SW_draw rfl tt_ok hG htb); (focus kernel_rfl); focus simp only [List.range, List.range.loop, List.size_toArray, List.length_cons, List.length_nil, Nat.reduceAdd])); focus ((repeat' (first | (with_reducible first | exact wg | exact wh) | ((with_reducible first | apply wi | apply wj); focus (simp (discharger := omega) only [go_sem, tNode, mnum, simprocAttr]; with_reducible rfl)))); done)))
            exact (by simp (discharger := omega) only [go_sem, simprocAttr])
        · have hmo : nodeMore ⟨6, var, other, word, word2, num, coefs⟩ = true := by rw [e4]; simp [mword]
          rw [e5, hmo, if_pos rfl]
          clear e1 e2 e3 e4 e5 hok hmo
          subst mvar
          subst mother
          subst mword2
          repeat' (first | (with_reducible first | apply w1 | apply w2 | apply w3 | apply w4 | apply w5 | apply w6 | apply w7 | apply w8 | apply w9 | apply wa | apply wb | apply wc) | ((with_reducible apply wd); focus decide) | ((with_reducible apply we); focus exact rfl) | ((with_reducible apply wf); focus exact rfl) | ((first | (with_reducible apply SW_run tt_ok hG htb) | ((with_reducible apply SW_draw rfl tt_ok hG htb); (focus kernel_rfl); focus simp only [List.range, List.range.loop, List.size_toArray, List.length_cons, List.length_nil, Nat.reduceAdd])); focus ((repeat' (first | (with_reducible first | exact wg | exact wh) | ((with_reducible first | apply wi | apply wj); focus (simp (discharger := omega) only [go_sem, tNode, mword, simprocAttr]; with_reducible rfl)))); done)))
          exact (by simp (discharger := omega) only [go_sem, simprocAttr])
      · have hmo : nodeMore ⟨6, var, other, word, word2, num, coefs⟩ = true := by rw [e4]; simp [mword2]
        rw [e5, hmo, if_pos rfl]
        clear e1 e2 e3 e4 e5 hok hmo
        subst mvar
        subst mother
        repeat' (first | (with_reducible first | apply w1 | apply w2 | apply w3 | apply w4 | apply w5 | apply w6 | apply w7 | apply w8 | apply w9 | apply wa | apply wb | apply wc) | ((with_reducible apply wd); focus decide) | ((with_reducible apply we); focus exact rfl) | ((with_reducible apply wf); focus exact rfl) | ((first | (with_reducible apply SW_run tt_ok hG htb) | ((with_reducible apply SW_draw rfl tt_ok hG htb); (focus kernel_rfl); focus simp only [List.range, List.range.loop, List.size_toArray, List.length_cons, List.length_nil, Nat.reduceAdd])); focus ((repeat' (first | (with_reducible first | exact wg | exact wh) | ((with_reducible first | apply wi | apply wj); focus (simp (discharger := omega) only [go_sem, tNode, mword2, simprocAttr]; with_reducible rfl)))); done)))
        exact (by simp (discharger := omega) only [go_sem, simprocAttr])
    · have hmo : nodeMore ⟨6, var, other, word, word2, num, coefs⟩ = true := by rw [e4]; simp [mother]
      rw [e5, hmo, if_pos rfl]
      clear e1 e2 e3 e4 e5 hok hmo
      subst mvar
      repeat' (first | (with_reducible first | apply w1 | apply w2 | apply w3 | apply w4 | apply w5 | apply w6 | apply w7 | apply w8 | apply w9 | apply wa | apply wb | apply wc) | ((with_reducible apply wd); focus decide) | ((with_reducible apply we); focus exact rfl) | ((with_reducible apply wf); focus exact rfl) | ((first | (with_reducible apply SW_run tt_ok hG htb) | ((with_reducible apply SW_draw rfl tt_ok hG htb); (focus kernel_rfl); focus simp only [List.range, List.range.loop, List.size_toArray, List.length_cons, List.length_nil, Nat.reduceAdd])); focus ((repeat' (first | (with_reducible first | exact wg | exact wh) | ((with_reducible first | apply wi | apply wj); focus (simp (discharger := omega) only [go_sem, tNode, mother, simprocAttr]; with_reducible rfl)))); done)))
      exact (by simp (discharger := omega) only [go_sem, simprocAttr])
  · have hmo : nodeMore ⟨6, var, other, word, word2, num, coefs⟩ = true := by rw [e4]; simp [mvar]
    rw [e5, hmo, if_pos rfl]
    clear e1 e2 e3 e4 e5 hok hmo
    repeat' (first | (with_reducible first | apply w1 | apply w2 | apply w3 | apply w4 | apply w5 | apply w6 | apply w7 | apply w8 | apply w9 | apply wa | apply wb | apply wc) | ((with_reducible apply wd); focus decide) | ((with_reducible apply we); focus exact rfl) | ((with_reducible apply wf); focus exact rfl) | ((first | (with_reducible apply SW_run tt_ok hG htb) | ((with_reducible apply SW_draw rfl tt_ok hG htb); (focus kernel_rfl); focus simp only [List.range, List.range.loop, List.size_toArray, List.length_cons, List.length_nil, Nat.reduceAdd])); focus ((repeat' (first | (with_reducible first | exact wg | exact wh) | ((with_reducible first | apply wi | apply wj); focus (simp (discharger := omega) only [go_sem, tNode, mvar, simprocAttr]; with_reducible rfl)))); done)))
    exact (by simp (discharger := omega) only [go_sem, simprocAttr])
set_option maxHeartbeats 8000000 in
set_option maxRecDepth 100000 in
theorem RNodeFault_7 (var other word word2 num : Int) (coefs : List Int) : Snd Tryd.prog G 55 [tNode ⟨7, var, other, word, word2, num, coefs⟩] (tInt (nodeErr ⟨7, var, other, word, word2, num, coefs⟩)) := by
  refine snd_of_body (n := 206) (tm := [(0, .t (tNode ⟨7, var, other, word, word2, num, coefs⟩))]) (rs := [.tmp 2]) tt_ok Tryd.func55 rfl rfl rfl rfl rfl ?_
  have htb : Tab.ok Tryd.prog G [] := Tab.nil
  refine SW_lenA (t := 0) (i := 6) rfl rfl fun hcl => ?_
  rw [List.length_map] at hcl
  have hcl : coefs.length ≤ 9223372036854775807 := hcl
  have e3 : nodeErr ⟨7, var, other, word, word2, num, coefs⟩ = if nodeOk ⟨7, var, other, word, word2, num, coefs⟩ = false then 1 else if nodeMore ⟨7, var, other, word, word2, num, coefs⟩ = true then 2 else if 0 < coefs.length ∧ coefs[coefs.length - 1]! = 0 then 2 else 0 := by unfold nodeErr; rw [if_neg (by simp only; omega)]
  have e1 : nodeOk ⟨7, var, other, word, word2, num, coefs⟩ = true := by unfold nodeOk; simp
  have e2 : usedN ⟨7, var, other, word, word2, num, coefs⟩ = ⟨7, 0, 0, 0, 0, 0, []⟩ := by unfold usedN; simp
  have e4 : nodeMore ⟨7, var, other, word, word2, num, coefs⟩ = (decide (var ≠ 0) || decide (other ≠ 0) || decide (word ≠ 0) || decide (word2 ≠ 0) || decide (num ≠ 0) || decide (coefs.length ≠ 0)) := by unfold nodeMore; rw [e2]; simp
  repeat' (first | (with_reducible first | apply w1 | apply w2 | apply w3 | apply w4 | apply w5 | apply w6 | apply w7 | apply w8 | apply w9 | apply wa | apply wb | apply wc) | ((with_reducible apply wd); focus decide) | ((with_reducible apply we); focus exact rfl) | ((with_reducible apply wf); focus exact rfl) | ((first | (with_reducible apply SW_run tt_ok hG htb) | ((with_reducible apply SW_draw rfl tt_ok hG htb); (focus kernel_rfl); focus simp only [List.range, List.range.loop, List.size_toArray, List.length_cons, List.length_nil, Nat.reduceAdd])); focus ((repeat' (first | (with_reducible first | exact wg | exact wh) | ((with_reducible first | apply wi | apply wj); focus (simp (discharger := omega) only [go_sem, tNode, simprocAttr]; with_reducible rfl)))); done)))
  refine SW_norm (Norm.headS (own := []) (keep := [1, 3, 4, 5]) (by refine ⟨?_, ?_⟩; (simp (discharger := omega) only [go_sem, simprocAttr]; with_reducible rfl); refine ⟨?_, ?_, ?_, ?_⟩ <;> (simp only [go_sem, simprocAttr]; with_reducible rfl))) ?_
  have hok : nodeOk ⟨7, var, other, word, word2, num, coefs⟩ = true := by rw [e1]
  have e5 : nodeErr ⟨7, var, other, word, word2, num, coefs⟩ = if nodeMore ⟨7, var, other, word, word2, num, coefs⟩ = true then 2 else if 0 < coefs.length ∧ coefs[coefs.length - 1]! = 0 then 2 else 0 := by rw [e3, hok, if_neg (by decide)]
  by_cases mvar : var = 0
  · skip
    by_cases mother : other = 0
    · skip
      by_cases mword2 : word2 = 0
      · skip
        by_cases mword : word = 0
        · skip
          by_cases mnum : num = 0
          · skip
            by_cases mC : coefs.length = 0
            · skip
              have hmo : nodeMore ⟨7, var, other, word, word2, num, coefs⟩ = false := by rw [e4]; simp [mvar, mother, mword2, mword, mnum, mC]
              rw [e5, hmo, if_neg (by decide)]
              clear e1 e2 e3 e4 e5 hok hmo
              subst mvar
              subst mother
              subst mword2
              subst mword
              subst mnum
              rw [if_neg (by omega)]
              repeat' (first | (with_reducible first | apply w1 | apply w2 | apply w3 | apply w4 | apply w5 | apply w6 | apply w7 | apply w8 | apply w9 | apply wa | apply wb | apply wc) | ((with_reducible apply wd); focus decide) | ((with_reducible apply we); focus exact rfl) | ((with_reducible apply wf); focus exact rfl) | ((first | (with_reducible apply SW_run tt_ok hG htb) | ((with_reducible apply SW_draw rfl tt_ok hG htb); (focus kernel_rfl); focus simp only [List.range, List.range.loop, List.size_toArray, List.length_cons, List.length_nil, Nat.reduceAdd])); focus ((repeat' (first | (with_reducible first | exact wg | exact wh) | ((with_reducible first | apply wi | apply wj); focus (simp (discharger := omega) only [go_sem, tNode, mC, simprocAttr]; with_reducible rfl)))); done)))
              exact (by simp (discharger := omega) only [go_sem, simprocAttr])
            · have hmo : nodeMore ⟨7, var, other, word, word2, num, coefs⟩ = true := by rw [e4]; simp [mC]
              rw [e5, hmo, if_pos rfl]
              clear e1 e2 e3 e4 e5 hok hmo
              subst mvar
              subst mother
              subst mword2
              subst mword
              subst mnum
              repeat' (first | (with_reducible first | apply w1 | apply w2 | apply w3 | apply w4 | apply w5 | apply w6 | apply w7 | apply w8 | apply w9 | apply wa | apply wb | apply wc) | ((with_reducible apply wd); focus decide) | ((with_reducible apply we); focus exact rfl) | ((with_reducible apply wf); focus exact rfl) | ((first | (with_reducible apply SW_run tt_ok hG htb) | ((with_reducible apply SW_draw rfl tt_ok hG htb); (focus kernel_rfl); focus simp only [List.range, List.range.loop, List.size_toArray, List.length_cons, List.length_nil, Nat.reduceAdd])); focus ((repeat' (first | (with_reducible first | exact wg | exact wh) | ((with_reducible first | apply wi | apply wj); focus (simp (discharger := omega) only [go_sem, tNode, mC, simprocAttr]; with_reducible rfl)))); done)))
              exact (by simp (discharger := omega) only [go_sem, simprocAttr])
          · have hmo : nodeMore ⟨7, var, other, word, word2, num, coefs⟩ = true := by rw [e4]; simp [mnum]
            rw [e5, hmo, if_pos rfl]
            clear e1 e2 e3 e4 e5 hok hmo
            subst mvar
            subst mother
            subst mword2
            subst mword
            repeat' (first | (with_reducible first | apply w1 | apply w2 | apply w3 | apply w4 | apply w5 | apply w6 | apply w7 | apply w8 | apply w9 | apply wa | apply wb | apply wc) | ((with_reducible apply wd); focus decide) | ((with_reducible apply we); focus exact rfl) | ((with_reducible apply wf); focus exact rfl) | ((first | (with_reducible apply SW_run tt_ok hG htb) | ((with_reducible apply SW_draw rfl tt_ok hG htb); (focus kernel_rfl); focus simp only [List.range, List.range.loop, List.size_toArray, List.length_cons, List.length_nil, Nat.reduceAdd])); focus ((repeat' (first | (with_reducible first | exact wg | exact wh) | ((with_reducible first | apply wi | apply wj); focus (simp (discharger := omega) only [go_sem, tNode, mnum, simprocAttr]; with_reducible rfl)))); done)))
            exact (by simp (discharger := omega) only [go_sem, simprocAttr])
        · have hmo : nodeMore ⟨7, var, other, word, word2, num, coefs⟩ = true := by rw [e4]; simp [mword]
          rw [e5, hmo, if_pos rfl]
          clear e1 e2 e3 e4 e5 hok hmo
          subst mvar
          subst mother
          subst mword2
          repeat' (first | (with_reducible first | apply w1 | apply w2 | apply w3 | apply w4 | apply w5 | apply w6 | apply w7 | apply w8 | apply w9 | apply wa | apply wb | apply wc) | ((with_reducible apply wd); focus decide) | ((with_reducible apply we); focus exact rfl) | ((with_reducible apply wf); focus exact rfl) | ((first | (with_reducible apply SW_run tt_ok hG htb) | ((with_reducible apply SW_draw rfl tt_ok hG htb); (focus kernel_rfl); focus simp only [List.range, List.range.loop, List.size_toArray, List.length_cons, List.length_nil, Nat.reduceAdd])); focus ((repeat' (first | (with_reducible first | exact wg | exact wh) | ((with_reducible first | apply wi | apply wj); focus (simp (discharger := omega) only [go_sem, tNode, mword, simprocAttr]; with_reducible rfl)))); done)))
          exact (by simp (discharger := omega) only [go_sem, simprocAttr])
      · have hmo : nodeMore ⟨7, var, other, word, word2, num, coefs⟩ = true := by rw [e4]; simp [mword2]
        rw [e5, hmo, if_pos rfl]
        clear e1 e2 e3 e4 e5 hok hmo
        subst mvar
        subst mother
        repeat' (first | (with_reducible first | apply w1 | apply w2 | apply w3 | apply w4 | apply w5 | apply w6 | apply w7 | apply w8 | apply w9 | apply wa | apply wb | apply wc) | ((with_reducible apply wd); focus decide) | ((with_reducible apply we); focus exact rfl) | ((with_reducible apply wf); focus exact rfl) | ((first | (with_reducible apply SW_run tt_ok hG htb) | ((with_reducible apply SW_draw rfl tt_ok hG htb); (focus kernel_rfl); focus simp only [List.range, List.range.loop, List.size_toArray, List.length_cons, List.length_nil, Nat.reduceAdd])); focus ((repeat' (first | (with_reducible first | exact wg | exact wh) | ((with_reducible first | apply wi | apply wj); focus (simp (discharger := omega) only [go_sem, tNode, mword2, simprocAttr]; with_reducible rfl)))); done)))
        exact (by simp (discharger := omega) only [go_sem, simprocAttr])
    · have hmo : nodeMore ⟨7, var, other, word, word2, num, coefs⟩ = true := by rw [e4]; simp [mother]
      rw [e5, hmo, if_pos rfl]
      clear e1 e2 e3 e4 e5 hok hmo
      subst mvar
      repeat' (first | (with_reducible first | apply w1 | apply w2 | apply w3 | apply w4 | apply w5 | apply w6 | apply w7 | apply w8 | apply w9 | apply wa | apply wb | apply wc) | ((with_reducible apply wd); focus decide) | ((with_reducible apply we); focus exact rfl) | ((with_reducible apply wf); focus exact rfl) | ((first | (with_reducible apply SW_run tt_ok hG htb) | ((with_reducible apply SW_draw rfl tt_ok hG htb); (focus kernel_rfl); focus simp only [List.range, List.range.loop, List.size_toArray, List.length_cons, List.length_nil, Nat.reduceAdd])); focus ((repeat' (first | (with_reducible first | exact wg | exact wh) | ((with_reducible first | apply wi | apply wj); focus (simp (discharger := omega) only [go_sem, tNode, mother, simprocAttr]; with_reducible rfl)))); done)))
      exact (by simp (discharger := omega) only [go_sem, simprocAttr])
  · have hmo : nodeMore ⟨7, var, other, word, word2, num, coefs⟩ = true := by rw [e4]; simp [mvar]
    rw [e5, hmo, if_pos rfl]
    clear e1 e2 e3 e4 e5 hok hmo
    repeat' (first | (with_reducible first | apply w1 | apply w2 | apply w3 | apply w4 | apply w5 | apply w6 | apply w7 | apply w8 | apply w9 | apply wa | apply wb | apply wc) | ((with_reducible apply wd); focus decide) | ((with_reducible apply we); focus exact rfl) | ((with_reducible apply wf); focus exact rfl) | ((first | (with_reducible apply SW_run tt_ok hG htb) | ((with_reducible apply SW_draw rfl tt_ok hG htb); (focus kernel_rfl); focus simp only [List.range, List.range.loop, List.size_toArray, List.length_cons, List.length_nil, Nat.reduceAdd])); focus ((repeat' (first | (with_reducible first | exact wg | exact wh) | ((with_reducible first | apply wi | apply wj); focus (simp (discharger := omega) only [go_sem, tNode, mvar, simprocAttr]; with_reducible rfl)))); done)))
    exact (by simp (discharger := omega) only [go_sem, simprocAttr])
set_option maxHeartbeats 8000000 in
set_option maxRecDepth 100000 in
theorem RNodeFault_8 (var other word word2 num : Int) (coefs : List Int) : Snd Tryd.prog G 55 [tNode ⟨8, var, other, word, word2, num, coefs⟩] (tInt (nodeErr ⟨8, var, other, word, word2, num, coefs⟩)) := by
  refine snd_of_body (n := 206) (tm := [(0, .t (tNode ⟨8, var, other, word, word2, num, coefs⟩))]) (rs := [.tmp 2]) tt_ok Tryd.func55 rfl rfl rfl rfl rfl ?_
  have htb : Tab.ok Tryd.prog G [] := Tab.nil
  refine SW_lenA (t := 0) (i := 6) rfl rfl fun hcl => ?_
  rw [List.length_map] at hcl
  have hcl : coefs.length ≤ 9223372036854775807 := hcl
  have e3 : nodeErr ⟨8, var, other, word, word2, num, coefs⟩ = if nodeOk ⟨8, var, other, word, word2, num, coefs⟩ = false then 1 else if nodeMore ⟨8, var, other, word, word2, num, coefs⟩ = true then 2 else if 0 < coefs.length ∧ coefs[coefs.length - 1]! = 0 then 2 else 0 := by unfold nodeErr; rw [if_neg (by simp only; omega)]
  have e1 : nodeOk ⟨8, var, other, word, word2, num, coefs⟩ = isVar var := by unfold nodeOk; simp
  have e2 : usedN ⟨8, var, other, word, word2, num, coefs⟩ = ⟨8, var, 0, 0, 0, 0, []⟩ := by unfold usedN; simp
  have e4 : nodeMore ⟨8, var, other, word, word2, num, coefs⟩ = (decide (other ≠ 0) || decide (word ≠ 0) || decide (word2 ≠ 0) || decide (num ≠ 0) || decide (coefs.length ≠ 0)) := by unfold nodeMore; rw [e2]; simp
  repeat' (first | (with_reducible first | apply w1 | apply w2 | apply w3 | apply w4 | apply w5 | apply w6 | apply w7 | apply w8 | apply w9 | apply wa | apply wb | apply wc) | ((with_reducible apply wd); focus decide) | ((with_reducible apply we); focus exact rfl) | ((with_reducible apply wf); focus exact rfl) | ((first | (with_reducible apply SW_run tt_ok hG htb) | ((with_reducible apply SW_draw rfl tt_ok hG htb); (focus kernel_rfl); focus simp only [List.range, List.range.loop, List.size_toArray, List.length_cons, List.length_nil, Nat.reduceAdd])); focus ((repeat' (first | (with_reducible first | exact wg | exact wh) | ((with_reducible first | apply wi | apply wj); focus (simp (discharger := omega) only [go_sem, tNode, simprocAttr]; with_reducible rfl)))); done)))
  refine SW_norm (Norm.headS (own := []) (keep := [1, 3, 4, 5]) (by refine ⟨?_, ?_⟩; (simp (discharger := omega) only [go_sem, simprocAttr]; with_reducible rfl); refine ⟨?_, ?_, ?_, ?_⟩ <;> (simp only [go_sem, simprocAttr]; with_reducible rfl))) ?_
  by_cases q0 : 0 ≤ var
  · skip
    by_cases q1 : var < 5
    · skip
      have hok : nodeOk ⟨8, var, other, word, word2, num, coefs⟩ = true := by rw [e1]; simp [isVar, q0, q1]
      have e5 : nodeErr ⟨8, var, other, word, word2, num, coefs⟩ = if nodeMore ⟨8, var, other, word, word2, num, coefs⟩ = true then 2 else if 0 < coefs.length ∧ coefs[coefs.length - 1]! = 0 then 2 else 0 := by rw [e3, hok, if_neg (by decide)]
      repeat' (first | (with_reducible first | apply w1 | apply w2 | apply w3 | apply w4 | apply w5 | apply w6 | apply w7 | apply w8 | apply w9 | apply wa | apply wb | apply wc) | ((with_reducible apply wd); focus decide) | ((with_reducible apply we); focus exact rfl) | ((with_reducible apply wf); focus exact rfl) | ((first | (with_reducible apply SW_run tt_ok hG htb) | ((with_reducible apply SW_draw rfl tt_ok hG htb); (focus kernel_rfl); focus simp only [List.range, List.range.loop, List.size_toArray, List.length_cons, List.length_nil, Nat.reduceAdd])); focus ((repeat' (first | (with_reducible first | exact wg | exact wh) | ((with_reducible first | apply wi | apply wj); focus (simp (discharger := omega) only [go_sem, tNode, simprocAttr]; with_reducible rfl)))); done)))
      refine SW_norm (Norm.headS (own := []) (keep := [1, 3, 4, 5]) (by refine ⟨?_, ?_⟩; (simp (discharger := omega) only [go_sem, simprocAttr]; with_reducible rfl); refine ⟨?_, ?_, ?_, ?_⟩ <;> (simp only [go_sem, simprocAttr]; with_reducible rfl))) ?_
      by_cases mother : other = 0
      · skip
        by_cases mword2 : word2 = 0
        · skip
          by_cases mword : word = 0
          · skip
            by_cases mnum : num = 0
            · skip
              by_cases mC : coefs.length = 0
              · skip
                have hmo : nodeMore ⟨8, var, other, word, word2, num, coefs⟩ = false := by rw [e4]; simp [mother, mword2, mword, mnum, mC]
                rw [e5, hmo, if_neg (by decide)]
                clear e1 e2 e3 e4 e5 hok hmo
                subst mother
                subst mword2
                subst mword
                subst mnum
                rw [if_neg (by omega)]
                repeat' (first | (with_reducible first | apply w1 | apply w2 | apply w3 | apply w4 | apply w5 | apply w6 | apply w7 | apply w8 | apply w9 | apply wa | apply wb | apply wc) | ((with_reducible apply wd); focus decide) | ((with_reducible apply we); focus exact rfl) | ((with_reducible apply wf); focus exact rfl) | ((first | (with_reducible apply SW_run tt_ok hG htb) | ((with_reducible apply SW_draw rfl tt_ok hG htb); (focus kernel_rfl); focus simp only [List.range, List.range.loop, List.size_toArray, List.length_cons, List.length_nil, Nat.reduceAdd])); focus ((repeat' (first | (with_reducible first | exact wg | exact wh) | ((with_reducible first | apply wi | apply wj); focus (simp (discharger := omega) only [go_sem, tNode, mC, simprocAttr]; with_reducible rfl)))); done)))
                exact (by simp (discharger := omega) only [go_sem, simprocAttr])
              · have hmo : nodeMore ⟨8, var, other, word, word2, num, coefs⟩ = true := by rw [e4]; simp [mC]
                rw [e5, hmo, if_pos rfl]
                clear e1 e2 e3 e4 e5 hok hmo
                subst mother
                subst mword2
                subst mword
                subst mnum
                repeat' (first | (with_reducible first | apply w1 | apply w2 | apply w3 | apply w4 | apply w5 | apply w6 | apply w7 | apply w8 | apply w9 | apply wa | apply wb | apply wc) | ((with_reducible apply wd); focus decide) | ((with_reducible apply we); focus exact rfl) | ((with_reducible apply wf); focus exact rfl) | ((first | (with_reducible apply SW_run tt_ok hG htb) | ((with_reducible apply SW_draw rfl tt_ok hG htb); (focus kernel_rfl); focus simp only [List.range, List.range.loop, List.size_toArray, List.length_cons, List.length_nil, Nat.reduceAdd])); focus ((repeat' (first | (with_reducible first | exact wg | exact wh) | ((with_reducible first | apply wi | apply wj); focus (simp (discharger := omega) only [go_sem, tNode, mC, simprocAttr]; with_reducible rfl)))); done)))
                exact (by simp (discharger := omega) only [go_sem, simprocAttr])
            · have hmo : nodeMore ⟨8, var, other, word, word2, num, coefs⟩ = true := by rw [e4]; simp [mnum]
              rw [e5, hmo, if_pos rfl]
              clear e1 e2 e3 e4 e5 hok hmo
              subst mother
              subst mword2
              subst mword
              repeat' (first | (with_reducible first | apply w1 | apply w2 | apply w3 | apply w4 | apply w5 | apply w6 | apply w7 | apply w8 | apply w9 | apply wa | apply wb | apply wc) | ((with_reducible apply wd); focus decide) | ((with_reducible apply we); focus exact rfl) | ((with_reducible apply wf); focus exact rfl) | ((first | (with_reducible apply SW_run tt_ok hG htb) | ((with_reducible apply SW_draw rfl tt_ok hG htb); (focus kernel_rfl); focus simp only [List.range, List.range.loop, List.size_toArray, List.length_cons, List.length_nil, Nat.reduceAdd])); focus ((repeat' (first | (with_reducible first | exact wg | exact wh) | ((with_reducible first | apply wi | apply wj); focus (simp (discharger := omega) only [go_sem, tNode, mnum, simprocAttr]; with_reducible rfl)))); done)))
              exact (by simp (discharger := omega) only [go_sem, simprocAttr])
          · have hmo : nodeMore ⟨8, var, other, word, word2, num, coefs⟩ = true := by rw [e4]; simp [mword]
            rw [e5, hmo, if_pos rfl]
            clear e1 e2 e3 e4 e5 hok hmo
            subst mother
            subst mword2
            repeat' (first | (with_reducible first | apply w1 | apply w2 | apply w3 | apply w4 | apply w5 | apply w6 | apply w7 | apply w8 | apply w9 | apply wa | apply wb | apply wc) | ((with_reducible apply wd); focus decide) | ((with_reducible apply we); focus exact rfl) | ((with_reducible apply wf); focus exact rfl) | ((first | (with_reducible apply SW_run tt_ok hG htb) | ((with_reducible apply SW_draw rfl tt_ok hG htb); (focus kernel_rfl); focus simp only [List.range, List.range.loop, List.size_toArray, List.length_cons, List.length_nil, Nat.reduceAdd])); focus ((repeat' (first | (with_reducible first | exact wg | exact wh) | ((with_reducible first | apply wi | apply wj); focus (simp (discharger := omega) only [go_sem, tNode, mword, simprocAttr]; with_reducible rfl)))); done)))
            exact (by simp (discharger := omega) only [go_sem, simprocAttr])
        · have hmo : nodeMore ⟨8, var, other, word, word2, num, coefs⟩ = true := by rw [e4]; simp [mword2]
          rw [e5, hmo, if_pos rfl]
          clear e1 e2 e3 e4 e5 hok hmo
          subst mother
          repeat' (first | (with_reducible first | apply w1 | apply w2 | apply w3 | apply w4 | apply w5 | apply w6 | apply w7 | apply w8 | apply w9 | apply wa | apply wb | apply wc) | ((with_reducible apply wd); focus decide) | ((with_reducible apply we); focus exact rfl) | ((with_reducible apply wf); focus exact rfl) | ((first | (with_reducible apply SW_run tt_ok hG htb) | ((with_reducible apply SW_draw rfl tt_ok hG htb); (focus kernel_rfl); focus simp only [List.range, List.range.loop, List.size_toArray, List.length_cons, List.length_nil, Nat.reduceAdd])); focus ((repeat' (first | (with_reducible first | exact wg | exact wh) | ((with_reducible first | apply wi | apply wj); focus (simp (discharger := omega) only [go_sem, tNode, mword2, simprocAttr]; with_reducible rfl)))); done)))
          exact (by simp (discharger := omega) only [go_sem, simprocAttr])
      · have hmo : nodeMore ⟨8, var, other, word, word2, num, coefs⟩ = true := by rw [e4]; simp [mother]
        rw [e5, hmo, if_pos rfl]
        clear e1 e2 e3 e4 e5 hok hmo
        repeat' (first | (with_reducible first | apply w1 | apply w2 | apply w3 | apply w4 | apply w5 | apply w6 | apply w7 | apply w8 | apply w9 | apply wa | apply wb | apply wc) | ((with_reducible apply wd); focus decide) | ((with_reducible apply we); focus exact rfl) | ((with_reducible apply wf); focus exact rfl) | ((first | (with_reducible apply SW_run tt_ok hG htb) | ((with_reducible apply SW_draw rfl tt_ok hG htb); (focus kernel_rfl); focus simp only [List.range, List.range.loop, List.size_toArray, List.length_cons, List.length_nil, Nat.reduceAdd])); focus ((repeat' (first | (with_reducible first | exact wg | exact wh) | ((with_reducible first | apply wi | apply wj); focus (simp (discharger := omega) only [go_sem, tNode, mother, simprocAttr]; with_reducible rfl)))); done)))
        exact (by simp (discharger := omega) only [go_sem, simprocAttr])
    · have e5 : nodeErr ⟨8, var, other, word, word2, num, coefs⟩ = 1 := by rw [e3, e1]; simp [isVar, q1]
      rw [e5]
      clear e1 e2 e3 e4 e5
      repeat' (first | (with_reducible first | apply w1 | apply w2 | apply w3 | apply w4 | apply w5 | apply w6 | apply w7 | apply w8 | apply w9 | apply wa | apply wb | apply wc) | ((with_reducible apply wd); focus decide) | ((with_reducible apply we); focus exact rfl) | ((with_reducible apply wf); focus exact rfl) | ((first | (with_reducible apply SW_run tt_ok hG htb) | ((with_reducible apply SW_draw rfl tt_ok hG htb); (focus kernel_rfl); focus simp only [List.range, List.range.loop, List.size_toArray, List.length_cons, List.length_nil, Nat.reduceAdd])); focus ((repeat' (first | (with_reducible first | exact wg | exact wh) | ((with_reducible first | apply wi | apply wj); focus (simp (discharger := omega) only [go_sem, tNode, simprocAttr]; with_reducible rfl)))); done)))
      exact (by simp (discharger := omega) only [go_sem, simprocAttr])
  · have e5 : nodeErr ⟨8, var, other, word, word2, num, coefs⟩ = 1 := by rw [e3, e1]; simp [isVar, q0]
    rw [e5]
    clear e1 e2 e3 e4 e5
    repeat' (first | (with_reducible first | apply w1 | apply w2 | apply w3 | apply w4 | apply w5 | apply w6 | apply w7 | apply w8 | apply w9 | apply wa | apply wb | apply wc) | ((with_reducible apply wd); focus decide) | ((with_reducible apply we); focus exact rfl) | ((with_reducible apply wf); focus exact rfl) | ((first | (with_reducible apply SW_run tt_ok hG htb) | ((with_reducible apply SW_draw rfl tt_ok hG htb); (focus kernel_rfl); focus simp only [List.range, List.range.loop, List.size_toArray, List.length_cons, List.length_nil, Nat.reduceAdd])); focus ((repeat' (first | (with_reducible first | exact wg | exact wh) | ((with_reducible first | apply wi | apply wj); focus (simp (discharger := omega) only [go_sem, tNode, simprocAttr]; with_reducible rfl)))); done)))
    exact (by simp (discharger := omega) only [go_sem, simprocAttr])
set_option maxHeartbeats 8000000 in
set_option maxRecDepth 100000 in
theorem RNodeFault_9 (var other word word2 num : Int) (coefs : List Int) : Snd Tryd.prog G 55 [tNode ⟨9, var, other, word, word2, num, coefs⟩] (tInt (nodeErr ⟨9, var, other, word, word2, num, coefs⟩)) := by
  refine snd_of_body (n := 206) (tm := [(0, .t (tNode ⟨9, var, other, word, word2, num, coefs⟩))]) (rs := [.tmp 2]) tt_ok Tryd.func55 rfl rfl rfl rfl rfl ?_
  have htb : Tab.ok Tryd.prog G [] := Tab.nil
  refine SW_lenA (t := 0) (i := 6) rfl rfl fun hcl => ?_
  rw [List.length_map] at hcl
  have hcl : coefs.length ≤ 9223372036854775807 := hcl
  have e3 : nodeErr ⟨9, var, other, word, word2, num, coefs⟩ = if nodeOk ⟨9, var, other, word, word2, num, coefs⟩ = false then 1 else if nodeMore ⟨9, var, other, word, word2, num, coefs⟩ = true then 2 else if 0 < coefs.length ∧ coefs[coefs.length - 1]! = 0 then 2 else 0 := by unfold nodeErr; rw [if_neg (by simp only; omega)]
  have e1 : nodeOk ⟨9, var, other, word, word2, num, coefs⟩ = isVar var := by unfold nodeOk; simp
  have e2 : usedN ⟨9, var, other, word, word2, num, coefs⟩ = ⟨9, var, 0, 0, 0, 0, []⟩ := by unfold usedN; simp
  have e4 : nodeMore ⟨9, var, other, word, word2, num, coefs⟩ = (decide (other ≠ 0) || decide (word ≠ 0) || decide (word2 ≠ 0) || decide (num ≠ 0) || decide (coefs.length ≠ 0)) := by unfold nodeMore; rw [e2]; simp
  repeat' (first | (with_reducible first | apply w1 | apply w2 | apply w3 | apply w4 | apply w5 | apply w6 | apply w7 | apply w8 | apply w9 | apply wa | apply wb | apply wc) | ((with_reducible apply wd); focus decide) | ((with_reducible apply we); focus exact rfl) | ((with_reducible apply wf); focus exact rfl) | ((first | (with_reducible apply SW_run tt_ok hG htb) | ((with_reducible apply SW_draw rfl tt_ok hG htb); (focus kernel_rfl); focus simp only [List.range, List.range.loop, List.size_toArray, List.length_cons, List.length_nil, Nat.reduceAdd])); focus ((repeat' (first | (with_reducible first | exact wg | exact wh) | ((with_reducible first | apply wi | apply wj); focus (simp (discharger := omega) only [go_sem, tNode, simprocAttr]; with_reducible rfl)))); done)))
  refine SW_norm (Norm.headS (own := []) (keep := [1, 3, 4, 5]) (by refine ⟨?_, ?_⟩; (simp (discharger := omega) only [go_sem, simprocAttr]; with_reducible rfl); refine ⟨?_, ?_, ?_, ?_⟩ <;> (simp only [go_sem, simprocAttr]; with_reducible rfl))) ?_
  by_cases q0 : 0 ≤ var
  · skip
    by_cases q1 : var < 5
    · skip
      have hok : nodeOk ⟨9, var, other, word, word2, num, coefs⟩ = true := by rw [e1]; simp [isVar, q0, q1]
      have e5 : nodeErr ⟨9, var, other, word, word2, num, coefs⟩ = if nodeMore ⟨9, var, other, word, word2, num, coefs⟩ = true then 2 else if 0 < coefs.length ∧ coefs[coefs.length - 1]! = 0 then 2 else 0 := by rw [e3, hok, if_neg (by decide)]
      repeat' (first | (with_reducible first | apply w1 | apply w2 | apply w3 | apply w4 | apply w5 | apply w6 | apply w7 | apply w8 | apply w9 | apply wa | apply wb | apply wc) | ((with_reducible apply wd); focus decide) | ((with_reducible apply we); focus exact rfl) | ((with_reducible apply wf); focus exact rfl) | ((first | (with_reducible apply SW_run tt_ok hG htb) | ((with_reducible apply SW_draw rfl tt_ok hG htb); (focus kernel_rfl); focus simp only [List.range, List.range.loop, List.size_toArray, List.length_cons, List.length_nil, Nat.reduceAdd])); focus ((repeat' (first | (with_reducible first | exact wg | exact wh) | ((with_reducible first | apply wi | apply wj); focus (simp (discharger := omega) only [go_sem, tNode, simprocAttr]; with_reducible rfl)))); done)))
      refine SW_norm (Norm.headS (own := []) (keep := [1, 3, 4, 5]) (by refine ⟨?_, ?_⟩; (simp (discharger := omega) only [go_sem, simprocAttr]; with_reducible rfl); refine ⟨?_, ?_, ?_, ?_⟩ <;> (simp only [go_sem, simprocAttr]; with_reducible rfl))) ?_
      by_cases mother : other = 0
      · skip
        by_cases mword2 : word2 = 0
        · skip
          by_cases mword : word = 0
          · skip
            by_cases mnum : num = 0
            · skip
              by_cases mC : coefs.length = 0
              · skip
                have hmo : nodeMore ⟨9, var, other, word, word2, num, coefs⟩ = false := by rw [e4]; simp [mother, mword2, mword, mnum, mC]
                rw [e5, hmo, if_neg (by decide)]
                clear e1 e2 e3 e4 e5 hok hmo
                subst mother
                subst mword2
                subst mword
                subst mnum
                rw [if_neg (by omega)]
                repeat' (first | (with_reducible first | apply w1 | apply w2 | apply w3 | apply w4 | apply w5 | apply w6 | apply w7 | apply w8 | apply w9 | apply wa | apply wb | apply wc) | ((with_reducible apply wd); focus decide) | ((with_reducible apply we); focus exact rfl) | ((with_reducible apply wf); focus exact rfl) | ((first | (with_reducible apply SW_run tt_ok hG htb) | ((with_reducible apply SW_draw rfl tt_ok hG htb); (focus kernel_rfl); focus simp only [List.range, List.range.loop, List.size_toArray, List.length_cons, List.length_nil, Nat.reduceAdd])); focus ((repeat' (first | (with_reducible first | exact wg | exact wh) | ((with_reducible first | apply wi | apply wj); focus (simp (discharger := omega) only [go_sem, tNode, mC, simprocAttr]; with_reducible rfl)))); done)))
                exact (by simp (discharger := omega) only [go_sem, simprocAttr])
              · have hmo : nodeMore ⟨9, var, other, word, word2, num, coefs⟩ = true := by rw [e4]; simp [mC]
                rw [e5, hmo, if_pos rfl]
                clear e1 e2 e3 e4 e5 hok hmo
                subst mother
                subst mword2
                subst mword
                subst mnum
                repeat' (first | (with_reducible first | apply w1 | apply w2 | apply w3 | apply w4 | apply w5 | apply w6 | apply w7 | apply w8 | apply w9 | apply wa | apply wb | apply wc) | ((with_reducible apply wd); focus decide) | ((with_reducible apply we); focus exact rfl) | ((with_reducible apply wf); focus exact rfl) | ((first | (with_reducible apply SW_run tt_ok hG htb) | ((with_reducible apply SW_draw rfl tt_ok hG htb); (focus kernel_rfl); focus simp only [List.range, List.range.loop, List.size_toArray, List.length_cons, List.length_nil, Nat.reduceAdd])); focus ((repeat' (first | (with_reducible first | exact wg | exact wh) | ((with_reducible first | apply wi | apply wj); focus (simp (discharger := omega) only [go_sem, tNode, mC, simprocAttr]; with_reducible rfl)))); done)))
                exact (by simp (discharger := omega) only [go_sem, simprocAttr])
            · have hmo : nodeMore ⟨9, var, other, word, word2, num, coefs⟩ = true := by rw [e4]; simp [mnum]
              rw [e5, hmo, if_pos rfl]
              clear e1 e2 e3 e4 e5 hok hmo
              subst mother
              subst mword2
              subst mword
              repeat' (first | (with_reducible first | apply w1 | apply w2 | apply w3 | apply w4 | apply w5 | apply w6 | apply w7 | apply w8 | apply w9 | apply wa | apply wb | apply wc) | ((with_reducible apply wd); focus decide) | ((with_reducible apply we); focus exact rfl) | ((with_reducible apply wf); focus exact rfl) | ((first | (with_reducible apply SW_run tt_ok hG htb) | ((with_reducible apply SW_draw rfl tt_ok hG htb); (focus kernel_rfl); focus simp only [List.range, List.range.loop, List.size_toArray, List.length_cons, List.length_nil, Nat.reduceAdd])); focus ((repeat' (first | (with_reducible first | exact wg | exact wh) | ((with_reducible first | apply wi | apply wj); focus (simp (discharger := omega) only [go_sem, tNode, mnum, simprocAttr]; with_reducible rfl)))); done)))
              exact (by simp (discharger := omega) only [go_sem, simprocAttr])
          · have hmo : nodeMore ⟨9, var, other, word, word2, num, coefs⟩ = true := by rw [e4]; simp [mword]
            rw [e5, hmo, if_pos rfl]
            clear e1 e2 e3 e4 e5 hok hmo
            subst mother
            subst mword2
            repeat' (first | (with_reducible first | apply w1 | apply w2 | apply w3 | apply w4 | apply w5 | apply w6 | apply w7 | apply w8 | apply w9 | apply wa | apply wb | apply wc) | ((with_reducible apply wd); focus decide) | ((with_reducible apply we); focus exact rfl) | ((with_reducible apply wf); focus exact rfl) | ((first | (with_reducible apply SW_run tt_ok hG htb) | ((with_reducible apply SW_draw rfl tt_ok hG htb); (focus kernel_rfl); focus simp only [List.range, List.range.loop, List.size_toArray, List.length_cons, List.length_nil, Nat.reduceAdd])); focus ((repeat' (first | (with_reducible first | exact wg | exact wh) | ((with_reducible first | apply wi | apply wj); focus (simp (discharger := omega) only [go_sem, tNode, mword, simprocAttr]; with_reducible rfl)))); done)))
            exact (by simp (discharger := omega) only [go_sem, simprocAttr])
        · have hmo : nodeMore ⟨9, var, other, word, word2, num, coefs⟩ = true := by rw [e4]; simp [mword2]
          rw [e5, hmo, if_pos rfl]
          clear e1 e2 e3 e4 e5 hok hmo
          subst mother
          repeat' (first | (with_reducible first | apply w1 | apply w2 | apply w3 | apply w4 | apply w5 | apply w6 | apply w7 | apply w8 | apply w9 | apply wa | apply wb | apply wc) | ((with_reducible apply wd); focus decide) | ((with_reducible apply we); focus exact rfl) | ((with_reducible apply wf); focus exact rfl) | ((first | (with_reducible apply SW_run tt_ok hG htb) | ((with_reducible apply SW_draw rfl tt_ok hG htb); (focus kernel_rfl); focus simp only [List.range, List.range.loop, List.size_toArray, List.length_cons, List.length_nil, Nat.reduceAdd])); focus ((repeat' (first | (with_reducible first | exact wg | exact wh) | ((with_reducible first | apply wi | apply wj); focus (simp (discharger := omega) only [go_sem, tNode, mword2, simprocAttr]; with_reducible rfl)))); done)))
          exact (by simp (discharger := omega) only [go_sem, simprocAttr])
      · have hmo : nodeMore ⟨9, var, other, word, word2, num, coefs⟩ = true := by rw [e4]; simp [mother]
        rw [e5, hmo, if_pos rfl]
        clear e1 e2 e3 e4 e5 hok hmo
        repeat' (first | (with_reducible first | apply w1 | apply w2 | apply w3 | apply w4 | apply w5 | apply w6 | apply w7 | apply w8 | apply w9 | apply wa | apply wb | apply wc) | ((with_reducible apply wd); focus decide) | ((with_reducible apply we); focus exact rfl) | ((with_reducible apply wf); focus exact rfl) | ((first | (with_reducible apply SW_run tt_ok hG htb) | ((with_reducible apply SW_draw rfl tt_ok hG htb); (focus kernel_rfl); focus simp only [List.range, List.range.loop, List.size_toArray, List.length_cons, List.length_nil, Nat.reduceAdd])); focus ((repeat' (first | (with_reducible first | exact wg | exact wh) | ((with_reducible first | apply wi | apply wj); focus (simp (discharger := omega) only [go_sem, tNode, mother, simprocAttr]; with_reducible rfl)))); done)))
        exact (by simp (discharger := omega) only [go_sem, simprocAttr])
    · have e5 : nodeErr ⟨9, var, other, word, word2, num, coefs⟩ = 1 := by rw [e3, e1]; simp [isVar, q1]
      rw [e5]
      clear e1 e2 e3 e4 e5
      repeat' (first | (with_reducible first | apply w1 | apply w2 | apply w3 | apply w4 | apply w5 | apply w6 | apply w7 | apply w8 | apply w9 | apply wa | apply wb | apply wc) | ((with_reducible apply wd); focus decide) | ((with_reducible apply we); focus exact rfl) | ((with_reducible apply wf); focus exact rfl) | ((first | (with_reducible apply SW_run tt_ok hG htb) | ((with_reducible apply SW_draw rfl tt_ok hG htb); (focus kernel_rfl); focus simp only [List.range, List.range.loop, List.size_toArray, List.length_cons, List.length_nil, Nat.reduceAdd])); focus ((repeat' (first | (with_reducible first | exact wg | exact wh) | ((with_reducible first | apply wi | apply wj); focus (simp (discharger := omega) only [go_sem, tNode, simprocAttr]; with_reducible rfl)))); done)))
      exact (by simp (discharger := omega) only [go_sem, simprocAttr])
  · have e5 : nodeErr ⟨9, var, other, word, word2, num, coefs⟩ = 1 := by rw [e3, e1]; simp [isVar, q0]
    rw [e5]
    clear e1 e2 e3 e4 e5
    repeat' (first | (with_reducible first | apply w1 | apply w2 | apply w3 | apply w4 | apply w5 | apply w6 | apply w7 | apply w8 | apply w9 | apply wa | apply wb | apply wc) | ((with_reducible apply wd); focus decide) | ((with_reducible apply we); focus exact rfl) | ((with_reducible apply wf); focus exact rfl) | ((first | (with_reducible apply SW_run tt_ok hG htb) | ((with_reducible apply SW_draw rfl tt_ok hG htb); (focus kernel_rfl); focus simp only [List.range, List.range.loop, List.size_toArray, List.length_cons, List.length_nil, Nat.reduceAdd])); focus ((repeat' (first | (with_reducible first | exact wg | exact wh) | ((with_reducible first | apply wi | apply wj); focus (simp (discharger := omega) only [go_sem, tNode, simprocAttr]; with_reducible rfl)))); done)))
    exact (by simp (discharger := omega) only [go_sem, simprocAttr])
end
end Go.Proofs.YtcaopcpofepniaaDoor
namespace Go.Proofs.YtcaopcpofepniaaDoor
open Go.RowKit
section
variable {G : World → Prop} (hG : Lasting G)
include hG
set_option maxHeartbeats 8000000 in
set_option maxRecDepth 100000 in
theorem RNodeFault_snd (n : GNode) : Snd Tryd.prog G 55 [tNode n] (tInt (nodeErr n)) := by
  obtain ⟨op, var, other, word, word2, num, coefs⟩ := n
  by_cases hop : 1 ≤ op ∧ op ≤ 9
  · have hop3 : op = 1 ∨ op = 2 ∨ op = 3 ∨ op = 4 ∨ op = 5 ∨ op = 6 ∨ op = 7 ∨ op = 8 ∨ op = 9 := by omega
    rcases hop3 with h | h | h | h | h | h | h | h | h <;> subst h
    · exact RNodeFault_1 hG var other word word2 num coefs
    · exact RNodeFault_2 hG var other word word2 num coefs
    · exact RNodeFault_3 hG var other word word2 num coefs
    · exact RNodeFault_4 hG var other word word2 num coefs
    · exact RNodeFault_5 hG var other word word2 num coefs
    · exact RNodeFault_6 hG var other word word2 num coefs
    · exact RNodeFault_7 hG var other word word2 num coefs
    · exact RNodeFault_8 hG var other word word2 num coefs
    · exact RNodeFault_9 hG var other word word2 num coefs
  · refine snd_of_body (n := 206) (tm := [(0, .t (tNode ⟨op, var, other, word, word2, num, coefs⟩))]) (rs := [.tmp 2]) tt_ok Tryd.func55 rfl rfl rfl rfl rfl ?_
    have htb : Tab.ok Tryd.prog G [] := Tab.nil
    have e3 : nodeErr ⟨op, var, other, word, word2, num, coefs⟩ = 1 := by unfold nodeErr; rw [if_pos (by simp only; omega)]
    rw [e3]
    by_cases h0 : op < 1
    · repeat' (first | (with_reducible first | apply w1 | apply w2 | apply w3 | apply w4 | apply w5 | apply w6 | apply w7 | apply w8 | apply w9 | apply wa | apply wb | apply wc) | ((with_reducible apply wd); focus decide) | ((with_reducible apply we); focus exact rfl) | ((with_reducible apply wf); focus exact rfl) | ((first | (with_reducible apply SW_run tt_ok hG htb) | ((with_reducible apply SW_draw rfl tt_ok hG htb); (focus kernel_rfl); focus simp only [List.range, List.range.loop, List.size_toArray, List.length_cons, List.length_nil, Nat.reduceAdd])); focus ((repeat' (first | (with_reducible first | exact wg | exact wh) | ((with_reducible first | apply wi | apply wj); focus (simp (discharger := omega) only [go_sem, tNode, simprocAttr]; with_reducible rfl)))); done)))
      exact (by simp (discharger := omega) only [go_sem, simprocAttr])
    · have h9 : 9 < op := by omega
      repeat' (first | (with_reducible first | apply w1 | apply w2 | apply w3 | apply w4 | apply w5 | apply w6 | apply w7 | apply w8 | apply w9 | apply wa | apply wb | apply wc) | ((with_reducible apply wd); focus decide) | ((with_reducible apply we); focus exact rfl) | ((with_reducible apply wf); focus exact rfl) | ((first | (with_reducible apply SW_run tt_ok hG htb) | ((with_reducible apply SW_draw rfl tt_ok hG htb); (focus kernel_rfl); focus simp only [List.range, List.range.loop, List.size_toArray, List.length_cons, List.length_nil, Nat.reduceAdd])); focus ((repeat' (first | (with_reducible first | exact wg | exact wh) | ((with_reducible first | apply wi | apply wj); focus (simp (discharger := omega) only [go_sem, tNode, simprocAttr]; with_reducible rfl)))); done)))
      exact (by simp (discharger := omega) only [go_sem, simprocAttr])
set_option maxHeartbeats 8000000 in
theorem RFormFault_snd (f : List GNode) : Snd Tryd.prog G 26 [tForm f] (.tup [tInt (formErr f).1, tInt (formErr f).2]) := by
  refine snd_of_body (n := 44) (tm := [(0, .t (tForm f))]) (rs := [.tmp 2, .tmp 3]) tt_ok Tryd.func26 rfl rfl rfl rfl rfl ?_
  have htb : Tab.ok Tryd.prog G [] := Tab.nil
  refine SW_len (t := 0) rfl fun hcl => ?_
  rw [List.length_map] at hcl
  unfold formErr tForm
  by_cases h1 : f.length = 0
  · rw [if_pos h1]
    repeat' (first | (with_reducible first | apply w1 | apply w2 | apply w3 | apply w4 | apply w5 | apply w6 | apply w7 | apply w8 | apply w9 | apply wa | apply wb | apply wc) | ((with_reducible apply wd); focus decide) | ((with_reducible apply we); focus exact rfl) | ((with_reducible apply wf); focus exact rfl) | ((first | (with_reducible apply SW_run tt_ok hG htb) | ((with_reducible apply SW_draw rfl tt_ok hG htb); (focus kernel_rfl); focus simp only [List.range, List.range.loop, List.size_toArray, List.length_cons, List.length_nil, Nat.reduceAdd])); focus ((repeat' (first | (with_reducible first | exact wg | exact wh) | ((with_reducible first | apply wi | apply wj); focus (simp (discharger := omega) only [go_sem, h1, simprocAttr]; with_reducible rfl)))); done)))
    exact (by simp (discharger := omega) only [go_sem, simprocAttr])
  · rw [if_neg h1]
    by_cases h2 : 40 < f.length
    · rw [if_pos h2]
      repeat' (first | (with_reducible first | apply w1 | apply w2 | apply w3 | apply w4 | apply w5 | apply w6 | apply w7 | apply w8 | apply w9 | apply wa | apply wb | apply wc) | ((with_reducible apply wd); focus decide) | ((with_reducible apply we); focus exact rfl) | ((with_reducible apply wf); focus exact rfl) | ((first | (with_reducible apply SW_run tt_ok hG htb) | ((with_reducible apply SW_draw rfl tt_ok hG htb); (focus kernel_rfl); focus simp only [List.range, List.range.loop, List.size_toArray, List.length_cons, List.length_nil, Nat.reduceAdd])); focus ((repeat' (first | (with_reducible first | exact wg | exact wh) | ((with_reducible first | apply wi | apply wj); focus (simp (discharger := omega) only [go_sem, simprocAttr]; with_reducible rfl)))); done)))
      exact (by simp (discharger := omega) only [go_sem, simprocAttr])
    · rw [if_neg h2]
      repeat' (first | (with_reducible first | apply w1 | apply w2 | apply w3 | apply w4 | apply w5 | apply w6 | apply w7 | apply w8 | apply w9 | apply wa | apply wb | apply wc) | ((with_reducible apply wd); focus decide) | ((with_reducible apply we); focus exact rfl) | ((with_reducible apply wf); focus exact rfl) | ((first | (with_reducible apply SW_run tt_ok hG htb) | ((with_reducible apply SW_draw rfl tt_ok hG htb); (focus kernel_rfl); focus simp only [List.range, List.range.loop, List.size_toArray, List.length_cons, List.length_nil, Nat.reduceAdd])); focus ((repeat' (first | (with_reducible first | exact wg | exact wh) | ((with_reducible first | apply wi | apply wj); focus (simp (discharger := omega) only [go_sem, simprocAttr]; with_reducible rfl)))); done)))
      refine SW_loop (fun mm s => ∃ (i : Nat) (q : Int), mm = f.length - i ∧ s = ⟨44, [(0, .t (.list (f.map tNode))), (4, .t (tInt q)), (5, .t (tInt i))], []⟩ ∧ i ≤ f.length ∧ (0 ≤ q ∧ q ≤ (i : Int) + 1) ∧ formGo f 0 1 = formGo (f.drop i) i q) f.length
        ⟨_, Norm.headS (own := []) (keep := [0, 4, 5]) (by refine ⟨?_, ?_⟩; (simp (discharger := omega) only [go_sem, simprocAttr]; with_reducible rfl); refine ⟨?_, ?_, ?_, ?_⟩ <;> (simp only [go_sem, simprocAttr]; with_reducible rfl)), 0, 1, rfl, rfl, Nat.zero_le _, by omega, by rw [List.drop_zero]⟩ ?_
      rintro mm s ⟨i, q, rfl, rfl, hi, hq, hF⟩
      by_cases hlt : i < f.length
      · obtain ⟨n, hn⟩ : ∃ n, f[i]! = n := ⟨_, rfl⟩
        have hio : f[i]? = some n := bang_get hn hlt
        rw [drop_cons hio, formGo] at hF
        have c1 := RNodeFault_snd hG n
        have c2 := RPartsOf_snd hG n.op
        by_cases hw : nodeErr n = 0
        · rw [if_neg (by omega)] at hF
          rw [hw] at c1
          by_cases hq0 : q = 0
          · rw [if_pos hq0] at hF
            rw [hF]
            have htb := Tab.cons c1 (Tab.cons c2 Tab.nil)
            repeat' (first | (with_reducible first | apply w1 | apply w2 | apply w3 | apply w4 | apply w5 | apply w6 | apply w7 | apply w8 | apply w9 | apply wa | apply wb | apply wc) | ((with_reducible apply wd); focus decide) | ((with_reducible apply we); focus exact rfl) | ((with_reducible apply wf); focus exact rfl) | ((first | (with_reducible apply SW_run tt_ok hG htb) | ((with_reducible apply SW_draw rfl tt_ok hG htb); (focus kernel_rfl); focus simp only [List.range, List.range.loop, List.size_toArray, List.length_cons, List.length_nil, Nat.reduceAdd])); focus ((repeat' (first | (with_reducible first | exact wg | exact wh) | ((with_reducible first | apply wi | apply wj); focus (simp (discharger := omega) only [go_sem, hn, tNode, hq0, simprocAttr]; with_reducible rfl)))); done)))
            exact (by simp (discharger := omega) only [go_sem, simprocAttr])
          · rw [if_neg hq0] at hF
            have hb := formGo_bd hq n.op hq0
            have hpc := parts_cases n.op
            rw [show q + (partsOf n.op - 1) = q - 1 + partsOf n.op by omega] at hF hb
            generalize partsOf n.op = pp at *
            have htb := Tab.cons c1 (Tab.cons c2 Tab.nil)
            repeat' (first | (with_reducible first | apply w1 | apply w2 | apply w3 | apply w4 | apply w5 | apply w6 | apply w7 | apply w8 | apply w9 | apply wa | apply wb | apply wc) | ((with_reducible apply wd); focus decide) | ((with_reducible apply we); focus exact rfl) | ((with_reducible apply wf); focus exact rfl) | ((first | (with_reducible apply SW_run tt_ok hG htb) | ((with_reducible apply SW_draw rfl tt_ok hG htb); (focus kernel_rfl); focus simp only [List.range, List.range.loop, List.size_toArray, List.length_cons, List.length_nil, Nat.reduceAdd])); focus ((repeat' (first | (with_reducible first | exact wg | exact wh) | ((with_reducible first | apply wi | apply wj); focus (simp (discharger := omega) only [go_sem, hn, tNode, hq0, simprocAttr]; with_reducible rfl)))); done)))
            exact ⟨f.length - (i + 1), _, by omega, Norm.headS (own := []) (keep := [0, 4, 5]) (by refine ⟨?_, ?_⟩; (simp (discharger := omega) only [go_sem, simprocAttr]; with_reducible rfl); refine ⟨?_, ?_, ?_, ?_⟩ <;> (simp only [go_sem, simprocAttr]; with_reducible rfl)), i + 1, _, rfl, rfl, by omega, hb, hF⟩
        · rw [if_pos hw] at hF
          rw [hF]
          generalize nodeErr n = e at *
          have htb := Tab.cons c1 Tab.nil
          repeat' (first | (with_reducible first | apply w1 | apply w2 | apply w3 | apply w4 | apply w5 | apply w6 | apply w7 | apply w8 | apply w9 | apply wa | apply wb | apply wc) | ((with_reducible apply wd); focus decide) | ((with_reducible apply we); focus exact rfl) | ((with_reducible apply wf); focus exact rfl) | ((first | (with_reducible apply SW_run tt_ok hG htb) | ((with_reducible apply SW_draw rfl tt_ok hG htb); (focus kernel_rfl); focus simp only [List.range, List.range.loop, List.size_toArray, List.length_cons, List.length_nil, Nat.reduceAdd])); focus ((repeat' (first | (with_reducible first | exact wg | exact wh) | ((with_reducible first | apply wi | apply wj); focus (simp (discharger := omega) only [go_sem, hn, tNode, hw, simprocAttr]; with_reducible rfl)))); done)))
          exact (by simp (discharger := omega) only [go_sem, hw, simprocAttr])
      · obtain rfl : i = f.length := by omega
        rw [List.drop_length, formGo] at hF
        by_cases hq0 : 0 < q
        · rw [if_pos hq0] at hF
          rw [hF]
          repeat' (first | (with_reducible first | apply w1 | apply w2 | apply w3 | apply w4 | apply w5 | apply w6 | apply w7 | apply w8 | apply w9 | apply wa | apply wb | apply wc) | ((with_reducible apply wd); focus decide) | ((with_reducible apply we); focus exact rfl) | ((with_reducible apply wf); focus exact rfl) | ((first | (with_reducible apply SW_run tt_ok hG htb) | ((with_reducible apply SW_draw rfl tt_ok hG htb); (focus kernel_rfl); focus simp only [List.range, List.range.loop, List.size_toArray, List.length_cons, List.length_nil, Nat.reduceAdd])); focus ((repeat' (first | (with_reducible first | exact wg | exact wh) | ((with_reducible first | apply wi | apply wj); focus (simp (discharger := omega) only [go_sem, simprocAttr]; with_reducible rfl)))); done)))
          exact (by simp (discharger := omega) only [go_sem, simprocAttr])
        · rw [if_neg hq0] at hF
          rw [hF]
          repeat' (first | (with_reducible first | apply w1 | apply w2 | apply w3 | apply w4 | apply w5 | apply w6 | apply w7 | apply w8 | apply w9 | apply wa | apply wb | apply wc) | ((with_reducible apply wd); focus decide) | ((with_reducible apply we); focus exact rfl) | ((with_reducible apply wf); focus exact rfl) | ((first | (with_reducible apply SW_run tt_ok hG htb) | ((with_reducible apply SW_draw rfl tt_ok hG htb); (focus kernel_rfl); focus simp only [List.range, List.range.loop, List.size_toArray, List.length_cons, List.length_nil, Nat.reduceAdd])); focus ((repeat' (first | (with_reducible first | exact wg | exact wh) | ((with_reducible first | apply wi | apply wj); focus (simp (discharger := omega) only [go_sem, simprocAttr]; with_reducible rfl)))); done)))
          exact (by simp (discharger := omega) only [go_sem, simprocAttr])
end
end Go.Proofs.YtcaopcpofepniaaDoor
namespace Go.Proofs.YtcaopcpofepniaaDoor
open Go.RowKit

set_option maxHeartbeats 4000000 in
theorem Radix_calls (base : Int) (w : World) :
    Calls Tryd.prog 45 #[.int .i64 base] w (RetS (.int .i64 (radix base)) w) := by
  by_cases h1 : base = 1
  · subst h1
    go_enter Tryd.func45, Tryd.ntmps45
    go_wp2
    go_ret
    exact RetS.mk rfl
  · have hr := Lib.hid (show radix base = if 2 ≤ base ∧ base ≤ 6 then base else 0 by simp [radix, h1])
    have h1' : (base == 1) = false := by simp [h1]
    clear h1
    by_cases h2 : 2 ≤ base
    · by_cases h3 : base ≤ 6
      · have hr' := Lib.hid (show radix base = base by rw [hr.out, if_pos ⟨h2, h3⟩])
        go_enter Tryd.func45, Tryd.ntmps45
        go_wp2
        go_ret
        exact RetS.mk (by rw [hr'.out]; rfl)
      · have hr' := Lib.hid (show radix base = 0 by rw [hr.out, if_neg (by omega)])
        go_enter Tryd.func45, Tryd.ntmps45
        go_wp2
        go_ret
        exact RetS.mk (by rw [hr'.out]; rfl)
    · have hr' := Lib.hid (show radix base = 0 by rw [hr.out, if_neg (by omega)])
      go_enter Tryd.func45, Tryd.ntmps45
      go_wp2
      go_ret
      exact RetS.mk (by rw [hr'.out]; rfl)

end Go.Proofs.YtcaopcpofepniaaDoor
namespace Go.Proofs.YtcaopcpofepniaaDoor
open Go.RowKit

theorem repNilInts (S : Nat → Prop) (w : World) : RepT S w (tInts []) (.slice none 0 0) :=
  .list [] none 0 1 (fun _ => undef) (Nat.zero_le _) Nat.one_pos (fun x hx => by simp at hx) (fun h => (h rfl).elim) (fun k hk => by simp at hk) (fun k y hy => by simp [flat] at hy) (Nat.le_refl _)
theorem repOwnInts {w : World} {B e n : Nat} {v : Value} {l : List Int} (h : w.ownsRow B e 1 v n (l.map (Value.int .i64))) (hl : l.length = n) (_ : ∀ x ∈ l, I64 x) : RepT (B ≤ ·) w (tInts l) v := by
  subst hl
  rcases h.2 with ⟨rfl, h0⟩ | ⟨g, cap, cur, rfl, h1, h2, h3, h4, h5, h6⟩
  · obtain rfl : l = [] := List.length_eq_zero_iff.1 h0
    exact repNilInts _ _
  · have hfl : ∀ l : List Int, flat (l.map tInt) = l.map tInt := fun l => by
      induction l with
      | nil => rfl
      | cons x t ih =>
        simp only [flat, List.map_cons, List.flatMap_cons] at ih ⊢
        rw [ih]; rfl
    have hlen : (l.map tInt).length = l.length := by simp
    have hcell : ∀ k (hk : k < l.length), cur[k]? = some (Value.int .i64 l[k]) := fun k hk => by
      have h7 : (cur.toList.take (l.length * 1))[k]? = some (Value.int .i64 l[k]) := by rw [h6]; simp [hk]
      rw [List.getElem?_take_of_lt (by omega)] at h7
      simpa using h7
    have := RepT.list (S := (B ≤ ·)) (w := w) (l.map tInt) (some ⟨g, 0, none⟩) cap 1 (fun k => if h : k < l.length then Value.int .i64 l[k] else undef) (by simp; omega) Nat.one_pos (fun x hx => by obtain ⟨n, _, rfl⟩ := List.mem_map.1 hx; rfl)
      (fun _ => ⟨g, 0, rfl, h1, fun k hk => by
        have hk2 : k < l.length := by simpa using hk
        rw [Nat.zero_add, World.cell?, h2]
        simp only [hk2, dif_pos]
        exact hcell k hk2⟩)
      (fun k hk => by
        have hk2 : k < l.length := by simpa using hk
        simp only [hk2, dif_pos]; rfl)
      (fun k y hy => by
        rw [hfl, List.getElem?_map, Option.map_eq_some_iff] at hy
        obtain ⟨n, hn, rfl⟩ := hy
        obtain ⟨hk2, rfl⟩ := List.getElem?_eq_some_iff.1 hn
        simp only [hk2, dif_pos]
        exact .int _ _) (by simp; omega)
    rw [hlen] at this
    exact this

set_option maxHeartbeats 4000000 in
set_option maxRecDepth 100000 in
theorem Of_baseT (base n : Int) (w : World) (hb2 : 2 ≤ base) (hb6 : base ≤ 6) (hn0 : 0 < n) (hn1 : n ≤ 1099511627776) :
    Calls Tryd.prog 42 #[.int .i64 base, .int .i64 n] w
      (RetQ (fun v w' => ∃ x l, v = .tuple #[x, .nilIface] ∧ RepT (w.heap.size ≤ ·) w' (tInts l) x ∧ IsOf base n l) w) := by
  have hr : radix base = base := by simp [radix]; omega
  have e0 : (base == 0) = false := by simp; omega
  have e1 : (base != 1) = true := by simp; omega
  have e2 : decide (n < 0) = false := by simp; omega
  have e3 : decide (1099511627776 < n) = false := by simp; omega
  have Hr := Lib.hid hr; clear hr
  have Hrz := Lib.hid (show radix base ≠ 0 by rw [Hr.out]; omega)
  have Hb1 := Lib.hid (show base ≠ 1 by omega)
  go_enter Tryd.func42, Tryd.ntmps42
  go_wp2_with (go_at_call 45; refine (Radix_calls _ _).mono ?_; rintro e w' ⟨rfl, rfl⟩; rw [Hr.out])
  go_loopw [1, 8] (fun q at_ wr => ∃ (k : Nat) (m : Int) (t : List Int) (C : Array Value), at_ = .int .i64 k ∧ q = .int .i64 m ∧ 0 ≤ m ∧ m ≤ 1099511627776 ∧ k + t.length = 64 ∧ k ≤ 64 ∧ Hid (m * W base t.length + wv base t = n ∧ okDigits base t ∧ (m = 0 → noLead t ∧ t ≠ [])) ∧
      Hid (wr.heap[w.heap.size]? = some (.cells C 115 (0, 0)) ∧ C.toList.drop k = t.map (Value.int .i64) ∧ C.size = 64) ∧ Hid (Below w.heap.size w wr)) (fun q _ _ => (intOf q).toNat)
  case atStart => exact ⟨64, n, [], _, rfl, rfl, by omega, by omega, rfl, by omega, ⟨by simp [W, powW, wv, Hb1.out], by simp [okDigits], fun h => by omega⟩, ⟨heap_alloc_new w _, rfl, rfl⟩, (Below.refl _ _).alloc (Nat.le_refl _) _⟩
  case round =>
    obtain ⟨k, m, t, C, rfl, rfl, hm0, hm1, hkt, hk64, Hm, HC, HB⟩ := hrel
    by_cases hlt : 0 < m
    · have hk : 1 ≤ k := by
        have h1 := Hm.out.1
        have h2 := wv_nonneg Hrz.out Hm.out.2.1
        rcases Nat.lt_or_ge t.length 58 with c | c
        · omega
        · have := W_big Hrz.out c
          have : 1 * W base t.length ≤ m * W base t.length := Int.mul_le_mul_of_nonneg_right (by omega) (by omega)
          omega
      obtain ⟨j, rfl⟩ : ∃ j, k = j + 1 := ⟨k - 1, by omega⟩
      have q0 : 0 ≤ m % base := Int.emod_nonneg _ (by omega)
      have q1 : m % base < base := Int.emod_lt_of_pos _ (by omega)
      have q2 : 0 ≤ m / base := Int.ediv_nonneg hm0 (by omega)
      have q3 : m / base < m := Int.ediv_lt_self_of_pos_of_ne_one (by omega) (by omega)
      have q5 : m / base ≤ 1099511627776 := by omega
      have Q4 := Lib.hid (show m = base * (m / base) + m % base from (Int.mul_ediv_add_emod m base).symm)
      have hcell : wr.cell? ⟨w.heap.size, j, none⟩ = some (C[j]'(by have := HC.out.2.2; omega)) := by
        rw [cell_of_row wr _ j C 115 (0, 0) HC.out.1]; exact Array.getElem?_eq_getElem _
      have hfr : wr.frozen? ⟨w.heap.size, j, none⟩ = false := frozen_of_block HC.out.1 j
      go_wp2
      go_roundw
      case rel =>
        refine ⟨j, m / base, (m % base) :: t, C.setIfInBounds j (.int .i64 (m % base)), by go_num, rfl, q2, q5, by simp at hkt ⊢; omega, by omega, ⟨?_, ?_, ?_⟩, ⟨?_, ?_, ?_⟩, ?_⟩
        · have h1 := Hm.out.1
          have e : W base ((m % base) :: t).length = W base t.length * base := by simp [W, Hb1.out, powW]
          rw [e]
          show m / base * (W base t.length * base) + (m % base * W base t.length + wv base t) = n
          have : m * W base t.length = (base * (m / base) + m % base) * W base t.length := by rw [← Q4.out]
          rw [this, Int.add_mul] at h1
          rw [← Int.mul_assoc, Int.mul_comm (m / base * W base t.length) base, ← Int.mul_assoc]
          omega
        · intro x hx
          rcases List.mem_cons.1 hx with rfl | hx
          · rw [Hr.out]; exact ⟨q0, q1⟩
          · exact Hm.out.2.1 x hx
        · intro hz
          refine ⟨?_, by simp⟩
          intro hl
          have h4 := Q4.out
          simp at hl
          rw [hz, hl] at h4
          simp at h4
          omega
        · exact heap_setCell_at HC.out.1 _
        · have h2 := HC.out.2.1
          have h3 := HC.out.2.2
          rw [List.map_cons, ← h2, Array.toList_setIfInBounds, List.drop_set]
          simp
          rw [List.drop_eq_getElem_cons (by simp; omega)]
          simp
        · have := HC.out.2.2; simp; omega
        · exact HB.out.setCell (Nat.le_refl _) _
      case measure => (simp [intOf] <;> omega)
    · obtain rfl : m = 0 := by omega
      have ht0 : t ≠ [] := (Hm.out.2.2 rfl).2
      have hk' : (k : Int) < 64 := by
        have : 0 < t.length := List.length_pos_iff.2 ht0
        omega
      clear ht0
      obtain ⟨i0, hi, hz0, hz1, hz2⟩ := info_parts infoInt
      have hsl := slice64 wr w.heap.size k (by omega)
      go_wp2_with (at_builtin; go_loud (refine wpList_append_own _ rfl _ _ 24 rfl w.heap.size 3 i0 (.int .i64 0) 1 8 Tryd.underlying24 hi hz0 hz1 hz2 rfl (by decide) _ _ _ rfl (World.ownsRow_nil _ _ _ _) ⟨w.heap.size, k, none⟩ (64 - k) (64 - k) (t.map (Value.int .i64)) rfl ?c1 ?c2 ?c3 ?c4 ?c5 ?c6 ?_))
      case c1 => omega
      case c2 =>
        intro j u hj
        have h2 := HC.out.2.1
        rw [cell_of_row wr _ (k + j) C 115 (0, 0) HC.out.1, ← Array.getElem?_toList, ← List.getElem?_drop, h2]
        simp [hj]
      case c3 => intro u _; rfl
      case c4 => simp only [maxLen]; omega
      case c5 => omega
      case c6 => exact HB.out.size
      intro v' w' hown hgrow hnil
      go_wp2
      go_ret2
      refine RetQ.mk ⟨_, t, rfl, repOwnInts hown (by omega) ?_, ⟨Hm.out.2.1, ?_, (Hm.out.2.2 (by trivial)).1, ?_⟩⟩ (HB.out.grown hgrow HB.out.size (by simp [Value.ownBlock]))
      · intro x hx
        have := Hm.out.2.1 x hx
        rw [Hr.out] at this
        exact ⟨by omega, by omega⟩
      · simp [rightOf, Hb1.out]
      · have := Hm.out.1; omega

set_option maxHeartbeats 4000000 in
set_option maxRecDepth 100000 in
theorem Of_fibT (n : Int) (w : World) (hn0 : 0 ≤ n) (hn1 : n ≤ 1099511627776) :
    Calls Tryd.prog 42 #[.int .i64 1, .int .i64 n] w
      (RetQ (fun v w' => ∃ x l, v = .tuple #[x, .nilIface] ∧ RepT (w.heap.size ≤ ·) w' (tInts l) x ∧ IsOf 1 n l) w) := by
  have Hr := Lib.hid (show radix 1 = 2 from rfl)
  have e2 : decide (n < 0) = false := by simp; omega
  have e3 : decide (1099511627776 < n) = false := by simp; omega
  go_enter Tryd.func42, Tryd.ntmps42
  go_wp2_with (go_at_call 45; refine (Radix_calls _ _).mono ?_; rintro e w' ⟨rfl, rfl⟩; rw [Hr.out])
  go_loopw [10] (fun q wr => ∃ (m : Nat) (C : Array Value), q = .int .i64 ((m : Int) + 2) ∧ Hid (m = 0 ∨ fibW m ≤ n) ∧
      Hid (wr.heap[w.heap.size + 1]? = some (.cells C 115 (0, 0)) ∧ C.size = 64 ∧ ∀ i, i < m + 2 → C[i]? = some (.int .i64 (fibW i))) ∧ Hid (Below w.heap.size w wr)) (fun q _ => 64 - (intOf q).toNat)
  case atStart => 
    refine ⟨0, _, rfl, .inl rfl, ⟨heap_alloc_at _ _ (by simp), by simp, ?_⟩, ?_⟩
    · intro i hi
      have : i = 0 ∨ i = 1 := by omega
      rcases this with rfl | rfl <;> rfl
    · exact ((Below.refl _ _).alloc (Nat.le_refl _) _).alloc (by simp) _
  case round =>
    obtain ⟨m, C, rfl, Hm, HC, HB⟩ := hrel
    have hm : m ≤ 57 := by
      rcases Hm.out with h | h
      · omega
      · exact fibW_small h hn1
    have hcell : wr.cell? ⟨w.heap.size + 1, m + 1, none⟩ = some (.int .i64 (fibW (m + 1))) := by
      rw [cell_of_row wr _ _ C 115 (0, 0) HC.out.1]; exact HC.out.2.2 _ (by omega)
    have hcell0 : wr.cell? ⟨w.heap.size + 1, m, none⟩ = some (.int .i64 (fibW m)) := by
      rw [cell_of_row wr _ _ C 115 (0, 0) HC.out.1]; exact HC.out.2.2 _ (by omega)
    by_cases hle : fibW (m + 1) ≤ n
    · have hp := (fibW_pos m)
      have hp1 := hp.1
      have hp2 := hp.2
      clear hp
      have hcell2 : wr.cell? ⟨w.heap.size + 1, m + 2, none⟩ = some (C[m + 2]'(by have := HC.out.2.1; omega)) := by
        rw [cell_of_row wr _ _ C 115 (0, 0) HC.out.1]; exact Array.getElem?_eq_getElem _
      have hfr : wr.frozen? ⟨w.heap.size + 1, m + 2, none⟩ = false := frozen_of_block HC.out.1 _
      go_wp2
      go_region
      go_wp2
      go_roundw
      case rel =>
        refine ⟨m + 1, C.setIfInBounds (m + 2) (.int .i64 (fibW (m + 2))), by go_num, .inr hle, ⟨?_, ?_, ?_⟩, ?_⟩
        · exact heap_setCell_at HC.out.1 _
        · simpa using HC.out.2.1
        · intro i hi
          rw [Array.getElem?_setIfInBounds]
          by_cases e : m + 2 = i
          · subst e; rw [if_pos rfl, if_pos (by have := HC.out.2.1; omega)]
          · rw [if_neg e]; exact HC.out.2.2 i (by omega)
        · exact (HB.out.setCell (p := ⟨w.heap.size + 1, m + 2, none⟩) (by simp) _).drew
      case measure => (simp [intOf] <;> omega)
    · have G := Lib.hid (Greedy.start hn0 (show n < fibW (m + 1) by omega) (by omega))
      have H0 := Lib.hid (And.intro hn0 hn1)
      clear hcell0 e2 e3
      obtain ⟨i0, hi, hz0, hz1, hz2⟩ := info_parts infoInt
      go_wp2_with fail
      clear hcell hle hn0 hn1
      go_loopw [1, 11, 12] (fun q out i wr' => ∃ (j : Nat) (r : Int) (l : List Int), q = .int .i64 r ∧ i = .int .i64 ((j : Int) - 1) ∧ j ≤ m + 2 ∧ Hid (Greedy n j r l) ∧ wr'.ownsRow (w.heap.size + 2) 3 1 out l.length (l.map (Value.int .i64)) ∧
        Hid (wr'.heap[w.heap.size + 1]? = some (.cells C 115 (0, 0))) ∧ Hid (Below w.heap.size w wr')) (fun _ _ i _ => (intOf i + 1).toNat)
      case atStart => exact ⟨m + 2, n, [], rfl, by go_num, Nat.le_refl _, G.out, World.ownsRow_nil _ _ _ _, HC.out.1, HB.out⟩
      case round =>
        obtain ⟨j, r, l, rfl, rfl, hj, HG, hown, HC', HB'⟩ := hrel
        obtain ⟨a, cap, rfl⟩ := own_form hown
        have hbase : w.heap.size + 2 ≤ wr.heap.size := by have := block_lt HC'.out; omega
        rcases Nat.eq_zero_or_pos j with hj0 | hj0
        · subst hj0
          have D := Lib.hid HG.out.done
          go_wp2
          go_ret2
          refine RetQ.mk ⟨_, l, rfl, ?_, D.out⟩ HB'.out
          refine (repOwnInts hown rfl ?_).mono (fun b (hb : w.heap.size + 2 ≤ b) => show w.heap.size ≤ b by omega)
          intro x hx
          have := D.out.ok x hx
          simp [radix] at this
          exact ⟨by omega, by omega⟩
        · obtain ⟨j', rfl⟩ : ∃ j', j = j' + 1 := ⟨j - 1, by omega⟩
          have hpos : (0 : Int) ≤ ((j' + 1 : Nat) : Int) - 1 := by omega
          have hj64 : ((j' + 1 : Nat) : Int) - 1 < 64 := by omega
          have hcell : wr.cell? ⟨w.heap.size + 1, j', none⟩ = some (.int .i64 (fibW j')) := by
            rw [cell_of_row wr _ _ C 115 (0, 0) HC'.out]; exact HC.out.2.2 _ (by omega)
          have hr0 := HG.out.r0
          have hr1 : r ≤ 1099511627776 := by
            have h1 := HG.out.val
            have h2 := wv_nonneg (b := 1) (d := l ++ List.replicate (j' + 1) 0) (by simp [radix]) (by
              intro x hx
              rcases List.mem_append.1 hx with hx | hx
              · exact HG.out.ok x hx
              · have := List.eq_of_mem_replicate hx; subst this; simp [radix])
            have := H0.out
            omega
          have hf1 := (fibW_pos j').1
          by_cases hle : fibW j' ≤ r
          · have D := Lib.hid (HG.out.one hle)
            have hlen64 := HG.out.len
            go_wp2_with (at_builtin; go_loud (refine wpList_append_own _ rfl _ _ 24 rfl (w.heap.size + 2) 3 i0 (.int .i64 0) 1 8 Tryd.underlying24 hi hz0 hz1 hz2 rfl (by decide) _ _ _ rfl (hown.alloc _) ⟨wr.heap.size, 0, none⟩ 1 1 [.int .i64 1] rfl rfl ?c1 ?c2 ?c3 ?c4 ?c5 ?_))
            case c1 => exact cell_one_new _ _ _
            case c2 => simp [Value.oneCell']
            case c3 => simp only [maxLen]; omega
            case c4 => omega
            case c5 => simp; omega
            intro v' w' hown' hgrow _
            have HBn := Lib.hid ((HB'.out.alloc HB'.out.size _).grown hgrow (by have := HB'.out.size; simp; omega) (fun k hk => by have := hown.lt k (by rw [hk]); omega))
            have HCn := Lib.hid (show w'.heap[w.heap.size + 1]? = some (.cells C 115 (0, 0)) by
              rw [hgrow.block _ (by simp; omega) (fun e => by have := hown.lt _ e.symm; omega), Below.heap_alloc _ _ _ (by omega)]; exact HC'.out)
            clear hgrow hown
            go_wp2
            go_roundw
            case rel => exact ⟨j', _, l ++ [1], rfl, by go_num, by omega, D.out, by simpa using hown', HCn.out, HBn.out⟩
            case measure => (simp [intOf] <;> omega)
          · have hlt : r < fibW j' := by omega
            clear hle
            by_cases hl : l = []
            · have D := Lib.hid (show Greedy n j' r l by subst hl; exact HG.out.none hlt)
              have hz : (l.length : Int) ≤ 0 := by subst hl; simp
              clear hl
              go_wp2
              go_roundw
              case rel => exact ⟨j', r, l, rfl, by go_num, by omega, D.out, hown, HC'.out, HB'.out⟩
              case measure => (simp [intOf] <;> omega)
            · have D := Lib.hid (HG.out.zero hlt hl)
              have hz : (0 : Int) < (l.length : Int) := by have := List.length_pos_iff.2 hl; omega
              have hlen64 := HG.out.len
              clear hl
              go_wp2_with (at_builtin; go_loud (refine wpList_append_own _ rfl _ _ 24 rfl (w.heap.size + 2) 3 i0 (.int .i64 0) 1 8 Tryd.underlying24 hi hz0 hz1 hz2 rfl (by decide) _ _ _ rfl (hown.alloc _) ⟨wr.heap.size, 0, none⟩ 1 1 [.int .i64 0] rfl rfl ?c1 ?c2 ?c3 ?c4 ?c5 ?_))
              case c1 => exact cell_one_new _ _ _
              case c2 => simp [Value.oneCell']
              case c3 => simp only [maxLen]; omega
              case c4 => omega
              case c5 => simp; omega
              intro v' w' hown' hgrow _
              have HBn := Lib.hid ((HB'.out.alloc HB'.out.size _).grown hgrow (by have := HB'.out.size; simp; omega) (fun k hk => by have := hown.lt k (by rw [hk]); omega))
              have HCn := Lib.hid (show w'.heap[w.heap.size + 1]? = some (.cells C 115 (0, 0)) by
                rw [hgrow.block _ (by simp; omega) (fun e => by have := hown.lt _ e.symm; omega), Below.heap_alloc _ _ _ (by omega)]; exact HC'.out)
              clear hgrow hown
              go_wp2
              go_roundw
              case rel => exact ⟨j', _, l ++ [0], rfl, by go_num, by omega, D.out, by simpa using hown', HCn.out, HBn.out⟩
              case measure => (simp [intOf] <;> omega)

theorem isOf_zeroT (b : Int) : IsOf b 0 [] := ⟨by simp [okDigits], by simp [rightOf, noTwo], by simp [noLead], rfl⟩

set_option maxHeartbeats 4000000 in
set_option maxRecDepth 100000 in
theorem Of_zeroT (base : Int) (w : World) (hb2 : 2 ≤ base) (hb6 : base ≤ 6) :
    Calls Tryd.prog 42 #[.int .i64 base, .int .i64 0] w
      (RetQ (fun v w' => ∃ x l, v = .tuple #[x, .nilIface] ∧ RepT (w.heap.size ≤ ·) w' (tInts l) x ∧ IsOf base 0 l) w) := by
  have hr : radix base = base := by simp [radix]; omega
  have e0 : (base == 0) = false := by simp; omega
  have e1 : (base != 1) = true := by simp; omega
  have Hr := Lib.hid hr; clear hr
  go_enter Tryd.func42, Tryd.ntmps42
  go_wp2_with (go_at_call 45; refine (Radix_calls _ _).mono ?_; rintro e w' ⟨rfl, rfl⟩; rw [Hr.out])
  refine wp_loop_rounds 1 ?_
  rw [rounds_succ]
  go_wp2
  go_ret2
  exact RetQ.mk ⟨_, [], rfl, repNilInts _ _, isOf_zeroT base⟩ ((Below.refl _ _).alloc (Nat.le_refl _) _)

def ofErr (base n : Int) : Int := if radix base = 0 ∨ n < 0 ∨ 1099511627776 < n then 1 else 0

set_option maxHeartbeats 4000000 in
set_option maxRecDepth 100000 in
theorem Of_badT (base n : Int) (w : World) (h : radix base = 0 ∨ n < 0 ∨ 1099511627776 < n) :
    Calls Tryd.prog 42 #[.int .i64 base, .int .i64 n] w (RetS (.tuple #[.slice none 0 0, .iface 25 (.int .i64 1)]) w) := by
  by_cases h1 : radix base = 0
  · have e0 : (radix base == 0) = true := by simp [h1]
    clear h h1
    go_enter Tryd.func42, Tryd.ntmps42
    go_wp2_with (go_at_call 45; refine (Radix_calls _ _).mono ?_; rintro e w' ⟨rfl, rfl⟩)
    go_ret2
    exact RetS.mk rfl
  · have e0 : (radix base == 0) = false := by simp [h1]
    by_cases h2 : n < 0
    · clear h h1
      go_enter Tryd.func42, Tryd.ntmps42
      go_wp2_with (go_at_call 45; refine (Radix_calls _ _).mono ?_; rintro e w' ⟨rfl, rfl⟩)
      go_ret2
      exact RetS.mk rfl
    · have h3 : 1099511627776 < n := by omega
      clear h h1
      go_enter Tryd.func42, Tryd.ntmps42
      go_wp2_with (go_at_call 45; refine (Radix_calls _ _).mono ?_; rintro e w' ⟨rfl, rfl⟩)
      go_ret2
      exact RetS.mk rfl

theorem Of_goodT (base n : Int) (w : World) (h : radix base ≠ 0) (hn0 : 0 ≤ n) (hn1 : n ≤ 1099511627776) :
    Calls Tryd.prog 42 #[.int .i64 base, .int .i64 n] w
      (RetQ (fun v w' => ∃ x l, v = .tuple #[x, .nilIface] ∧ RepT (w.heap.size ≤ ·) w' (tInts l) x ∧ IsOf base n l) w) := by
  rcases radix_pos h with ⟨rfl, _⟩ | ⟨h2, h6, _⟩
  · exact Of_fibT n w hn0 hn1
  · rcases Int.lt_or_eq_of_le hn0 with h0 | h0
    · exact Of_baseT base n w h2 h6 h0 hn1
    · subst h0; exact Of_zeroT base w h2 h6
theorem Of_callsT (base n : Int) (w : World) :
    Calls Tryd.prog 42 #[.int .i64 base, .int .i64 n] w
      (RetQ (fun v w' => ∃ x l, v = .tuple #[x, errV 25 (ofErr base n)] ∧ RepT (w.heap.size ≤ ·) w' (tInts l) x ∧ (ofErr base n = 0 → IsOf base n l) ∧ (ofErr base n ≠ 0 → l = [])) w) := by
  by_cases hbad : radix base = 0 ∨ n < 0 ∨ 1099511627776 < n
  · have H : ofErr base n = 1 := by simp [ofErr, hbad]
    refine (Of_badT base n w hbad).mono ?_
    rintro e w' ⟨rfl, rfl⟩
    exact RetQ.mk ⟨_, [], by rw [H]; rfl, repNilInts _ _, fun h => by omega, fun _ => rfl⟩ (Below.refl _ _)
  · have H : ofErr base n = 0 := by simp [ofErr, hbad]
    refine (Of_goodT base n w (by omega) (by omega) (by omega)).mono ?_
    rintro e w' ⟨v, rfl, ⟨x, l, rfl, hl, hof⟩, hb⟩
    exact RetQ.mk ⟨_, l, by rw [H]; rfl, hl, fun _ => hof, fun h => absurd H h⟩ hb
open Classical in
/-- The digits of a number, nothing of what is none. -/
noncomputable def ofL (base n : Int) : List Int := if h : ofErr base n = 0 ∧ ∃ l, IsOf base n l then Classical.choose h.2 else []
theorem ofL_eq {base n : Int} {l : List Int} (h1 : ofErr base n = 0 → IsOf base n l) (h2 : ofErr base n ≠ 0 → l = []) : ofL base n = l := by
  unfold ofL
  by_cases h : ofErr base n = 0
  · have hr : radix base ≠ 0 := by
      intro hr; simp [ofErr, hr] at h
    have hx : ofErr base n = 0 ∧ ∃ l, IsOf base n l := ⟨h, l, h1 h⟩
    rw [dif_pos hx]
    exact (Classical.choose_spec hx.2).unique hr (h1 h)
  · rw [dif_neg (fun hx => h hx.1), h2 h]
section
variable {G : World → Prop}
theorem Of_snd (base n : Int) : Snd Tryd.prog G 42 [tInt base, tInt n] (.tup [tInts (ofL base n), tErr (ofErr base n)]) := by
  refine ⟨enter_of Tryd.func42 rfl rfl, fun S w vs hG hs hr => ?_⟩
  obtain ⟨l⟩ := vs
  match l, hs with
  | [v0, v1], _ =>
    obtain rfl := intInv (hr 0 _ v0 rfl rfl)
    obtain rfl := intInv (hr 1 _ v1 rfl rfl)
    refine (Of_callsT base n w).mono ?_
    rintro e w' ⟨v, rfl, ⟨x, l, rfl, hl, hof, hno⟩, hb⟩
    refine ⟨_, rfl, ?_, hb⟩
    rw [ofL_eq hof hno]
    refine .tup _ _ rfl fun k z q a b => ?_
    match k, a, b with
    | 0, a, b => cases a; cases b; exact hl.mono fun b hb => .inr hb
    | 1, a, b =>
      cases a; cases b
      unfold tErr errV
      split
      · exact .nilI
      · exact .iface _ _ _ (.int _ _)
    | k + 2, a, b => cases a
end
end Go.Proofs.YtcaopcpofepniaaDoor
namespace Go.Proofs.YtcaopcpofepniaaDoor

theorem greedy_end {b n : Int} (hb : radix b ≠ 0) : ∀ (j : Nat) (r : Int) (l : List Int), GreedyB b n j r l → ∃ d, IsOf b n d
  | 0, r, l, h => ⟨l, h.done⟩
  | j + 1, r, l, h => by
    by_cases hl : l = []
    · subst hl
      by_cases hr : r < W b j
      · exact greedy_end hb j r [] (h.none hr)
      · refine greedy_end hb j _ _ (h.step hb (.inr ?_))
        have hp := W_pos hb j
        have : 1 ≤ r / W b j := (Int.le_ediv_iff_mul_le (by omega)).2 (by omega)
        omega
    · exact greedy_end hb j _ _ (h.step hb (.inl hl))
theorem ofErr_zero {base n : Int} : ofErr base n = 0 ↔ radix base ≠ 0 ∧ 0 ≤ n ∧ n ≤ 1099511627776 := by
  unfold ofErr; split <;> omega
theorem ofL_is {base n : Int} (h : ofErr base n = 0) : IsOf base n (ofL base n) := by
  obtain ⟨h1, h2, h3⟩ := ofErr_zero.1 h
  obtain ⟨d, hd⟩ := greedy_end h1 58 n [] (.start h2 (by have := W_big h1 (Nat.le_refl 58); omega) (by omega))
  rw [ofL_eq (fun _ => hd) (fun h' => absurd h h')]; exact hd
/-- What is said of a number. -/
noncomputable def said (o : GOut) (n : Int) : Int := o.outs.getD (runFrom o.next 0 (ofL o.base n)).toNat 0
noncomputable def atErr (o : GOut) (n : Int) : Int := if outErr o ≠ 0 then outErr o else if n < 0 ∨ 1099511627776 < n then 1 else 0
noncomputable def atOf (o : GOut) (n : Int) : Int := if atErr o n = 0 then said o n else 0
theorem OkOut.dig {o : GOut} {k m : Nat} (g : OkOut o k m) {n : Int} (h0 : 0 ≤ n) (h1 : n ≤ 1099511627776) : ∀ x ∈ ofL o.base n, 0 ≤ x ∧ x < (k : Int) := fun x hx => by
  have hk := g.k_eq
  have := (ofL_is (ofErr_zero.2 ⟨by have := g.k2; omega, h0, h1⟩)).ok x hx
  omega
theorem OkOut.st {o : GOut} {k m : Nat} (g : OkOut o k m) {n : Int} (h0 : 0 ≤ n) (h1 : n ≤ 1099511627776) : 0 ≤ runFrom o.next 0 (ofL o.base n) ∧ runFrom o.next 0 (ofL o.base n) < (m : Int) :=
  runFrom_ok g.rows _ 0 (by have := g.m0; omega) (g.dig h0 h1)
structure OkRules (rules : List (List Int)) (code : List Int) (k m : Nat) : Prop where
  k2 : 2 ≤ k ∧ k ≤ 6
  m0 : 0 < m
  m20 : m ≤ 20
  row0 : (rules.getD 0 []).length = k
  rows : Rows0 k m rules
  zero : nextOf rules 0 0 = 0
  clen : code.length = m
  rng : ∀ x ∈ code, 0 ≤ x ∧ x ≤ 9
theorem OkRules.out {rules : List (List Int)} {code : List Int} {k m : Nat} (g : OkRules rules code k m) {outs : List Int} (hl : outs.length = m) (hr : ∀ x ∈ outs, 0 ≤ x ∧ x ≤ 9) : OkOut ⟨(k : Int), rules, outs⟩ k m :=
  ⟨by show radix k = k; have := g.k2; unfold radix; rw [if_neg (by omega), if_pos (by omega)], g.k2, g.m0, g.m20, hl, g.rows, hr⟩
theorem OkOut.err {o : GOut} {k m : Nat} (g : OkOut o k m) : outErr o = 0 := by
  have hk := g.k_eq
  have h2 := g.k2
  have hl := g.rows.len
  have ho := g.outs
  have hm := g.m0
  have hm2 := g.m20
  unfold outErr
  rw [if_neg (by omega), if_neg (by omega), if_neg (by omega), if_neg (by omega)]
  refine (outRows_zero _ _ (by omega)).2 fun j hj hk2 => rowFault_zero.2 ⟨?_, fun s hs => ?_, g.rng _ (List.getElem_mem _)⟩
  · rw [hk, g.rows.row _ (List.getElem_mem _)]
  · rw [hl]; exact g.rows.ok _ (List.getElem_mem _) s hs
theorem OkOut.at {o : GOut} {k m : Nat} (g : OkOut o k m) {n : Int} (h0 : 0 ≤ n) (h1 : n ≤ 1099511627776) : atErr o n = 0 ∧ atOf o n = said o n := by
  have h : atErr o n = 0 := by unfold atErr; rw [if_neg (by rw [g.err]; simp), if_neg (by omega)]
  exact ⟨h, by unfold atOf; rw [if_pos h]⟩
end Go.Proofs.YtcaopcpofepniaaDoor
namespace Go.Proofs.YtcaopcpofepniaaDoor
open Go.RowKit

def tOut (o : GOut) : T := .agg [tInt o.base, tIntss o.next, tInts o.outs]
theorem rowFault_len {k m : Int} {r : List Int} {x : Int} (h : ¬ (r.length : Int) = k) : rowFault k m r x = 2 := by unfold rowFault; rw [if_pos h]
theorem rowFault_ent {k m : Int} {r : List Int} {x : Int} (h : (r.length : Int) = k) {s : Int} (hs : s ∈ r) (hb : ¬ (0 ≤ s ∧ s < m)) : rowFault k m r x = 1 := by
  unfold rowFault
  rw [if_neg (by omega), if_pos]
  rw [Bool.eq_false_iff]; intro hc
  have := List.all_eq_true.1 hc s hs
  exact hb (by simpa using this)
theorem rowFault_out {k m : Int} {r : List Int} {x : Int} (h : (r.length : Int) = k) (hs : ∀ s ∈ r, 0 ≤ s ∧ s < m) (hx : x < 0 ∨ 9 < x) : rowFault k m r x = 1 := by
  unfold rowFault
  have h4 : r.all (fun s => decide (0 ≤ s ∧ s < m)) = true := List.all_eq_true.2 fun s hh => by simpa using hs s hh
  rw [if_neg (by omega), if_neg (by rw [h4]; decide), if_pos hx]
section
variable {G : World → Prop} (hG : Lasting G)
include hG
set_option maxHeartbeats 4000000 in
theorem WCheck_snd (o : GOut) : Snd Tryd.prog G 64 [tOut o] (tErr (outErr o)) := by
  have htb := Tab.cons (Radix_snd hG o.base) Tab.nil
  refine snd_of_body (n := 82) (tm := [(0, .t (tOut o))]) (rs := [.tmp 2]) tt_ok Tryd.func64 rfl rfl rfl rfl rfl ?_
  unfold outErr
  generalize hmo : radix o.base = mo at *
  by_cases h0 : mo = 0
  · subst h0
    repeat' (first | (with_reducible first | apply w1 | apply w2 | apply w3 | apply w4 | apply w5 | apply w6 | apply w7 | apply w8 | apply w9 | apply wa | apply wb | apply wc) | ((with_reducible apply wd); focus decide) | ((with_reducible apply we); focus exact rfl) | ((with_reducible apply wf); focus exact rfl) | ((first | (with_reducible apply SW_run tt_ok hG htb) | ((with_reducible apply SW_draw rfl tt_ok hG htb); (focus kernel_rfl); focus simp only [List.range, List.range.loop, List.size_toArray, List.length_cons, List.length_nil, Nat.reduceAdd])); focus ((repeat' (first | (with_reducible first | exact wg | exact wh) | ((with_reducible first | apply wi | apply wj); focus (simp (discharger := omega) only [go_sem, tOut, tErr, simprocAttr]; with_reducible rfl)))); done)))
    exact (by simp (discharger := omega) only [go_sem, tErr, simprocAttr])
  · obtain ⟨r2, r6⟩ := radix_two (b := o.base) (by omega)
    rw [hmo] at r2 r6
    by_cases h1 : o.next.length = 0
    · repeat' (first | (with_reducible first | apply w1 | apply w2 | apply w3 | apply w4 | apply w5 | apply w6 | apply w7 | apply w8 | apply w9 | apply wa | apply wb | apply wc) | ((with_reducible apply wd); focus decide) | ((with_reducible apply we); focus exact rfl) | ((with_reducible apply wf); focus exact rfl) | ((first | (with_reducible apply SW_run tt_ok hG htb) | ((with_reducible apply SW_draw rfl tt_ok hG htb); (focus kernel_rfl); focus simp only [List.range, List.range.loop, List.size_toArray, List.length_cons, List.length_nil, Nat.reduceAdd])); focus ((repeat' (first | (with_reducible first | exact wg | exact wh) | ((with_reducible first | apply wi | apply wj); focus (simp (discharger := omega) only [go_sem, tOut, tErr, simprocAttr]; with_reducible rfl)))); done)))
      exact (by simp (discharger := omega) only [go_sem, tErr, simprocAttr])
    · by_cases h2 : 20 < o.next.length
      · repeat' (first | (with_reducible first | apply w1 | apply w2 | apply w3 | apply w4 | apply w5 | apply w6 | apply w7 | apply w8 | apply w9 | apply wa | apply wb | apply wc) | ((with_reducible apply wd); focus decide) | ((with_reducible apply we); focus exact rfl) | ((with_reducible apply wf); focus exact rfl) | ((first | (with_reducible apply SW_run tt_ok hG htb) | ((with_reducible apply SW_draw rfl tt_ok hG htb); (focus kernel_rfl); focus simp only [List.range, List.range.loop, List.size_toArray, List.length_cons, List.length_nil, Nat.reduceAdd])); focus ((repeat' (first | (with_reducible first | exact wg | exact wh) | ((with_reducible first | apply wi | apply wj); focus (simp (discharger := omega) only [go_sem, tOut, tErr, simprocAttr]; with_reducible rfl)))); done)))
        exact (by simp (discharger := omega) only [go_sem, tErr, simprocAttr])
      · by_cases h3 : o.outs.length = o.next.length
        · rw [if_neg h0, if_neg h1, if_neg h2, if_neg (by omega)]
          repeat' (first | (with_reducible first | apply w1 | apply w2 | apply w3 | apply w4 | apply w5 | apply w6 | apply w7 | apply w8 | apply w9 | apply wa | apply wb | apply wc) | ((with_reducible apply wd); focus decide) | ((with_reducible apply we); focus exact rfl) | ((with_reducible apply wf); focus exact rfl) | ((first | (with_reducible apply SW_run tt_ok hG htb) | ((with_reducible apply SW_draw rfl tt_ok hG htb); (focus kernel_rfl); focus simp only [List.range, List.range.loop, List.size_toArray, List.length_cons, List.length_nil, Nat.reduceAdd])); focus ((repeat' (first | (with_reducible first | exact wg | exact wh) | ((with_reducible first | apply wi | apply wj); focus (simp (discharger := omega) only [go_sem, tOut, tErr, h3, simprocAttr]; with_reducible rfl)))); done)))
          refine SW_loop (fun m s => ∃ i : Nat, m = o.next.length - i ∧ s = ⟨82, [(1, .bptr 0 0), (3, .t (tInt mo)), (37, .t (tIntss o.next)), (38, .t (tInt o.next.length)), (39, .t (tInt i))], [.box [.t (tInt o.base), .t (tIntss o.next), .t (tInts o.outs)]]⟩ ∧ i ≤ o.next.length ∧ ∀ j (hj : j < o.next.length) (hk : j < o.outs.length), j < i → rowFault mo o.next.length o.next[j] o.outs[j] = 0) o.next.length
            ⟨_, Norm.headS (own := []) (keep := [1, 3, 37, 38, 39]) (by refine ⟨?_, ?_⟩; (simp (discharger := omega) only [go_sem, simprocAttr]; with_reducible rfl); refine ⟨?_, ?_, ?_, ?_⟩ <;> (simp only [go_sem, simprocAttr]; with_reducible rfl)), 0, rfl, rfl, Nat.zero_le _, fun j hj hk h => by omega⟩ ?_
          rintro m s ⟨i, rfl, rfl, hi, hA⟩
          by_cases hlt : i < o.next.length
          · obtain ⟨row, hrow⟩ : ∃ row, o.next[i]! = row := ⟨_, rfl⟩
            obtain ⟨x, hx⟩ : ∃ x, o.outs[i]! = x := ⟨_, rfl⟩
            have hat := bang_at hrow hlt
            have hax := bang_at hx (by omega)
            have hbad := outRows_at (k := mo) (m := o.next.length) o.next o.outs i hlt (by omega) hA
            rw [hat, hax] at hbad
            by_cases hrl : (row.length : Int) = mo
            · repeat' (first | (with_reducible first | apply w1 | apply w2 | apply w3 | apply w4 | apply w5 | apply w6 | apply w7 | apply w8 | apply w9 | apply wa | apply wb | apply wc) | ((with_reducible apply wd); focus decide) | ((with_reducible apply we); focus exact rfl) | ((with_reducible apply wf); focus exact rfl) | ((first | (with_reducible apply SW_run tt_ok hG htb) | ((with_reducible apply SW_draw rfl tt_ok hG htb); (focus kernel_rfl); focus simp only [List.range, List.range.loop, List.size_toArray, List.length_cons, List.length_nil, Nat.reduceAdd])); focus ((repeat' (first | (with_reducible first | exact wg | exact wh) | ((with_reducible first | apply wi | apply wj); focus (simp (discharger := omega) only [go_sem, hrow, simprocAttr]; with_reducible rfl)))); done)))
              refine SW_loop (fun m s => ∃ l : Nat, m = row.length - l ∧ s = ⟨82, [(1, .bptr 0 0), (3, .t (tInt mo)), (4, .t (tInt i)), (37, .t (tIntss o.next)), (38, .t (tInt o.next.length)), (39, .t (tInt i)), (49, .t (tInts row)), (50, .t (tInt row.length)), (51, .t (tInt l))], [.box [.t (tInt o.base), .t (tIntss o.next), .t (tInts o.outs)]]⟩ ∧ l ≤ row.length ∧ ∀ x ∈ row.take l, 0 ≤ x ∧ x < (o.next.length : Int)) row.length
                ⟨_, Norm.headS (own := []) (keep := [1, 3, 4, 37, 38, 39, 49, 50, 51]) (by refine ⟨?_, ?_⟩; (simp (discharger := omega) only [go_sem, simprocAttr]; with_reducible rfl); refine ⟨?_, ?_, ?_, ?_⟩ <;> (simp only [go_sem, simprocAttr]; with_reducible rfl)), 0, rfl, rfl, Nat.zero_le _, fun x hx => by simp at hx⟩ ?_
              rintro m s ⟨l, rfl, rfl, hl, hB⟩
              by_cases hlt2 : l < row.length
              · obtain ⟨y, hy⟩ : ∃ y, row[l]! = y := ⟨_, rfl⟩
                have htk := take_next hy hlt2
                have hym := bang_mem hy hlt2
                by_cases hy0 : 0 ≤ y
                · by_cases hym2 : y < (o.next.length : Int)
                  · repeat' (first | (with_reducible first | apply w1 | apply w2 | apply w3 | apply w4 | apply w5 | apply w6 | apply w7 | apply w8 | apply w9 | apply wa | apply wb | apply wc) | ((with_reducible apply wd); focus decide) | ((with_reducible apply we); focus exact rfl) | ((with_reducible apply wf); focus exact rfl) | ((first | (with_reducible apply SW_run tt_ok hG htb) | ((with_reducible apply SW_draw rfl tt_ok hG htb); (focus kernel_rfl); focus simp only [List.range, List.range.loop, List.size_toArray, List.length_cons, List.length_nil, Nat.reduceAdd])); focus ((repeat' (first | (with_reducible first | exact wg | exact wh) | ((with_reducible first | apply wi | apply wj); focus (simp (discharger := omega) only [go_sem, hy, simprocAttr]; with_reducible rfl)))); done)))
                    exact ⟨row.length - (l + 1), _, by omega, Norm.headS (own := []) (keep := [1, 3, 4, 37, 38, 39, 49, 50, 51]) (by refine ⟨?_, ?_⟩; (simp (discharger := omega) only [go_sem, simprocAttr]; with_reducible rfl); refine ⟨?_, ?_, ?_, ?_⟩ <;> (simp only [go_sem, simprocAttr]; with_reducible rfl)), l + 1, rfl, rfl, by omega, fun z hz => by
                      rw [htk] at hz
                      rcases List.mem_append.1 hz with h | h
                      · exact hB z h
                      · simp at h; subst h; exact ⟨hy0, hym2⟩⟩
                  · have e := rowFault_ent (x := x) hrl hym (m := o.next.length) (by omega)
                    rw [hbad (by rw [e]; decide), e]
                    repeat' (first | (with_reducible first | apply w1 | apply w2 | apply w3 | apply w4 | apply w5 | apply w6 | apply w7 | apply w8 | apply w9 | apply wa | apply wb | apply wc) | ((with_reducible apply wd); focus decide) | ((with_reducible apply we); focus exact rfl) | ((with_reducible apply wf); focus exact rfl) | ((first | (with_reducible apply SW_run tt_ok hG htb) | ((with_reducible apply SW_draw rfl tt_ok hG htb); (focus kernel_rfl); focus simp only [List.range, List.range.loop, List.size_toArray, List.length_cons, List.length_nil, Nat.reduceAdd])); focus ((repeat' (first | (with_reducible first | exact wg | exact wh) | ((with_reducible first | apply wi | apply wj); focus (simp (discharger := omega) only [go_sem, hy, simprocAttr]; with_reducible rfl)))); done)))
                    exact (by simp (discharger := omega) only [go_sem, tErr, simprocAttr])
                · have e := rowFault_ent (x := x) hrl hym (m := o.next.length) (by omega)
                  rw [hbad (by rw [e]; decide), e]
                  repeat' (first | (with_reducible first | apply w1 | apply w2 | apply w3 | apply w4 | apply w5 | apply w6 | apply w7 | apply w8 | apply w9 | apply wa | apply wb | apply wc) | ((with_reducible apply wd); focus decide) | ((with_reducible apply we); focus exact rfl) | ((with_reducible apply wf); focus exact rfl) | ((first | (with_reducible apply SW_run tt_ok hG htb) | ((with_reducible apply SW_draw rfl tt_ok hG htb); (focus kernel_rfl); focus simp only [List.range, List.range.loop, List.size_toArray, List.length_cons, List.length_nil, Nat.reduceAdd])); focus ((repeat' (first | (with_reducible first | exact wg | exact wh) | ((with_reducible first | apply wi | apply wj); focus (simp (discharger := omega) only [go_sem, hy, simprocAttr]; with_reducible rfl)))); done)))
                  exact (by simp (discharger := omega) only [go_sem, tErr, simprocAttr])
              · obtain rfl : l = row.length := by omega
                rw [List.take_length] at hB
                by_cases hx0 : x < 0
                · have e := rowFault_out (x := x) hrl hB (.inl hx0)
                  rw [hbad (by rw [e]; decide), e]
                  repeat' (first | (with_reducible first | apply w1 | apply w2 | apply w3 | apply w4 | apply w5 | apply w6 | apply w7 | apply w8 | apply w9 | apply wa | apply wb | apply wc) | ((with_reducible apply wd); focus decide) | ((with_reducible apply we); focus exact rfl) | ((with_reducible apply wf); focus exact rfl) | ((first | (with_reducible apply SW_run tt_ok hG htb) | ((with_reducible apply SW_draw rfl tt_ok hG htb); (focus kernel_rfl); focus simp only [List.range, List.range.loop, List.size_toArray, List.length_cons, List.length_nil, Nat.reduceAdd])); focus ((repeat' (first | (with_reducible first | exact wg | exact wh) | ((with_reducible first | apply wi | apply wj); focus (simp (discharger := omega) only [go_sem, hx, simprocAttr]; with_reducible rfl)))); done)))
                  exact (by simp (discharger := omega) only [go_sem, tErr, simprocAttr])
                · by_cases hx9 : 9 < x
                  · have e := rowFault_out (x := x) hrl hB (.inr hx9)
                    rw [hbad (by rw [e]; decide), e]
                    repeat' (first | (with_reducible first | apply w1 | apply w2 | apply w3 | apply w4 | apply w5 | apply w6 | apply w7 | apply w8 | apply w9 | apply wa | apply wb | apply wc) | ((with_reducible apply wd); focus decide) | ((with_reducible apply we); focus exact rfl) | ((with_reducible apply wf); focus exact rfl) | ((first | (with_reducible apply SW_run tt_ok hG htb) | ((with_reducible apply SW_draw rfl tt_ok hG htb); (focus kernel_rfl); focus simp only [List.range, List.range.loop, List.size_toArray, List.length_cons, List.length_nil, Nat.reduceAdd])); focus ((repeat' (first | (with_reducible first | exact wg | exact wh) | ((with_reducible first | apply wi | apply wj); focus (simp (discharger := omega) only [go_sem, hx, simprocAttr]; with_reducible rfl)))); done)))
                    exact (by simp (discharger := omega) only [go_sem, tErr, simprocAttr])
                  · repeat' (first | (with_reducible first | apply w1 | apply w2 | apply w3 | apply w4 | apply w5 | apply w6 | apply w7 | apply w8 | apply w9 | apply wa | apply wb | apply wc) | ((with_reducible apply wd); focus decide) | ((with_reducible apply we); focus exact rfl) | ((with_reducible apply wf); focus exact rfl) | ((first | (with_reducible apply SW_run tt_ok hG htb) | ((with_reducible apply SW_draw rfl tt_ok hG htb); (focus kernel_rfl); focus simp only [List.range, List.range.loop, List.size_toArray, List.length_cons, List.length_nil, Nat.reduceAdd])); focus ((repeat' (first | (with_reducible first | exact wg | exact wh) | ((with_reducible first | apply wi | apply wj); focus (simp (discharger := omega) only [go_sem, hx, simprocAttr]; with_reducible rfl)))); done)))
                    exact ⟨o.next.length - (i + 1), _, by omega, Norm.headS (own := []) (keep := [1, 3, 37, 38, 39]) (by refine ⟨?_, ?_⟩; (simp (discharger := omega) only [go_sem, simprocAttr]; with_reducible rfl); refine ⟨?_, ?_, ?_, ?_⟩ <;> (simp only [go_sem, simprocAttr]; with_reducible rfl)), i + 1, rfl, rfl, by omega, fun j hj hk h => by
                      by_cases e : j = i
                      · subst e; rw [hat, hax]; exact rowFault_zero.2 ⟨hrl, hB, by omega⟩
                      · exact hA j hj hk (by omega)⟩
            · have e := rowFault_len (m := (o.next.length : Int)) (x := x) hrl
              rw [hbad (by rw [e]; decide), e]
              repeat' (first | (with_reducible first | apply w1 | apply w2 | apply w3 | apply w4 | apply w5 | apply w6 | apply w7 | apply w8 | apply w9 | apply wa | apply wb | apply wc) | ((with_reducible apply wd); focus decide) | ((with_reducible apply we); focus exact rfl) | ((with_reducible apply wf); focus exact rfl) | ((first | (with_reducible apply SW_run tt_ok hG htb) | ((with_reducible apply SW_draw rfl tt_ok hG htb); (focus kernel_rfl); focus simp only [List.range, List.range.loop, List.size_toArray, List.length_cons, List.length_nil, Nat.reduceAdd])); focus ((repeat' (first | (with_reducible first | exact wg | exact wh) | ((with_reducible first | apply wi | apply wj); focus (simp (discharger := omega) only [go_sem, hrow, simprocAttr]; with_reducible rfl)))); done)))
              exact (by simp (discharger := omega) only [go_sem, tErr, simprocAttr])
          · obtain rfl : i = o.next.length := by omega
            rw [(outRows_zero _ _ h3).2 fun j hj hk => hA j hj hk hj]
            repeat' (first | (with_reducible first | apply w1 | apply w2 | apply w3 | apply w4 | apply w5 | apply w6 | apply w7 | apply w8 | apply w9 | apply wa | apply wb | apply wc) | ((with_reducible apply wd); focus decide) | ((with_reducible apply we); focus exact rfl) | ((with_reducible apply wf); focus exact rfl) | ((first | (with_reducible apply SW_run tt_ok hG htb) | ((with_reducible apply SW_draw rfl tt_ok hG htb); (focus kernel_rfl); focus simp only [List.range, List.range.loop, List.size_toArray, List.length_cons, List.length_nil, Nat.reduceAdd])); focus ((repeat' (first | (with_reducible first | exact wg | exact wh) | ((with_reducible first | apply wi | apply wj); focus (simp (discharger := omega) only [go_sem, simprocAttr]; with_reducible rfl)))); done)))
            exact (by simp (discharger := omega) only [go_sem, tErr, simprocAttr])
        · repeat' (first | (with_reducible first | apply w1 | apply w2 | apply w3 | apply w4 | apply w5 | apply w6 | apply w7 | apply w8 | apply w9 | apply wa | apply wb | apply wc) | ((with_reducible apply wd); focus decide) | ((with_reducible apply we); focus exact rfl) | ((with_reducible apply wf); focus exact rfl) | ((first | (with_reducible apply SW_run tt_ok hG htb) | ((with_reducible apply SW_draw rfl tt_ok hG htb); (focus kernel_rfl); focus simp only [List.range, List.range.loop, List.size_toArray, List.length_cons, List.length_nil, Nat.reduceAdd])); focus ((repeat' (first | (with_reducible first | exact wg | exact wh) | ((with_reducible first | apply wi | apply wj); focus (simp (discharger := omega) only [go_sem, tOut, tErr, h3, simprocAttr]; with_reducible rfl)))); done)))
          exact (by simp (discharger := omega) only [go_sem, tErr, h3, simprocAttr])
set_option maxHeartbeats 4000000 in
theorem says_snd (o : GOut) (n : Int) {k m : Nat} (g : OkOut o k m) (h0 : 0 ≤ n) (h1 : n ≤ 1099511627776) : Snd Tryd.prog G 66 [tOut o, tInt n] (tInt (said o n)) := by
  have he : ofErr o.base n = 0 := ofErr_zero.2 ⟨by have := g.k_eq; have := g.k2; omega, h0, h1⟩
  have htb := Tab.cons (Of_snd (G := G) o.base n) Tab.nil
  have hdig := g.dig h0 h1
  have hlen := (ofL_is he).len (by have := g.k_eq; have := g.k2; omega) h1
  have hm0 := g.m0
  have hnl := g.rows.len
  have hol := g.outs
  have hm20 := g.m20
  have hk6 := g.k2
  unfold said
  rw [he] at htb
  generalize ofL o.base n = d at *
  refine snd_of_body (n := 37) (tm := [(0, .t (tOut o)), (1, .t (tInt n))]) (rs := [.tmp 4]) tt_ok Tryd.func66 rfl rfl rfl rfl rfl ?_
  repeat' (first | (with_reducible first | apply w1 | apply w2 | apply w3 | apply w4 | apply w5 | apply w6 | apply w7 | apply w8 | apply w9 | apply wa | apply wb | apply wc) | ((with_reducible apply wd); focus decide) | ((with_reducible apply we); focus exact rfl) | ((with_reducible apply wf); focus exact rfl) | ((first | (with_reducible apply SW_run tt_ok hG htb) | ((with_reducible apply SW_draw rfl tt_ok hG htb); (focus kernel_rfl); focus simp only [List.range, List.range.loop, List.size_toArray, List.length_cons, List.length_nil, Nat.reduceAdd])); focus ((repeat' (first | (with_reducible first | exact wg | exact wh) | ((with_reducible first | apply wi | apply wj); focus (simp (discharger := omega) only [go_sem, tOut, tErr, simprocAttr]; with_reducible rfl)))); done)))
  refine SW_loop (fun c s => ∃ (i : Nat) (q : Int), c = d.length - i ∧ s = ⟨37, [(2, .bptr 0 0), (7, .t (tInt q)), (17, .t (tInts d)), (18, .t (tInt d.length)), (19, .t (tInt i))], [.box [.t (tInt o.base), .t (tIntss o.next), .t (tInts o.outs)]]⟩ ∧ i ≤ d.length ∧ q = runFrom o.next 0 (d.take i)) d.length
    ⟨_, Norm.headS (own := []) (keep := [2, 7, 17, 18, 19]) (by refine ⟨?_, ?_⟩; (simp (discharger := omega) only [go_sem, simprocAttr]; with_reducible rfl); refine ⟨?_, ?_, ?_, ?_⟩ <;> (simp only [go_sem, simprocAttr]; with_reducible rfl)), 0, 0, rfl, rfl, Nat.zero_le _, rfl⟩ ?_
  rintro c s ⟨i, q, rfl, rfl, hi, hq⟩
  have hqm : 0 ≤ q ∧ q < (m : Int) := by rw [hq]; exact runFrom_ok g.rows _ 0 (by omega) fun x hx => hdig x (List.mem_of_mem_take hx)
  by_cases hlt : i < d.length
  · obtain ⟨x, hx⟩ : ∃ x, d[i]! = x := ⟨_, rfl⟩
    have hxn := hdig x (bang_mem hx hlt)
    obtain ⟨row, hrow⟩ : ∃ row, o.next[q.toNat]! = row := ⟨_, rfl⟩
    have hrl : row.length = k := g.rows.row _ (bang_mem hrow (by omega))
    obtain ⟨u, hu⟩ : ∃ u, row[x.toNat]! = u := ⟨_, rfl⟩
    have hstep := runFrom_take o.next hx hlt 0
    rw [← hq, nextOf_bang hrow (by omega) hu (by omega)] at hstep
    repeat' (first | (with_reducible first | apply w1 | apply w2 | apply w3 | apply w4 | apply w5 | apply w6 | apply w7 | apply w8 | apply w9 | apply wa | apply wb | apply wc) | ((with_reducible apply wd); focus decide) | ((with_reducible apply we); focus exact rfl) | ((with_reducible apply wf); focus exact rfl) | ((first | (with_reducible apply SW_run tt_ok hG htb) | ((with_reducible apply SW_draw rfl tt_ok hG htb); (focus kernel_rfl); focus simp only [List.range, List.range.loop, List.size_toArray, List.length_cons, List.length_nil, Nat.reduceAdd])); focus ((repeat' (first | (with_reducible first | exact wg | exact wh) | ((with_reducible first | apply wi | apply wj); focus (simp (discharger := omega) only [go_sem, hx, hrow, hu, simprocAttr]; with_reducible rfl)))); done)))
    exact ⟨d.length - (i + 1), _, by omega, Norm.headS (own := []) (keep := [2, 7, 17, 18, 19]) (by refine ⟨?_, ?_⟩; (simp (discharger := omega) only [go_sem, simprocAttr]; with_reducible rfl); refine ⟨?_, ?_, ?_, ?_⟩ <;> (simp only [go_sem, simprocAttr]; with_reducible rfl)), i + 1, u, rfl, rfl, by omega, hstep.symm⟩
  · obtain rfl : i = d.length := by omega
    rw [List.take_length] at hq
    rw [← hq]
    obtain ⟨x, hx⟩ : ∃ x, o.outs[q.toNat]! = x := ⟨_, rfl⟩
    rw [bang_D hx (by omega)]
    repeat' (first | (with_reducible first | apply w1 | apply w2 | apply w3 | apply w4 | apply w5 | apply w6 | apply w7 | apply w8 | apply w9 | apply wa | apply wb | apply wc) | ((with_reducible apply wd); focus decide) | ((with_reducible apply we); focus exact rfl) | ((with_reducible apply wf); focus exact rfl) | ((first | (with_reducible apply SW_run tt_ok hG htb) | ((with_reducible apply SW_draw rfl tt_ok hG htb); (focus kernel_rfl); focus simp only [List.range, List.range.loop, List.size_toArray, List.length_cons, List.length_nil, Nat.reduceAdd])); focus ((repeat' (first | (with_reducible first | exact wg | exact wh) | ((with_reducible first | apply wi | apply wj); focus (simp (discharger := omega) only [go_sem, hx, simprocAttr]; with_reducible rfl)))); done)))
    exact (by simp (discharger := omega) only [go_sem, simprocAttr])
theorem At_snd (o : GOut) (n : Int) : Snd Tryd.prog G 37 [tOut o, tInt n] (.tup [tInt (atOf o n), tErr (atErr o n)]) := by
  have c1 := WCheck_snd hG o
  by_cases h : outErr o = 0
  · have g := out_ok h
    by_cases h0 : n < 0
    · have e1 : atErr o n = 1 := by unfold atErr; rw [if_neg (by rw [h]; simp), if_pos (.inl h0)]
      have e2 : atOf o n = 0 := by unfold atOf; rw [e1]; rfl
      rw [e1, e2]
      rw [h] at c1
      have htb := Tab.cons c1 Tab.nil
      refine snd_of_body (n := 22) (tm := [(0, .t (tOut o)), (1, .t (tInt n))]) (rs := [.tmp 4, .tmp 5]) tt_ok Tryd.func37 rfl rfl rfl rfl rfl ?_
      repeat' (first | (with_reducible first | apply w1 | apply w2 | apply w3 | apply w4 | apply w5 | apply w6 | apply w7 | apply w8 | apply w9 | apply wa | apply wb | apply wc) | ((with_reducible apply wd); focus decide) | ((with_reducible apply we); focus exact rfl) | ((with_reducible apply wf); focus exact rfl) | ((first | (with_reducible apply SW_run tt_ok hG htb) | ((with_reducible apply SW_draw rfl tt_ok hG htb); (focus kernel_rfl); focus simp only [List.range, List.range.loop, List.size_toArray, List.length_cons, List.length_nil, Nat.reduceAdd])); focus ((repeat' (first | (with_reducible first | exact wg | exact wh) | ((with_reducible first | apply wi | apply wj); focus (simp (discharger := omega) only [go_sem, tOut, tErr, simprocAttr]; with_reducible rfl)))); done)))
      exact (by simp (discharger := omega) only [go_sem, tErr, simprocAttr])
    · by_cases h1 : 1099511627776 < n
      · have e1 : atErr o n = 1 := by unfold atErr; rw [if_neg (by rw [h]; simp), if_pos (.inr h1)]
        have e2 : atOf o n = 0 := by unfold atOf; rw [e1]; rfl
        rw [e1, e2]
        rw [h] at c1
        have htb := Tab.cons c1 Tab.nil
        refine snd_of_body (n := 22) (tm := [(0, .t (tOut o)), (1, .t (tInt n))]) (rs := [.tmp 4, .tmp 5]) tt_ok Tryd.func37 rfl rfl rfl rfl rfl ?_
        repeat' (first | (with_reducible first | apply w1 | apply w2 | apply w3 | apply w4 | apply w5 | apply w6 | apply w7 | apply w8 | apply w9 | apply wa | apply wb | apply wc) | ((with_reducible apply wd); focus decide) | ((with_reducible apply we); focus exact rfl) | ((with_reducible apply wf); focus exact rfl) | ((first | (with_reducible apply SW_run tt_ok hG htb) | ((with_reducible apply SW_draw rfl tt_ok hG htb); (focus kernel_rfl); focus simp only [List.range, List.range.loop, List.size_toArray, List.length_cons, List.length_nil, Nat.reduceAdd])); focus ((repeat' (first | (with_reducible first | exact wg | exact wh) | ((with_reducible first | apply wi | apply wj); focus (simp (discharger := omega) only [go_sem, tOut, tErr, simprocAttr]; with_reducible rfl)))); done)))
        exact (by simp (discharger := omega) only [go_sem, tErr, simprocAttr])
      · obtain ⟨e1, e2⟩ := g.at (show 0 ≤ n by omega) (show n ≤ 1099511627776 by omega)
        have c2 := says_snd hG o n g (show 0 ≤ n by omega) (show n ≤ 1099511627776 by omega)
        rw [e1, e2]
        rw [h] at c1
        generalize said o n = v at *
        have htb := Tab.cons c1 (Tab.cons c2 Tab.nil)
        refine snd_of_body (n := 22) (tm := [(0, .t (tOut o)), (1, .t (tInt n))]) (rs := [.tmp 4, .tmp 5]) tt_ok Tryd.func37 rfl rfl rfl rfl rfl ?_
        repeat' (first | (with_reducible first | apply w1 | apply w2 | apply w3 | apply w4 | apply w5 | apply w6 | apply w7 | apply w8 | apply w9 | apply wa | apply wb | apply wc) | ((with_reducible apply wd); focus decide) | ((with_reducible apply we); focus exact rfl) | ((with_reducible apply wf); focus exact rfl) | ((first | (with_reducible apply SW_run tt_ok hG htb) | ((with_reducible apply SW_draw rfl tt_ok hG htb); (focus kernel_rfl); focus simp only [List.range, List.range.loop, List.size_toArray, List.length_cons, List.length_nil, Nat.reduceAdd])); focus ((repeat' (first | (with_reducible first | exact wg | exact wh) | ((with_reducible first | apply wi | apply wj); focus (simp (discharger := omega) only [go_sem, tOut, tErr, simprocAttr]; with_reducible rfl)))); done)))
        exact (by simp (discharger := omega) only [go_sem, tErr, simprocAttr])
  · have e1 : atErr o n = outErr o := by unfold atErr; rw [if_pos h]
    have e2 : atOf o n = 0 := by unfold atOf; rw [e1, if_neg h]
    rw [e1, e2]
    generalize outErr o = f at *
    have htb := Tab.cons c1 Tab.nil
    refine snd_of_body (n := 22) (tm := [(0, .t (tOut o)), (1, .t (tInt n))]) (rs := [.tmp 4, .tmp 5]) tt_ok Tryd.func37 rfl rfl rfl rfl rfl ?_
    repeat' (first | (with_reducible first | apply w1 | apply w2 | apply w3 | apply w4 | apply w5 | apply w6 | apply w7 | apply w8 | apply w9 | apply wa | apply wb | apply wc) | ((with_reducible apply wd); focus decide) | ((with_reducible apply we); focus exact rfl) | ((with_reducible apply wf); focus exact rfl) | ((first | (with_reducible apply SW_run tt_ok hG htb) | ((with_reducible apply SW_draw rfl tt_ok hG htb); (focus kernel_rfl); focus simp only [List.range, List.range.loop, List.size_toArray, List.length_cons, List.length_nil, Nat.reduceAdd])); focus ((repeat' (first | (with_reducible first | exact wg | exact wh) | ((with_reducible first | apply wi | apply wj); focus (simp (discharger := omega) only [go_sem, tOut, tErr, h, simprocAttr]; with_reducible rfl)))); done)))
    exact (by simp (discharger := omega) only [go_sem, tErr, h, simprocAttr])
end
end Go.Proofs.YtcaopcpofepniaaDoor
namespace Go.Proofs.YtcaopcpofepniaaDoor

/-- The coefficients, where their variables go. -/
def rowP (coefs to : List Int) : Nat → List Int
  | 0 => List.replicate 5 0
  | i + 1 => (rowP coefs to i).set (to.getD i 0).toNat (coefs.getD i 0)
def lastP (coefs to : List Int) : Nat → Nat
  | 0 => 0
  | i + 1 => if coefs.getD i 0 ≠ 0 ∧ lastP coefs to i ≤ (to.getD i 0).toNat then (to.getD i 0).toNat + 1 else lastP coefs to i
def toAt (to : List Int) (i : Nat) : Int := if isVar (to.getD i 0) = false then 1 else if (to.take i).contains (to.getD i 0) = true then 6 else 0
def toGo (to : List Int) : Nat → Nat → Int
  | 0, _ => 0
  | r + 1, i => if toAt to i ≠ 0 then toAt to i else toGo to r (i + 1)
theorem toGo_at {to : List Int} : ∀ (r i : Nat), toGo to r i = 0 → ∀ j, i ≤ j → j < i + r → toAt to j = 0
  | 0, _, _, j, h1, h2 => by omega
  | r + 1, i, h, j, h1, h2 => by
    rw [toGo] at h
    by_cases h0 : toAt to i = 0
    · rw [if_neg (by omega)] at h
      by_cases e : j = i
      · subst e; exact h0
      · exact toGo_at r (i + 1) h j (by omega) (by omega)
    · rw [if_pos h0] at h; exact absurd h h0
theorem toAt_zero {to : List Int} {i : Nat} (h : toAt to i = 0) : (0 ≤ to.getD i 0 ∧ to.getD i 0 < 5) ∧ ∀ j, j < i → i < to.length → to.getD j 0 ≠ to.getD i 0 := by
  unfold toAt at h
  split at h
  · omega
  · rename_i h1
    split at h
    · omega
    · rename_i h2
      refine ⟨by unfold isVar at h1; simpa using h1, fun j hj hi e => h2 ?_⟩
      rw [List.contains_iff_mem, ← e, getD_lt (by omega)]
      rw [List.mem_iff_getElem?]
      exact ⟨j, by rw [List.getElem?_take, if_pos hj, List.getElem?_eq_getElem (by omega)]⟩
/-- Each variable goes to another one. -/
structure ToOk (to : List Int) : Prop where
  len : to.length = 5
  rg : ∀ i, i < 5 → 0 ≤ to.getD i 0 ∧ to.getD i 0 < 5
  inj : ∀ i j, i < 5 → j < 5 → to.getD i 0 = to.getD j 0 → i = j
theorem to_ok {to : List Int} (hl : to.length = 5) (h : toGo to 5 0 = 0) : ToOk to := by
  have ha : ∀ i, i < 5 → toAt to i = 0 := fun i hi => toGo_at 5 0 h i (by omega) (by omega)
  refine ⟨hl, fun i hi => (toAt_zero (ha i hi)).1, fun i j hi hj e => ?_⟩
  rcases Nat.lt_trichotomy i j with h1 | h1 | h1
  · exact absurd e ((toAt_zero (ha j hj)).2 i h1 (by omega))
  · exact h1
  · exact absurd e.symm ((toAt_zero (ha i hi)).2 j h1 (by omega))
structure RowInv (coefs to : List Int) (m : Nat) : Prop where
  len : (rowP coefs to m).length = 5
  le : lastP coefs to m ≤ 5
  out : ∀ k, k < 5 → lastP coefs to m ≤ k → (rowP coefs to m).getD k 0 = 0
  top : 0 < lastP coefs to m → (rowP coefs to m).getD (lastP coefs to m - 1) 0 ≠ 0
  free : ∀ j, m ≤ j → j < 5 → (rowP coefs to m).getD (to.getD j 0).toNat 0 = 0
theorem node_ok {n : GNode} (h : nodeErr n = 0) : 1 ≤ n.op ∧ n.op ≤ 9 ∧ nodeOk n = true ∧ nodeMore n = false := by
  unfold nodeErr at h
  split at h
  · omega
  · split at h
    · omega
    · split at h
      · omega
      · rename_i h1 h2 h3
        exact ⟨by omega, by omega, by simpa using h2, by simpa using h3⟩
theorem node_coefs {n : GNode} (h : nodeErr n = 0) : n.coefs.length ≤ 5 := by
  obtain ⟨_, _, h3, h4⟩ := node_ok h
  by_cases hl : n.op = 1 ∨ n.op = 2
  · unfold nodeOk at h3
    rw [if_pos hl] at h3
    simp only [Bool.and_eq_true, decide_eq_true_eq] at h3
    exact h3.1.1.1
  · unfold nodeMore at h4
    have e : (usedN n).coefs = [] := by
      unfold usedN
      rw [if_neg hl]
      split
      · rfl
      · split
        · rfl
        · split <;> rfl
    rw [e] at h4
    simp only [Bool.or_eq_false_iff, decide_eq_false_iff_not, ne_eq, Classical.not_not] at h4
    have := h4.2
    simp at this
    rw [this]; simp
theorem isVar_bd {v : Int} (h : isVar v = true) : 0 ≤ v ∧ v < 5 := by unfold isVar at h; simpa using h
end Go.Proofs.YtcaopcpofepniaaDoor
namespace Go.Proofs.YtcaopcpofepniaaDoor

noncomputable def wordAt (ws : List GOut) (ns : List Int) (w v : Int) : Int := atOf (ws.getD w.toNat GOut.zero) (ns.getD v.toNat 0)
def lineSum (n : GNode) (ns : List Int) : Int := n.num + dotN n.coefs (fun v => ns.getD v 0) n.coefs.length
noncomputable def leafV (ws : List GOut) (ns : List Int) (n : GNode) : Bool :=
  if n.op = 1 then decide (lineSum n ns = 0) else if n.op = 2 then decide (lineSum n ns < 0)
  else if n.op = 3 then decide (wordAt ws ns n.word n.var = n.num) else decide (wordAt ws ns n.word n.var = wordAt ws ns n.word2 n.other)
noncomputable def evalF (f : List GNode) (ws : List GOut) (ns : List Int) : Nat → Nat → Bool
  | 0, _ => false
  | k + 1, i => match f[i]? with
    | none => false
    | some n => if partsOf n.op = 0 then leafV ws ns n else if partsOf n.op = 1 then !(evalF f ws ns k (i + 1))
      else if n.op = 6 then evalF f ws ns k (i + 1) && evalF f ws ns k (endF f k (i + 1)) else evalF f ws ns k (i + 1) || evalF f ws ns k (endF f k (i + 1))
theorem Part.evalF {f : List GNode} {ws : List GOut} {ns : List Int} {i e : Nat} (h : Part f i e) : ∀ k q, e - i ≤ k → e - i ≤ q → evalF f ws ns k i = evalF f ws ns q i := by
  induction h with
  | leaf h hp =>
    intro k q hk hq
    obtain ⟨k, rfl⟩ : ∃ q, k = q + 1 := ⟨k - 1, by omega⟩
    obtain ⟨q, rfl⟩ : ∃ r, q = r + 1 := ⟨q - 1, by omega⟩
    simp only [Go.Proofs.YtcaopcpofepniaaDoor.evalF, h]
    rw [if_pos hp, if_pos hp]
  | one h hp h1 ih =>
    intro k q hk hq
    have := h1.lt
    obtain ⟨k, rfl⟩ : ∃ q, k = q + 1 := ⟨k - 1, by omega⟩
    obtain ⟨q, rfl⟩ : ∃ r, q = r + 1 := ⟨q - 1, by omega⟩
    simp only [Go.Proofs.YtcaopcpofepniaaDoor.evalF, h]
    rw [hp, if_neg (by decide), if_pos rfl, if_neg (by decide), if_pos rfl, ih k q (by omega) (by omega)]
  | two h hp h1 h2 ih1 ih2 =>
    intro k q hk hq
    have a := h1.lt
    have b := h2.lt
    obtain ⟨k, rfl⟩ : ∃ q, k = q + 1 := ⟨k - 1, by omega⟩
    obtain ⟨q, rfl⟩ : ∃ r, q = r + 1 := ⟨q - 1, by omega⟩
    simp only [Go.Proofs.YtcaopcpofepniaaDoor.evalF, h]
    rw [hp]
    simp only [show ((2 : Int) = 0) = False by decide, show ((2 : Int) = 1) = False by decide, if_false]
    rw [h1.endF k (by omega), h1.endF q (by omega), ih1 k q (by omega) (by omega), ih2 k q (by omega) (by omega)]
/-- The truth of the part at a place. -/
noncomputable def evalP (f : List GNode) (ws : List GOut) (ns : List Int) (i : Nat) : Bool := evalF f ws ns f.length i
section
variable {f : List GNode} {ws : List GOut} {ns : List Int} {i m e : Nat} {n : GNode}
theorem evalP_at (h : Part f i e) : ∃ k, f.length = k + 1 ∧ evalP f ws ns i = evalF f ws ns (k + 1) i := by
  have := h.lt
  exact ⟨f.length - 1, by omega, by unfold evalP; rw [show f.length - 1 + 1 = f.length by omega]⟩
theorem evalP_leaf (h : f[i]? = some n) (hp : partsOf n.op = 0) : evalP f ws ns i = leafV ws ns n := by
  obtain ⟨k, _, e1⟩ := evalP_at (ws := ws) (ns := ns) (.leaf h hp)
  rw [e1]
  simp only [evalF, h]
  rw [if_pos hp]
theorem evalP_one (h : f[i]? = some n) (hp : partsOf n.op = 1) (h1 : Part f (i + 1) e) : evalP f ws ns i = !(evalP f ws ns (i + 1)) := by
  obtain ⟨k, hk, e1⟩ := evalP_at (ws := ws) (ns := ns) (.one h hp h1)
  have hl := h1.lt
  rw [e1]
  simp only [evalF, h]
  rw [hp, if_neg (by decide), if_pos rfl]
  unfold evalP
  rw [h1.evalF k f.length (by omega) (by omega)]
theorem evalP_two (h : f[i]? = some n) (hp : partsOf n.op = 2) (h1 : Part f (i + 1) m) (h2 : Part f m e) :
    evalP f ws ns i = if n.op = 6 then evalP f ws ns (i + 1) && evalP f ws ns m else evalP f ws ns (i + 1) || evalP f ws ns m := by
  obtain ⟨k, hk, e1⟩ := evalP_at (ws := ws) (ns := ns) (.two h hp h1 h2)
  have hl1 := h1.lt
  have hl2 := h2.lt
  rw [e1]
  simp only [evalF, h]
  rw [hp]
  simp only [show ((2 : Int) = 0) = False by decide, show ((2 : Int) = 1) = False by decide, if_false]
  rw [h1.endF k (by omega)]
  unfold evalP
  rw [h1.evalF k f.length (by omega) (by omega), h2.evalF k f.length (by omega) (by omega)]
end
/-- What is wrong with the words that a formula is said of. -/
def outsErr : List GOut → Int
  | [] => 0
  | o :: r => if outErr o ≠ 0 then outErr o else outsErr r
def wordNeed (n : GNode) (m : Nat) : Bool := (decide (n.op = 3) && decide ((m : Int) ≤ n.word)) || (decide (n.op = 4) && decide ((m : Int) ≤ max n.word n.word2))
def wordsErr (f : List GNode) (ws : List GOut) : Int := if 3 < ws.length then 3 else if outsErr ws ≠ 0 then outsErr ws else if (f.any fun n => wordNeed n ws.length) = true then 4 else 0
def quantN (n : GNode) : Bool := decide (n.op = 8) || decide (n.op = 9)
def numsBad (ns : List Int) : Bool := ns.any fun x => decide (x < 0) || decide (1099511627776 < x)
def evalErr (f : List GNode) (ws : List GOut) (ns : List Int) : Int :=
  if (formErr f).2 ≠ 0 then (formErr f).2 else if f.any quantN = true then 2 else if wordsErr f ws ≠ 0 then wordsErr f ws
  else if ((freeL f).any fun v => decide ((ns.length : Int) ≤ v)) = true then 2 else if numsBad ns = true then 1 else 0
noncomputable def evalV (f : List GNode) (ws : List GOut) (ns : List Int) : Bool := if evalErr f ws ns = 0 then evalP f ws ns 0 else false
end Go.Proofs.YtcaopcpofepniaaDoor
namespace Go.Proofs.YtcaopcpofepniaaDoor
open Go.RowKit

instance : Inhabited GOut := ⟨GOut.zero⟩
theorem gb_out (l : List GOut) (k : Nat) (h : k < l.length) : l[k]? = some l[k]! := get_bang l k h
attribute [go_sem] gb_out
def tOutL (ws : List GOut) : T := .list (ws.map tOut)
def idxGo : List GNode → Nat → Int
  | [], _ => -1
  | n :: r, i => if quantN n = true then (i : Int) else idxGo r (i + 1)
theorem idxGo_any : ∀ (l : List GNode) (i : Nat), -1 ≤ idxGo l i ∧ idxGo l i ≤ i + l.length ∧ decide (0 ≤ idxGo l i) = l.any quantN
  | [], i => by
    rw [idxGo]
    refine ⟨by omega, by simp, by simp⟩
  | n :: r, i => by
    rw [idxGo, List.any_cons]
    by_cases h : quantN n = true
    · rw [if_pos h, h, Bool.true_or, List.length_cons]
      exact ⟨by omega, by omega, decide_eq_true (by omega)⟩
    · obtain ⟨h1, h2, h3⟩ := idxGo_any r (i + 1)
      rw [if_neg h, Bool.eq_false_iff.2 h, Bool.false_or, List.length_cons]
      exact ⟨h1, by omega, h3⟩
theorem quant_no {n : GNode} (h8 : ¬ n.op = 8) (h9 : ¬ n.op = 9) : quantN n = false := by unfold quantN; rw [decide_eq_false h8, decide_eq_false h9]; rfl
section
variable {G : World → Prop} (hG : Lasting G)
include hG
theorem EvalQ_snd (n : GNode) : Snd Tryd.prog G 33 [tNode n] (.bool (quantN n)) := by
  obtain ⟨op, var, other, word, word2, num, coefs⟩ := n
  refine snd_of_body (n := 11) (tm := [(0, .t (tNode ⟨op, var, other, word, word2, num, coefs⟩))]) (rs := [.tmp 2]) tt_ok Tryd.func33 rfl rfl rfl rfl rfl ?_
  have htb : Tab.ok Tryd.prog G [] := Tab.nil
  by_cases h8 : op = 8
  · subst h8
    rw [show quantN ⟨8, var, other, word, word2, num, coefs⟩ = true by simp [quantN]]
    repeat' (first | (with_reducible first | apply w1 | apply w2 | apply w3 | apply w4 | apply w5 | apply w6 | apply w7 | apply w8 | apply w9 | apply wa | apply wb | apply wc) | ((with_reducible apply wd); focus decide) | ((with_reducible apply we); focus exact rfl) | ((with_reducible apply wf); focus exact rfl) | ((first | (with_reducible apply SW_run tt_ok hG htb) | ((with_reducible apply SW_draw rfl tt_ok hG htb); (focus kernel_rfl); focus simp only [List.range, List.range.loop, List.size_toArray, List.length_cons, List.length_nil, Nat.reduceAdd])); focus ((repeat' (first | (with_reducible first | exact wg | exact wh) | ((with_reducible first | apply wi | apply wj); focus (simp (discharger := omega) only [go_sem, tNode, simprocAttr]; with_reducible rfl)))); done)))
    exact (by simp (discharger := omega) only [go_sem, simprocAttr])
  · by_cases h9 : op = 9
    · subst h9
      rw [show quantN ⟨9, var, other, word, word2, num, coefs⟩ = true by simp [quantN]]
      repeat' (first | (with_reducible first | apply w1 | apply w2 | apply w3 | apply w4 | apply w5 | apply w6 | apply w7 | apply w8 | apply w9 | apply wa | apply wb | apply wc) | ((with_reducible apply wd); focus decide) | ((with_reducible apply we); focus exact rfl) | ((with_reducible apply wf); focus exact rfl) | ((first | (with_reducible apply SW_run tt_ok hG htb) | ((with_reducible apply SW_draw rfl tt_ok hG htb); (focus kernel_rfl); focus simp only [List.range, List.range.loop, List.size_toArray, List.length_cons, List.length_nil, Nat.reduceAdd])); focus ((repeat' (first | (with_reducible first | exact wg | exact wh) | ((with_reducible first | apply wi | apply wj); focus (simp (discharger := omega) only [go_sem, tNode, simprocAttr]; with_reducible rfl)))); done)))
      exact (by simp (discharger := omega) only [go_sem, simprocAttr])
    · rw [quant_no (n := ⟨op, var, other, word, word2, num, coefs⟩) h8 h9]
      repeat' (first | (with_reducible first | apply w1 | apply w2 | apply w3 | apply w4 | apply w5 | apply w6 | apply w7 | apply w8 | apply w9 | apply wa | apply wb | apply wc) | ((with_reducible apply wd); focus decide) | ((with_reducible apply we); focus exact rfl) | ((with_reducible apply wf); focus exact rfl) | ((first | (with_reducible apply SW_run tt_ok hG htb) | ((with_reducible apply SW_draw rfl tt_ok hG htb); (focus kernel_rfl); focus simp only [List.range, List.range.loop, List.size_toArray, List.length_cons, List.length_nil, Nat.reduceAdd])); focus ((repeat' (first | (with_reducible first | exact wg | exact wh) | ((with_reducible first | apply wi | apply wj); focus (simp (discharger := omega) only [go_sem, tNode, h8, h9, simprocAttr]; with_reducible rfl)))); done)))
      exact (by simp (discharger := omega) only [go_sem, simprocAttr])
theorem IndexF_snd (f : List GNode) (hl : f.length ≤ 40) : Snd Tryd.prog G 63 [tForm f, .fn 33 []] (tInt (idxGo f 0)) := by
  refine snd_of_body (n := 19) (tm := [(0, .t (tForm f)), (1, .t (.fn 33 []))]) (rs := [.tmp 4]) tt_ok Tryd.func63 rfl rfl rfl rfl rfl ?_
  unfold tForm
  have htb : Tab.ok Tryd.prog G [] := Tab.nil
  repeat' (first | (with_reducible first | apply w1 | apply w2 | apply w3 | apply w4 | apply w5 | apply w6 | apply w7 | apply w8 | apply w9 | apply wa | apply wb | apply wc) | ((with_reducible apply wd); focus decide) | ((with_reducible apply we); focus exact rfl) | ((with_reducible apply wf); focus exact rfl) | ((first | (with_reducible apply SW_run tt_ok hG htb) | ((with_reducible apply SW_draw rfl tt_ok hG htb); (focus kernel_rfl); focus simp only [List.range, List.range.loop, List.size_toArray, List.length_cons, List.length_nil, Nat.reduceAdd])); focus ((repeat' (first | (with_reducible first | exact wg | exact wh) | ((with_reducible first | apply wi | apply wj); focus (simp (discharger := omega) only [go_sem, simprocAttr]; with_reducible rfl)))); done)))
  refine SW_loop (fun mm s => ∃ i : Nat, mm = f.length - i ∧ s = ⟨19, [(0, .t (.list (f.map tNode))), (1, .t (.fn 33 [])), (6, .t (.list (f.map tNode))), (7, .t (tInt f.length)), (8, .t (tNat i))], []⟩ ∧ i ≤ f.length ∧ idxGo (f.drop i) i = idxGo f 0) f.length
    ⟨_, Norm.headS (own := []) (keep := [0, 1, 6, 7, 8]) (by refine ⟨?_, ?_⟩; (simp (discharger := omega) only [go_sem, simprocAttr]; with_reducible rfl); refine ⟨?_, ?_, ?_, ?_⟩ <;> (simp only [go_sem, simprocAttr]; with_reducible rfl)), 0, rfl, rfl, Nat.zero_le _, by rw [List.drop_zero]⟩ ?_
  rintro mm s ⟨i, rfl, rfl, hi, hx⟩
  by_cases hlt : i < f.length
  · obtain ⟨n, hn⟩ : ∃ n, f[i]! = n := ⟨_, rfl⟩
    have hd : f.drop i = n :: f.drop (i + 1) := drop_cons (by rw [List.getElem?_eq_getElem hlt, bang_at hn hlt])
    rw [hd, idxGo] at hx
    clear htb
    have c1 := EvalQ_snd hG n
    cases hq : quantN n with
    | true =>
      rw [hq] at c1 hx
      rw [if_pos rfl] at hx
      rw [← hx]
      have htb := Tab.cons c1 Tab.nil
      repeat' (first | (with_reducible first | apply w1 | apply w2 | apply w3 | apply w4 | apply w5 | apply w6 | apply w7 | apply w8 | apply w9 | apply wa | apply wb | apply wc) | ((with_reducible apply wd); focus decide) | ((with_reducible apply we); focus exact rfl) | ((with_reducible apply wf); focus exact rfl) | ((first | (with_reducible apply SW_run tt_ok hG htb) | ((with_reducible apply SW_draw rfl tt_ok hG htb); (focus kernel_rfl); focus simp only [List.range, List.range.loop, List.size_toArray, List.length_cons, List.length_nil, Nat.reduceAdd])); focus ((repeat' (first | (with_reducible first | exact wg | exact wh) | ((with_reducible first | apply wi | apply wj); focus (simp (discharger := omega) only [go_sem, hn, tNode, simprocAttr]; with_reducible rfl)))); done)))
      exact (by simp (discharger := omega) only [go_sem, simprocAttr])
    | false =>
      rw [hq] at c1 hx
      rw [if_neg (by decide)] at hx
      have htb := Tab.cons c1 Tab.nil
      repeat' (first | (with_reducible first | apply w1 | apply w2 | apply w3 | apply w4 | apply w5 | apply w6 | apply w7 | apply w8 | apply w9 | apply wa | apply wb | apply wc) | ((with_reducible apply wd); focus decide) | ((with_reducible apply we); focus exact rfl) | ((with_reducible apply wf); focus exact rfl) | ((first | (with_reducible apply SW_run tt_ok hG htb) | ((with_reducible apply SW_draw rfl tt_ok hG htb); (focus kernel_rfl); focus simp only [List.range, List.range.loop, List.size_toArray, List.length_cons, List.length_nil, Nat.reduceAdd])); focus ((repeat' (first | (with_reducible first | exact wg | exact wh) | ((with_reducible first | apply wi | apply wj); focus (simp (discharger := omega) only [go_sem, hn, tNode, simprocAttr]; with_reducible rfl)))); done)))
      exact ⟨f.length - (i + 1), _, by omega, Norm.headS (own := []) (keep := [0, 1, 6, 7, 8]) (by refine ⟨?_, ?_⟩; (simp (discharger := omega) only [go_sem, simprocAttr]; with_reducible rfl); refine ⟨?_, ?_, ?_, ?_⟩ <;> (simp only [go_sem, simprocAttr]; with_reducible rfl)), i + 1, rfl, rfl, by omega, hx⟩
  · obtain rfl : i = f.length := by omega
    rw [List.drop_length, idxGo] at hx
    rw [← hx]
    repeat' (first | (with_reducible first | apply w1 | apply w2 | apply w3 | apply w4 | apply w5 | apply w6 | apply w7 | apply w8 | apply w9 | apply wa | apply wb | apply wc) | ((with_reducible apply wd); focus decide) | ((with_reducible apply we); focus exact rfl) | ((with_reducible apply wf); focus exact rfl) | ((first | (with_reducible apply SW_run tt_ok hG htb) | ((with_reducible apply SW_draw rfl tt_ok hG htb); (focus kernel_rfl); focus simp only [List.range, List.range.loop, List.size_toArray, List.length_cons, List.length_nil, Nat.reduceAdd])); focus ((repeat' (first | (with_reducible first | exact wg | exact wh) | ((with_reducible first | apply wi | apply wj); focus (simp (discharger := omega) only [go_sem, simprocAttr]; with_reducible rfl)))); done)))
    exact (by simp (discharger := omega) only [go_sem, simprocAttr])
theorem ContainsF_snd (f : List GNode) (hl : f.length ≤ 40) : Snd Tryd.prog G 32 [tForm f, .fn 33 []] (.bool (f.any quantN)) := by
  have c1 := IndexF_snd hG f hl
  obtain ⟨h1, h2, h3⟩ := idxGo_any f 0
  generalize idxGo f 0 = r at *
  refine snd_of_body (n := 9) (tm := [(0, .t (tForm f)), (1, .t (.fn 33 []))]) (rs := [.tmp 4]) tt_ok Tryd.func32 rfl rfl rfl rfl rfl ?_
  have htb := Tab.cons c1 Tab.nil
  by_cases h0 : 0 ≤ r
  · rw [← h3, decide_eq_true h0]
    repeat' (first | (with_reducible first | apply w1 | apply w2 | apply w3 | apply w4 | apply w5 | apply w6 | apply w7 | apply w8 | apply w9 | apply wa | apply wb | apply wc) | ((with_reducible apply wd); focus decide) | ((with_reducible apply we); focus exact rfl) | ((with_reducible apply wf); focus exact rfl) | ((first | (with_reducible apply SW_run tt_ok hG htb) | ((with_reducible apply SW_draw rfl tt_ok hG htb); (focus kernel_rfl); focus simp only [List.range, List.range.loop, List.size_toArray, List.length_cons, List.length_nil, Nat.reduceAdd])); focus ((repeat' (first | (with_reducible first | exact wg | exact wh) | ((with_reducible first | apply wi | apply wj); focus (simp (discharger := omega) only [go_sem, simprocAttr]; with_reducible rfl)))); done)))
    exact (by simp (discharger := omega) only [go_sem, simprocAttr])
  · rw [← h3, decide_eq_false h0]
    repeat' (first | (with_reducible first | apply w1 | apply w2 | apply w3 | apply w4 | apply w5 | apply w6 | apply w7 | apply w8 | apply w9 | apply wa | apply wb | apply wc) | ((with_reducible apply wd); focus decide) | ((with_reducible apply we); focus exact rfl) | ((with_reducible apply wf); focus exact rfl) | ((first | (with_reducible apply SW_run tt_ok hG htb) | ((with_reducible apply SW_draw rfl tt_ok hG htb); (focus kernel_rfl); focus simp only [List.range, List.range.loop, List.size_toArray, List.length_cons, List.length_nil, Nat.reduceAdd])); focus ((repeat' (first | (with_reducible first | exact wg | exact wh) | ((with_reducible first | apply wi | apply wj); focus (simp (discharger := omega) only [go_sem, simprocAttr]; with_reducible rfl)))); done)))
    exact (by simp (discharger := omega) only [go_sem, simprocAttr])
omit hG in
theorem need_no {n : GNode} {m : Nat} (h3 : ¬ n.op = 3) (h4 : ¬ n.op = 4) : wordNeed n m = false := by unfold wordNeed; rw [decide_eq_false h3, decide_eq_false h4]; rfl
set_option maxHeartbeats 4000000 in
theorem FWords_snd (f : List GNode) (hl : f.length ≤ 40) (ws : List GOut) : Snd Tryd.prog G 34 [tForm f, tOutL ws] (tErr (wordsErr f ws)) := by
  refine snd_of_body (n := 59) (tm := [(0, .t (tForm f)), (1, .t (tOutL ws))]) (rs := [.tmp 4]) tt_ok Tryd.func34 rfl rfl rfl rfl rfl ?_
  unfold tForm tOutL wordsErr
  have htb : Tab.ok Tryd.prog G [] := Tab.nil
  by_cases h3 : 3 < ws.length
  · rw [if_pos h3]
    repeat' (first | (with_reducible first | apply w1 | apply w2 | apply w3 | apply w4 | apply w5 | apply w6 | apply w7 | apply w8 | apply w9 | apply wa | apply wb | apply wc) | ((with_reducible apply wd); focus decide) | ((with_reducible apply we); focus exact rfl) | ((with_reducible apply wf); focus exact rfl) | ((first | (with_reducible apply SW_run tt_ok hG htb) | ((with_reducible apply SW_draw rfl tt_ok hG htb); (focus kernel_rfl); focus simp only [List.range, List.range.loop, List.size_toArray, List.length_cons, List.length_nil, Nat.reduceAdd])); focus ((repeat' (first | (with_reducible first | exact wg | exact wh) | ((with_reducible first | apply wi | apply wj); focus (simp (discharger := omega) only [go_sem, tErr, simprocAttr]; with_reducible rfl)))); done)))
    exact (by simp (discharger := omega) only [go_sem, tErr, simprocAttr])
  rw [if_neg h3]
  repeat' (first | (with_reducible first | apply w1 | apply w2 | apply w3 | apply w4 | apply w5 | apply w6 | apply w7 | apply w8 | apply w9 | apply wa | apply wb | apply wc) | ((with_reducible apply wd); focus decide) | ((with_reducible apply we); focus exact rfl) | ((with_reducible apply wf); focus exact rfl) | ((first | (with_reducible apply SW_run tt_ok hG htb) | ((with_reducible apply SW_draw rfl tt_ok hG htb); (focus kernel_rfl); focus simp only [List.range, List.range.loop, List.size_toArray, List.length_cons, List.length_nil, Nat.reduceAdd])); focus ((repeat' (first | (with_reducible first | exact wg | exact wh) | ((with_reducible first | apply wi | apply wj); focus (simp (discharger := omega) only [go_sem, simprocAttr]; with_reducible rfl)))); done)))
  refine SW_loop (fun mm s => ∃ i : Nat, mm = ws.length - i ∧ s = ⟨59, [(0, .t (.list (f.map tNode))), (1, .t (.list (ws.map tOut))), (14, .t (.list (ws.map tOut))), (15, .t (tInt ws.length)), (16, .t (tNat i))], []⟩ ∧ i ≤ ws.length ∧ outsErr (ws.drop i) = outsErr ws) ws.length
    ⟨_, Norm.headS (own := []) (keep := [0, 1, 14, 15, 16]) (by refine ⟨?_, ?_⟩; (simp (discharger := omega) only [go_sem, simprocAttr]; with_reducible rfl); refine ⟨?_, ?_, ?_, ?_⟩ <;> (simp only [go_sem, simprocAttr]; with_reducible rfl)), 0, rfl, rfl, Nat.zero_le _, by rw [List.drop_zero]⟩ ?_
  rintro mm s ⟨i, rfl, rfl, hi, hx⟩
  by_cases hlt : i < ws.length
  · obtain ⟨o, ho⟩ : ∃ o, ws[i]! = o := ⟨_, rfl⟩
    have hd : ws.drop i = o :: ws.drop (i + 1) := drop_cons (by rw [List.getElem?_eq_getElem hlt, bang_at ho hlt])
    rw [hd, outsErr] at hx
    clear htb
    have c1 := WCheck_snd hG o
    by_cases h0 : outErr o = 0
    · rw [if_neg (by omega)] at hx
      rw [h0] at c1
      have htb := Tab.cons c1 Tab.nil
      repeat' (first | (with_reducible first | apply w1 | apply w2 | apply w3 | apply w4 | apply w5 | apply w6 | apply w7 | apply w8 | apply w9 | apply wa | apply wb | apply wc) | ((with_reducible apply wd); focus decide) | ((with_reducible apply we); focus exact rfl) | ((with_reducible apply wf); focus exact rfl) | ((first | (with_reducible apply SW_run tt_ok hG htb) | ((with_reducible apply SW_draw rfl tt_ok hG htb); (focus kernel_rfl); focus simp only [List.range, List.range.loop, List.size_toArray, List.length_cons, List.length_nil, Nat.reduceAdd])); focus ((repeat' (first | (with_reducible first | exact wg | exact wh) | ((with_reducible first | apply wi | apply wj); focus (simp (discharger := omega) only [go_sem, ho, tOut, tErr0, simprocAttr]; with_reducible rfl)))); done)))
      exact ⟨ws.length - (i + 1), _, by omega, Norm.headS (own := []) (keep := [0, 1, 14, 15, 16]) (by refine ⟨?_, ?_⟩; (simp (discharger := omega) only [go_sem, simprocAttr]; with_reducible rfl); refine ⟨?_, ?_, ?_, ?_⟩ <;> (simp only [go_sem, simprocAttr]; with_reducible rfl)), i + 1, rfl, rfl, by omega, hx⟩
    · rw [if_pos h0] at hx
      rw [← hx, if_pos h0]
      generalize outErr o = e at *
      have htb := Tab.cons c1 Tab.nil
      repeat' (first | (with_reducible first | apply w1 | apply w2 | apply w3 | apply w4 | apply w5 | apply w6 | apply w7 | apply w8 | apply w9 | apply wa | apply wb | apply wc) | ((with_reducible apply wd); focus decide) | ((with_reducible apply we); focus exact rfl) | ((with_reducible apply wf); focus exact rfl) | ((first | (with_reducible apply SW_run tt_ok hG htb) | ((with_reducible apply SW_draw rfl tt_ok hG htb); (focus kernel_rfl); focus simp only [List.range, List.range.loop, List.size_toArray, List.length_cons, List.length_nil, Nat.reduceAdd])); focus ((repeat' (first | (with_reducible first | exact wg | exact wh) | ((with_reducible first | apply wi | apply wj); focus (simp (discharger := omega) only [go_sem, ho, tOut, tErr, h0, simprocAttr]; with_reducible rfl)))); done)))
      exact (by simp (discharger := omega) only [go_sem, tErr, h0, simprocAttr])
  · obtain rfl : i = ws.length := by omega
    rw [List.drop_length, outsErr] at hx
    rw [← hx, if_neg (by omega)]
    repeat' (first | (with_reducible first | apply w1 | apply w2 | apply w3 | apply w4 | apply w5 | apply w6 | apply w7 | apply w8 | apply w9 | apply wa | apply wb | apply wc) | ((with_reducible apply wd); focus decide) | ((with_reducible apply we); focus exact rfl) | ((with_reducible apply wf); focus exact rfl) | ((first | (with_reducible apply SW_run tt_ok hG htb) | ((with_reducible apply SW_draw rfl tt_ok hG htb); (focus kernel_rfl); focus simp only [List.range, List.range.loop, List.size_toArray, List.length_cons, List.length_nil, Nat.reduceAdd])); focus ((repeat' (first | (with_reducible first | exact wg | exact wh) | ((with_reducible first | apply wi | apply wj); focus (simp (discharger := omega) only [go_sem, simprocAttr]; with_reducible rfl)))); done)))
    refine SW_loop (fun mm s => ∃ i : Nat, mm = f.length - i ∧ s = ⟨59, [(1, .t (.list (ws.map tOut))), (26, .t (.list (f.map tNode))), (27, .t (tInt f.length)), (28, .t (tNat i))], []⟩ ∧ i ≤ f.length ∧ (f.any fun n => wordNeed n ws.length) = ((f.drop i).any fun n => wordNeed n ws.length)) f.length
      ⟨_, Norm.headS (own := []) (keep := [1, 26, 27, 28]) (by refine ⟨?_, ?_⟩; (simp (discharger := omega) only [go_sem, simprocAttr]; with_reducible rfl); refine ⟨?_, ?_, ?_, ?_⟩ <;> (simp only [go_sem, simprocAttr]; with_reducible rfl)), 0, rfl, rfl, Nat.zero_le _, by rw [List.drop_zero]⟩ ?_
    rintro mm s ⟨i, rfl, rfl, hi, hx⟩
    by_cases hlt : i < f.length
    · obtain ⟨n, hn⟩ : ∃ n, f[i]! = n := ⟨_, rfl⟩
      have hd : f.drop i = n :: f.drop (i + 1) := drop_cons (by rw [List.getElem?_eq_getElem hlt, bang_at hn hlt])
      rw [hd, List.any_cons] at hx
      obtain ⟨op, var, other, word, word2, num, coefs⟩ := n
      by_cases h3 : op = 3
      · subst h3
        by_cases hw : (ws.length : Int) ≤ word
        · have e : wordNeed ⟨3, var, other, word, word2, num, coefs⟩ ws.length = true := by simp [wordNeed, hw]
          rw [hx, e, Bool.true_or, if_pos rfl]
          repeat' (first | (with_reducible first | apply w1 | apply w2 | apply w3 | apply w4 | apply w5 | apply w6 | apply w7 | apply w8 | apply w9 | apply wa | apply wb | apply wc) | ((with_reducible apply wd); focus decide) | ((with_reducible apply we); focus exact rfl) | ((with_reducible apply wf); focus exact rfl) | ((first | (with_reducible apply SW_run tt_ok hG htb) | ((with_reducible apply SW_draw rfl tt_ok hG htb); (focus kernel_rfl); focus simp only [List.range, List.range.loop, List.size_toArray, List.length_cons, List.length_nil, Nat.reduceAdd])); focus ((repeat' (first | (with_reducible first | exact wg | exact wh) | ((with_reducible first | apply wi | apply wj); focus (simp (discharger := omega) only [go_sem, hn, tNode, tErr, simprocAttr]; with_reducible rfl)))); done)))
          exact (by simp (discharger := omega) only [go_sem, tErr, simprocAttr])
        · have e : wordNeed ⟨3, var, other, word, word2, num, coefs⟩ ws.length = false := by simp [wordNeed]; omega
          rw [e, Bool.false_or] at hx
          repeat' (first | (with_reducible first | apply w1 | apply w2 | apply w3 | apply w4 | apply w5 | apply w6 | apply w7 | apply w8 | apply w9 | apply wa | apply wb | apply wc) | ((with_reducible apply wd); focus decide) | ((with_reducible apply we); focus exact rfl) | ((with_reducible apply wf); focus exact rfl) | ((first | (with_reducible apply SW_run tt_ok hG htb) | ((with_reducible apply SW_draw rfl tt_ok hG htb); (focus kernel_rfl); focus simp only [List.range, List.range.loop, List.size_toArray, List.length_cons, List.length_nil, Nat.reduceAdd])); focus ((repeat' (first | (with_reducible first | exact wg | exact wh) | ((with_reducible first | apply wi | apply wj); focus (simp (discharger := omega) only [go_sem, hn, tNode, simprocAttr]; with_reducible rfl)))); done)))
          exact ⟨f.length - (i + 1), _, by omega, Norm.headS (own := []) (keep := [1, 26, 27, 28]) (by refine ⟨?_, ?_⟩; (simp (discharger := omega) only [go_sem, simprocAttr]; with_reducible rfl); refine ⟨?_, ?_, ?_, ?_⟩ <;> (simp only [go_sem, simprocAttr]; with_reducible rfl)), i + 1, rfl, rfl, by omega, hx⟩
      · by_cases h4 : op = 4
        · subst h4
          obtain ⟨mx, hmx⟩ : ∃ mx, max word word2 = mx := ⟨_, rfl⟩
          have hmx1 : (if word2 > word then word2 else word) = mx := by rw [← hmx, Int.max_def]; split <;> split <;> omega
          by_cases hw : (ws.length : Int) ≤ mx
          · have e : wordNeed ⟨4, var, other, word, word2, num, coefs⟩ ws.length = true := by simp [wordNeed, hmx, hw]
            rw [hx, e, Bool.true_or, if_pos rfl]
            repeat' (first | (with_reducible first | apply w1 | apply w2 | apply w3 | apply w4 | apply w5 | apply w6 | apply w7 | apply w8 | apply w9 | apply wa | apply wb | apply wc) | ((with_reducible apply wd); focus decide) | ((with_reducible apply we); focus exact rfl) | ((with_reducible apply wf); focus exact rfl) | ((first | (with_reducible apply SW_run tt_ok hG htb) | ((with_reducible apply SW_draw rfl tt_ok hG htb); (focus kernel_rfl); focus simp only [List.range, List.range.loop, List.size_toArray, List.length_cons, List.length_nil, Nat.reduceAdd])); focus ((repeat' (first | (with_reducible first | exact wg | exact wh) | ((with_reducible first | apply wi | apply wj); focus (simp (discharger := omega) only [go_sem, hn, tNode, tErr, hmx1, simprocAttr]; with_reducible rfl)))); done)))
            exact (by simp (discharger := omega) only [go_sem, tErr, simprocAttr])
          · have e : wordNeed ⟨4, var, other, word, word2, num, coefs⟩ ws.length = false := by simp [wordNeed, hmx]; omega
            rw [e, Bool.false_or] at hx
            repeat' (first | (with_reducible first | apply w1 | apply w2 | apply w3 | apply w4 | apply w5 | apply w6 | apply w7 | apply w8 | apply w9 | apply wa | apply wb | apply wc) | ((with_reducible apply wd); focus decide) | ((with_reducible apply we); focus exact rfl) | ((with_reducible apply wf); focus exact rfl) | ((first | (with_reducible apply SW_run tt_ok hG htb) | ((with_reducible apply SW_draw rfl tt_ok hG htb); (focus kernel_rfl); focus simp only [List.range, List.range.loop, List.size_toArray, List.length_cons, List.length_nil, Nat.reduceAdd])); focus ((repeat' (first | (with_reducible first | exact wg | exact wh) | ((with_reducible first | apply wi | apply wj); focus (simp (discharger := omega) only [go_sem, hn, tNode, hmx1, simprocAttr]; with_reducible rfl)))); done)))
            exact ⟨f.length - (i + 1), _, by omega, Norm.headS (own := []) (keep := [1, 26, 27, 28]) (by refine ⟨?_, ?_⟩; (simp (discharger := omega) only [go_sem, simprocAttr]; with_reducible rfl); refine ⟨?_, ?_, ?_, ?_⟩ <;> (simp only [go_sem, simprocAttr]; with_reducible rfl)), i + 1, rfl, rfl, by omega, hx⟩
        · rw [need_no h3 h4, Bool.false_or] at hx
          repeat' (first | (with_reducible first | apply w1 | apply w2 | apply w3 | apply w4 | apply w5 | apply w6 | apply w7 | apply w8 | apply w9 | apply wa | apply wb | apply wc) | ((with_reducible apply wd); focus decide) | ((with_reducible apply we); focus exact rfl) | ((with_reducible apply wf); focus exact rfl) | ((first | (with_reducible apply SW_run tt_ok hG htb) | ((with_reducible apply SW_draw rfl tt_ok hG htb); (focus kernel_rfl); focus simp only [List.range, List.range.loop, List.size_toArray, List.length_cons, List.length_nil, Nat.reduceAdd])); focus ((repeat' (first | (with_reducible first | exact wg | exact wh) | ((with_reducible first | apply wi | apply wj); focus (simp (discharger := omega) only [go_sem, hn, tNode, h3, h4, simprocAttr]; with_reducible rfl)))); done)))
          exact ⟨f.length - (i + 1), _, by omega, Norm.headS (own := []) (keep := [1, 26, 27, 28]) (by refine ⟨?_, ?_⟩; (simp (discharger := omega) only [go_sem, simprocAttr]; with_reducible rfl); refine ⟨?_, ?_, ?_, ?_⟩ <;> (simp only [go_sem, simprocAttr]; with_reducible rfl)), i + 1, rfl, rfl, by omega, hx⟩
    · obtain rfl : i = f.length := by omega
      rw [List.drop_length, List.any_nil] at hx
      rw [hx, if_neg (by decide)]
      repeat' (first | (with_reducible first | apply w1 | apply w2 | apply w3 | apply w4 | apply w5 | apply w6 | apply w7 | apply w8 | apply w9 | apply wa | apply wb | apply wc) | ((with_reducible apply wd); focus decide) | ((with_reducible apply we); focus exact rfl) | ((with_reducible apply wf); focus exact rfl) | ((first | (with_reducible apply SW_run tt_ok hG htb) | ((with_reducible apply SW_draw rfl tt_ok hG htb); (focus kernel_rfl); focus simp only [List.range, List.range.loop, List.size_toArray, List.length_cons, List.length_nil, Nat.reduceAdd])); focus ((repeat' (first | (with_reducible first | exact wg | exact wh) | ((with_reducible first | apply wi | apply wj); focus (simp (discharger := omega) only [go_sem, simprocAttr]; with_reducible rfl)))); done)))
      exact (by simp (discharger := omega) only [go_sem, tErr, simprocAttr])
end
end Go.Proofs.YtcaopcpofepniaaDoor
namespace Go.Proofs.YtcaopcpofepniaaDoor
open Go.RowKit

section
variable {G : World → Prop} (hG : Lasting G)
include hG
theorem RRadix_snd (base : Int) : Snd Tryd.prog G 68 [tInt base] (tInt (radix base)) := by
  have htb : Tab.ok Tryd.prog G [] := Tab.nil
  refine snd_of_body (n := 12) (tm := [(0, .t (tInt base))]) (rs := [.tmp 2]) tt_ok Tryd.func68 rfl rfl rfl rfl rfl ?_
  unfold radix
  by_cases h1 : base = 1
  · repeat' (first | (with_reducible first | apply w1 | apply w2 | apply w3 | apply w4 | apply w5 | apply w6 | apply w7 | apply w8 | apply w9 | apply wa | apply wb | apply wc) | ((with_reducible apply wd); focus decide) | ((with_reducible apply we); focus exact rfl) | ((with_reducible apply wf); focus exact rfl) | ((first | (with_reducible apply SW_run tt_ok hG htb) | ((with_reducible apply SW_draw rfl tt_ok hG htb); (focus kernel_rfl); focus simp only [List.range, List.range.loop, List.size_toArray, List.length_cons, List.length_nil, Nat.reduceAdd])); focus ((repeat' (first | (with_reducible first | exact wg | exact wh) | ((with_reducible first | apply wi | apply wj); focus (simp (discharger := omega) only [go_sem, h1, simprocAttr]; with_reducible rfl)))); done)))
    exact (by simp (discharger := omega) only [go_sem, h1, simprocAttr])
  · by_cases h2 : 2 ≤ base
    · by_cases h3 : base ≤ 6
      · repeat' (first | (with_reducible first | apply w1 | apply w2 | apply w3 | apply w4 | apply w5 | apply w6 | apply w7 | apply w8 | apply w9 | apply wa | apply wb | apply wc) | ((with_reducible apply wd); focus decide) | ((with_reducible apply we); focus exact rfl) | ((with_reducible apply wf); focus exact rfl) | ((first | (with_reducible apply SW_run tt_ok hG htb) | ((with_reducible apply SW_draw rfl tt_ok hG htb); (focus kernel_rfl); focus simp only [List.range, List.range.loop, List.size_toArray, List.length_cons, List.length_nil, Nat.reduceAdd])); focus ((repeat' (first | (with_reducible first | exact wg | exact wh) | ((with_reducible first | apply wi | apply wj); focus (simp (discharger := omega) only [go_sem, simprocAttr]; with_reducible rfl)))); done)))
        exact (by simp (discharger := omega) only [go_sem, simprocAttr])
      · repeat' (first | (with_reducible first | apply w1 | apply w2 | apply w3 | apply w4 | apply w5 | apply w6 | apply w7 | apply w8 | apply w9 | apply wa | apply wb | apply wc) | ((with_reducible apply wd); focus decide) | ((with_reducible apply we); focus exact rfl) | ((with_reducible apply wf); focus exact rfl) | ((first | (with_reducible apply SW_run tt_ok hG htb) | ((with_reducible apply SW_draw rfl tt_ok hG htb); (focus kernel_rfl); focus simp only [List.range, List.range.loop, List.size_toArray, List.length_cons, List.length_nil, Nat.reduceAdd])); focus ((repeat' (first | (with_reducible first | exact wg | exact wh) | ((with_reducible first | apply wi | apply wj); focus (simp (discharger := omega) only [go_sem, simprocAttr]; with_reducible rfl)))); done)))
        exact (by simp (discharger := omega) only [go_sem, simprocAttr])
    · repeat' (first | (with_reducible first | apply w1 | apply w2 | apply w3 | apply w4 | apply w5 | apply w6 | apply w7 | apply w8 | apply w9 | apply wa | apply wb | apply wc) | ((with_reducible apply wd); focus decide) | ((with_reducible apply we); focus exact rfl) | ((with_reducible apply wf); focus exact rfl) | ((first | (with_reducible apply SW_run tt_ok hG htb) | ((with_reducible apply SW_draw rfl tt_ok hG htb); (focus kernel_rfl); focus simp only [List.range, List.range.loop, List.size_toArray, List.length_cons, List.length_nil, Nat.reduceAdd])); focus ((repeat' (first | (with_reducible first | exact wg | exact wh) | ((with_reducible first | apply wi | apply wj); focus (simp (discharger := omega) only [go_sem, simprocAttr]; with_reducible rfl)))); done)))
      exact (by simp (discharger := omega) only [go_sem, simprocAttr])
end
end Go.Proofs.YtcaopcpofepniaaDoor
namespace Go.Proofs.YtcaopcpofepniaaDoor
open Go.RowKit

/-- How many places there are: as many as are at most the greatest number, and one more. -/
structure IsN (base : Int) (N : Nat) : Prop where
  pos : 0 < N
  big : 1099511627776 < W base (N - 1)
  small : ∀ i, i + 1 < N → W base i ≤ 1099511627776
theorem exists_N {base : Int} (h : radix base ≠ 0) : ∃ N, IsN base N ∧ N ≤ 59 := by
  obtain ⟨k, h1, h2⟩ := least_nat (p := fun k => 1099511627776 < W base k) ⟨58, W_big h (Nat.le_refl _)⟩
  refine ⟨k + 1, ⟨by omega, by simpa using h1, fun i hi => ?_⟩, ?_⟩
  · have := h2 i (by omega); omega
  · by_cases h58 : k ≤ 58
    · omega
    · exact absurd (W_big h (n := 58) (Nat.le_refl _)) (h2 58 (by omega))
theorem W_fib (n : Nat) : W 1 (n + 2) = W 1 (n + 1) + W 1 n := by simp [W, fibW]
section
variable {G : World → Prop} (hG : Lasting G)
include hG
set_option maxHeartbeats 4000000 in
theorem RWeights_snd (base : Int) (hr : radix base ≠ 0) {N : Nat} (hN : IsN base N) (hN59 : N ≤ 59) : Snd Tryd.prog G 72 [tInt base] (tInts ((List.range N).map (W base))) := by
  have htb : Tab.ok Tryd.prog G [] := Tab.nil
  have hb6 : 1 ≤ base ∧ base ≤ 6 := by rcases radix_pos hr with ⟨h, _⟩ | ⟨h1, h2, _⟩ <;> omega
  have hpos := hN.pos
  refine snd_of_body (n := 43) (tm := [(0, .t (tInt base))]) (rs := [.tmp 2]) tt_ok Tryd.func72 rfl rfl rfl rfl rfl ?_
  repeat' (first | (with_reducible first | apply w1 | apply w2 | apply w3 | apply w4 | apply w5 | apply w6 | apply w7 | apply w8 | apply w9 | apply wa | apply wb | apply wc) | ((with_reducible apply wd); focus decide) | ((with_reducible apply we); focus exact rfl) | ((with_reducible apply wf); focus exact rfl) | ((first | (with_reducible apply SW_run tt_ok hG htb) | ((with_reducible apply SW_draw rfl tt_ok hG htb); (focus kernel_rfl); focus simp only [List.range, List.range.loop, List.size_toArray, List.length_cons, List.length_nil, Nat.reduceAdd])); focus ((repeat' (first | (with_reducible first | exact wg | exact wh) | ((with_reducible first | apply wi | apply wj); focus (simp (discharger := omega) only [go_sem, simprocAttr]; with_reducible rfl)))); done)))
  refine SW_loop (fun m s => ∃ (k : Nat) (ot : List T), m = N - k ∧ s = ⟨43, [(0, .t (tInt base)), (3, .sref 0)], [.row 3 1 false ot]⟩ ∧ 1 ≤ k ∧ k ≤ N ∧ ot = ((List.range k).map (W base)).map tInt) (N - 1)
    ⟨_, Norm.headS (own := [(3, 3, 1, false)]) (keep := [0, 3]) (by refine ⟨?_, ?_⟩; (simp (discharger := omega) only [go_sem, simprocAttr]; with_reducible rfl); refine ⟨?_, ?_, ?_, ?_⟩ <;> (simp only [go_sem, simprocAttr]; with_reducible rfl)), 1, _, rfl, rfl, Nat.le_refl _, hpos, by simp [W, tInt, powW, fibW]⟩ ?_
  rintro m s ⟨k, ot, rfl, rfl, hk1, hkN, hot⟩
  have hol : ot.length = k := by rw [hot]; simp
  obtain ⟨j, rfl⟩ : ∃ j, k = j + 1 := ⟨k - 1, by omega⟩
  have hlast : ot[j]? = some (T.int .i64 (W base j)) := by rw [hot]; simp [tInt]
  have ej : (ot.length : Int) - 1 = (j : Nat) := by omega
  have hWp := W_pos hr j
  by_cases hlt : j + 1 < N
  · have hWs := hN.small j hlt
    have hsn : ∀ v, v = W base (j + 1) → ot ++ [T.int .i64 v] = ((List.range (j + 1 + 1)).map (W base)).map tInt := fun v hv => by
      rw [List.range_succ, List.map_append, List.map_append, ← hot, hv]; rfl
    by_cases h1 : base = 1
    · subst h1
      by_cases hj0 : j = 0
      · subst hj0
        repeat' (first | (with_reducible first | apply w1 | apply w2 | apply w3 | apply w4 | apply w5 | apply w6 | apply w7 | apply w8 | apply w9 | apply wa | apply wb | apply wc) | ((with_reducible apply wd); focus decide) | ((with_reducible apply we); focus exact rfl) | ((with_reducible apply wf); focus exact rfl) | ((first | (with_reducible apply SW_run tt_ok hG htb) | ((with_reducible apply SW_draw rfl tt_ok hG htb); (focus kernel_rfl); focus simp only [List.range, List.range.loop, List.size_toArray, List.length_cons, List.length_nil, Nat.reduceAdd])); focus ((repeat' (first | (with_reducible first | exact wg | exact wh) | ((with_reducible first | apply wi | apply wj); focus (simp (discharger := omega) only [go_sem, hlast, ej, simprocAttr]; with_reducible rfl)))); done)))
        exact ⟨N - (0 + 1 + 1), _, by omega, Norm.headS (own := [(3, 3, 1, false)]) (keep := [0, 3]) (by refine ⟨?_, ?_⟩; (simp (discharger := omega) only [go_sem, simprocAttr]; with_reducible rfl); refine ⟨?_, ?_, ?_, ?_⟩ <;> (simp only [go_sem, simprocAttr]; with_reducible rfl)), 0 + 1 + 1, _, rfl, rfl, by omega, by omega, hsn _ (by simp [W, fibW])⟩
      · obtain ⟨i, rfl⟩ : ∃ i, j = i + 1 := ⟨j - 1, by omega⟩
        have hWi := W_pos (b := 1) hr i
        have hWi2 := W_mono (b := 1) hr i
        have hprev : ot[i]? = some (T.int .i64 (W 1 i)) := by rw [hot, List.getElem?_map, List.getElem?_map, List.getElem?_range (by omega)]; rfl
        have ei : (ot.length : Int) - 2 = (i : Nat) := by omega
        generalize hw1 : W 1 (i + 1) = a at *
        generalize hw0 : W 1 i = b at *
        repeat' (first | (with_reducible first | apply w1 | apply w2 | apply w3 | apply w4 | apply w5 | apply w6 | apply w7 | apply w8 | apply w9 | apply wa | apply wb | apply wc) | ((with_reducible apply wd); focus decide) | ((with_reducible apply we); focus exact rfl) | ((with_reducible apply wf); focus exact rfl) | ((first | (with_reducible apply SW_run tt_ok hG htb) | ((with_reducible apply SW_draw rfl tt_ok hG htb); (focus kernel_rfl); focus simp only [List.range, List.range.loop, List.size_toArray, List.length_cons, List.length_nil, Nat.reduceAdd])); focus ((repeat' (first | (with_reducible first | exact wg | exact wh) | ((with_reducible first | apply wi | apply wj); focus (simp (discharger := omega) only [go_sem, hlast, hprev, ej, ei, simprocAttr]; with_reducible rfl)))); done)))
        exact ⟨N - (i + 1 + 1 + 1), _, by omega, Norm.headS (own := [(3, 3, 1, false)]) (keep := [0, 3]) (by refine ⟨?_, ?_⟩; (simp (discharger := omega) only [go_sem, simprocAttr]; with_reducible rfl); refine ⟨?_, ?_, ?_, ?_⟩ <;> (simp only [go_sem, simprocAttr]; with_reducible rfl)), i + 1 + 1 + 1, _, rfl, rfl, by omega, by omega, hsn _ (by rw [W_fib, hw1, hw0])⟩
    · have hWm : W base j * base = W base (j + 1) := (W_succ_base h1 j).symm
      have hm0 : 0 ≤ W base j * base := Int.mul_nonneg (by omega) (by omega)
      have hm1 : W base j * base ≤ 1099511627776 * 6 := Int.mul_le_mul hWs hb6.2 (by omega) (by omega)
      generalize hw1 : W base j = a at *
      repeat' (first | (with_reducible first | apply w1 | apply w2 | apply w3 | apply w4 | apply w5 | apply w6 | apply w7 | apply w8 | apply w9 | apply wa | apply wb | apply wc) | ((with_reducible apply wd); focus decide) | ((with_reducible apply we); focus exact rfl) | ((with_reducible apply wf); focus exact rfl) | ((first | (with_reducible apply SW_run tt_ok hG htb) | ((with_reducible apply SW_draw rfl tt_ok hG htb); (focus kernel_rfl); focus simp only [List.range, List.range.loop, List.size_toArray, List.length_cons, List.length_nil, Nat.reduceAdd])); focus ((repeat' (first | (with_reducible first | exact wg | exact wh) | ((with_reducible first | apply wi | apply wj); focus (simp (discharger := omega) only [go_sem, hlast, ej, h1, simprocAttr]; with_reducible rfl)))); done)))
      exact ⟨N - (j + 1 + 1), _, by omega, Norm.headS (own := [(3, 3, 1, false)]) (keep := [0, 3]) (by refine ⟨?_, ?_⟩; (simp (discharger := omega) only [go_sem, simprocAttr]; with_reducible rfl); refine ⟨?_, ?_, ?_, ?_⟩ <;> (simp only [go_sem, simprocAttr]; with_reducible rfl)), j + 1 + 1, _, rfl, rfl, by omega, by omega, hsn _ hWm⟩
  · obtain rfl : N = j + 1 := by omega
    have hbig := hN.big
    rw [Nat.add_sub_cancel] at hbig
    obtain ⟨a, hw1⟩ : ∃ a, W base j = a := ⟨_, rfl⟩
    rw [hw1] at hlast hbig
    repeat' (first | (with_reducible first | apply w1 | apply w2 | apply w3 | apply w4 | apply w5 | apply w6 | apply w7 | apply w8 | apply w9 | apply wa | apply wb | apply wc) | ((with_reducible apply wd); focus decide) | ((with_reducible apply we); focus exact rfl) | ((with_reducible apply wf); focus exact rfl) | ((first | (with_reducible apply SW_run tt_ok hG htb) | ((with_reducible apply SW_draw rfl tt_ok hG htb); (focus kernel_rfl); focus simp only [List.range, List.range.loop, List.size_toArray, List.length_cons, List.length_nil, Nat.reduceAdd])); focus ((repeat' (first | (with_reducible first | exact wg | exact wh) | ((with_reducible first | apply wi | apply wj); focus (simp (discharger := omega) only [go_sem, hlast, ej, simprocAttr]; with_reducible rfl)))); done)))
    subst hot
    exact (by simp (discharger := omega) only [go_sem, simprocAttr])
set_option maxHeartbeats 4000000 in
theorem RDigitsOf_snd (base n : Int) : Snd Tryd.prog G 78 [tInt base, tInt n] (.tup [tInts (ofL base n), tInt (ofErr base n)]) := by
  have cR := RRadix_snd hG base
  refine snd_of_body (n := 56) (tm := [(0, .t (tInt base)), (1, .t (tInt n))]) (rs := [.tmp 4, .tmp 5]) tt_ok Tryd.func78 rfl rfl rfl rfl rfl ?_
  by_cases hbad : radix base = 0 ∨ n < 0 ∨ 1099511627776 < n
  · have he : ofErr base n = 1 := by simp [ofErr, hbad]
    have hv : ofL base n = [] := ofL_eq (fun h => by omega) fun _ => rfl
    rw [he, hv]
    have htb := Tab.cons cR Tab.nil
    by_cases h1 : radix base = 0
    · rw [h1] at htb
      repeat' (first | (with_reducible first | apply w1 | apply w2 | apply w3 | apply w4 | apply w5 | apply w6 | apply w7 | apply w8 | apply w9 | apply wa | apply wb | apply wc) | ((with_reducible apply wd); focus decide) | ((with_reducible apply we); focus exact rfl) | ((with_reducible apply wf); focus exact rfl) | ((first | (with_reducible apply SW_run tt_ok hG htb) | ((with_reducible apply SW_draw rfl tt_ok hG htb); (focus kernel_rfl); focus simp only [List.range, List.range.loop, List.size_toArray, List.length_cons, List.length_nil, Nat.reduceAdd])); focus ((repeat' (first | (with_reducible first | exact wg | exact wh) | ((with_reducible first | apply wi | apply wj); focus (simp (discharger := omega) only [go_sem, simprocAttr]; with_reducible rfl)))); done)))
      exact (by simp (discharger := omega) only [go_sem, simprocAttr])
    · by_cases h2 : n < 0
      · generalize radix base = r at *
        repeat' (first | (with_reducible first | apply w1 | apply w2 | apply w3 | apply w4 | apply w5 | apply w6 | apply w7 | apply w8 | apply w9 | apply wa | apply wb | apply wc) | ((with_reducible apply wd); focus decide) | ((with_reducible apply we); focus exact rfl) | ((with_reducible apply wf); focus exact rfl) | ((first | (with_reducible apply SW_run tt_ok hG htb) | ((with_reducible apply SW_draw rfl tt_ok hG htb); (focus kernel_rfl); focus simp only [List.range, List.range.loop, List.size_toArray, List.length_cons, List.length_nil, Nat.reduceAdd])); focus ((repeat' (first | (with_reducible first | exact wg | exact wh) | ((with_reducible first | apply wi | apply wj); focus (simp (discharger := omega) only [go_sem, h1, simprocAttr]; with_reducible rfl)))); done)))
        exact (by simp (discharger := omega) only [go_sem, simprocAttr])
      · have h3 : 1099511627776 < n := by omega
        generalize radix base = r at *
        repeat' (first | (with_reducible first | apply w1 | apply w2 | apply w3 | apply w4 | apply w5 | apply w6 | apply w7 | apply w8 | apply w9 | apply wa | apply wb | apply wc) | ((with_reducible apply wd); focus decide) | ((with_reducible apply we); focus exact rfl) | ((with_reducible apply wf); focus exact rfl) | ((first | (with_reducible apply SW_run tt_ok hG htb) | ((with_reducible apply SW_draw rfl tt_ok hG htb); (focus kernel_rfl); focus simp only [List.range, List.range.loop, List.size_toArray, List.length_cons, List.length_nil, Nat.reduceAdd])); focus ((repeat' (first | (with_reducible first | exact wg | exact wh) | ((with_reducible first | apply wi | apply wj); focus (simp (discharger := omega) only [go_sem, h1, simprocAttr]; with_reducible rfl)))); done)))
        exact (by simp (discharger := omega) only [go_sem, simprocAttr])
  · have he : ofErr base n = 0 := by simp [ofErr, hbad]
    have hr : radix base ≠ 0 := fun h => hbad (.inl h)
    obtain ⟨N, hN, hN59⟩ := exists_N hr
    have cW := RWeights_snd hG base hr hN hN59
    have hpos := hN.pos
    obtain ⟨ws, hws⟩ : ∃ ws, (List.range N).map (W base) = ws := ⟨_, rfl⟩
    have hwl : ws.length = N := by rw [← hws]; simp
    have hwat : ∀ i, i < N → ws[i]! = W base i := fun i hi => by rw [← hws, getElem!_pos _ i (by simpa using hi)]; simp
    rw [he]
    rw [hws] at cW
    have hrr := hr
    have htb := Tab.cons cR (Tab.cons cW Tab.nil)
    generalize hrb : radix base = r at htb hr
    repeat' (first | (with_reducible first | apply w1 | apply w2 | apply w3 | apply w4 | apply w5 | apply w6 | apply w7 | apply w8 | apply w9 | apply wa | apply wb | apply wc) | ((with_reducible apply wd); focus decide) | ((with_reducible apply we); focus exact rfl) | ((with_reducible apply wf); focus exact rfl) | ((first | (with_reducible apply SW_run tt_ok hG htb) | ((with_reducible apply SW_draw rfl tt_ok hG htb); (focus kernel_rfl); focus simp only [List.range, List.range.loop, List.size_toArray, List.length_cons, List.length_nil, Nat.reduceAdd])); focus ((repeat' (first | (with_reducible first | exact wg | exact wh) | ((with_reducible first | apply wi | apply wj); focus (simp (discharger := omega) only [go_sem, hr, hwl, simprocAttr]; with_reducible rfl)))); done)))
    clear htb
    have htb : Tab.ok Tryd.prog G [] := Tab.nil
    refine SW_loop (fun m s => ∃ (j : Nat) (q : Int) (l : List Int) (ot : List T), m = j ∧ s = ⟨56, [(1, .t (tInt q)), (6, .t (tInts ws)), (7, .sref 0), (8, .t (tInt ((j : Int) - 1)))], [.row 3 1 false ot]⟩ ∧ j ≤ N ∧ GreedyB base n j q l ∧ ot = l.map tInt) N
      ⟨_, Norm.headS (own := [(7, 3, 1, false)]) (keep := [1, 6, 7, 8]) (by refine ⟨?_, ?_⟩; (simp (discharger := omega) only [go_sem, simprocAttr]; with_reducible rfl); refine ⟨?_, ?_, ?_, ?_⟩ <;> (simp only [go_sem, simprocAttr]; with_reducible rfl)), N, n, [], _, rfl, rfl, Nat.le_refl _, GreedyB.start (by omega) (by
        have h1 := hN.big
        have h2 := W_mono hrr (N - 1)
        rw [Nat.sub_add_cancel hpos] at h2
        omega) (by omega), rfl⟩ ?_
    rintro m s ⟨j, q, l, ot, rfl, rfl, hj, hg, hot⟩
    have hol : ot.length = l.length := by rw [hot]; simp
    have hgl := hg.len
    by_cases hm0 : m = 0
    · subst hm0
      have hof := ofL_eq (fun _ => hg.done) (fun h => absurd he h)
      rw [hof]
      subst hot
      repeat' (first | (with_reducible first | apply w1 | apply w2 | apply w3 | apply w4 | apply w5 | apply w6 | apply w7 | apply w8 | apply w9 | apply wa | apply wb | apply wc) | ((with_reducible apply wd); focus decide) | ((with_reducible apply we); focus exact rfl) | ((with_reducible apply wf); focus exact rfl) | ((first | (with_reducible apply SW_run tt_ok hG htb) | ((with_reducible apply SW_draw rfl tt_ok hG htb); (focus kernel_rfl); focus simp only [List.range, List.range.loop, List.size_toArray, List.length_cons, List.length_nil, Nat.reduceAdd])); focus ((repeat' (first | (with_reducible first | exact wg | exact wh) | ((with_reducible first | apply wi | apply wj); focus (simp (discharger := omega) only [go_sem, simprocAttr]; with_reducible rfl)))); done)))
      exact (by simp (discharger := omega) only [go_sem, simprocAttr])
    · obtain ⟨i, rfl⟩ : ∃ i, m = i + 1 := ⟨m - 1, by omega⟩
      have hwi := hwat i (by omega)
      have hWp := W_pos hrr i
      have hq0 := hg.r0
      have hql := hg.rlt
      have hW6 := W_six hrr i
      have hWi : W base i ≤ 1099511627776 * 6 := by
        by_cases h0 : i + 1 < N
        · have := hN.small i h0; omega
        · obtain rfl : N = i + 1 := by omega
          by_cases h00 : i = 0
          · subst h00
            have : W base 0 = 1 := by unfold W; split <;> rfl
            omega
          · obtain ⟨p, rfl⟩ : ∃ p, i = p + 1 := ⟨i - 1, by omega⟩
            have h1 := hN.small p (by omega)
            have h2 := W_six hrr p
            omega
      have e1 : ((i + 1 : Nat) : Int) - 1 = (i : Nat) := by omega
      have hdv : q.tdiv (W base i) = q / W base i := Int.tdiv_eq_ediv_of_nonneg hq0
      have hd0 : 0 ≤ q / W base i := Int.ediv_nonneg hq0 (by omega)
      have hdm : q / W base i * W base i ≤ q := Int.ediv_mul_le _ (by omega)
      have hdm0 : 0 ≤ q / W base i * W base i := Int.mul_nonneg hd0 (by omega)
      have hdq : q / W base i ≤ q := Int.ediv_le_self _ hq0
      have hgs := hg.step hrr
      have hgn := fun (h : l = []) (h2 : ¬ 0 < q / W base i) => (GreedyB.none (b := base) (n := n) (j := i) (r := q) (by subst h; exact hg) (by
        have := Int.lt_ediv_add_one_mul_self q (show 0 < W base i by omega)
        have h3 : q / W base i = 0 := by omega
        rw [h3] at this; omega))
      generalize hx : q / W base i = x at *
      generalize hy : W base i = y at *
      generalize hz : x * y = z at *
      by_cases hx0 : 0 < x
      · repeat' (first | (with_reducible first | apply w1 | apply w2 | apply w3 | apply w4 | apply w5 | apply w6 | apply w7 | apply w8 | apply w9 | apply wa | apply wb | apply wc) | ((with_reducible apply wd); focus decide) | ((with_reducible apply we); focus exact rfl) | ((with_reducible apply wf); focus exact rfl) | ((first | (with_reducible apply SW_run tt_ok hG htb) | ((with_reducible apply SW_draw rfl tt_ok hG htb); (focus kernel_rfl); focus simp only [List.range, List.range.loop, List.size_toArray, List.length_cons, List.length_nil, Nat.reduceAdd])); focus ((repeat' (first | (with_reducible first | exact wg | exact wh) | ((with_reducible first | apply wi | apply wj); focus (simp (discharger := omega) only [go_sem, e1, hwi, hdv, hz, simprocAttr]; with_reducible rfl)))); done)))
        exact ⟨i, _, by omega, Norm.headS (own := [(7, 3, 1, false)]) (keep := [1, 6, 7, 8]) (by refine ⟨?_, ?_⟩; (simp (discharger := omega) only [go_sem, simprocAttr]; with_reducible rfl); refine ⟨?_, ?_, ?_, ?_⟩ <;> (simp only [go_sem, simprocAttr]; with_reducible rfl)), i, q - z, l ++ [x], _, rfl, rfl, by omega, hgs (.inr hx0), by rw [hot, List.map_append]; rfl⟩
      · by_cases hl0 : 0 < l.length
        · repeat' (first | (with_reducible first | apply w1 | apply w2 | apply w3 | apply w4 | apply w5 | apply w6 | apply w7 | apply w8 | apply w9 | apply wa | apply wb | apply wc) | ((with_reducible apply wd); focus decide) | ((with_reducible apply we); focus exact rfl) | ((with_reducible apply wf); focus exact rfl) | ((first | (with_reducible apply SW_run tt_ok hG htb) | ((with_reducible apply SW_draw rfl tt_ok hG htb); (focus kernel_rfl); focus simp only [List.range, List.range.loop, List.size_toArray, List.length_cons, List.length_nil, Nat.reduceAdd])); focus ((repeat' (first | (with_reducible first | exact wg | exact wh) | ((with_reducible first | apply wi | apply wj); focus (simp (discharger := omega) only [go_sem, e1, hwi, hdv, hz, simprocAttr]; with_reducible rfl)))); done)))
          exact ⟨i, _, by omega, Norm.headS (own := [(7, 3, 1, false)]) (keep := [1, 6, 7, 8]) (by refine ⟨?_, ?_⟩; (simp (discharger := omega) only [go_sem, simprocAttr]; with_reducible rfl); refine ⟨?_, ?_, ?_, ?_⟩ <;> (simp only [go_sem, simprocAttr]; with_reducible rfl)), i, q - z, l ++ [x], _, rfl, rfl, by omega, hgs (.inl (by intro h; subst h; simp at hl0)), by rw [hot, List.map_append]; rfl⟩
        · have hl : l = [] := List.length_eq_zero_iff.1 (by omega)
          have hz0 : z = 0 := by
            have : x = 0 := by omega
            rw [← hz, this, Int.zero_mul]
          repeat' (first | (with_reducible first | apply w1 | apply w2 | apply w3 | apply w4 | apply w5 | apply w6 | apply w7 | apply w8 | apply w9 | apply wa | apply wb | apply wc) | ((with_reducible apply wd); focus decide) | ((with_reducible apply we); focus exact rfl) | ((with_reducible apply wf); focus exact rfl) | ((first | (with_reducible apply SW_run tt_ok hG htb) | ((with_reducible apply SW_draw rfl tt_ok hG htb); (focus kernel_rfl); focus simp only [List.range, List.range.loop, List.size_toArray, List.length_cons, List.length_nil, Nat.reduceAdd])); focus ((repeat' (first | (with_reducible first | exact wg | exact wh) | ((with_reducible first | apply wi | apply wj); focus (simp (discharger := omega) only [go_sem, e1, hwi, hdv, hz, simprocAttr]; with_reducible rfl)))); done)))
          exact ⟨i, _, by omega, Norm.headS (own := [(7, 3, 1, false)]) (keep := [1, 6, 7, 8]) (by refine ⟨?_, ?_⟩; (simp (discharger := omega) only [go_sem, simprocAttr]; with_reducible rfl); refine ⟨?_, ?_, ?_, ?_⟩ <;> (simp only [go_sem, simprocAttr]; with_reducible rfl)), i, q - z, l, _, rfl, rfl, by omega, by rw [hz0, Int.sub_zero]; subst hl; exact hgn rfl hx0, hot⟩
end
end Go.Proofs.YtcaopcpofepniaaDoor
namespace Go.Proofs.YtcaopcpofepniaaDoor
open Go.RowKit

section
variable {G : World → Prop} (hG : Lasting G)
include hG
set_option maxHeartbeats 4000000 in
theorem OutFault_snd (o : GOut) : Snd Tryd.prog G 57 [tOut o] (tInt (outErr o)) := by
  have htb := Tab.cons (RRadix_snd hG o.base) Tab.nil
  refine snd_of_body (n := 83) (tm := [(0, .t (tOut o))]) (rs := [.tmp 2]) tt_ok Tryd.func57 rfl rfl rfl rfl rfl ?_
  unfold outErr
  generalize hmo : radix o.base = mo at *
  by_cases h0 : mo = 0
  · subst h0
    repeat' (first | (with_reducible first | apply w1 | apply w2 | apply w3 | apply w4 | apply w5 | apply w6 | apply w7 | apply w8 | apply w9 | apply wa | apply wb | apply wc) | ((with_reducible apply wd); focus decide) | ((with_reducible apply we); focus exact rfl) | ((with_reducible apply wf); focus exact rfl) | ((first | (with_reducible apply SW_run tt_ok hG htb) | ((with_reducible apply SW_draw rfl tt_ok hG htb); (focus kernel_rfl); focus simp only [List.range, List.range.loop, List.size_toArray, List.length_cons, List.length_nil, Nat.reduceAdd])); focus ((repeat' (first | (with_reducible first | exact wg | exact wh) | ((with_reducible first | apply wi | apply wj); focus (simp (discharger := omega) only [go_sem, tOut, simprocAttr]; with_reducible rfl)))); done)))
    exact (by simp (discharger := omega) only [go_sem, simprocAttr])
  · obtain ⟨r2, r6⟩ := radix_two (b := o.base) (by omega)
    rw [hmo] at r2 r6
    by_cases h1 : o.next.length = 0
    · repeat' (first | (with_reducible first | apply w1 | apply w2 | apply w3 | apply w4 | apply w5 | apply w6 | apply w7 | apply w8 | apply w9 | apply wa | apply wb | apply wc) | ((with_reducible apply wd); focus decide) | ((with_reducible apply we); focus exact rfl) | ((with_reducible apply wf); focus exact rfl) | ((first | (with_reducible apply SW_run tt_ok hG htb) | ((with_reducible apply SW_draw rfl tt_ok hG htb); (focus kernel_rfl); focus simp only [List.range, List.range.loop, List.size_toArray, List.length_cons, List.length_nil, Nat.reduceAdd])); focus ((repeat' (first | (with_reducible first | exact wg | exact wh) | ((with_reducible first | apply wi | apply wj); focus (simp (discharger := omega) only [go_sem, tOut, simprocAttr]; with_reducible rfl)))); done)))
      exact (by simp (discharger := omega) only [go_sem, simprocAttr])
    · by_cases h2 : 20 < o.next.length
      · repeat' (first | (with_reducible first | apply w1 | apply w2 | apply w3 | apply w4 | apply w5 | apply w6 | apply w7 | apply w8 | apply w9 | apply wa | apply wb | apply wc) | ((with_reducible apply wd); focus decide) | ((with_reducible apply we); focus exact rfl) | ((with_reducible apply wf); focus exact rfl) | ((first | (with_reducible apply SW_run tt_ok hG htb) | ((with_reducible apply SW_draw rfl tt_ok hG htb); (focus kernel_rfl); focus simp only [List.range, List.range.loop, List.size_toArray, List.length_cons, List.length_nil, Nat.reduceAdd])); focus ((repeat' (first | (with_reducible first | exact wg | exact wh) | ((with_reducible first | apply wi | apply wj); focus (simp (discharger := omega) only [go_sem, tOut, simprocAttr]; with_reducible rfl)))); done)))
        exact (by simp (discharger := omega) only [go_sem, simprocAttr])
      · by_cases h3 : o.outs.length = o.next.length
        · rw [if_neg h0, if_neg h1, if_neg h2, if_neg (by omega)]
          repeat' (first | (with_reducible first | apply w1 | apply w2 | apply w3 | apply w4 | apply w5 | apply w6 | apply w7 | apply w8 | apply w9 | apply wa | apply wb | apply wc) | ((with_reducible apply wd); focus decide) | ((with_reducible apply we); focus exact rfl) | ((with_reducible apply wf); focus exact rfl) | ((first | (with_reducible apply SW_run tt_ok hG htb) | ((with_reducible apply SW_draw rfl tt_ok hG htb); (focus kernel_rfl); focus simp only [List.range, List.range.loop, List.size_toArray, List.length_cons, List.length_nil, Nat.reduceAdd])); focus ((repeat' (first | (with_reducible first | exact wg | exact wh) | ((with_reducible first | apply wi | apply wj); focus (simp (discharger := omega) only [go_sem, tOut, h3, simprocAttr]; with_reducible rfl)))); done)))
          refine SW_loop (fun mm s => ∃ i : Nat, mm = o.next.length - i ∧ s = ⟨83, [(1, .bptr 0 0), (3, .t (tInt mo)), (4, .t (tInt i))], [.box [.t (tInt o.base), .t (tIntss o.next), .t (tInts o.outs)]]⟩ ∧ i ≤ o.next.length ∧ ∀ j (hj : j < o.next.length) (hk : j < o.outs.length), j < i → rowFault mo o.next.length o.next[j] o.outs[j] = 0) (o.next.length)
            ⟨_, Norm.headS (own := []) (keep := [1, 3, 4]) (by refine ⟨?_, ?_⟩; (simp (discharger := omega) only [go_sem, simprocAttr]; with_reducible rfl); refine ⟨?_, ?_, ?_, ?_⟩ <;> (simp only [go_sem, simprocAttr]; with_reducible rfl)), 0, rfl, rfl, Nat.zero_le _, fun j hj hk h => by omega⟩ ?_
          rintro mm s ⟨i, rfl, rfl, hi, hA⟩
          by_cases hlt : i < o.next.length
          · obtain ⟨row, hrow⟩ : ∃ row, o.next[i]! = row := ⟨_, rfl⟩
            obtain ⟨x, hx⟩ : ∃ x, o.outs[i]! = x := ⟨_, rfl⟩
            have hat := bang_at hrow hlt
            have hax := bang_at hx (by omega)
            have hbad := outRows_at (k := mo) (m := o.next.length) o.next o.outs i hlt (by omega) hA
            rw [hat, hax] at hbad
            by_cases hrl : (row.length : Int) = mo
            · repeat' (first | (with_reducible first | apply w1 | apply w2 | apply w3 | apply w4 | apply w5 | apply w6 | apply w7 | apply w8 | apply w9 | apply wa | apply wb | apply wc) | ((with_reducible apply wd); focus decide) | ((with_reducible apply we); focus exact rfl) | ((with_reducible apply wf); focus exact rfl) | ((first | (with_reducible apply SW_run tt_ok hG htb) | ((with_reducible apply SW_draw rfl tt_ok hG htb); (focus kernel_rfl); focus simp only [List.range, List.range.loop, List.size_toArray, List.length_cons, List.length_nil, Nat.reduceAdd])); focus ((repeat' (first | (with_reducible first | exact wg | exact wh) | ((with_reducible first | apply wi | apply wj); focus (simp (discharger := omega) only [go_sem, hrow, hrl, simprocAttr]; with_reducible rfl)))); done)))
              refine SW_loop (fun mm s => ∃ l : Nat, mm = row.length - l ∧ s = ⟨83, [(1, .bptr 0 0), (3, .t (tInt mo)), (4, .t (tInt i)), (5, .t (tInt l))], [.box [.t (tInt o.base), .t (tIntss o.next), .t (tInts o.outs)]]⟩ ∧ l ≤ row.length ∧ ∀ x ∈ row.take l, 0 ≤ x ∧ x < (o.next.length : Int)) (row.length)
                ⟨_, Norm.headS (own := []) (keep := [1, 3, 4, 5]) (by refine ⟨?_, ?_⟩; (simp (discharger := omega) only [go_sem, simprocAttr]; with_reducible rfl); refine ⟨?_, ?_, ?_, ?_⟩ <;> (simp only [go_sem, simprocAttr]; with_reducible rfl)), 0, rfl, rfl, Nat.zero_le _, fun x hx => by simp at hx⟩ ?_
              rintro mm s ⟨l, rfl, rfl, hl, hB⟩
              by_cases hlt2 : l < row.length
              · obtain ⟨y, hy⟩ : ∃ y, row[l]! = y := ⟨_, rfl⟩
                have htk := take_next hy hlt2
                have hym := bang_mem hy hlt2
                by_cases hy0 : 0 ≤ y
                · by_cases hym2 : y < (o.next.length : Int)
                  · repeat' (first | (with_reducible first | apply w1 | apply w2 | apply w3 | apply w4 | apply w5 | apply w6 | apply w7 | apply w8 | apply w9 | apply wa | apply wb | apply wc) | ((with_reducible apply wd); focus decide) | ((with_reducible apply we); focus exact rfl) | ((with_reducible apply wf); focus exact rfl) | ((first | (with_reducible apply SW_run tt_ok hG htb) | ((with_reducible apply SW_draw rfl tt_ok hG htb); (focus kernel_rfl); focus simp only [List.range, List.range.loop, List.size_toArray, List.length_cons, List.length_nil, Nat.reduceAdd])); focus ((repeat' (first | (with_reducible first | exact wg | exact wh) | ((with_reducible first | apply wi | apply wj); focus (simp (discharger := omega) only [go_sem, hrow, hy, simprocAttr]; with_reducible rfl)))); done)))
                    exact ⟨row.length - (l + 1), _, by omega, Norm.headS (own := []) (keep := [1, 3, 4, 5]) (by refine ⟨?_, ?_⟩; (simp (discharger := omega) only [go_sem, simprocAttr]; with_reducible rfl); refine ⟨?_, ?_, ?_, ?_⟩ <;> (simp only [go_sem, simprocAttr]; with_reducible rfl)), l + 1, rfl, rfl, by omega, fun z hz => by
                        rw [htk] at hz
                        rcases List.mem_append.1 hz with h | h
                        · exact hB z h
                        · simp at h; subst h; exact ⟨hy0, hym2⟩⟩
                  · have e := rowFault_ent (x := x) hrl hym (m := o.next.length) (by omega)
                    rw [hbad (by rw [e]; decide), e]
                    repeat' (first | (with_reducible first | apply w1 | apply w2 | apply w3 | apply w4 | apply w5 | apply w6 | apply w7 | apply w8 | apply w9 | apply wa | apply wb | apply wc) | ((with_reducible apply wd); focus decide) | ((with_reducible apply we); focus exact rfl) | ((with_reducible apply wf); focus exact rfl) | ((first | (with_reducible apply SW_run tt_ok hG htb) | ((with_reducible apply SW_draw rfl tt_ok hG htb); (focus kernel_rfl); focus simp only [List.range, List.range.loop, List.size_toArray, List.length_cons, List.length_nil, Nat.reduceAdd])); focus ((repeat' (first | (with_reducible first | exact wg | exact wh) | ((with_reducible first | apply wi | apply wj); focus (simp (discharger := omega) only [go_sem, hrow, hy, simprocAttr]; with_reducible rfl)))); done)))
                    exact (by simp (discharger := omega) only [go_sem, simprocAttr])
                · have e := rowFault_ent (x := x) hrl hym (m := o.next.length) (by omega)
                  rw [hbad (by rw [e]; decide), e]
                  repeat' (first | (with_reducible first | apply w1 | apply w2 | apply w3 | apply w4 | apply w5 | apply w6 | apply w7 | apply w8 | apply w9 | apply wa | apply wb | apply wc) | ((with_reducible apply wd); focus decide) | ((with_reducible apply we); focus exact rfl) | ((with_reducible apply wf); focus exact rfl) | ((first | (with_reducible apply SW_run tt_ok hG htb) | ((with_reducible apply SW_draw rfl tt_ok hG htb); (focus kernel_rfl); focus simp only [List.range, List.range.loop, List.size_toArray, List.length_cons, List.length_nil, Nat.reduceAdd])); focus ((repeat' (first | (with_reducible first | exact wg | exact wh) | ((with_reducible first | apply wi | apply wj); focus (simp (discharger := omega) only [go_sem, hrow, hy, simprocAttr]; with_reducible rfl)))); done)))
                  exact (by simp (discharger := omega) only [go_sem, simprocAttr])
              · obtain rfl : l = row.length := by omega
                rw [List.take_length] at hB
                by_cases hx0 : x < 0
                · have e := rowFault_out (x := x) hrl hB (.inl hx0)
                  rw [hbad (by rw [e]; decide), e]
                  repeat' (first | (with_reducible first | apply w1 | apply w2 | apply w3 | apply w4 | apply w5 | apply w6 | apply w7 | apply w8 | apply w9 | apply wa | apply wb | apply wc) | ((with_reducible apply wd); focus decide) | ((with_reducible apply we); focus exact rfl) | ((with_reducible apply wf); focus exact rfl) | ((first | (with_reducible apply SW_run tt_ok hG htb) | ((with_reducible apply SW_draw rfl tt_ok hG htb); (focus kernel_rfl); focus simp only [List.range, List.range.loop, List.size_toArray, List.length_cons, List.length_nil, Nat.reduceAdd])); focus ((repeat' (first | (with_reducible first | exact wg | exact wh) | ((with_reducible first | apply wi | apply wj); focus (simp (discharger := omega) only [go_sem, hx, simprocAttr]; with_reducible rfl)))); done)))
                  exact (by simp (discharger := omega) only [go_sem, simprocAttr])
                · by_cases hx9 : 9 < x
                  · have e := rowFault_out (x := x) hrl hB (.inr hx9)
                    rw [hbad (by rw [e]; decide), e]
                    repeat' (first | (with_reducible first | apply w1 | apply w2 | apply w3 | apply w4 | apply w5 | apply w6 | apply w7 | apply w8 | apply w9 | apply wa | apply wb | apply wc) | ((with_reducible apply wd); focus decide) | ((with_reducible apply we); focus exact rfl) | ((with_reducible apply wf); focus exact rfl) | ((first | (with_reducible apply SW_run tt_ok hG htb) | ((with_reducible apply SW_draw rfl tt_ok hG htb); (focus kernel_rfl); focus simp only [List.range, List.range.loop, List.size_toArray, List.length_cons, List.length_nil, Nat.reduceAdd])); focus ((repeat' (first | (with_reducible first | exact wg | exact wh) | ((with_reducible first | apply wi | apply wj); focus (simp (discharger := omega) only [go_sem, hx, simprocAttr]; with_reducible rfl)))); done)))
                    exact (by simp (discharger := omega) only [go_sem, simprocAttr])
                  · repeat' (first | (with_reducible first | apply w1 | apply w2 | apply w3 | apply w4 | apply w5 | apply w6 | apply w7 | apply w8 | apply w9 | apply wa | apply wb | apply wc) | ((with_reducible apply wd); focus decide) | ((with_reducible apply we); focus exact rfl) | ((with_reducible apply wf); focus exact rfl) | ((first | (with_reducible apply SW_run tt_ok hG htb) | ((with_reducible apply SW_draw rfl tt_ok hG htb); (focus kernel_rfl); focus simp only [List.range, List.range.loop, List.size_toArray, List.length_cons, List.length_nil, Nat.reduceAdd])); focus ((repeat' (first | (with_reducible first | exact wg | exact wh) | ((with_reducible first | apply wi | apply wj); focus (simp (discharger := omega) only [go_sem, hx, simprocAttr]; with_reducible rfl)))); done)))
                    exact ⟨o.next.length - (i + 1), _, by omega, Norm.headS (own := []) (keep := [1, 3, 4]) (by refine ⟨?_, ?_⟩; (simp (discharger := omega) only [go_sem, simprocAttr]; with_reducible rfl); refine ⟨?_, ?_, ?_, ?_⟩ <;> (simp only [go_sem, simprocAttr]; with_reducible rfl)), i + 1, rfl, rfl, by omega, fun j hj hk h => by
                        by_cases e : j = i
                        · subst e; rw [hat, hax]; exact rowFault_zero.2 ⟨hrl, hB, by omega, by omega⟩
                        · exact hA j hj hk (by omega)⟩
            · have e := rowFault_len (x := x) hrl (m := o.next.length)
              rw [hbad (by rw [e]; decide), e]
              repeat' (first | (with_reducible first | apply w1 | apply w2 | apply w3 | apply w4 | apply w5 | apply w6 | apply w7 | apply w8 | apply w9 | apply wa | apply wb | apply wc) | ((with_reducible apply wd); focus decide) | ((with_reducible apply we); focus exact rfl) | ((with_reducible apply wf); focus exact rfl) | ((first | (with_reducible apply SW_run tt_ok hG htb) | ((with_reducible apply SW_draw rfl tt_ok hG htb); (focus kernel_rfl); focus simp only [List.range, List.range.loop, List.size_toArray, List.length_cons, List.length_nil, Nat.reduceAdd])); focus ((repeat' (first | (with_reducible first | exact wg | exact wh) | ((with_reducible first | apply wi | apply wj); focus (simp (discharger := omega) only [go_sem, hrow, hrl, simprocAttr]; with_reducible rfl)))); done)))
              exact (by simp (discharger := omega) only [go_sem, simprocAttr])
          · obtain rfl : i = o.next.length := by omega
            rw [(outRows_zero _ _ h3).2 fun j hj hk => hA j hj hk hj]
            repeat' (first | (with_reducible first | apply w1 | apply w2 | apply w3 | apply w4 | apply w5 | apply w6 | apply w7 | apply w8 | apply w9 | apply wa | apply wb | apply wc) | ((with_reducible apply wd); focus decide) | ((with_reducible apply we); focus exact rfl) | ((with_reducible apply wf); focus exact rfl) | ((first | (with_reducible apply SW_run tt_ok hG htb) | ((with_reducible apply SW_draw rfl tt_ok hG htb); (focus kernel_rfl); focus simp only [List.range, List.range.loop, List.size_toArray, List.length_cons, List.length_nil, Nat.reduceAdd])); focus ((repeat' (first | (with_reducible first | exact wg | exact wh) | ((with_reducible first | apply wi | apply wj); focus (simp (discharger := omega) only [go_sem, simprocAttr]; with_reducible rfl)))); done)))
            exact (by simp (discharger := omega) only [go_sem, simprocAttr])
        · rw [if_neg h0, if_neg h1, if_neg h2, if_pos h3]
          repeat' (first | (with_reducible first | apply w1 | apply w2 | apply w3 | apply w4 | apply w5 | apply w6 | apply w7 | apply w8 | apply w9 | apply wa | apply wb | apply wc) | ((with_reducible apply wd); focus decide) | ((with_reducible apply we); focus exact rfl) | ((with_reducible apply wf); focus exact rfl) | ((first | (with_reducible apply SW_run tt_ok hG htb) | ((with_reducible apply SW_draw rfl tt_ok hG htb); (focus kernel_rfl); focus simp only [List.range, List.range.loop, List.size_toArray, List.length_cons, List.length_nil, Nat.reduceAdd])); focus ((repeat' (first | (with_reducible first | exact wg | exact wh) | ((with_reducible first | apply wi | apply wj); focus (simp (discharger := omega) only [go_sem, tOut, h3, simprocAttr]; with_reducible rfl)))); done)))
          exact (by simp (discharger := omega) only [go_sem, simprocAttr])
set_option maxHeartbeats 4000000 in
theorem Said_snd (o : GOut) (n : Int) {k m : Nat} (g : OkOut o k m) (h0 : 0 ≤ n) (h1 : n ≤ 1099511627776) : Snd Tryd.prog G 59 [tOut o, tInt n] (tInt (said o n)) := by
  have he : ofErr o.base n = 0 := ofErr_zero.2 ⟨by have := g.k_eq; have := g.k2; omega, h0, h1⟩
  have htb := Tab.cons (RDigitsOf_snd (G := G) hG o.base n) Tab.nil
  have hdig := g.dig h0 h1
  have hlen := (ofL_is he).len (by have := g.k_eq; have := g.k2; omega) h1
  have hm0 := g.m0
  have hnl := g.rows.len
  have hol := g.outs
  have hm20 := g.m20
  have hk6 := g.k2
  unfold said
  rw [he] at htb
  generalize ofL o.base n = d at *
  refine snd_of_body (n := 38) (tm := [(0, .t (tOut o)), (1, .t (tInt n))]) (rs := [.tmp 4]) tt_ok Tryd.func59 rfl rfl rfl rfl rfl ?_
  repeat' (first | (with_reducible first | apply w1 | apply w2 | apply w3 | apply w4 | apply w5 | apply w6 | apply w7 | apply w8 | apply w9 | apply wa | apply wb | apply wc) | ((with_reducible apply wd); focus decide) | ((with_reducible apply we); focus exact rfl) | ((with_reducible apply wf); focus exact rfl) | ((first | (with_reducible apply SW_run tt_ok hG htb) | ((with_reducible apply SW_draw rfl tt_ok hG htb); (focus kernel_rfl); focus simp only [List.range, List.range.loop, List.size_toArray, List.length_cons, List.length_nil, Nat.reduceAdd])); focus ((repeat' (first | (with_reducible first | exact wg | exact wh) | ((with_reducible first | apply wi | apply wj); focus (simp (discharger := omega) only [go_sem, tOut, simprocAttr]; with_reducible rfl)))); done)))
  refine SW_loop (fun mm s => ∃ (i : Nat) (q : Int), mm = d.length - i ∧ s = ⟨38, [(2, .bptr 0 0), (5, .t (tInts d)), (7, .t (tInt q)), (8, .t (tInt i))], [.box [.t (tInt o.base), .t (tIntss o.next), .t (tInts o.outs)]]⟩ ∧ i ≤ d.length ∧ q = runFrom o.next 0 (d.take i)) (d.length)
    ⟨_, Norm.headS (own := []) (keep := [2, 5, 7, 8]) (by refine ⟨?_, ?_⟩; (simp (discharger := omega) only [go_sem, simprocAttr]; with_reducible rfl); refine ⟨?_, ?_, ?_, ?_⟩ <;> (simp only [go_sem, simprocAttr]; with_reducible rfl)), 0, 0, rfl, rfl, Nat.zero_le _, rfl⟩ ?_
  rintro mm s ⟨i, q, rfl, rfl, hi, hq⟩
  have hqm : 0 ≤ q ∧ q < (m : Int) := by rw [hq]; exact runFrom_ok g.rows _ 0 (by omega) fun x hx => hdig x (List.mem_of_mem_take hx)
  by_cases hlt : i < d.length
  · obtain ⟨x, hx⟩ : ∃ x, d[i]! = x := ⟨_, rfl⟩
    have hxn := hdig x (bang_mem hx hlt)
    obtain ⟨row, hrow⟩ : ∃ row, o.next[q.toNat]! = row := ⟨_, rfl⟩
    have hrl : row.length = k := g.rows.row _ (bang_mem hrow (by omega))
    obtain ⟨u, hu⟩ : ∃ u, row[x.toNat]! = u := ⟨_, rfl⟩
    have hstep := runFrom_take o.next hx hlt 0
    rw [← hq, nextOf_bang hrow (by omega) hu (by omega)] at hstep
    repeat' (first | (with_reducible first | apply w1 | apply w2 | apply w3 | apply w4 | apply w5 | apply w6 | apply w7 | apply w8 | apply w9 | apply wa | apply wb | apply wc) | ((with_reducible apply wd); focus decide) | ((with_reducible apply we); focus exact rfl) | ((with_reducible apply wf); focus exact rfl) | ((first | (with_reducible apply SW_run tt_ok hG htb) | ((with_reducible apply SW_draw rfl tt_ok hG htb); (focus kernel_rfl); focus simp only [List.range, List.range.loop, List.size_toArray, List.length_cons, List.length_nil, Nat.reduceAdd])); focus ((repeat' (first | (with_reducible first | exact wg | exact wh) | ((with_reducible first | apply wi | apply wj); focus (simp (discharger := omega) only [go_sem, hx, hrow, hu, simprocAttr]; with_reducible rfl)))); done)))
    exact ⟨d.length - (i + 1), _, by omega, Norm.headS (own := []) (keep := [2, 5, 7, 8]) (by refine ⟨?_, ?_⟩; (simp (discharger := omega) only [go_sem, simprocAttr]; with_reducible rfl); refine ⟨?_, ?_, ?_, ?_⟩ <;> (simp only [go_sem, simprocAttr]; with_reducible rfl)), i + 1, u, rfl, rfl, by omega, hstep.symm⟩
  · obtain rfl : i = d.length := by omega
    rw [List.take_length] at hq
    rw [← hq]
    obtain ⟨x, hx⟩ : ∃ x, o.outs[q.toNat]! = x := ⟨_, rfl⟩
    rw [bang_D hx (by omega)]
    repeat' (first | (with_reducible first | apply w1 | apply w2 | apply w3 | apply w4 | apply w5 | apply w6 | apply w7 | apply w8 | apply w9 | apply wa | apply wb | apply wc) | ((with_reducible apply wd); focus decide) | ((with_reducible apply we); focus exact rfl) | ((with_reducible apply wf); focus exact rfl) | ((first | (with_reducible apply SW_run tt_ok hG htb) | ((with_reducible apply SW_draw rfl tt_ok hG htb); (focus kernel_rfl); focus simp only [List.range, List.range.loop, List.size_toArray, List.length_cons, List.length_nil, Nat.reduceAdd])); focus ((repeat' (first | (with_reducible first | exact wg | exact wh) | ((with_reducible first | apply wi | apply wj); focus (simp (discharger := omega) only [go_sem, hx, simprocAttr]; with_reducible rfl)))); done)))
    exact (by simp (discharger := omega) only [go_sem, simprocAttr])
end
end Go.Proofs.YtcaopcpofepniaaDoor
namespace Go.Proofs.YtcaopcpofepniaaDoor
open Go.RowKit

section
variable {G : World → Prop} (hG : Lasting G)
include hG
set_option maxHeartbeats 4000000 in
theorem RBare_snd (f : List GNode) (hl : f.length ≤ 40) : Snd Tryd.prog G 27 [tForm f] (.bool (!(f.any quantN))) := by
  refine snd_of_body (n := 24) (tm := [(0, .t (tForm f))]) (rs := [.tmp 2]) tt_ok Tryd.func27 rfl rfl rfl rfl rfl ?_
  unfold tForm
  have htb : Tab.ok Tryd.prog G [] := Tab.nil
  repeat' (first | (with_reducible first | apply w1 | apply w2 | apply w3 | apply w4 | apply w5 | apply w6 | apply w7 | apply w8 | apply w9 | apply wa | apply wb | apply wc) | ((with_reducible apply wd); focus decide) | ((with_reducible apply we); focus exact rfl) | ((with_reducible apply wf); focus exact rfl) | ((first | (with_reducible apply SW_run tt_ok hG htb) | ((with_reducible apply SW_draw rfl tt_ok hG htb); (focus kernel_rfl); focus simp only [List.range, List.range.loop, List.size_toArray, List.length_cons, List.length_nil, Nat.reduceAdd])); focus ((repeat' (first | (with_reducible first | exact wg | exact wh) | ((with_reducible first | apply wi | apply wj); focus (simp (discharger := omega) only [go_sem, simprocAttr]; with_reducible rfl)))); done)))
  refine SW_loop (fun mm s => ∃ i : Nat, mm = f.length - i ∧ s = ⟨24, [(0, .t (.list (f.map tNode))), (3, .t (tNat i))], []⟩ ∧ i ≤ f.length ∧ f.any quantN = (f.drop i).any quantN) f.length
    ⟨_, Norm.headS (own := []) (keep := [0, 3]) (by refine ⟨?_, ?_⟩; (simp (discharger := omega) only [go_sem, simprocAttr]; with_reducible rfl); refine ⟨?_, ?_, ?_, ?_⟩ <;> (simp only [go_sem, simprocAttr]; with_reducible rfl)), 0, rfl, rfl, Nat.zero_le _, by rw [List.drop_zero]⟩ ?_
  rintro mm s ⟨i, rfl, rfl, hi, hx⟩
  by_cases hlt : i < f.length
  · obtain ⟨n, hn⟩ : ∃ n, f[i]! = n := ⟨_, rfl⟩
    rw [drop_cons (by rw [List.getElem?_eq_getElem hlt, bang_at hn hlt]), List.any_cons] at hx
    obtain ⟨op, var, other, word, word2, num, coefs⟩ := n
    by_cases h8 : op = 8
    · subst h8
      rw [show quantN ⟨8, var, other, word, word2, num, coefs⟩ = true by simp [quantN], Bool.true_or] at hx
      rw [hx]
      repeat' (first | (with_reducible first | apply w1 | apply w2 | apply w3 | apply w4 | apply w5 | apply w6 | apply w7 | apply w8 | apply w9 | apply wa | apply wb | apply wc) | ((with_reducible apply wd); focus decide) | ((with_reducible apply we); focus exact rfl) | ((with_reducible apply wf); focus exact rfl) | ((first | (with_reducible apply SW_run tt_ok hG htb) | ((with_reducible apply SW_draw rfl tt_ok hG htb); (focus kernel_rfl); focus simp only [List.range, List.range.loop, List.size_toArray, List.length_cons, List.length_nil, Nat.reduceAdd])); focus ((repeat' (first | (with_reducible first | exact wg | exact wh) | ((with_reducible first | apply wi | apply wj); focus (simp (discharger := omega) only [go_sem, hn, tNode, simprocAttr]; with_reducible rfl)))); done)))
      exact (by simp (discharger := omega) only [go_sem, Bool.not_true, simprocAttr])
    · by_cases h9 : op = 9
      · subst h9
        rw [show quantN ⟨9, var, other, word, word2, num, coefs⟩ = true by simp [quantN], Bool.true_or] at hx
        rw [hx]
        repeat' (first | (with_reducible first | apply w1 | apply w2 | apply w3 | apply w4 | apply w5 | apply w6 | apply w7 | apply w8 | apply w9 | apply wa | apply wb | apply wc) | ((with_reducible apply wd); focus decide) | ((with_reducible apply we); focus exact rfl) | ((with_reducible apply wf); focus exact rfl) | ((first | (with_reducible apply SW_run tt_ok hG htb) | ((with_reducible apply SW_draw rfl tt_ok hG htb); (focus kernel_rfl); focus simp only [List.range, List.range.loop, List.size_toArray, List.length_cons, List.length_nil, Nat.reduceAdd])); focus ((repeat' (first | (with_reducible first | exact wg | exact wh) | ((with_reducible first | apply wi | apply wj); focus (simp (discharger := omega) only [go_sem, hn, tNode, simprocAttr]; with_reducible rfl)))); done)))
        exact (by simp (discharger := omega) only [go_sem, Bool.not_true, simprocAttr])
      · rw [quant_no (n := ⟨op, var, other, word, word2, num, coefs⟩) h8 h9, Bool.false_or] at hx
        repeat' (first | (with_reducible first | apply w1 | apply w2 | apply w3 | apply w4 | apply w5 | apply w6 | apply w7 | apply w8 | apply w9 | apply wa | apply wb | apply wc) | ((with_reducible apply wd); focus decide) | ((with_reducible apply we); focus exact rfl) | ((with_reducible apply wf); focus exact rfl) | ((first | (with_reducible apply SW_run tt_ok hG htb) | ((with_reducible apply SW_draw rfl tt_ok hG htb); (focus kernel_rfl); focus simp only [List.range, List.range.loop, List.size_toArray, List.length_cons, List.length_nil, Nat.reduceAdd])); focus ((repeat' (first | (with_reducible first | exact wg | exact wh) | ((with_reducible first | apply wi | apply wj); focus (simp (discharger := omega) only [go_sem, hn, tNode, h8, h9, simprocAttr]; with_reducible rfl)))); done)))
        exact ⟨f.length - (i + 1), _, by omega, Norm.headS (own := []) (keep := [0, 3]) (by refine ⟨?_, ?_⟩; (simp (discharger := omega) only [go_sem, simprocAttr]; with_reducible rfl); refine ⟨?_, ?_, ?_, ?_⟩ <;> (simp only [go_sem, simprocAttr]; with_reducible rfl)), i + 1, rfl, rfl, by omega, hx⟩
  · obtain rfl : i = f.length := by omega
    rw [List.drop_length, List.any_nil] at hx
    rw [hx]
    repeat' (first | (with_reducible first | apply w1 | apply w2 | apply w3 | apply w4 | apply w5 | apply w6 | apply w7 | apply w8 | apply w9 | apply wa | apply wb | apply wc) | ((with_reducible apply wd); focus decide) | ((with_reducible apply we); focus exact rfl) | ((with_reducible apply wf); focus exact rfl) | ((first | (with_reducible apply SW_run tt_ok hG htb) | ((with_reducible apply SW_draw rfl tt_ok hG htb); (focus kernel_rfl); focus simp only [List.range, List.range.loop, List.size_toArray, List.length_cons, List.length_nil, Nat.reduceAdd])); focus ((repeat' (first | (with_reducible first | exact wg | exact wh) | ((with_reducible first | apply wi | apply wj); focus (simp (discharger := omega) only [go_sem, simprocAttr]; with_reducible rfl)))); done)))
    exact (by simp (discharger := omega) only [go_sem, Bool.not_false, simprocAttr])
set_option maxHeartbeats 4000000 in
theorem RWordsFault_snd (f : List GNode) (hl : f.length ≤ 40) (ws : List GOut) : Snd Tryd.prog G 28 [tForm f, tOutL ws, tInt 0] (tInt (wordsErr f ws)) := by
  refine snd_of_body (n := 76) (tm := [(0, .t (tForm f)), (1, .t (tOutL ws)), (2, .t (tInt 0))]) (rs := [.tmp 6]) tt_ok Tryd.func28 rfl rfl rfl rfl rfl ?_
  unfold tForm tOutL wordsErr
  have htb : Tab.ok Tryd.prog G [] := Tab.nil
  by_cases h3 : 3 < ws.length
  · rw [if_pos h3]
    repeat' (first | (with_reducible first | apply w1 | apply w2 | apply w3 | apply w4 | apply w5 | apply w6 | apply w7 | apply w8 | apply w9 | apply wa | apply wb | apply wc) | ((with_reducible apply wd); focus decide) | ((with_reducible apply we); focus exact rfl) | ((with_reducible apply wf); focus exact rfl) | ((first | (with_reducible apply SW_run tt_ok hG htb) | ((with_reducible apply SW_draw rfl tt_ok hG htb); (focus kernel_rfl); focus simp only [List.range, List.range.loop, List.size_toArray, List.length_cons, List.length_nil, Nat.reduceAdd])); focus ((repeat' (first | (with_reducible first | exact wg | exact wh) | ((with_reducible first | apply wi | apply wj); focus (simp (discharger := omega) only [go_sem, simprocAttr]; with_reducible rfl)))); done)))
    exact (by simp (discharger := omega) only [go_sem, simprocAttr])
  rw [if_neg h3]
  repeat' (first | (with_reducible first | apply w1 | apply w2 | apply w3 | apply w4 | apply w5 | apply w6 | apply w7 | apply w8 | apply w9 | apply wa | apply wb | apply wc) | ((with_reducible apply wd); focus decide) | ((with_reducible apply we); focus exact rfl) | ((with_reducible apply wf); focus exact rfl) | ((first | (with_reducible apply SW_run tt_ok hG htb) | ((with_reducible apply SW_draw rfl tt_ok hG htb); (focus kernel_rfl); focus simp only [List.range, List.range.loop, List.size_toArray, List.length_cons, List.length_nil, Nat.reduceAdd])); focus ((repeat' (first | (with_reducible first | exact wg | exact wh) | ((with_reducible first | apply wi | apply wj); focus (simp (discharger := omega) only [go_sem, simprocAttr]; with_reducible rfl)))); done)))
  refine SW_loop (fun mm s => ∃ i : Nat, mm = ws.length - i ∧ s = ⟨76, [(0, .t (.list (f.map tNode))), (1, .t (.list (ws.map tOut))), (2, .t (tInt 0)), (7, .t (tNat i))], []⟩ ∧ i ≤ ws.length ∧ outsErr (ws.drop i) = outsErr ws) ws.length
    ⟨_, Norm.headS (own := []) (keep := [0, 1, 2, 7]) (by refine ⟨?_, ?_⟩; (simp (discharger := omega) only [go_sem, simprocAttr]; with_reducible rfl); refine ⟨?_, ?_, ?_, ?_⟩ <;> (simp only [go_sem, simprocAttr]; with_reducible rfl)), 0, rfl, rfl, Nat.zero_le _, by rw [List.drop_zero]⟩ ?_
  rintro mm s ⟨i, rfl, rfl, hi, hx⟩
  by_cases hlt : i < ws.length
  · obtain ⟨o, ho⟩ : ∃ o, ws[i]! = o := ⟨_, rfl⟩
    have hd : ws.drop i = o :: ws.drop (i + 1) := drop_cons (by rw [List.getElem?_eq_getElem hlt, bang_at ho hlt])
    rw [hd, outsErr] at hx
    clear htb
    have c1 := OutFault_snd hG o
    by_cases h0 : outErr o = 0
    · rw [if_neg (by omega)] at hx
      rw [h0] at c1
      have htb := Tab.cons c1 Tab.nil
      repeat' (first | (with_reducible first | apply w1 | apply w2 | apply w3 | apply w4 | apply w5 | apply w6 | apply w7 | apply w8 | apply w9 | apply wa | apply wb | apply wc) | ((with_reducible apply wd); focus decide) | ((with_reducible apply we); focus exact rfl) | ((with_reducible apply wf); focus exact rfl) | ((first | (with_reducible apply SW_run tt_ok hG htb) | ((with_reducible apply SW_draw rfl tt_ok hG htb); (focus kernel_rfl); focus simp only [List.range, List.range.loop, List.size_toArray, List.length_cons, List.length_nil, Nat.reduceAdd])); focus ((repeat' (first | (with_reducible first | exact wg | exact wh) | ((with_reducible first | apply wi | apply wj); focus (simp (discharger := omega) only [go_sem, ho, tOut, simprocAttr]; with_reducible rfl)))); done)))
      exact ⟨ws.length - (i + 1), _, by omega, Norm.headS (own := []) (keep := [0, 1, 2, 7]) (by refine ⟨?_, ?_⟩; (simp (discharger := omega) only [go_sem, simprocAttr]; with_reducible rfl); refine ⟨?_, ?_, ?_, ?_⟩ <;> (simp only [go_sem, simprocAttr]; with_reducible rfl)), i + 1, rfl, rfl, by omega, hx⟩
    · rw [if_pos h0] at hx
      rw [← hx, if_pos h0]
      generalize outErr o = e at *
      have htb := Tab.cons c1 Tab.nil
      repeat' (first | (with_reducible first | apply w1 | apply w2 | apply w3 | apply w4 | apply w5 | apply w6 | apply w7 | apply w8 | apply w9 | apply wa | apply wb | apply wc) | ((with_reducible apply wd); focus decide) | ((with_reducible apply we); focus exact rfl) | ((with_reducible apply wf); focus exact rfl) | ((first | (with_reducible apply SW_run tt_ok hG htb) | ((with_reducible apply SW_draw rfl tt_ok hG htb); (focus kernel_rfl); focus simp only [List.range, List.range.loop, List.size_toArray, List.length_cons, List.length_nil, Nat.reduceAdd])); focus ((repeat' (first | (with_reducible first | exact wg | exact wh) | ((with_reducible first | apply wi | apply wj); focus (simp (discharger := omega) only [go_sem, ho, tOut, h0, simprocAttr]; with_reducible rfl)))); done)))
      exact (by simp (discharger := omega) only [go_sem, h0, simprocAttr])
  · obtain rfl : i = ws.length := by omega
    rw [List.drop_length, outsErr] at hx
    rw [← hx, if_neg (by omega)]
    repeat' (first | (with_reducible first | apply w1 | apply w2 | apply w3 | apply w4 | apply w5 | apply w6 | apply w7 | apply w8 | apply w9 | apply wa | apply wb | apply wc) | ((with_reducible apply wd); focus decide) | ((with_reducible apply we); focus exact rfl) | ((with_reducible apply wf); focus exact rfl) | ((first | (with_reducible apply SW_run tt_ok hG htb) | ((with_reducible apply SW_draw rfl tt_ok hG htb); (focus kernel_rfl); focus simp only [List.range, List.range.loop, List.size_toArray, List.length_cons, List.length_nil, Nat.reduceAdd])); focus ((repeat' (first | (with_reducible first | exact wg | exact wh) | ((with_reducible first | apply wi | apply wj); focus (simp (discharger := omega) only [go_sem, simprocAttr]; with_reducible rfl)))); done)))
    refine SW_loop (fun mm s => ∃ i : Nat, mm = f.length - i ∧ s = ⟨76, [(0, .t (.list (f.map tNode))), (1, .t (.list (ws.map tOut))), (9, .t (tNat i))], []⟩ ∧ i ≤ f.length ∧ (f.any fun n => wordNeed n ws.length) = ((f.drop i).any fun n => wordNeed n ws.length)) f.length
      ⟨_, Norm.headS (own := []) (keep := [0, 1, 9]) (by refine ⟨?_, ?_⟩; (simp (discharger := omega) only [go_sem, simprocAttr]; with_reducible rfl); refine ⟨?_, ?_, ?_, ?_⟩ <;> (simp only [go_sem, simprocAttr]; with_reducible rfl)), 0, rfl, rfl, Nat.zero_le _, by rw [List.drop_zero]⟩ ?_
    rintro mm s ⟨i, rfl, rfl, hi, hx⟩
    by_cases hlt : i < f.length
    · obtain ⟨n, hn⟩ : ∃ n, f[i]! = n := ⟨_, rfl⟩
      have hd : f.drop i = n :: f.drop (i + 1) := drop_cons (by rw [List.getElem?_eq_getElem hlt, bang_at hn hlt])
      rw [hd, List.any_cons] at hx
      obtain ⟨op, var, other, word, word2, num, coefs⟩ := n
      by_cases h3 : op = 3
      · subst h3
        by_cases hw : (ws.length : Int) ≤ word
        · have e : wordNeed ⟨3, var, other, word, word2, num, coefs⟩ ws.length = true := by simp [wordNeed, hw]
          rw [hx, e, Bool.true_or, if_pos rfl]
          repeat' (first | (with_reducible first | apply w1 | apply w2 | apply w3 | apply w4 | apply w5 | apply w6 | apply w7 | apply w8 | apply w9 | apply wa | apply wb | apply wc) | ((with_reducible apply wd); focus decide) | ((with_reducible apply we); focus exact rfl) | ((with_reducible apply wf); focus exact rfl) | ((first | (with_reducible apply SW_run tt_ok hG htb) | ((with_reducible apply SW_draw rfl tt_ok hG htb); (focus kernel_rfl); focus simp only [List.range, List.range.loop, List.size_toArray, List.length_cons, List.length_nil, Nat.reduceAdd])); focus ((repeat' (first | (with_reducible first | exact wg | exact wh) | ((with_reducible first | apply wi | apply wj); focus (simp (discharger := omega) only [go_sem, hn, tNode, simprocAttr]; with_reducible rfl)))); done)))
          exact (by simp (discharger := omega) only [go_sem, simprocAttr])
        · have e : wordNeed ⟨3, var, other, word, word2, num, coefs⟩ ws.length = false := by simp [wordNeed]; omega
          rw [e, Bool.false_or] at hx
          repeat' (first | (with_reducible first | apply w1 | apply w2 | apply w3 | apply w4 | apply w5 | apply w6 | apply w7 | apply w8 | apply w9 | apply wa | apply wb | apply wc) | ((with_reducible apply wd); focus decide) | ((with_reducible apply we); focus exact rfl) | ((with_reducible apply wf); focus exact rfl) | ((first | (with_reducible apply SW_run tt_ok hG htb) | ((with_reducible apply SW_draw rfl tt_ok hG htb); (focus kernel_rfl); focus simp only [List.range, List.range.loop, List.size_toArray, List.length_cons, List.length_nil, Nat.reduceAdd])); focus ((repeat' (first | (with_reducible first | exact wg | exact wh) | ((with_reducible first | apply wi | apply wj); focus (simp (discharger := omega) only [go_sem, hn, tNode, simprocAttr]; with_reducible rfl)))); done)))
          exact ⟨f.length - (i + 1), _, by omega, Norm.headS (own := []) (keep := [0, 1, 9]) (by refine ⟨?_, ?_⟩; (simp (discharger := omega) only [go_sem, simprocAttr]; with_reducible rfl); refine ⟨?_, ?_, ?_, ?_⟩ <;> (simp only [go_sem, simprocAttr]; with_reducible rfl)), i + 1, rfl, rfl, by omega, hx⟩
      · by_cases h4 : op = 4
        · subst h4
          by_cases hw : (ws.length : Int) ≤ word
          · have e : wordNeed ⟨4, var, other, word, word2, num, coefs⟩ ws.length = true := by simp [wordNeed]; omega
            rw [hx, e, Bool.true_or, if_pos rfl]
            repeat' (first | (with_reducible first | apply w1 | apply w2 | apply w3 | apply w4 | apply w5 | apply w6 | apply w7 | apply w8 | apply w9 | apply wa | apply wb | apply wc) | ((with_reducible apply wd); focus decide) | ((with_reducible apply we); focus exact rfl) | ((with_reducible apply wf); focus exact rfl) | ((first | (with_reducible apply SW_run tt_ok hG htb) | ((with_reducible apply SW_draw rfl tt_ok hG htb); (focus kernel_rfl); focus simp only [List.range, List.range.loop, List.size_toArray, List.length_cons, List.length_nil, Nat.reduceAdd])); focus ((repeat' (first | (with_reducible first | exact wg | exact wh) | ((with_reducible first | apply wi | apply wj); focus (simp (discharger := omega) only [go_sem, hn, tNode, simprocAttr]; with_reducible rfl)))); done)))
            exact (by simp (discharger := omega) only [go_sem, simprocAttr])
          · by_cases hw2 : (ws.length : Int) ≤ word2
            · have e : wordNeed ⟨4, var, other, word, word2, num, coefs⟩ ws.length = true := by simp [wordNeed]; omega
              rw [hx, e, Bool.true_or, if_pos rfl]
              repeat' (first | (with_reducible first | apply w1 | apply w2 | apply w3 | apply w4 | apply w5 | apply w6 | apply w7 | apply w8 | apply w9 | apply wa | apply wb | apply wc) | ((with_reducible apply wd); focus decide) | ((with_reducible apply we); focus exact rfl) | ((with_reducible apply wf); focus exact rfl) | ((first | (with_reducible apply SW_run tt_ok hG htb) | ((with_reducible apply SW_draw rfl tt_ok hG htb); (focus kernel_rfl); focus simp only [List.range, List.range.loop, List.size_toArray, List.length_cons, List.length_nil, Nat.reduceAdd])); focus ((repeat' (first | (with_reducible first | exact wg | exact wh) | ((with_reducible first | apply wi | apply wj); focus (simp (discharger := omega) only [go_sem, hn, tNode, simprocAttr]; with_reducible rfl)))); done)))
              exact (by simp (discharger := omega) only [go_sem, simprocAttr])
            · have e : wordNeed ⟨4, var, other, word, word2, num, coefs⟩ ws.length = false := by simp [wordNeed]; omega
              rw [e, Bool.false_or] at hx
              repeat' (first | (with_reducible first | apply w1 | apply w2 | apply w3 | apply w4 | apply w5 | apply w6 | apply w7 | apply w8 | apply w9 | apply wa | apply wb | apply wc) | ((with_reducible apply wd); focus decide) | ((with_reducible apply we); focus exact rfl) | ((with_reducible apply wf); focus exact rfl) | ((first | (with_reducible apply SW_run tt_ok hG htb) | ((with_reducible apply SW_draw rfl tt_ok hG htb); (focus kernel_rfl); focus simp only [List.range, List.range.loop, List.size_toArray, List.length_cons, List.length_nil, Nat.reduceAdd])); focus ((repeat' (first | (with_reducible first | exact wg | exact wh) | ((with_reducible first | apply wi | apply wj); focus (simp (discharger := omega) only [go_sem, hn, tNode, simprocAttr]; with_reducible rfl)))); done)))
              exact ⟨f.length - (i + 1), _, by omega, Norm.headS (own := []) (keep := [0, 1, 9]) (by refine ⟨?_, ?_⟩; (simp (discharger := omega) only [go_sem, simprocAttr]; with_reducible rfl); refine ⟨?_, ?_, ?_, ?_⟩ <;> (simp only [go_sem, simprocAttr]; with_reducible rfl)), i + 1, rfl, rfl, by omega, hx⟩
        · rw [need_no h3 h4, Bool.false_or] at hx
          repeat' (first | (with_reducible first | apply w1 | apply w2 | apply w3 | apply w4 | apply w5 | apply w6 | apply w7 | apply w8 | apply w9 | apply wa | apply wb | apply wc) | ((with_reducible apply wd); focus decide) | ((with_reducible apply we); focus exact rfl) | ((with_reducible apply wf); focus exact rfl) | ((first | (with_reducible apply SW_run tt_ok hG htb) | ((with_reducible apply SW_draw rfl tt_ok hG htb); (focus kernel_rfl); focus simp only [List.range, List.range.loop, List.size_toArray, List.length_cons, List.length_nil, Nat.reduceAdd])); focus ((repeat' (first | (with_reducible first | exact wg | exact wh) | ((with_reducible first | apply wi | apply wj); focus (simp (discharger := omega) only [go_sem, hn, tNode, h3, h4, simprocAttr]; with_reducible rfl)))); done)))
          exact ⟨f.length - (i + 1), _, by omega, Norm.headS (own := []) (keep := [0, 1, 9]) (by refine ⟨?_, ?_⟩; (simp (discharger := omega) only [go_sem, simprocAttr]; with_reducible rfl); refine ⟨?_, ?_, ?_, ?_⟩ <;> (simp only [go_sem, simprocAttr]; with_reducible rfl)), i + 1, rfl, rfl, by omega, hx⟩
    · obtain rfl : i = f.length := by omega
      rw [List.drop_length, List.any_nil] at hx
      rw [hx, if_neg (by decide)]
      repeat' (first | (with_reducible first | apply w1 | apply w2 | apply w3 | apply w4 | apply w5 | apply w6 | apply w7 | apply w8 | apply w9 | apply wa | apply wb | apply wc) | ((with_reducible apply wd); focus decide) | ((with_reducible apply we); focus exact rfl) | ((with_reducible apply wf); focus exact rfl) | ((first | (with_reducible apply SW_run tt_ok hG htb) | ((with_reducible apply SW_draw rfl tt_ok hG htb); (focus kernel_rfl); focus simp only [List.range, List.range.loop, List.size_toArray, List.length_cons, List.length_nil, Nat.reduceAdd])); focus ((repeat' (first | (with_reducible first | exact wg | exact wh) | ((with_reducible first | apply wi | apply wj); focus (simp (discharger := omega) only [go_sem, simprocAttr]; with_reducible rfl)))); done)))
      exact (by simp (discharger := omega) only [go_sem, simprocAttr])
end
end Go.Proofs.YtcaopcpofepniaaDoor
