/- Plain laws, data behind worlds, and contracts of functions, for the last text. No conditions. -/
import Derived.Test.YtcaopcpofepniaaDoorM4
set_option linter.unusedSimpArgs false
set_option linter.unusedVariables false
set_option linter.unnecessarySimpa false
set_option linter.unusedSectionVars false
namespace Go.Proofs.YtcaopcpofepniaaDoor
open Go.RowKit

section
variable {G : World → Prop} (hG : Lasting G)
include hG
set_option maxHeartbeats 8000000 in
set_option maxRecDepth 100000 in
theorem wrong_snd (n : GNode) : Snd Tryd.prog G 61 [tNode n] (tErr (nodeErr n)) := by
  obtain ⟨op, var, other, word, word2, num, coefs⟩ := n
  have cV := variable_snd hG var
  have cO := variable_snd hG other
  have c1 := Size_snd hG coefs
  refine snd_of_body (n := 196) (tm := [(0, .t (tNode ⟨op, var, other, word, word2, num, coefs⟩))]) (rs := [.tmp 2]) tt_ok Tryd.func61 rfl rfl rfl rfl rfl ?_
  have htb : Tab.ok Tryd.prog G [] := Tab.nil
  refine SW_lenA (t := 0) (i := 6) rfl rfl fun hcl => ?_
  rw [List.length_map] at hcl
  have hcl : coefs.length ≤ 9223372036854775807 := hcl
  by_cases hop : 1 ≤ op ∧ op ≤ 9
  · repeat' (first | (with_reducible first | refine SW_seq ?_ | refine SThen_n ?_ | refine SThen_r ?_ | refine SThen_e ?_ | refine SIn_n ?_ | refine SIn_r ?_ | refine SIn_eq ?_ | refine SW_skip ?_ | refine SW_exit ?_ | refine SW_ret ?_ | refine SPost_r ?_) | ((with_reducible refine SIn_ne ?_ ?_); focus decide) | ((with_reducible refine SW_true ?_ ?_); focus exact rfl) | ((with_reducible refine SW_false ?_ ?_); focus exact rfl) | ((first | (with_reducible apply SW_run tt_ok hG htb) | ((with_reducible apply SW_draw rfl tt_ok hG htb); (focus kernel_rfl); (focus (simp only [List.range, List.range.loop, List.size_toArray, List.length_cons, List.length_nil, Nat.reduceAdd])))); focus ((repeat' (first | (with_reducible exact runX_nil) | (with_reducible exact runI_nil) | ((first | (with_reducible apply runX_cons) | (with_reducible apply runI_cons)); focus (simp (discharger := omega) only [go_sem, tNode, simprocAttr]; with_reducible rfl)))); done)))
    refine SW_norm (Norm.fixBox 0 rfl rfl) ?_
    by_cases hl : op = 1 ∨ op = 2
    · have e1 : nodeOk ⟨op, var, other, word, word2, num, coefs⟩ = (decide (coefs.length ≤ 5) && decide (sizeA coefs ≤ 12) && decide (-60 ≤ num) && decide (num ≤ 60)) := by unfold nodeOk; rw [if_pos hl]
      have e2 : usedN ⟨op, var, other, word, word2, num, coefs⟩ = ⟨op, 0, 0, 0, 0, num, coefs⟩ := by unfold usedN; rw [if_pos hl]
      have e3 : nodeErr ⟨op, var, other, word, word2, num, coefs⟩ = if nodeOk ⟨op, var, other, word, word2, num, coefs⟩ = false then 1 else if nodeMore ⟨op, var, other, word, word2, num, coefs⟩ = true then 2 else if 0 < coefs.length ∧ coefs[coefs.length - 1]! = 0 then 2 else 0 := by unfold nodeErr; rw [if_neg (by simp only; omega)]
      have e4 : nodeMore ⟨op, var, other, word, word2, num, coefs⟩ = (decide (var ≠ 0) || decide (other ≠ 0) || decide (word ≠ 0) || decide (word2 ≠ 0)) := by unfold nodeMore; rw [e2]; simp
      rw [e3]
      refine SW_meetG ⟨196, [(1, .bptr 0 0), (3, .bptr 1 0), (4, .t (.bool (nodeOk ⟨op, var, other, word, word2, num, coefs⟩)))], [.fbox [tInt op, tInt var, tInt other, tInt word, tInt word2, tInt num, tInts coefs], .box [.t (tInt op), .t (tInt 0), .t (tInt 0), .t (tInt 0), .t (tInt 0), .t (tInt num), .t (tInts coefs)]]⟩ Weak.sw (SW_block ?_) ?_
      · rw [e1]
        clear e1 e2 e3 e4
        unfold sizeT at c1
        rcases hl with rfl | rfl
        · skip
          repeat' (first | (with_reducible first | refine SW_seq ?_ | refine SW_block ?_ | refine SThen_n ?_ | refine SThen_r ?_ | refine SThen_e ?_ | refine SIn_n ?_ | refine SIn_r ?_ | refine SIn_eq ?_ | refine SW_skip ?_ | refine SW_exit ?_ | refine SW_ret ?_ | refine SPost_r ?_) | ((with_reducible refine SIn_ne ?_ ?_); focus decide) | ((with_reducible refine SW_true ?_ ?_); focus exact rfl) | ((with_reducible refine SW_false ?_ ?_); focus exact rfl) | ((with_reducible apply SW_run tt_ok hG htb); focus ((repeat' (first | (with_reducible exact runX_nil) | ((with_reducible apply runX_cons); focus (simp (discharger := omega) only [go_sem, simprocAttr]; with_reducible rfl)))); done)))
          (with_reducible apply SW_drawF [0, 1, 2, 3, 4, 6] [] rfl tt_ok hG htb)
          · kernel_rfl
          · simp only [List.range, List.range.loop, List.size_toArray, List.length_cons, List.length_nil, Nat.reduceAdd]
            repeat' (first | (with_reducible exact runG_nil) | ((with_reducible apply runF_of); (focus rfl); focus (simp (discharger := omega) only [go_sem, simprocAttr]; with_reducible rfl)) | ((apply runF_fix rfl rfl rfl rfl); focus (simp (discharger := omega) only [go_sem, simprocAttr]; with_reducible rfl)) | ((apply runF_fa rfl rfl); focus (simp (discharger := omega) only [go_sem, simprocAttr]; with_reducible rfl)))
          by_cases h5 : 5 < coefs.length
          · rw [decide_eq_false (show ¬ coefs.length ≤ 5 by omega)]
            try simp only [Bool.false_and]
            cases hz : szAll coefs with
            | true =>
              rw [if_pos hz] at c1
              have htb := Tab.cons c1 Tab.nil
              repeat' (first | (with_reducible first | apply w1 | apply w2 | apply w3 | apply w4 | apply w5 | apply w6 | apply w7 | apply w8 | apply w9 | apply wa | apply wb | apply wc) | ((with_reducible apply wd); focus decide) | ((with_reducible apply we); focus exact rfl) | ((with_reducible apply wf); focus exact rfl) | ((first | (with_reducible apply SW_run tt_ok hG htb) | ((with_reducible apply SW_draw rfl tt_ok hG htb); (focus kernel_rfl); focus simp only [List.range, List.range.loop, List.size_toArray, List.length_cons, List.length_nil, Nat.reduceAdd])); focus ((repeat' (first | (with_reducible first | exact wg | exact wh) | ((with_reducible first | apply wi | apply wj); focus (simp (discharger := omega) only [go_sem, simprocAttr]; with_reducible rfl)))); done)))
              exact Meet.h ⟨_, Norm.headS (own := []) (keep := [1, 3, 4]) (by refine ⟨?_, ?_⟩; (simp (discharger := omega) only [go_sem, simprocAttr]; with_reducible rfl); refine ⟨?_, ?_, ?_, ?_⟩ <;> (simp only [go_sem, simprocAttr]; with_reducible rfl)), rfl⟩
            | false =>
              rw [if_neg (by rw [hz]; decide)] at c1
              have htb := Tab.cons c1 Tab.nil
              repeat' (first | (with_reducible first | apply w1 | apply w2 | apply w3 | apply w4 | apply w5 | apply w6 | apply w7 | apply w8 | apply w9 | apply wa | apply wb | apply wc) | ((with_reducible apply wd); focus decide) | ((with_reducible apply we); focus exact rfl) | ((with_reducible apply wf); focus exact rfl) | ((first | (with_reducible apply SW_run tt_ok hG htb) | ((with_reducible apply SW_draw rfl tt_ok hG htb); (focus kernel_rfl); focus simp only [List.range, List.range.loop, List.size_toArray, List.length_cons, List.length_nil, Nat.reduceAdd])); focus ((repeat' (first | (with_reducible first | exact wg | exact wh) | ((with_reducible first | apply wi | apply wj); focus (simp (discharger := omega) only [go_sem, simprocAttr]; with_reducible rfl)))); done)))
              exact Meet.h ⟨_, Norm.headS (own := []) (keep := [1, 3, 4]) (by refine ⟨?_, ?_⟩; (simp (discharger := omega) only [go_sem, simprocAttr]; with_reducible rfl); refine ⟨?_, ?_, ?_, ?_⟩ <;> (simp only [go_sem, simprocAttr]; with_reducible rfl)), rfl⟩
          · rw [decide_eq_true (show coefs.length ≤ 5 by omega)]
            have hc2 : ∃ q, Snd Tryd.prog G 79 [tInts coefs] (.tup [tInt q, .bool (decide (sizeA coefs ≤ 12))]) := by
              cases hz : szAll coefs with
              | true => rw [if_pos hz, szW_eq hz (by omega)] at c1; exact ⟨_, c1⟩
              | false =>
                rw [if_neg (by rw [hz]; decide)] at c1
                have := szAll_not hz
                rw [decide_eq_false (by omega)]
                exact ⟨_, c1⟩
            obtain ⟨q, c2⟩ := hc2
            have htb := Tab.cons c2 Tab.nil
            by_cases h12 : sizeA coefs ≤ 12
            · rw [decide_eq_true h12] at htb ⊢
              by_cases h1 : -60 ≤ num
              · rw [decide_eq_true h1]
                by_cases h2 : num ≤ 60
                · rw [decide_eq_true h2]
                  simp only [Bool.true_and]
                  repeat' (first | (with_reducible first | apply w1 | apply w2 | apply w3 | apply w4 | apply w5 | apply w6 | apply w7 | apply w8 | apply w9 | apply wa | apply wb | apply wc) | ((with_reducible apply wd); focus decide) | ((with_reducible apply we); focus exact rfl) | ((with_reducible apply wf); focus exact rfl) | ((first | (with_reducible apply SW_run tt_ok hG htb) | ((with_reducible apply SW_draw rfl tt_ok hG htb); (focus kernel_rfl); focus simp only [List.range, List.range.loop, List.size_toArray, List.length_cons, List.length_nil, Nat.reduceAdd])); focus ((repeat' (first | (with_reducible first | exact wg | exact wh) | ((with_reducible first | apply wi | apply wj); focus (simp (discharger := omega) only [go_sem, simprocAttr]; with_reducible rfl)))); done)))
                  exact Meet.h ⟨_, Norm.headS (own := []) (keep := [1, 3, 4]) (by refine ⟨?_, ?_⟩; (simp (discharger := omega) only [go_sem, simprocAttr]; with_reducible rfl); refine ⟨?_, ?_, ?_, ?_⟩ <;> (simp only [go_sem, simprocAttr]; with_reducible rfl)), rfl⟩
                · rw [decide_eq_false h2]
                  simp only [Bool.true_and]
                  repeat' (first | (with_reducible first | apply w1 | apply w2 | apply w3 | apply w4 | apply w5 | apply w6 | apply w7 | apply w8 | apply w9 | apply wa | apply wb | apply wc) | ((with_reducible apply wd); focus decide) | ((with_reducible apply we); focus exact rfl) | ((with_reducible apply wf); focus exact rfl) | ((first | (with_reducible apply SW_run tt_ok hG htb) | ((with_reducible apply SW_draw rfl tt_ok hG htb); (focus kernel_rfl); focus simp only [List.range, List.range.loop, List.size_toArray, List.length_cons, List.length_nil, Nat.reduceAdd])); focus ((repeat' (first | (with_reducible first | exact wg | exact wh) | ((with_reducible first | apply wi | apply wj); focus (simp (discharger := omega) only [go_sem, simprocAttr]; with_reducible rfl)))); done)))
                  exact Meet.h ⟨_, Norm.headS (own := []) (keep := [1, 3, 4]) (by refine ⟨?_, ?_⟩; (simp (discharger := omega) only [go_sem, simprocAttr]; with_reducible rfl); refine ⟨?_, ?_, ?_, ?_⟩ <;> (simp only [go_sem, simprocAttr]; with_reducible rfl)), rfl⟩
              · rw [decide_eq_false h1]
                simp only [Bool.true_and, Bool.false_and]
                repeat' (first | (with_reducible first | apply w1 | apply w2 | apply w3 | apply w4 | apply w5 | apply w6 | apply w7 | apply w8 | apply w9 | apply wa | apply wb | apply wc) | ((with_reducible apply wd); focus decide) | ((with_reducible apply we); focus exact rfl) | ((with_reducible apply wf); focus exact rfl) | ((first | (with_reducible apply SW_run tt_ok hG htb) | ((with_reducible apply SW_draw rfl tt_ok hG htb); (focus kernel_rfl); focus simp only [List.range, List.range.loop, List.size_toArray, List.length_cons, List.length_nil, Nat.reduceAdd])); focus ((repeat' (first | (with_reducible first | exact wg | exact wh) | ((with_reducible first | apply wi | apply wj); focus (simp (discharger := omega) only [go_sem, simprocAttr]; with_reducible rfl)))); done)))
                exact Meet.h ⟨_, Norm.headS (own := []) (keep := [1, 3, 4]) (by refine ⟨?_, ?_⟩; (simp (discharger := omega) only [go_sem, simprocAttr]; with_reducible rfl); refine ⟨?_, ?_, ?_, ?_⟩ <;> (simp only [go_sem, simprocAttr]; with_reducible rfl)), rfl⟩
            · rw [decide_eq_false h12] at htb ⊢
              simp only [Bool.true_and, Bool.false_and]
              repeat' (first | (with_reducible first | apply w1 | apply w2 | apply w3 | apply w4 | apply w5 | apply w6 | apply w7 | apply w8 | apply w9 | apply wa | apply wb | apply wc) | ((with_reducible apply wd); focus decide) | ((with_reducible apply we); focus exact rfl) | ((with_reducible apply wf); focus exact rfl) | ((first | (with_reducible apply SW_run tt_ok hG htb) | ((with_reducible apply SW_draw rfl tt_ok hG htb); (focus kernel_rfl); focus simp only [List.range, List.range.loop, List.size_toArray, List.length_cons, List.length_nil, Nat.reduceAdd])); focus ((repeat' (first | (with_reducible first | exact wg | exact wh) | ((with_reducible first | apply wi | apply wj); focus (simp (discharger := omega) only [go_sem, simprocAttr]; with_reducible rfl)))); done)))
              exact Meet.h ⟨_, Norm.headS (own := []) (keep := [1, 3, 4]) (by refine ⟨?_, ?_⟩; (simp (discharger := omega) only [go_sem, simprocAttr]; with_reducible rfl); refine ⟨?_, ?_, ?_, ?_⟩ <;> (simp only [go_sem, simprocAttr]; with_reducible rfl)), rfl⟩
        · skip
          repeat' (first | (with_reducible first | refine SW_seq ?_ | refine SW_block ?_ | refine SThen_n ?_ | refine SThen_r ?_ | refine SThen_e ?_ | refine SIn_n ?_ | refine SIn_r ?_ | refine SIn_eq ?_ | refine SW_skip ?_ | refine SW_exit ?_ | refine SW_ret ?_ | refine SPost_r ?_) | ((with_reducible refine SIn_ne ?_ ?_); focus decide) | ((with_reducible refine SW_true ?_ ?_); focus exact rfl) | ((with_reducible refine SW_false ?_ ?_); focus exact rfl) | ((with_reducible apply SW_run tt_ok hG htb); focus ((repeat' (first | (with_reducible exact runX_nil) | ((with_reducible apply runX_cons); focus (simp (discharger := omega) only [go_sem, simprocAttr]; with_reducible rfl)))); done)))
          (with_reducible apply SW_drawF [0, 1, 2, 3, 4, 6] [] rfl tt_ok hG htb)
          · kernel_rfl
          · simp only [List.range, List.range.loop, List.size_toArray, List.length_cons, List.length_nil, Nat.reduceAdd]
            repeat' (first | (with_reducible exact runG_nil) | ((with_reducible apply runF_of); (focus rfl); focus (simp (discharger := omega) only [go_sem, simprocAttr]; with_reducible rfl)) | ((apply runF_fix rfl rfl rfl rfl); focus (simp (discharger := omega) only [go_sem, simprocAttr]; with_reducible rfl)) | ((apply runF_fa rfl rfl); focus (simp (discharger := omega) only [go_sem, simprocAttr]; with_reducible rfl)))
          by_cases h5 : 5 < coefs.length
          · rw [decide_eq_false (show ¬ coefs.length ≤ 5 by omega)]
            try simp only [Bool.false_and]
            cases hz : szAll coefs with
            | true =>
              rw [if_pos hz] at c1
              have htb := Tab.cons c1 Tab.nil
              repeat' (first | (with_reducible first | apply w1 | apply w2 | apply w3 | apply w4 | apply w5 | apply w6 | apply w7 | apply w8 | apply w9 | apply wa | apply wb | apply wc) | ((with_reducible apply wd); focus decide) | ((with_reducible apply we); focus exact rfl) | ((with_reducible apply wf); focus exact rfl) | ((first | (with_reducible apply SW_run tt_ok hG htb) | ((with_reducible apply SW_draw rfl tt_ok hG htb); (focus kernel_rfl); focus simp only [List.range, List.range.loop, List.size_toArray, List.length_cons, List.length_nil, Nat.reduceAdd])); focus ((repeat' (first | (with_reducible first | exact wg | exact wh) | ((with_reducible first | apply wi | apply wj); focus (simp (discharger := omega) only [go_sem, simprocAttr]; with_reducible rfl)))); done)))
              exact Meet.h ⟨_, Norm.headS (own := []) (keep := [1, 3, 4]) (by refine ⟨?_, ?_⟩; (simp (discharger := omega) only [go_sem, simprocAttr]; with_reducible rfl); refine ⟨?_, ?_, ?_, ?_⟩ <;> (simp only [go_sem, simprocAttr]; with_reducible rfl)), rfl⟩
            | false =>
              rw [if_neg (by rw [hz]; decide)] at c1
              have htb := Tab.cons c1 Tab.nil
              repeat' (first | (with_reducible first | apply w1 | apply w2 | apply w3 | apply w4 | apply w5 | apply w6 | apply w7 | apply w8 | apply w9 | apply wa | apply wb | apply wc) | ((with_reducible apply wd); focus decide) | ((with_reducible apply we); focus exact rfl) | ((with_reducible apply wf); focus exact rfl) | ((first | (with_reducible apply SW_run tt_ok hG htb) | ((with_reducible apply SW_draw rfl tt_ok hG htb); (focus kernel_rfl); focus simp only [List.range, List.range.loop, List.size_toArray, List.length_cons, List.length_nil, Nat.reduceAdd])); focus ((repeat' (first | (with_reducible first | exact wg | exact wh) | ((with_reducible first | apply wi | apply wj); focus (simp (discharger := omega) only [go_sem, simprocAttr]; with_reducible rfl)))); done)))
              exact Meet.h ⟨_, Norm.headS (own := []) (keep := [1, 3, 4]) (by refine ⟨?_, ?_⟩; (simp (discharger := omega) only [go_sem, simprocAttr]; with_reducible rfl); refine ⟨?_, ?_, ?_, ?_⟩ <;> (simp only [go_sem, simprocAttr]; with_reducible rfl)), rfl⟩
          · rw [decide_eq_true (show coefs.length ≤ 5 by omega)]
            have hc2 : ∃ q, Snd Tryd.prog G 79 [tInts coefs] (.tup [tInt q, .bool (decide (sizeA coefs ≤ 12))]) := by
              cases hz : szAll coefs with
              | true => rw [if_pos hz, szW_eq hz (by omega)] at c1; exact ⟨_, c1⟩
              | false =>
                rw [if_neg (by rw [hz]; decide)] at c1
                have := szAll_not hz
                rw [decide_eq_false (by omega)]
                exact ⟨_, c1⟩
            obtain ⟨q, c2⟩ := hc2
            have htb := Tab.cons c2 Tab.nil
            by_cases h12 : sizeA coefs ≤ 12
            · rw [decide_eq_true h12] at htb ⊢
              by_cases h1 : -60 ≤ num
              · rw [decide_eq_true h1]
                by_cases h2 : num ≤ 60
                · rw [decide_eq_true h2]
                  simp only [Bool.true_and]
                  repeat' (first | (with_reducible first | apply w1 | apply w2 | apply w3 | apply w4 | apply w5 | apply w6 | apply w7 | apply w8 | apply w9 | apply wa | apply wb | apply wc) | ((with_reducible apply wd); focus decide) | ((with_reducible apply we); focus exact rfl) | ((with_reducible apply wf); focus exact rfl) | ((first | (with_reducible apply SW_run tt_ok hG htb) | ((with_reducible apply SW_draw rfl tt_ok hG htb); (focus kernel_rfl); focus simp only [List.range, List.range.loop, List.size_toArray, List.length_cons, List.length_nil, Nat.reduceAdd])); focus ((repeat' (first | (with_reducible first | exact wg | exact wh) | ((with_reducible first | apply wi | apply wj); focus (simp (discharger := omega) only [go_sem, simprocAttr]; with_reducible rfl)))); done)))
                  exact Meet.h ⟨_, Norm.headS (own := []) (keep := [1, 3, 4]) (by refine ⟨?_, ?_⟩; (simp (discharger := omega) only [go_sem, simprocAttr]; with_reducible rfl); refine ⟨?_, ?_, ?_, ?_⟩ <;> (simp only [go_sem, simprocAttr]; with_reducible rfl)), rfl⟩
                · rw [decide_eq_false h2]
                  simp only [Bool.true_and]
                  repeat' (first | (with_reducible first | apply w1 | apply w2 | apply w3 | apply w4 | apply w5 | apply w6 | apply w7 | apply w8 | apply w9 | apply wa | apply wb | apply wc) | ((with_reducible apply wd); focus decide) | ((with_reducible apply we); focus exact rfl) | ((with_reducible apply wf); focus exact rfl) | ((first | (with_reducible apply SW_run tt_ok hG htb) | ((with_reducible apply SW_draw rfl tt_ok hG htb); (focus kernel_rfl); focus simp only [List.range, List.range.loop, List.size_toArray, List.length_cons, List.length_nil, Nat.reduceAdd])); focus ((repeat' (first | (with_reducible first | exact wg | exact wh) | ((with_reducible first | apply wi | apply wj); focus (simp (discharger := omega) only [go_sem, simprocAttr]; with_reducible rfl)))); done)))
                  exact Meet.h ⟨_, Norm.headS (own := []) (keep := [1, 3, 4]) (by refine ⟨?_, ?_⟩; (simp (discharger := omega) only [go_sem, simprocAttr]; with_reducible rfl); refine ⟨?_, ?_, ?_, ?_⟩ <;> (simp only [go_sem, simprocAttr]; with_reducible rfl)), rfl⟩
              · rw [decide_eq_false h1]
                simp only [Bool.true_and, Bool.false_and]
                repeat' (first | (with_reducible first | apply w1 | apply w2 | apply w3 | apply w4 | apply w5 | apply w6 | apply w7 | apply w8 | apply w9 | apply wa | apply wb | apply wc) | ((with_reducible apply wd); focus decide) | ((with_reducible apply we); focus exact rfl) | ((with_reducible apply wf); focus exact rfl) | ((first | (with_reducible apply SW_run tt_ok hG htb) | ((with_reducible apply SW_draw rfl tt_ok hG htb); (focus kernel_rfl); focus simp only [List.range, List.range.loop, List.size_toArray, List.length_cons, List.length_nil, Nat.reduceAdd])); focus ((repeat' (first | (with_reducible first | exact wg | exact wh) | ((with_reducible first | apply wi | apply wj); focus (simp (discharger := omega) only [go_sem, simprocAttr]; with_reducible rfl)))); done)))
                exact Meet.h ⟨_, Norm.headS (own := []) (keep := [1, 3, 4]) (by refine ⟨?_, ?_⟩; (simp (discharger := omega) only [go_sem, simprocAttr]; with_reducible rfl); refine ⟨?_, ?_, ?_, ?_⟩ <;> (simp only [go_sem, simprocAttr]; with_reducible rfl)), rfl⟩
            · rw [decide_eq_false h12] at htb ⊢
              simp only [Bool.true_and, Bool.false_and]
              repeat' (first | (with_reducible first | apply w1 | apply w2 | apply w3 | apply w4 | apply w5 | apply w6 | apply w7 | apply w8 | apply w9 | apply wa | apply wb | apply wc) | ((with_reducible apply wd); focus decide) | ((with_reducible apply we); focus exact rfl) | ((with_reducible apply wf); focus exact rfl) | ((first | (with_reducible apply SW_run tt_ok hG htb) | ((with_reducible apply SW_draw rfl tt_ok hG htb); (focus kernel_rfl); focus simp only [List.range, List.range.loop, List.size_toArray, List.length_cons, List.length_nil, Nat.reduceAdd])); focus ((repeat' (first | (with_reducible first | exact wg | exact wh) | ((with_reducible first | apply wi | apply wj); focus (simp (discharger := omega) only [go_sem, simprocAttr]; with_reducible rfl)))); done)))
              exact Meet.h ⟨_, Norm.headS (own := []) (keep := [1, 3, 4]) (by refine ⟨?_, ?_⟩; (simp (discharger := omega) only [go_sem, simprocAttr]; with_reducible rfl); refine ⟨?_, ?_, ?_, ?_⟩ <;> (simp only [go_sem, simprocAttr]; with_reducible rfl)), rfl⟩
      · generalize nodeOk ⟨op, var, other, word, word2, num, coefs⟩ = ok at *
        cases ok with
        | false =>
          rw [if_pos rfl]
          repeat' (first | (with_reducible first | apply w1 | apply w2 | apply w3 | apply w4 | apply w5 | apply w6 | apply w7 | apply w8 | apply w9 | apply wa | apply wb | apply wc) | ((with_reducible apply wd); focus decide) | ((with_reducible apply we); focus exact rfl) | ((with_reducible apply wf); focus exact rfl) | ((first | (with_reducible apply SW_run tt_ok hG htb) | ((with_reducible apply SW_draw rfl tt_ok hG htb); (focus kernel_rfl); focus simp only [List.range, List.range.loop, List.size_toArray, List.length_cons, List.length_nil, Nat.reduceAdd])); focus ((repeat' (first | (with_reducible first | exact wg | exact wh) | ((with_reducible first | apply wi | apply wj); focus (simp (discharger := omega) only [go_sem, simprocAttr]; with_reducible rfl)))); done)))
          exact (by simp (discharger := omega) only [go_sem, tErr, simprocAttr])
        | true =>
          rw [if_neg (by decide)]
          repeat' (first | (with_reducible first | apply w1 | apply w2 | apply w3 | apply w4 | apply w5 | apply w6 | apply w7 | apply w8 | apply w9 | apply wa | apply wb | apply wc) | ((with_reducible apply wd); focus decide) | ((with_reducible apply we); focus exact rfl) | ((with_reducible apply wf); focus exact rfl) | ((first | (with_reducible apply SW_run tt_ok hG htb) | ((with_reducible apply SW_draw rfl tt_ok hG htb); (focus kernel_rfl); focus simp only [List.range, List.range.loop, List.size_toArray, List.length_cons, List.length_nil, Nat.reduceAdd])); focus ((repeat' (first | (with_reducible first | exact wg | exact wh) | ((with_reducible first | apply wi | apply wj); focus (simp (discharger := omega) only [go_sem, simprocAttr]; with_reducible rfl)))); done)))
          refine SW_meetG ⟨196, [(1, .bptr 0 0), (179, .t (.bool (nodeMore ⟨op, var, other, word, word2, num, coefs⟩)))], [.fbox [tInt op, tInt var, tInt other, tInt word, tInt word2, tInt num, tInts coefs]]⟩ Weak.sw ?_ ?_
          · rw [e4]
            clear e1 e2 e3 e4
            by_cases mvar : var = 0
            · subst mvar
              rw [decide_eq_false (show ¬ (0 : Int) ≠ 0 by decide)]
              by_cases mother : other = 0
              · subst mother
                rw [decide_eq_false (show ¬ (0 : Int) ≠ 0 by decide)]
                by_cases mword : word = 0
                · subst mword
                  rw [decide_eq_false (show ¬ (0 : Int) ≠ 0 by decide)]
                  by_cases mword2 : word2 = 0
                  · subst mword2
                    rw [decide_eq_false (show ¬ (0 : Int) ≠ 0 by decide)]
                    try simp only [Bool.false_or, Bool.or_false]
                    repeat' (first | (with_reducible first | apply w1 | apply w2 | apply w3 | apply w4 | apply w5 | apply w6 | apply w7 | apply w8 | apply w9 | apply wa | apply wb | apply wc) | ((with_reducible apply wd); focus decide) | ((with_reducible apply we); focus exact rfl) | ((with_reducible apply wf); focus exact rfl) | ((first | (with_reducible apply SW_run tt_ok hG htb) | ((with_reducible apply SW_draw rfl tt_ok hG htb); (focus kernel_rfl); focus simp only [List.range, List.range.loop, List.size_toArray, List.length_cons, List.length_nil, Nat.reduceAdd])); focus ((repeat' (first | (with_reducible first | exact wg | exact wh) | ((with_reducible first | apply wi | apply wj); focus (simp (discharger := omega) only [go_sem, simprocAttr]; with_reducible rfl)))); done)))
                    exact Meet.h ⟨_, Norm.headS (own := []) (keep := [1, 179]) (by refine ⟨?_, ?_⟩; (simp (discharger := omega) only [go_sem, simprocAttr]; with_reducible rfl); refine ⟨?_, ?_, ?_, ?_⟩ <;> (simp only [go_sem, simprocAttr]; with_reducible rfl)), rfl⟩
                  · rw [decide_eq_true (show word2 ≠ 0 by omega)]
                    try simp only [Bool.false_or, Bool.true_or, Bool.or_true]
                    repeat' (first | (with_reducible first | apply w1 | apply w2 | apply w3 | apply w4 | apply w5 | apply w6 | apply w7 | apply w8 | apply w9 | apply wa | apply wb | apply wc) | ((with_reducible apply wd); focus decide) | ((with_reducible apply we); focus exact rfl) | ((with_reducible apply wf); focus exact rfl) | ((first | (with_reducible apply SW_run tt_ok hG htb) | ((with_reducible apply SW_draw rfl tt_ok hG htb); (focus kernel_rfl); focus simp only [List.range, List.range.loop, List.size_toArray, List.length_cons, List.length_nil, Nat.reduceAdd])); focus ((repeat' (first | (with_reducible first | exact wg | exact wh) | ((with_reducible first | apply wi | apply wj); focus (simp (discharger := omega) only [go_sem, mword2, simprocAttr]; with_reducible rfl)))); done)))
                    exact Meet.h ⟨_, Norm.headS (own := []) (keep := [1, 179]) (by refine ⟨?_, ?_⟩; (simp (discharger := omega) only [go_sem, simprocAttr]; with_reducible rfl); refine ⟨?_, ?_, ?_, ?_⟩ <;> (simp only [go_sem, simprocAttr]; with_reducible rfl)), rfl⟩
                · rw [decide_eq_true (show word ≠ 0 by omega)]
                  try simp only [Bool.false_or, Bool.true_or, Bool.or_true]
                  repeat' (first | (with_reducible first | apply w1 | apply w2 | apply w3 | apply w4 | apply w5 | apply w6 | apply w7 | apply w8 | apply w9 | apply wa | apply wb | apply wc) | ((with_reducible apply wd); focus decide) | ((with_reducible apply we); focus exact rfl) | ((with_reducible apply wf); focus exact rfl) | ((first | (with_reducible apply SW_run tt_ok hG htb) | ((with_reducible apply SW_draw rfl tt_ok hG htb); (focus kernel_rfl); focus simp only [List.range, List.range.loop, List.size_toArray, List.length_cons, List.length_nil, Nat.reduceAdd])); focus ((repeat' (first | (with_reducible first | exact wg | exact wh) | ((with_reducible first | apply wi | apply wj); focus (simp (discharger := omega) only [go_sem, mword, simprocAttr]; with_reducible rfl)))); done)))
                  exact Meet.h ⟨_, Norm.headS (own := []) (keep := [1, 179]) (by refine ⟨?_, ?_⟩; (simp (discharger := omega) only [go_sem, simprocAttr]; with_reducible rfl); refine ⟨?_, ?_, ?_, ?_⟩ <;> (simp only [go_sem, simprocAttr]; with_reducible rfl)), rfl⟩
              · rw [decide_eq_true (show other ≠ 0 by omega)]
                try simp only [Bool.false_or, Bool.true_or, Bool.or_true]
                repeat' (first | (with_reducible first | apply w1 | apply w2 | apply w3 | apply w4 | apply w5 | apply w6 | apply w7 | apply w8 | apply w9 | apply wa | apply wb | apply wc) | ((with_reducible apply wd); focus decide) | ((with_reducible apply we); focus exact rfl) | ((with_reducible apply wf); focus exact rfl) | ((first | (with_reducible apply SW_run tt_ok hG htb) | ((with_reducible apply SW_draw rfl tt_ok hG htb); (focus kernel_rfl); focus simp only [List.range, List.range.loop, List.size_toArray, List.length_cons, List.length_nil, Nat.reduceAdd])); focus ((repeat' (first | (with_reducible first | exact wg | exact wh) | ((with_reducible first | apply wi | apply wj); focus (simp (discharger := omega) only [go_sem, mother, simprocAttr]; with_reducible rfl)))); done)))
                exact Meet.h ⟨_, Norm.headS (own := []) (keep := [1, 179]) (by refine ⟨?_, ?_⟩; (simp (discharger := omega) only [go_sem, simprocAttr]; with_reducible rfl); refine ⟨?_, ?_, ?_, ?_⟩ <;> (simp only [go_sem, simprocAttr]; with_reducible rfl)), rfl⟩
            · rw [decide_eq_true (show var ≠ 0 by omega)]
              try simp only [Bool.false_or, Bool.true_or, Bool.or_true]
              repeat' (first | (with_reducible first | apply w1 | apply w2 | apply w3 | apply w4 | apply w5 | apply w6 | apply w7 | apply w8 | apply w9 | apply wa | apply wb | apply wc) | ((with_reducible apply wd); focus decide) | ((with_reducible apply we); focus exact rfl) | ((with_reducible apply wf); focus exact rfl) | ((first | (with_reducible apply SW_run tt_ok hG htb) | ((with_reducible apply SW_draw rfl tt_ok hG htb); (focus kernel_rfl); focus simp only [List.range, List.range.loop, List.size_toArray, List.length_cons, List.length_nil, Nat.reduceAdd])); focus ((repeat' (first | (with_reducible first | exact wg | exact wh) | ((with_reducible first | apply wi | apply wj); focus (simp (discharger := omega) only [go_sem, mvar, simprocAttr]; with_reducible rfl)))); done)))
              exact Meet.h ⟨_, Norm.headS (own := []) (keep := [1, 179]) (by refine ⟨?_, ?_⟩; (simp (discharger := omega) only [go_sem, simprocAttr]; with_reducible rfl); refine ⟨?_, ?_, ?_, ?_⟩ <;> (simp only [go_sem, simprocAttr]; with_reducible rfl)), rfl⟩
          · generalize nodeMore ⟨op, var, other, word, word2, num, coefs⟩ = mo at *
            cases mo with
            | true =>
              rw [if_pos rfl]
              repeat' (first | (with_reducible first | apply w1 | apply w2 | apply w3 | apply w4 | apply w5 | apply w6 | apply w7 | apply w8 | apply w9 | apply wa | apply wb | apply wc) | ((with_reducible apply wd); focus decide) | ((with_reducible apply we); focus exact rfl) | ((with_reducible apply wf); focus exact rfl) | ((first | (with_reducible apply SW_run tt_ok hG htb) | ((with_reducible apply SW_draw rfl tt_ok hG htb); (focus kernel_rfl); focus simp only [List.range, List.range.loop, List.size_toArray, List.length_cons, List.length_nil, Nat.reduceAdd])); focus ((repeat' (first | (with_reducible first | exact wg | exact wh) | ((with_reducible first | apply wi | apply wj); focus (simp (discharger := omega) only [go_sem, simprocAttr]; with_reducible rfl)))); done)))
              exact (by simp (discharger := omega) only [go_sem, tErr, simprocAttr])
            | false =>
              rw [if_neg (by decide)]
              clear e1 e2 e3 e4 cV cO c1
              by_cases hc : 0 < coefs.length
              · obtain ⟨x, hx⟩ : ∃ x, coefs[coefs.length - 1]! = x := ⟨_, rfl⟩
                have hxe : (coefs.length : Int) - 1 = ((coefs.length - 1 : Nat) : Int) := by omega
                have hkk : coefs.length - 1 < coefs.length := by omega
                rw [hx]
                generalize coefs.length - 1 = kk at *
                by_cases h0 : x = 0
                · rw [if_pos ⟨hc, h0⟩]
                  repeat' (first | (with_reducible first | apply w1 | apply w2 | apply w3 | apply w4 | apply w5 | apply w6 | apply w7 | apply w8 | apply w9 | apply wa | apply wb | apply wc) | ((with_reducible apply wd); focus decide) | ((with_reducible apply we); focus exact rfl) | ((with_reducible apply wf); focus exact rfl) | ((first | (with_reducible apply SW_run tt_ok hG htb) | ((with_reducible apply SW_draw rfl tt_ok hG htb); (focus kernel_rfl); focus simp only [List.range, List.range.loop, List.size_toArray, List.length_cons, List.length_nil, Nat.reduceAdd])); focus ((repeat' (first | (with_reducible first | exact wg | exact wh) | ((with_reducible first | apply wi | apply wj); focus (simp (discharger := omega) only [go_sem, hxe, hx, h0, simprocAttr]; with_reducible rfl)))); done)))
                  exact (by simp (discharger := omega) only [go_sem, tErr, simprocAttr])
                · rw [if_neg (by rintro ⟨_, e⟩; exact h0 e)]
                  repeat' (first | (with_reducible first | apply w1 | apply w2 | apply w3 | apply w4 | apply w5 | apply w6 | apply w7 | apply w8 | apply w9 | apply wa | apply wb | apply wc) | ((with_reducible apply wd); focus decide) | ((with_reducible apply we); focus exact rfl) | ((with_reducible apply wf); focus exact rfl) | ((first | (with_reducible apply SW_run tt_ok hG htb) | ((with_reducible apply SW_draw rfl tt_ok hG htb); (focus kernel_rfl); focus simp only [List.range, List.range.loop, List.size_toArray, List.length_cons, List.length_nil, Nat.reduceAdd])); focus ((repeat' (first | (with_reducible first | exact wg | exact wh) | ((with_reducible first | apply wi | apply wj); focus (simp (discharger := omega) only [go_sem, hxe, hx, h0, simprocAttr]; with_reducible rfl)))); done)))
                  exact (by simp (discharger := omega) only [go_sem, tErr, simprocAttr])
              · rw [if_neg (by rintro ⟨e, _⟩; exact hc e)]
                have hc0 : coefs.length = 0 := by omega
                repeat' (first | (with_reducible first | apply w1 | apply w2 | apply w3 | apply w4 | apply w5 | apply w6 | apply w7 | apply w8 | apply w9 | apply wa | apply wb | apply wc) | ((with_reducible apply wd); focus decide) | ((with_reducible apply we); focus exact rfl) | ((with_reducible apply wf); focus exact rfl) | ((first | (with_reducible apply SW_run tt_ok hG htb) | ((with_reducible apply SW_draw rfl tt_ok hG htb); (focus kernel_rfl); focus simp only [List.range, List.range.loop, List.size_toArray, List.length_cons, List.length_nil, Nat.reduceAdd])); focus ((repeat' (first | (with_reducible first | exact wg | exact wh) | ((with_reducible first | apply wi | apply wj); focus (simp (discharger := omega) only [go_sem, hc0, simprocAttr]; with_reducible rfl)))); done)))
                exact (by simp (discharger := omega) only [go_sem, tErr, simprocAttr])
    · have e3 : nodeErr ⟨op, var, other, word, word2, num, coefs⟩ = if nodeOk ⟨op, var, other, word, word2, num, coefs⟩ = false then 1 else if nodeMore ⟨op, var, other, word, word2, num, coefs⟩ = true then 2 else if 0 < coefs.length ∧ coefs[coefs.length - 1]! = 0 then 2 else 0 := by unfold nodeErr; rw [if_neg (by simp only; omega)]
      rw [e3]
      have hop3 : op = 3 ∨ op = 4 ∨ op = 5 ∨ op = 6 ∨ op = 7 ∨ op = 8 ∨ op = 9 := by omega
      clear hl hop
      rcases hop3 with h | h | h | h | h | h | h <;> subst h
      · have e1 : nodeOk ⟨3, var, other, word, word2, num, coefs⟩ = (isVar var && decide (0 ≤ word) && decide (word < 3) && decide (0 ≤ num) && decide (num ≤ 9)) := by unfold nodeOk; simp
        have e2 : usedN ⟨3, var, other, word, word2, num, coefs⟩ = ⟨3, var, 0, word, 0, num, []⟩ := by unfold usedN; simp
        have e4 : nodeMore ⟨3, var, other, word, word2, num, coefs⟩ = (decide (other ≠ 0) || decide (word2 ≠ 0) || decide (coefs.length ≠ 0)) := by unfold nodeMore; rw [e2]; simp
        refine SW_meetG ⟨196, [(1, .bptr 0 0), (3, .bptr 1 0), (4, .t (.bool (nodeOk ⟨3, var, other, word, word2, num, coefs⟩)))], [.fbox [tInt 3, tInt var, tInt other, tInt word, tInt word2, tInt num, tInts coefs], .box [.t (tInt 3), .t (tInt var), .t (tInt 0), .t (tInt word), .t (tInt 0), .t (tInt num), .nil]]⟩ Weak.sw (SW_block ?_) ?_
        · rw [e1]
          clear e1 e2 e3 e4
          repeat' (first | (with_reducible first | refine SW_seq ?_ | refine SW_block ?_ | refine SThen_n ?_ | refine SThen_r ?_ | refine SThen_e ?_ | refine SIn_n ?_ | refine SIn_r ?_ | refine SIn_eq ?_ | refine SW_skip ?_ | refine SW_exit ?_ | refine SW_ret ?_ | refine SPost_r ?_) | ((with_reducible refine SIn_ne ?_ ?_); focus decide) | ((with_reducible refine SW_true ?_ ?_); focus exact rfl) | ((with_reducible refine SW_false ?_ ?_); focus exact rfl) | ((with_reducible apply SW_run tt_ok hG htb); focus ((repeat' (first | (with_reducible exact runX_nil) | ((with_reducible apply runX_cons); focus (simp (discharger := omega) only [go_sem, simprocAttr]; with_reducible rfl)))); done)))
          (with_reducible apply SW_drawF [0, 1, 2, 3, 4, 5, 6, 8, 10] [] rfl tt_ok hG htb)
          · kernel_rfl
          · simp only [List.range, List.range.loop, List.size_toArray, List.length_cons, List.length_nil, Nat.reduceAdd]
            repeat' (first | (with_reducible exact runG_nil) | ((with_reducible apply runF_of); (focus rfl); focus (simp (discharger := omega) only [go_sem, simprocAttr]; with_reducible rfl)) | ((apply runF_fix rfl rfl rfl rfl); focus (simp (discharger := omega) only [go_sem, simprocAttr]; with_reducible rfl)) | ((apply runF_fa rfl rfl); focus (simp (discharger := omega) only [go_sem, simprocAttr]; with_reducible rfl)))
          cases hb0 : isVar var with
          | false =>
            rw [hb0] at cV
            try simp only [Bool.true_and, Bool.false_and, Bool.and_true, Bool.and_false]
            have htb := Tab.cons cV Tab.nil
            repeat' (first | (with_reducible first | apply w1 | apply w2 | apply w3 | apply w4 | apply w5 | apply w6 | apply w7 | apply w8 | apply w9 | apply wa | apply wb | apply wc) | ((with_reducible apply wd); focus decide) | ((with_reducible apply we); focus exact rfl) | ((with_reducible apply wf); focus exact rfl) | ((first | (with_reducible apply SW_run tt_ok hG htb) | ((with_reducible apply SW_draw rfl tt_ok hG htb); (focus kernel_rfl); focus simp only [List.range, List.range.loop, List.size_toArray, List.length_cons, List.length_nil, Nat.reduceAdd])); focus ((repeat' (first | (with_reducible first | exact wg | exact wh) | ((with_reducible first | apply wi | apply wj); focus (simp (discharger := omega) only [go_sem, simprocAttr]; with_reducible rfl)))); done)))
            exact Meet.h ⟨_, Norm.headS (own := []) (keep := [1, 3, 4]) (by refine ⟨?_, ?_⟩; (simp (discharger := omega) only [go_sem, simprocAttr]; with_reducible rfl); refine ⟨?_, ?_, ?_, ?_⟩ <;> (simp only [go_sem, simprocAttr]; with_reducible rfl)), rfl⟩
          | true =>
            rw [hb0] at cV
            by_cases q1 : 0 ≤ word
            · rw [decide_eq_true q1]
              by_cases q2 : word < 3
              · rw [decide_eq_true q2]
                by_cases q3 : 0 ≤ num
                · rw [decide_eq_true q3]
                  by_cases q4 : num ≤ 9
                  · rw [decide_eq_true q4]
                    try simp only [Bool.true_and, Bool.false_and, Bool.and_true, Bool.and_false]
                    have htb := Tab.cons cV Tab.nil
                    repeat' (first | (with_reducible first | apply w1 | apply w2 | apply w3 | apply w4 | apply w5 | apply w6 | apply w7 | apply w8 | apply w9 | apply wa | apply wb | apply wc) | ((with_reducible apply wd); focus decide) | ((with_reducible apply we); focus exact rfl) | ((with_reducible apply wf); focus exact rfl) | ((first | (with_reducible apply SW_run tt_ok hG htb) | ((with_reducible apply SW_draw rfl tt_ok hG htb); (focus kernel_rfl); focus simp only [List.range, List.range.loop, List.size_toArray, List.length_cons, List.length_nil, Nat.reduceAdd])); focus ((repeat' (first | (with_reducible first | exact wg | exact wh) | ((with_reducible first | apply wi | apply wj); focus (simp (discharger := omega) only [go_sem, simprocAttr]; with_reducible rfl)))); done)))
                    exact Meet.h ⟨_, Norm.headS (own := []) (keep := [1, 3, 4]) (by refine ⟨?_, ?_⟩; (simp (discharger := omega) only [go_sem, simprocAttr]; with_reducible rfl); refine ⟨?_, ?_, ?_, ?_⟩ <;> (simp only [go_sem, simprocAttr]; with_reducible rfl)), rfl⟩
                  · rw [decide_eq_false q4]
                    try simp only [Bool.true_and, Bool.false_and, Bool.and_true, Bool.and_false]
                    have htb := Tab.cons cV Tab.nil
                    repeat' (first | (with_reducible first | apply w1 | apply w2 | apply w3 | apply w4 | apply w5 | apply w6 | apply w7 | apply w8 | apply w9 | apply wa | apply wb | apply wc) | ((with_reducible apply wd); focus decide) | ((with_reducible apply we); focus exact rfl) | ((with_reducible apply wf); focus exact rfl) | ((first | (with_reducible apply SW_run tt_ok hG htb) | ((with_reducible apply SW_draw rfl tt_ok hG htb); (focus kernel_rfl); focus simp only [List.range, List.range.loop, List.size_toArray, List.length_cons, List.length_nil, Nat.reduceAdd])); focus ((repeat' (first | (with_reducible first | exact wg | exact wh) | ((with_reducible first | apply wi | apply wj); focus (simp (discharger := omega) only [go_sem, simprocAttr]; with_reducible rfl)))); done)))
                    exact Meet.h ⟨_, Norm.headS (own := []) (keep := [1, 3, 4]) (by refine ⟨?_, ?_⟩; (simp (discharger := omega) only [go_sem, simprocAttr]; with_reducible rfl); refine ⟨?_, ?_, ?_, ?_⟩ <;> (simp only [go_sem, simprocAttr]; with_reducible rfl)), rfl⟩
                · rw [decide_eq_false q3]
                  try simp only [Bool.true_and, Bool.false_and, Bool.and_true, Bool.and_false]
                  have htb := Tab.cons cV Tab.nil
                  repeat' (first | (with_reducible first | apply w1 | apply w2 | apply w3 | apply w4 | apply w5 | apply w6 | apply w7 | apply w8 | apply w9 | apply wa | apply wb | apply wc) | ((with_reducible apply wd); focus decide) | ((with_reducible apply we); focus exact rfl) | ((with_reducible apply wf); focus exact rfl) | ((first | (with_reducible apply SW_run tt_ok hG htb) | ((with_reducible apply SW_draw rfl tt_ok hG htb); (focus kernel_rfl); focus simp only [List.range, List.range.loop, List.size_toArray, List.length_cons, List.length_nil, Nat.reduceAdd])); focus ((repeat' (first | (with_reducible first | exact wg | exact wh) | ((with_reducible first | apply wi | apply wj); focus (simp (discharger := omega) only [go_sem, simprocAttr]; with_reducible rfl)))); done)))
                  exact Meet.h ⟨_, Norm.headS (own := []) (keep := [1, 3, 4]) (by refine ⟨?_, ?_⟩; (simp (discharger := omega) only [go_sem, simprocAttr]; with_reducible rfl); refine ⟨?_, ?_, ?_, ?_⟩ <;> (simp only [go_sem, simprocAttr]; with_reducible rfl)), rfl⟩
              · rw [decide_eq_false q2]
                try simp only [Bool.true_and, Bool.false_and, Bool.and_true, Bool.and_false]
                have htb := Tab.cons cV Tab.nil
                repeat' (first | (with_reducible first | apply w1 | apply w2 | apply w3 | apply w4 | apply w5 | apply w6 | apply w7 | apply w8 | apply w9 | apply wa | apply wb | apply wc) | ((with_reducible apply wd); focus decide) | ((with_reducible apply we); focus exact rfl) | ((with_reducible apply wf); focus exact rfl) | ((first | (with_reducible apply SW_run tt_ok hG htb) | ((with_reducible apply SW_draw rfl tt_ok hG htb); (focus kernel_rfl); focus simp only [List.range, List.range.loop, List.size_toArray, List.length_cons, List.length_nil, Nat.reduceAdd])); focus ((repeat' (first | (with_reducible first | exact wg | exact wh) | ((with_reducible first | apply wi | apply wj); focus (simp (discharger := omega) only [go_sem, simprocAttr]; with_reducible rfl)))); done)))
                exact Meet.h ⟨_, Norm.headS (own := []) (keep := [1, 3, 4]) (by refine ⟨?_, ?_⟩; (simp (discharger := omega) only [go_sem, simprocAttr]; with_reducible rfl); refine ⟨?_, ?_, ?_, ?_⟩ <;> (simp only [go_sem, simprocAttr]; with_reducible rfl)), rfl⟩
            · rw [decide_eq_false q1]
              try simp only [Bool.true_and, Bool.false_and, Bool.and_true, Bool.and_false]
              have htb := Tab.cons cV Tab.nil
              repeat' (first | (with_reducible first | apply w1 | apply w2 | apply w3 | apply w4 | apply w5 | apply w6 | apply w7 | apply w8 | apply w9 | apply wa | apply wb | apply wc) | ((with_reducible apply wd); focus decide) | ((with_reducible apply we); focus exact rfl) | ((with_reducible apply wf); focus exact rfl) | ((first | (with_reducible apply SW_run tt_ok hG htb) | ((with_reducible apply SW_draw rfl tt_ok hG htb); (focus kernel_rfl); focus simp only [List.range, List.range.loop, List.size_toArray, List.length_cons, List.length_nil, Nat.reduceAdd])); focus ((repeat' (first | (with_reducible first | exact wg | exact wh) | ((with_reducible first | apply wi | apply wj); focus (simp (discharger := omega) only [go_sem, simprocAttr]; with_reducible rfl)))); done)))
              exact Meet.h ⟨_, Norm.headS (own := []) (keep := [1, 3, 4]) (by refine ⟨?_, ?_⟩; (simp (discharger := omega) only [go_sem, simprocAttr]; with_reducible rfl); refine ⟨?_, ?_, ?_, ?_⟩ <;> (simp only [go_sem, simprocAttr]; with_reducible rfl)), rfl⟩
        · generalize nodeOk ⟨3, var, other, word, word2, num, coefs⟩ = ok at *
          cases ok with
          | false =>
            rw [if_pos rfl]
            repeat' (first | (with_reducible first | apply w1 | apply w2 | apply w3 | apply w4 | apply w5 | apply w6 | apply w7 | apply w8 | apply w9 | apply wa | apply wb | apply wc) | ((with_reducible apply wd); focus decide) | ((with_reducible apply we); focus exact rfl) | ((with_reducible apply wf); focus exact rfl) | ((first | (with_reducible apply SW_run tt_ok hG htb) | ((with_reducible apply SW_draw rfl tt_ok hG htb); (focus kernel_rfl); focus simp only [List.range, List.range.loop, List.size_toArray, List.length_cons, List.length_nil, Nat.reduceAdd])); focus ((repeat' (first | (with_reducible first | exact wg | exact wh) | ((with_reducible first | apply wi | apply wj); focus (simp (discharger := omega) only [go_sem, simprocAttr]; with_reducible rfl)))); done)))
            exact (by simp (discharger := omega) only [go_sem, tErr, simprocAttr])
          | true =>
            rw [if_neg (by decide)]
            repeat' (first | (with_reducible first | apply w1 | apply w2 | apply w3 | apply w4 | apply w5 | apply w6 | apply w7 | apply w8 | apply w9 | apply wa | apply wb | apply wc) | ((with_reducible apply wd); focus decide) | ((with_reducible apply we); focus exact rfl) | ((with_reducible apply wf); focus exact rfl) | ((first | (with_reducible apply SW_run tt_ok hG htb) | ((with_reducible apply SW_draw rfl tt_ok hG htb); (focus kernel_rfl); focus simp only [List.range, List.range.loop, List.size_toArray, List.length_cons, List.length_nil, Nat.reduceAdd])); focus ((repeat' (first | (with_reducible first | exact wg | exact wh) | ((with_reducible first | apply wi | apply wj); focus (simp (discharger := omega) only [go_sem, simprocAttr]; with_reducible rfl)))); done)))
            refine SW_meetG ⟨196, [(1, .bptr 0 0), (179, .t (.bool (nodeMore ⟨3, var, other, word, word2, num, coefs⟩)))], [.fbox [tInt 3, tInt var, tInt other, tInt word, tInt word2, tInt num, tInts coefs]]⟩ Weak.sw ?_ ?_
            · rw [e4]
              clear e1 e2 e3 e4
              by_cases mother : other = 0
              · subst mother
                rw [decide_eq_false (show ¬ (0 : Int) ≠ 0 by decide)]
                by_cases mword2 : word2 = 0
                · subst mword2
                  rw [decide_eq_false (show ¬ (0 : Int) ≠ 0 by decide)]
                  by_cases mc : coefs.length = 0
                  · rw [decide_eq_false (show ¬ coefs.length ≠ 0 by omega)]
                    try simp only [Bool.false_or, Bool.or_false]
                    repeat' (first | (with_reducible first | apply w1 | apply w2 | apply w3 | apply w4 | apply w5 | apply w6 | apply w7 | apply w8 | apply w9 | apply wa | apply wb | apply wc) | ((with_reducible apply wd); focus decide) | ((with_reducible apply we); focus exact rfl) | ((with_reducible apply wf); focus exact rfl) | ((first | (with_reducible apply SW_run tt_ok hG htb) | ((with_reducible apply SW_draw rfl tt_ok hG htb); (focus kernel_rfl); focus simp only [List.range, List.range.loop, List.size_toArray, List.length_cons, List.length_nil, Nat.reduceAdd])); focus ((repeat' (first | (with_reducible first | exact wg | exact wh) | ((with_reducible first | apply wi | apply wj); focus (simp (discharger := omega) only [go_sem, mc, simprocAttr]; with_reducible rfl)))); done)))
                    exact Meet.h ⟨_, Norm.headS (own := []) (keep := [1, 179]) (by refine ⟨?_, ?_⟩; (simp (discharger := omega) only [go_sem, simprocAttr]; with_reducible rfl); refine ⟨?_, ?_, ?_, ?_⟩ <;> (simp only [go_sem, simprocAttr]; with_reducible rfl)), rfl⟩
                  · rw [decide_eq_true (show coefs.length ≠ 0 by omega)]
                    try simp only [Bool.false_or, Bool.true_or, Bool.or_true]
                    repeat' (first | (with_reducible first | apply w1 | apply w2 | apply w3 | apply w4 | apply w5 | apply w6 | apply w7 | apply w8 | apply w9 | apply wa | apply wb | apply wc) | ((with_reducible apply wd); focus decide) | ((with_reducible apply we); focus exact rfl) | ((with_reducible apply wf); focus exact rfl) | ((first | (with_reducible apply SW_run tt_ok hG htb) | ((with_reducible apply SW_draw rfl tt_ok hG htb); (focus kernel_rfl); focus simp only [List.range, List.range.loop, List.size_toArray, List.length_cons, List.length_nil, Nat.reduceAdd])); focus ((repeat' (first | (with_reducible first | exact wg | exact wh) | ((with_reducible first | apply wi | apply wj); focus (simp (discharger := omega) only [go_sem, mc, simprocAttr]; with_reducible rfl)))); done)))
                    exact Meet.h ⟨_, Norm.headS (own := []) (keep := [1, 179]) (by refine ⟨?_, ?_⟩; (simp (discharger := omega) only [go_sem, simprocAttr]; with_reducible rfl); refine ⟨?_, ?_, ?_, ?_⟩ <;> (simp only [go_sem, simprocAttr]; with_reducible rfl)), rfl⟩
                · rw [decide_eq_true (show word2 ≠ 0 by omega)]
                  try simp only [Bool.false_or, Bool.true_or, Bool.or_true]
                  repeat' (first | (with_reducible first | apply w1 | apply w2 | apply w3 | apply w4 | apply w5 | apply w6 | apply w7 | apply w8 | apply w9 | apply wa | apply wb | apply wc) | ((with_reducible apply wd); focus decide) | ((with_reducible apply we); focus exact rfl) | ((with_reducible apply wf); focus exact rfl) | ((first | (with_reducible apply SW_run tt_ok hG htb) | ((with_reducible apply SW_draw rfl tt_ok hG htb); (focus kernel_rfl); focus simp only [List.range, List.range.loop, List.size_toArray, List.length_cons, List.length_nil, Nat.reduceAdd])); focus ((repeat' (first | (with_reducible first | exact wg | exact wh) | ((with_reducible first | apply wi | apply wj); focus (simp (discharger := omega) only [go_sem, mword2, simprocAttr]; with_reducible rfl)))); done)))
                  exact Meet.h ⟨_, Norm.headS (own := []) (keep := [1, 179]) (by refine ⟨?_, ?_⟩; (simp (discharger := omega) only [go_sem, simprocAttr]; with_reducible rfl); refine ⟨?_, ?_, ?_, ?_⟩ <;> (simp only [go_sem, simprocAttr]; with_reducible rfl)), rfl⟩
              · rw [decide_eq_true (show other ≠ 0 by omega)]
                try simp only [Bool.false_or, Bool.true_or, Bool.or_true]
                repeat' (first | (with_reducible first | apply w1 | apply w2 | apply w3 | apply w4 | apply w5 | apply w6 | apply w7 | apply w8 | apply w9 | apply wa | apply wb | apply wc) | ((with_reducible apply wd); focus decide) | ((with_reducible apply we); focus exact rfl) | ((with_reducible apply wf); focus exact rfl) | ((first | (with_reducible apply SW_run tt_ok hG htb) | ((with_reducible apply SW_draw rfl tt_ok hG htb); (focus kernel_rfl); focus simp only [List.range, List.range.loop, List.size_toArray, List.length_cons, List.length_nil, Nat.reduceAdd])); focus ((repeat' (first | (with_reducible first | exact wg | exact wh) | ((with_reducible first | apply wi | apply wj); focus (simp (discharger := omega) only [go_sem, mother, simprocAttr]; with_reducible rfl)))); done)))
                exact Meet.h ⟨_, Norm.headS (own := []) (keep := [1, 179]) (by refine ⟨?_, ?_⟩; (simp (discharger := omega) only [go_sem, simprocAttr]; with_reducible rfl); refine ⟨?_, ?_, ?_, ?_⟩ <;> (simp only [go_sem, simprocAttr]; with_reducible rfl)), rfl⟩
            · generalize nodeMore ⟨3, var, other, word, word2, num, coefs⟩ = mo at *
              cases mo with
              | true =>
                rw [if_pos rfl]
                repeat' (first | (with_reducible first | apply w1 | apply w2 | apply w3 | apply w4 | apply w5 | apply w6 | apply w7 | apply w8 | apply w9 | apply wa | apply wb | apply wc) | ((with_reducible apply wd); focus decide) | ((with_reducible apply we); focus exact rfl) | ((with_reducible apply wf); focus exact rfl) | ((first | (with_reducible apply SW_run tt_ok hG htb) | ((with_reducible apply SW_draw rfl tt_ok hG htb); (focus kernel_rfl); focus simp only [List.range, List.range.loop, List.size_toArray, List.length_cons, List.length_nil, Nat.reduceAdd])); focus ((repeat' (first | (with_reducible first | exact wg | exact wh) | ((with_reducible first | apply wi | apply wj); focus (simp (discharger := omega) only [go_sem, simprocAttr]; with_reducible rfl)))); done)))
                exact (by simp (discharger := omega) only [go_sem, tErr, simprocAttr])
              | false =>
                rw [if_neg (by decide)]
                clear e1 e2 e3 e4 cV cO c1
                by_cases hc : 0 < coefs.length
                · obtain ⟨x, hx⟩ : ∃ x, coefs[coefs.length - 1]! = x := ⟨_, rfl⟩
                  have hxe : (coefs.length : Int) - 1 = ((coefs.length - 1 : Nat) : Int) := by omega
                  have hkk : coefs.length - 1 < coefs.length := by omega
                  rw [hx]
                  generalize coefs.length - 1 = kk at *
                  by_cases h0 : x = 0
                  · rw [if_pos ⟨hc, h0⟩]
                    repeat' (first | (with_reducible first | apply w1 | apply w2 | apply w3 | apply w4 | apply w5 | apply w6 | apply w7 | apply w8 | apply w9 | apply wa | apply wb | apply wc) | ((with_reducible apply wd); focus decide) | ((with_reducible apply we); focus exact rfl) | ((with_reducible apply wf); focus exact rfl) | ((first | (with_reducible apply SW_run tt_ok hG htb) | ((with_reducible apply SW_draw rfl tt_ok hG htb); (focus kernel_rfl); focus simp only [List.range, List.range.loop, List.size_toArray, List.length_cons, List.length_nil, Nat.reduceAdd])); focus ((repeat' (first | (with_reducible first | exact wg | exact wh) | ((with_reducible first | apply wi | apply wj); focus (simp (discharger := omega) only [go_sem, hxe, hx, h0, simprocAttr]; with_reducible rfl)))); done)))
                    exact (by simp (discharger := omega) only [go_sem, tErr, simprocAttr])
                  · rw [if_neg (by rintro ⟨_, e⟩; exact h0 e)]
                    repeat' (first | (with_reducible first | apply w1 | apply w2 | apply w3 | apply w4 | apply w5 | apply w6 | apply w7 | apply w8 | apply w9 | apply wa | apply wb | apply wc) | ((with_reducible apply wd); focus decide) | ((with_reducible apply we); focus exact rfl) | ((with_reducible apply wf); focus exact rfl) | ((first | (with_reducible apply SW_run tt_ok hG htb) | ((with_reducible apply SW_draw rfl tt_ok hG htb); (focus kernel_rfl); focus simp only [List.range, List.range.loop, List.size_toArray, List.length_cons, List.length_nil, Nat.reduceAdd])); focus ((repeat' (first | (with_reducible first | exact wg | exact wh) | ((with_reducible first | apply wi | apply wj); focus (simp (discharger := omega) only [go_sem, hxe, hx, h0, simprocAttr]; with_reducible rfl)))); done)))
                    exact (by simp (discharger := omega) only [go_sem, tErr, simprocAttr])
                · rw [if_neg (by rintro ⟨e, _⟩; exact hc e)]
                  have hc0 : coefs.length = 0 := by omega
                  repeat' (first | (with_reducible first | apply w1 | apply w2 | apply w3 | apply w4 | apply w5 | apply w6 | apply w7 | apply w8 | apply w9 | apply wa | apply wb | apply wc) | ((with_reducible apply wd); focus decide) | ((with_reducible apply we); focus exact rfl) | ((with_reducible apply wf); focus exact rfl) | ((first | (with_reducible apply SW_run tt_ok hG htb) | ((with_reducible apply SW_draw rfl tt_ok hG htb); (focus kernel_rfl); focus simp only [List.range, List.range.loop, List.size_toArray, List.length_cons, List.length_nil, Nat.reduceAdd])); focus ((repeat' (first | (with_reducible first | exact wg | exact wh) | ((with_reducible first | apply wi | apply wj); focus (simp (discharger := omega) only [go_sem, hc0, simprocAttr]; with_reducible rfl)))); done)))
                  exact (by simp (discharger := omega) only [go_sem, tErr, simprocAttr])
      · have e1 : nodeOk ⟨4, var, other, word, word2, num, coefs⟩ = (isVar var && isVar other && decide (0 ≤ word) && decide (word < 3) && decide (0 ≤ word2) && decide (word2 < 3)) := by unfold nodeOk; simp
        have e2 : usedN ⟨4, var, other, word, word2, num, coefs⟩ = ⟨4, var, other, word, word2, 0, []⟩ := by unfold usedN; simp
        have e4 : nodeMore ⟨4, var, other, word, word2, num, coefs⟩ = (decide (num ≠ 0) || decide (coefs.length ≠ 0)) := by unfold nodeMore; rw [e2]; simp
        refine SW_meetG ⟨196, [(1, .bptr 0 0), (3, .bptr 1 0), (4, .t (.bool (nodeOk ⟨4, var, other, word, word2, num, coefs⟩)))], [.fbox [tInt 4, tInt var, tInt other, tInt word, tInt word2, tInt num, tInts coefs], .box [.t (tInt 4), .t (tInt var), .t (tInt other), .t (tInt word), .t (tInt word2), .t (tInt 0), .nil]]⟩ Weak.sw (SW_block ?_) ?_
        · rw [e1]
          clear e1 e2 e3 e4
          repeat' (first | (with_reducible first | refine SW_seq ?_ | refine SW_block ?_ | refine SThen_n ?_ | refine SThen_r ?_ | refine SThen_e ?_ | refine SIn_n ?_ | refine SIn_r ?_ | refine SIn_eq ?_ | refine SW_skip ?_ | refine SW_exit ?_ | refine SW_ret ?_ | refine SPost_r ?_) | ((with_reducible refine SIn_ne ?_ ?_); focus decide) | ((with_reducible refine SW_true ?_ ?_); focus exact rfl) | ((with_reducible refine SW_false ?_ ?_); focus exact rfl) | ((with_reducible apply SW_run tt_ok hG htb); focus ((repeat' (first | (with_reducible exact runX_nil) | ((with_reducible apply runX_cons); focus (simp (discharger := omega) only [go_sem, simprocAttr]; with_reducible rfl)))); done)))
          (with_reducible apply SW_drawF [0, 1, 2, 3, 4, 5, 6, 7, 8, 10, 12, 14] [] rfl tt_ok hG htb)
          · kernel_rfl
          · simp only [List.range, List.range.loop, List.size_toArray, List.length_cons, List.length_nil, Nat.reduceAdd]
            repeat' (first | (with_reducible exact runG_nil) | ((with_reducible apply runF_of); (focus rfl); focus (simp (discharger := omega) only [go_sem, simprocAttr]; with_reducible rfl)) | ((apply runF_fix rfl rfl rfl rfl); focus (simp (discharger := omega) only [go_sem, simprocAttr]; with_reducible rfl)) | ((apply runF_fa rfl rfl); focus (simp (discharger := omega) only [go_sem, simprocAttr]; with_reducible rfl)))
          by_cases hvo : var = other
          · subst hvo
            rw [Bool.and_self]
            cases hb0 : isVar var with
            | false =>
              rw [hb0] at cV
              try simp only [Bool.true_and, Bool.false_and, Bool.and_true, Bool.and_false]
              have htb := Tab.cons cV Tab.nil
              repeat' (first | (with_reducible first | apply w1 | apply w2 | apply w3 | apply w4 | apply w5 | apply w6 | apply w7 | apply w8 | apply w9 | apply wa | apply wb | apply wc) | ((with_reducible apply wd); focus decide) | ((with_reducible apply we); focus exact rfl) | ((with_reducible apply wf); focus exact rfl) | ((first | (with_reducible apply SW_run tt_ok hG htb) | ((with_reducible apply SW_draw rfl tt_ok hG htb); (focus kernel_rfl); focus simp only [List.range, List.range.loop, List.size_toArray, List.length_cons, List.length_nil, Nat.reduceAdd])); focus ((repeat' (first | (with_reducible first | exact wg | exact wh) | ((with_reducible first | apply wi | apply wj); focus (simp (discharger := omega) only [go_sem, simprocAttr]; with_reducible rfl)))); done)))
              exact Meet.h ⟨_, Norm.headS (own := []) (keep := [1, 3, 4]) (by refine ⟨?_, ?_⟩; (simp (discharger := omega) only [go_sem, simprocAttr]; with_reducible rfl); refine ⟨?_, ?_, ?_, ?_⟩ <;> (simp only [go_sem, simprocAttr]; with_reducible rfl)), rfl⟩
            | true =>
              rw [hb0] at cV
              by_cases q1 : 0 ≤ word
              · rw [decide_eq_true q1]
                by_cases q2 : word < 3
                · rw [decide_eq_true q2]
                  by_cases q3 : 0 ≤ word2
                  · rw [decide_eq_true q3]
                    by_cases q4 : word2 < 3
                    · rw [decide_eq_true q4]
                      try simp only [Bool.true_and, Bool.false_and, Bool.and_true, Bool.and_false]
                      have htb := Tab.cons cV Tab.nil
                      repeat' (first | (with_reducible first | apply w1 | apply w2 | apply w3 | apply w4 | apply w5 | apply w6 | apply w7 | apply w8 | apply w9 | apply wa | apply wb | apply wc) | ((with_reducible apply wd); focus decide) | ((with_reducible apply we); focus exact rfl) | ((with_reducible apply wf); focus exact rfl) | ((first | (with_reducible apply SW_run tt_ok hG htb) | ((with_reducible apply SW_draw rfl tt_ok hG htb); (focus kernel_rfl); focus simp only [List.range, List.range.loop, List.size_toArray, List.length_cons, List.length_nil, Nat.reduceAdd])); focus ((repeat' (first | (with_reducible first | exact wg | exact wh) | ((with_reducible first | apply wi | apply wj); focus (simp (discharger := omega) only [go_sem, simprocAttr]; with_reducible rfl)))); done)))
                      exact Meet.h ⟨_, Norm.headS (own := []) (keep := [1, 3, 4]) (by refine ⟨?_, ?_⟩; (simp (discharger := omega) only [go_sem, simprocAttr]; with_reducible rfl); refine ⟨?_, ?_, ?_, ?_⟩ <;> (simp only [go_sem, simprocAttr]; with_reducible rfl)), rfl⟩
                    · rw [decide_eq_false q4]
                      try simp only [Bool.true_and, Bool.false_and, Bool.and_true, Bool.and_false]
                      have htb := Tab.cons cV Tab.nil
                      repeat' (first | (with_reducible first | apply w1 | apply w2 | apply w3 | apply w4 | apply w5 | apply w6 | apply w7 | apply w8 | apply w9 | apply wa | apply wb | apply wc) | ((with_reducible apply wd); focus decide) | ((with_reducible apply we); focus exact rfl) | ((with_reducible apply wf); focus exact rfl) | ((first | (with_reducible apply SW_run tt_ok hG htb) | ((with_reducible apply SW_draw rfl tt_ok hG htb); (focus kernel_rfl); focus simp only [List.range, List.range.loop, List.size_toArray, List.length_cons, List.length_nil, Nat.reduceAdd])); focus ((repeat' (first | (with_reducible first | exact wg | exact wh) | ((with_reducible first | apply wi | apply wj); focus (simp (discharger := omega) only [go_sem, simprocAttr]; with_reducible rfl)))); done)))
                      exact Meet.h ⟨_, Norm.headS (own := []) (keep := [1, 3, 4]) (by refine ⟨?_, ?_⟩; (simp (discharger := omega) only [go_sem, simprocAttr]; with_reducible rfl); refine ⟨?_, ?_, ?_, ?_⟩ <;> (simp only [go_sem, simprocAttr]; with_reducible rfl)), rfl⟩
                  · rw [decide_eq_false q3]
                    try simp only [Bool.true_and, Bool.false_and, Bool.and_true, Bool.and_false]
                    have htb := Tab.cons cV Tab.nil
                    repeat' (first | (with_reducible first | apply w1 | apply w2 | apply w3 | apply w4 | apply w5 | apply w6 | apply w7 | apply w8 | apply w9 | apply wa | apply wb | apply wc) | ((with_reducible apply wd); focus decide) | ((with_reducible apply we); focus exact rfl) | ((with_reducible apply wf); focus exact rfl) | ((first | (with_reducible apply SW_run tt_ok hG htb) | ((with_reducible apply SW_draw rfl tt_ok hG htb); (focus kernel_rfl); focus simp only [List.range, List.range.loop, List.size_toArray, List.length_cons, List.length_nil, Nat.reduceAdd])); focus ((repeat' (first | (with_reducible first | exact wg | exact wh) | ((with_reducible first | apply wi | apply wj); focus (simp (discharger := omega) only [go_sem, simprocAttr]; with_reducible rfl)))); done)))
                    exact Meet.h ⟨_, Norm.headS (own := []) (keep := [1, 3, 4]) (by refine ⟨?_, ?_⟩; (simp (discharger := omega) only [go_sem, simprocAttr]; with_reducible rfl); refine ⟨?_, ?_, ?_, ?_⟩ <;> (simp only [go_sem, simprocAttr]; with_reducible rfl)), rfl⟩
                · rw [decide_eq_false q2]
                  try simp only [Bool.true_and, Bool.false_and, Bool.and_true, Bool.and_false]
                  have htb := Tab.cons cV Tab.nil
                  repeat' (first | (with_reducible first | apply w1 | apply w2 | apply w3 | apply w4 | apply w5 | apply w6 | apply w7 | apply w8 | apply w9 | apply wa | apply wb | apply wc) | ((with_reducible apply wd); focus decide) | ((with_reducible apply we); focus exact rfl) | ((with_reducible apply wf); focus exact rfl) | ((first | (with_reducible apply SW_run tt_ok hG htb) | ((with_reducible apply SW_draw rfl tt_ok hG htb); (focus kernel_rfl); focus simp only [List.range, List.range.loop, List.size_toArray, List.length_cons, List.length_nil, Nat.reduceAdd])); focus ((repeat' (first | (with_reducible first | exact wg | exact wh) | ((with_reducible first | apply wi | apply wj); focus (simp (discharger := omega) only [go_sem, simprocAttr]; with_reducible rfl)))); done)))
                  exact Meet.h ⟨_, Norm.headS (own := []) (keep := [1, 3, 4]) (by refine ⟨?_, ?_⟩; (simp (discharger := omega) only [go_sem, simprocAttr]; with_reducible rfl); refine ⟨?_, ?_, ?_, ?_⟩ <;> (simp only [go_sem, simprocAttr]; with_reducible rfl)), rfl⟩
              · rw [decide_eq_false q1]
                try simp only [Bool.true_and, Bool.false_and, Bool.and_true, Bool.and_false]
                have htb := Tab.cons cV Tab.nil
                repeat' (first | (with_reducible first | apply w1 | apply w2 | apply w3 | apply w4 | apply w5 | apply w6 | apply w7 | apply w8 | apply w9 | apply wa | apply wb | apply wc) | ((with_reducible apply wd); focus decide) | ((with_reducible apply we); focus exact rfl) | ((with_reducible apply wf); focus exact rfl) | ((first | (with_reducible apply SW_run tt_ok hG htb) | ((with_reducible apply SW_draw rfl tt_ok hG htb); (focus kernel_rfl); focus simp only [List.range, List.range.loop, List.size_toArray, List.length_cons, List.length_nil, Nat.reduceAdd])); focus ((repeat' (first | (with_reducible first | exact wg | exact wh) | ((with_reducible first | apply wi | apply wj); focus (simp (discharger := omega) only [go_sem, simprocAttr]; with_reducible rfl)))); done)))
                exact Meet.h ⟨_, Norm.headS (own := []) (keep := [1, 3, 4]) (by refine ⟨?_, ?_⟩; (simp (discharger := omega) only [go_sem, simprocAttr]; with_reducible rfl); refine ⟨?_, ?_, ?_, ?_⟩ <;> (simp only [go_sem, simprocAttr]; with_reducible rfl)), rfl⟩
          · cases hb0 : isVar var with
            | false =>
              rw [hb0] at cV
              try simp only [Bool.true_and, Bool.false_and, Bool.and_true, Bool.and_false]
              have htb := Tab.cons cV (Tab.cons cO Tab.nil)
              repeat' (first | (with_reducible first | apply w1 | apply w2 | apply w3 | apply w4 | apply w5 | apply w6 | apply w7 | apply w8 | apply w9 | apply wa | apply wb | apply wc) | ((with_reducible apply wd); focus decide) | ((with_reducible apply we); focus exact rfl) | ((with_reducible apply wf); focus exact rfl) | ((first | (with_reducible apply SW_run tt_ok hG htb) | ((with_reducible apply SW_draw rfl tt_ok hG htb); (focus kernel_rfl); focus simp only [List.range, List.range.loop, List.size_toArray, List.length_cons, List.length_nil, Nat.reduceAdd])); focus ((repeat' (first | (with_reducible first | exact wg | exact wh) | ((with_reducible first | apply wi | apply wj); focus (simp (discharger := omega) only [go_sem, List.cons.injEq, T.int.injEq, hvo, (fun e => hvo e.symm : ¬ other = var), simprocAttr]; with_reducible rfl)))); done)))
              exact Meet.h ⟨_, Norm.headS (own := []) (keep := [1, 3, 4]) (by refine ⟨?_, ?_⟩; (simp (discharger := omega) only [go_sem, simprocAttr]; with_reducible rfl); refine ⟨?_, ?_, ?_, ?_⟩ <;> (simp only [go_sem, simprocAttr]; with_reducible rfl)), rfl⟩
            | true =>
              rw [hb0] at cV
              cases hb1 : isVar other with
              | false =>
                rw [hb1] at cO
                try simp only [Bool.true_and, Bool.false_and, Bool.and_true, Bool.and_false]
                have htb := Tab.cons cV (Tab.cons cO Tab.nil)
                repeat' (first | (with_reducible first | apply w1 | apply w2 | apply w3 | apply w4 | apply w5 | apply w6 | apply w7 | apply w8 | apply w9 | apply wa | apply wb | apply wc) | ((with_reducible apply wd); focus decide) | ((with_reducible apply we); focus exact rfl) | ((with_reducible apply wf); focus exact rfl) | ((first | (with_reducible apply SW_run tt_ok hG htb) | ((with_reducible apply SW_draw rfl tt_ok hG htb); (focus kernel_rfl); focus simp only [List.range, List.range.loop, List.size_toArray, List.length_cons, List.length_nil, Nat.reduceAdd])); focus ((repeat' (first | (with_reducible first | exact wg | exact wh) | ((with_reducible first | apply wi | apply wj); focus (simp (discharger := omega) only [go_sem, List.cons.injEq, T.int.injEq, hvo, (fun e => hvo e.symm : ¬ other = var), simprocAttr]; with_reducible rfl)))); done)))
                exact Meet.h ⟨_, Norm.headS (own := []) (keep := [1, 3, 4]) (by refine ⟨?_, ?_⟩; (simp (discharger := omega) only [go_sem, simprocAttr]; with_reducible rfl); refine ⟨?_, ?_, ?_, ?_⟩ <;> (simp only [go_sem, simprocAttr]; with_reducible rfl)), rfl⟩
              | true =>
                rw [hb1] at cO
                by_cases q2 : 0 ≤ word
                · rw [decide_eq_true q2]
                  by_cases q3 : word < 3
                  · rw [decide_eq_true q3]
                    by_cases q4 : 0 ≤ word2
                    · rw [decide_eq_true q4]
                      by_cases q5 : word2 < 3
                      · rw [decide_eq_true q5]
                        try simp only [Bool.true_and, Bool.false_and, Bool.and_true, Bool.and_false]
                        have htb := Tab.cons cV (Tab.cons cO Tab.nil)
                        repeat' (first | (with_reducible first | apply w1 | apply w2 | apply w3 | apply w4 | apply w5 | apply w6 | apply w7 | apply w8 | apply w9 | apply wa | apply wb | apply wc) | ((with_reducible apply wd); focus decide) | ((with_reducible apply we); focus exact rfl) | ((with_reducible apply wf); focus exact rfl) | ((first | (with_reducible apply SW_run tt_ok hG htb) | ((with_reducible apply SW_draw rfl tt_ok hG htb); (focus kernel_rfl); focus simp only [List.range, List.range.loop, List.size_toArray, List.length_cons, List.length_nil, Nat.reduceAdd])); focus ((repeat' (first | (with_reducible first | exact wg | exact wh) | ((with_reducible first | apply wi | apply wj); focus (simp (discharger := omega) only [go_sem, List.cons.injEq, T.int.injEq, hvo, (fun e => hvo e.symm : ¬ other = var), simprocAttr]; with_reducible rfl)))); done)))
                        exact Meet.h ⟨_, Norm.headS (own := []) (keep := [1, 3, 4]) (by refine ⟨?_, ?_⟩; (simp (discharger := omega) only [go_sem, simprocAttr]; with_reducible rfl); refine ⟨?_, ?_, ?_, ?_⟩ <;> (simp only [go_sem, simprocAttr]; with_reducible rfl)), rfl⟩
                      · rw [decide_eq_false q5]
                        try simp only [Bool.true_and, Bool.false_and, Bool.and_true, Bool.and_false]
                        have htb := Tab.cons cV (Tab.cons cO Tab.nil)
                        repeat' (first | (with_reducible first | apply w1 | apply w2 | apply w3 | apply w4 | apply w5 | apply w6 | apply w7 | apply w8 | apply w9 | apply wa | apply wb | apply wc) | ((with_reducible apply wd); focus decide) | ((with_reducible apply we); focus exact rfl) | ((with_reducible apply wf); focus exact rfl) | ((first | (with_reducible apply SW_run tt_ok hG htb) | ((with_reducible apply SW_draw rfl tt_ok hG htb); (focus kernel_rfl); focus simp only [List.range, List.range.loop, List.size_toArray, List.length_cons, List.length_nil, Nat.reduceAdd])); focus ((repeat' (first | (with_reducible first | exact wg | exact wh) | ((with_reducible first | apply wi | apply wj); focus (simp (discharger := omega) only [go_sem, List.cons.injEq, T.int.injEq, hvo, (fun e => hvo e.symm : ¬ other = var), simprocAttr]; with_reducible rfl)))); done)))
                        exact Meet.h ⟨_, Norm.headS (own := []) (keep := [1, 3, 4]) (by refine ⟨?_, ?_⟩; (simp (discharger := omega) only [go_sem, simprocAttr]; with_reducible rfl); refine ⟨?_, ?_, ?_, ?_⟩ <;> (simp only [go_sem, simprocAttr]; with_reducible rfl)), rfl⟩
                    · rw [decide_eq_false q4]
                      try simp only [Bool.true_and, Bool.false_and, Bool.and_true, Bool.and_false]
                      have htb := Tab.cons cV (Tab.cons cO Tab.nil)
                      repeat' (first | (with_reducible first | apply w1 | apply w2 | apply w3 | apply w4 | apply w5 | apply w6 | apply w7 | apply w8 | apply w9 | apply wa | apply wb | apply wc) | ((with_reducible apply wd); focus decide) | ((with_reducible apply we); focus exact rfl) | ((with_reducible apply wf); focus exact rfl) | ((first | (with_reducible apply SW_run tt_ok hG htb) | ((with_reducible apply SW_draw rfl tt_ok hG htb); (focus kernel_rfl); focus simp only [List.range, List.range.loop, List.size_toArray, List.length_cons, List.length_nil, Nat.reduceAdd])); focus ((repeat' (first | (with_reducible first | exact wg | exact wh) | ((with_reducible first | apply wi | apply wj); focus (simp (discharger := omega) only [go_sem, List.cons.injEq, T.int.injEq, hvo, (fun e => hvo e.symm : ¬ other = var), simprocAttr]; with_reducible rfl)))); done)))
                      exact Meet.h ⟨_, Norm.headS (own := []) (keep := [1, 3, 4]) (by refine ⟨?_, ?_⟩; (simp (discharger := omega) only [go_sem, simprocAttr]; with_reducible rfl); refine ⟨?_, ?_, ?_, ?_⟩ <;> (simp only [go_sem, simprocAttr]; with_reducible rfl)), rfl⟩
                  · rw [decide_eq_false q3]
                    try simp only [Bool.true_and, Bool.false_and, Bool.and_true, Bool.and_false]
                    have htb := Tab.cons cV (Tab.cons cO Tab.nil)
                    repeat' (first | (with_reducible first | apply w1 | apply w2 | apply w3 | apply w4 | apply w5 | apply w6 | apply w7 | apply w8 | apply w9 | apply wa | apply wb | apply wc) | ((with_reducible apply wd); focus decide) | ((with_reducible apply we); focus exact rfl) | ((with_reducible apply wf); focus exact rfl) | ((first | (with_reducible apply SW_run tt_ok hG htb) | ((with_reducible apply SW_draw rfl tt_ok hG htb); (focus kernel_rfl); focus simp only [List.range, List.range.loop, List.size_toArray, List.length_cons, List.length_nil, Nat.reduceAdd])); focus ((repeat' (first | (with_reducible first | exact wg | exact wh) | ((with_reducible first | apply wi | apply wj); focus (simp (discharger := omega) only [go_sem, List.cons.injEq, T.int.injEq, hvo, (fun e => hvo e.symm : ¬ other = var), simprocAttr]; with_reducible rfl)))); done)))
                    exact Meet.h ⟨_, Norm.headS (own := []) (keep := [1, 3, 4]) (by refine ⟨?_, ?_⟩; (simp (discharger := omega) only [go_sem, simprocAttr]; with_reducible rfl); refine ⟨?_, ?_, ?_, ?_⟩ <;> (simp only [go_sem, simprocAttr]; with_reducible rfl)), rfl⟩
                · rw [decide_eq_false q2]
                  try simp only [Bool.true_and, Bool.false_and, Bool.and_true, Bool.and_false]
                  have htb := Tab.cons cV (Tab.cons cO Tab.nil)
                  repeat' (first | (with_reducible first | apply w1 | apply w2 | apply w3 | apply w4 | apply w5 | apply w6 | apply w7 | apply w8 | apply w9 | apply wa | apply wb | apply wc) | ((with_reducible apply wd); focus decide) | ((with_reducible apply we); focus exact rfl) | ((with_reducible apply wf); focus exact rfl) | ((first | (with_reducible apply SW_run tt_ok hG htb) | ((with_reducible apply SW_draw rfl tt_ok hG htb); (focus kernel_rfl); focus simp only [List.range, List.range.loop, List.size_toArray, List.length_cons, List.length_nil, Nat.reduceAdd])); focus ((repeat' (first | (with_reducible first | exact wg | exact wh) | ((with_reducible first | apply wi | apply wj); focus (simp (discharger := omega) only [go_sem, List.cons.injEq, T.int.injEq, hvo, (fun e => hvo e.symm : ¬ other = var), simprocAttr]; with_reducible rfl)))); done)))
                  exact Meet.h ⟨_, Norm.headS (own := []) (keep := [1, 3, 4]) (by refine ⟨?_, ?_⟩; (simp (discharger := omega) only [go_sem, simprocAttr]; with_reducible rfl); refine ⟨?_, ?_, ?_, ?_⟩ <;> (simp only [go_sem, simprocAttr]; with_reducible rfl)), rfl⟩
        · generalize nodeOk ⟨4, var, other, word, word2, num, coefs⟩ = ok at *
          cases ok with
          | false =>
            rw [if_pos rfl]
            repeat' (first | (with_reducible first | apply w1 | apply w2 | apply w3 | apply w4 | apply w5 | apply w6 | apply w7 | apply w8 | apply w9 | apply wa | apply wb | apply wc) | ((with_reducible apply wd); focus decide) | ((with_reducible apply we); focus exact rfl) | ((with_reducible apply wf); focus exact rfl) | ((first | (with_reducible apply SW_run tt_ok hG htb) | ((with_reducible apply SW_draw rfl tt_ok hG htb); (focus kernel_rfl); focus simp only [List.range, List.range.loop, List.size_toArray, List.length_cons, List.length_nil, Nat.reduceAdd])); focus ((repeat' (first | (with_reducible first | exact wg | exact wh) | ((with_reducible first | apply wi | apply wj); focus (simp (discharger := omega) only [go_sem, simprocAttr]; with_reducible rfl)))); done)))
            exact (by simp (discharger := omega) only [go_sem, tErr, simprocAttr])
          | true =>
            rw [if_neg (by decide)]
            repeat' (first | (with_reducible first | apply w1 | apply w2 | apply w3 | apply w4 | apply w5 | apply w6 | apply w7 | apply w8 | apply w9 | apply wa | apply wb | apply wc) | ((with_reducible apply wd); focus decide) | ((with_reducible apply we); focus exact rfl) | ((with_reducible apply wf); focus exact rfl) | ((first | (with_reducible apply SW_run tt_ok hG htb) | ((with_reducible apply SW_draw rfl tt_ok hG htb); (focus kernel_rfl); focus simp only [List.range, List.range.loop, List.size_toArray, List.length_cons, List.length_nil, Nat.reduceAdd])); focus ((repeat' (first | (with_reducible first | exact wg | exact wh) | ((with_reducible first | apply wi | apply wj); focus (simp (discharger := omega) only [go_sem, simprocAttr]; with_reducible rfl)))); done)))
            refine SW_meetG ⟨196, [(1, .bptr 0 0), (179, .t (.bool (nodeMore ⟨4, var, other, word, word2, num, coefs⟩)))], [.fbox [tInt 4, tInt var, tInt other, tInt word, tInt word2, tInt num, tInts coefs]]⟩ Weak.sw ?_ ?_
            · rw [e4]
              clear e1 e2 e3 e4
              by_cases mnum : num = 0
              · subst mnum
                rw [decide_eq_false (show ¬ (0 : Int) ≠ 0 by decide)]
                by_cases mc : coefs.length = 0
                · rw [decide_eq_false (show ¬ coefs.length ≠ 0 by omega)]
                  try simp only [Bool.false_or, Bool.or_false]
                  repeat' (first | (with_reducible first | apply w1 | apply w2 | apply w3 | apply w4 | apply w5 | apply w6 | apply w7 | apply w8 | apply w9 | apply wa | apply wb | apply wc) | ((with_reducible apply wd); focus decide) | ((with_reducible apply we); focus exact rfl) | ((with_reducible apply wf); focus exact rfl) | ((first | (with_reducible apply SW_run tt_ok hG htb) | ((with_reducible apply SW_draw rfl tt_ok hG htb); (focus kernel_rfl); focus simp only [List.range, List.range.loop, List.size_toArray, List.length_cons, List.length_nil, Nat.reduceAdd])); focus ((repeat' (first | (with_reducible first | exact wg | exact wh) | ((with_reducible first | apply wi | apply wj); focus (simp (discharger := omega) only [go_sem, mc, simprocAttr]; with_reducible rfl)))); done)))
                  exact Meet.h ⟨_, Norm.headS (own := []) (keep := [1, 179]) (by refine ⟨?_, ?_⟩; (simp (discharger := omega) only [go_sem, simprocAttr]; with_reducible rfl); refine ⟨?_, ?_, ?_, ?_⟩ <;> (simp only [go_sem, simprocAttr]; with_reducible rfl)), rfl⟩
                · rw [decide_eq_true (show coefs.length ≠ 0 by omega)]
                  try simp only [Bool.false_or, Bool.true_or, Bool.or_true]
                  repeat' (first | (with_reducible first | apply w1 | apply w2 | apply w3 | apply w4 | apply w5 | apply w6 | apply w7 | apply w8 | apply w9 | apply wa | apply wb | apply wc) | ((with_reducible apply wd); focus decide) | ((with_reducible apply we); focus exact rfl) | ((with_reducible apply wf); focus exact rfl) | ((first | (with_reducible apply SW_run tt_ok hG htb) | ((with_reducible apply SW_draw rfl tt_ok hG htb); (focus kernel_rfl); focus simp only [List.range, List.range.loop, List.size_toArray, List.length_cons, List.length_nil, Nat.reduceAdd])); focus ((repeat' (first | (with_reducible first | exact wg | exact wh) | ((with_reducible first | apply wi | apply wj); focus (simp (discharger := omega) only [go_sem, mc, simprocAttr]; with_reducible rfl)))); done)))
                  exact Meet.h ⟨_, Norm.headS (own := []) (keep := [1, 179]) (by refine ⟨?_, ?_⟩; (simp (discharger := omega) only [go_sem, simprocAttr]; with_reducible rfl); refine ⟨?_, ?_, ?_, ?_⟩ <;> (simp only [go_sem, simprocAttr]; with_reducible rfl)), rfl⟩
              · rw [decide_eq_true (show num ≠ 0 by omega)]
                try simp only [Bool.false_or, Bool.true_or, Bool.or_true]
                repeat' (first | (with_reducible first | apply w1 | apply w2 | apply w3 | apply w4 | apply w5 | apply w6 | apply w7 | apply w8 | apply w9 | apply wa | apply wb | apply wc) | ((with_reducible apply wd); focus decide) | ((with_reducible apply we); focus exact rfl) | ((with_reducible apply wf); focus exact rfl) | ((first | (with_reducible apply SW_run tt_ok hG htb) | ((with_reducible apply SW_draw rfl tt_ok hG htb); (focus kernel_rfl); focus simp only [List.range, List.range.loop, List.size_toArray, List.length_cons, List.length_nil, Nat.reduceAdd])); focus ((repeat' (first | (with_reducible first | exact wg | exact wh) | ((with_reducible first | apply wi | apply wj); focus (simp (discharger := omega) only [go_sem, mnum, simprocAttr]; with_reducible rfl)))); done)))
                exact Meet.h ⟨_, Norm.headS (own := []) (keep := [1, 179]) (by refine ⟨?_, ?_⟩; (simp (discharger := omega) only [go_sem, simprocAttr]; with_reducible rfl); refine ⟨?_, ?_, ?_, ?_⟩ <;> (simp only [go_sem, simprocAttr]; with_reducible rfl)), rfl⟩
            · generalize nodeMore ⟨4, var, other, word, word2, num, coefs⟩ = mo at *
              cases mo with
              | true =>
                rw [if_pos rfl]
                repeat' (first | (with_reducible first | apply w1 | apply w2 | apply w3 | apply w4 | apply w5 | apply w6 | apply w7 | apply w8 | apply w9 | apply wa | apply wb | apply wc) | ((with_reducible apply wd); focus decide) | ((with_reducible apply we); focus exact rfl) | ((with_reducible apply wf); focus exact rfl) | ((first | (with_reducible apply SW_run tt_ok hG htb) | ((with_reducible apply SW_draw rfl tt_ok hG htb); (focus kernel_rfl); focus simp only [List.range, List.range.loop, List.size_toArray, List.length_cons, List.length_nil, Nat.reduceAdd])); focus ((repeat' (first | (with_reducible first | exact wg | exact wh) | ((with_reducible first | apply wi | apply wj); focus (simp (discharger := omega) only [go_sem, simprocAttr]; with_reducible rfl)))); done)))
                exact (by simp (discharger := omega) only [go_sem, tErr, simprocAttr])
              | false =>
                rw [if_neg (by decide)]
                clear e1 e2 e3 e4 cV cO c1
                by_cases hc : 0 < coefs.length
                · obtain ⟨x, hx⟩ : ∃ x, coefs[coefs.length - 1]! = x := ⟨_, rfl⟩
                  have hxe : (coefs.length : Int) - 1 = ((coefs.length - 1 : Nat) : Int) := by omega
                  have hkk : coefs.length - 1 < coefs.length := by omega
                  rw [hx]
                  generalize coefs.length - 1 = kk at *
                  by_cases h0 : x = 0
                  · rw [if_pos ⟨hc, h0⟩]
                    repeat' (first | (with_reducible first | apply w1 | apply w2 | apply w3 | apply w4 | apply w5 | apply w6 | apply w7 | apply w8 | apply w9 | apply wa | apply wb | apply wc) | ((with_reducible apply wd); focus decide) | ((with_reducible apply we); focus exact rfl) | ((with_reducible apply wf); focus exact rfl) | ((first | (with_reducible apply SW_run tt_ok hG htb) | ((with_reducible apply SW_draw rfl tt_ok hG htb); (focus kernel_rfl); focus simp only [List.range, List.range.loop, List.size_toArray, List.length_cons, List.length_nil, Nat.reduceAdd])); focus ((repeat' (first | (with_reducible first | exact wg | exact wh) | ((with_reducible first | apply wi | apply wj); focus (simp (discharger := omega) only [go_sem, hxe, hx, h0, simprocAttr]; with_reducible rfl)))); done)))
                    exact (by simp (discharger := omega) only [go_sem, tErr, simprocAttr])
                  · rw [if_neg (by rintro ⟨_, e⟩; exact h0 e)]
                    repeat' (first | (with_reducible first | apply w1 | apply w2 | apply w3 | apply w4 | apply w5 | apply w6 | apply w7 | apply w8 | apply w9 | apply wa | apply wb | apply wc) | ((with_reducible apply wd); focus decide) | ((with_reducible apply we); focus exact rfl) | ((with_reducible apply wf); focus exact rfl) | ((first | (with_reducible apply SW_run tt_ok hG htb) | ((with_reducible apply SW_draw rfl tt_ok hG htb); (focus kernel_rfl); focus simp only [List.range, List.range.loop, List.size_toArray, List.length_cons, List.length_nil, Nat.reduceAdd])); focus ((repeat' (first | (with_reducible first | exact wg | exact wh) | ((with_reducible first | apply wi | apply wj); focus (simp (discharger := omega) only [go_sem, hxe, hx, h0, simprocAttr]; with_reducible rfl)))); done)))
                    exact (by simp (discharger := omega) only [go_sem, tErr, simprocAttr])
                · rw [if_neg (by rintro ⟨e, _⟩; exact hc e)]
                  have hc0 : coefs.length = 0 := by omega
                  repeat' (first | (with_reducible first | apply w1 | apply w2 | apply w3 | apply w4 | apply w5 | apply w6 | apply w7 | apply w8 | apply w9 | apply wa | apply wb | apply wc) | ((with_reducible apply wd); focus decide) | ((with_reducible apply we); focus exact rfl) | ((with_reducible apply wf); focus exact rfl) | ((first | (with_reducible apply SW_run tt_ok hG htb) | ((with_reducible apply SW_draw rfl tt_ok hG htb); (focus kernel_rfl); focus simp only [List.range, List.range.loop, List.size_toArray, List.length_cons, List.length_nil, Nat.reduceAdd])); focus ((repeat' (first | (with_reducible first | exact wg | exact wh) | ((with_reducible first | apply wi | apply wj); focus (simp (discharger := omega) only [go_sem, hc0, simprocAttr]; with_reducible rfl)))); done)))
                  exact (by simp (discharger := omega) only [go_sem, tErr, simprocAttr])
      · have e1 : nodeOk ⟨5, var, other, word, word2, num, coefs⟩ = true := by unfold nodeOk; simp
        have e2 : usedN ⟨5, var, other, word, word2, num, coefs⟩ = ⟨5, 0, 0, 0, 0, 0, []⟩ := by unfold usedN; simp
        have e4 : nodeMore ⟨5, var, other, word, word2, num, coefs⟩ = (decide (var ≠ 0) || decide (other ≠ 0) || decide (word ≠ 0) || decide (word2 ≠ 0) || decide (num ≠ 0) || decide (coefs.length ≠ 0)) := by unfold nodeMore; rw [e2]; simp
        refine SW_meetG ⟨196, [(1, .bptr 0 0), (3, .bptr 1 0), (4, .t (.bool (nodeOk ⟨5, var, other, word, word2, num, coefs⟩)))], [.fbox [tInt 5, tInt var, tInt other, tInt word, tInt word2, tInt num, tInts coefs], .box [.t (tInt 5), .t (tInt 0), .t (tInt 0), .t (tInt 0), .t (tInt 0), .t (tInt 0), .nil]]⟩ Weak.sw (SW_block ?_) ?_
        · rw [e1]
          clear e1 e2 e3 e4
          try simp only [Bool.true_and, Bool.false_and, Bool.and_true, Bool.and_false]
          have htb := Tab.cons cV Tab.nil
          repeat' (first | (with_reducible first | apply w1 | apply w2 | apply w3 | apply w4 | apply w5 | apply w6 | apply w7 | apply w8 | apply w9 | apply wa | apply wb | apply wc) | ((with_reducible apply wd); focus decide) | ((with_reducible apply we); focus exact rfl) | ((with_reducible apply wf); focus exact rfl) | ((first | (with_reducible apply SW_run tt_ok hG htb) | ((with_reducible apply SW_draw rfl tt_ok hG htb); (focus kernel_rfl); focus simp only [List.range, List.range.loop, List.size_toArray, List.length_cons, List.length_nil, Nat.reduceAdd])); focus ((repeat' (first | (with_reducible first | exact wg | exact wh) | ((with_reducible first | apply wi | apply wj); focus (simp (discharger := omega) only [go_sem, simprocAttr]; with_reducible rfl)))); done)))
          exact Meet.h ⟨_, Norm.headS (own := []) (keep := [1, 3, 4]) (by refine ⟨?_, ?_⟩; (simp (discharger := omega) only [go_sem, simprocAttr]; with_reducible rfl); refine ⟨?_, ?_, ?_, ?_⟩ <;> (simp only [go_sem, simprocAttr]; with_reducible rfl)), rfl⟩
        · generalize nodeOk ⟨5, var, other, word, word2, num, coefs⟩ = ok at *
          cases ok with
          | false =>
            rw [if_pos rfl]
            repeat' (first | (with_reducible first | apply w1 | apply w2 | apply w3 | apply w4 | apply w5 | apply w6 | apply w7 | apply w8 | apply w9 | apply wa | apply wb | apply wc) | ((with_reducible apply wd); focus decide) | ((with_reducible apply we); focus exact rfl) | ((with_reducible apply wf); focus exact rfl) | ((first | (with_reducible apply SW_run tt_ok hG htb) | ((with_reducible apply SW_draw rfl tt_ok hG htb); (focus kernel_rfl); focus simp only [List.range, List.range.loop, List.size_toArray, List.length_cons, List.length_nil, Nat.reduceAdd])); focus ((repeat' (first | (with_reducible first | exact wg | exact wh) | ((with_reducible first | apply wi | apply wj); focus (simp (discharger := omega) only [go_sem, simprocAttr]; with_reducible rfl)))); done)))
            exact (by simp (discharger := omega) only [go_sem, tErr, simprocAttr])
          | true =>
            rw [if_neg (by decide)]
            repeat' (first | (with_reducible first | apply w1 | apply w2 | apply w3 | apply w4 | apply w5 | apply w6 | apply w7 | apply w8 | apply w9 | apply wa | apply wb | apply wc) | ((with_reducible apply wd); focus decide) | ((with_reducible apply we); focus exact rfl) | ((with_reducible apply wf); focus exact rfl) | ((first | (with_reducible apply SW_run tt_ok hG htb) | ((with_reducible apply SW_draw rfl tt_ok hG htb); (focus kernel_rfl); focus simp only [List.range, List.range.loop, List.size_toArray, List.length_cons, List.length_nil, Nat.reduceAdd])); focus ((repeat' (first | (with_reducible first | exact wg | exact wh) | ((with_reducible first | apply wi | apply wj); focus (simp (discharger := omega) only [go_sem, simprocAttr]; with_reducible rfl)))); done)))
            refine SW_meetG ⟨196, [(1, .bptr 0 0), (179, .t (.bool (nodeMore ⟨5, var, other, word, word2, num, coefs⟩)))], [.fbox [tInt 5, tInt var, tInt other, tInt word, tInt word2, tInt num, tInts coefs]]⟩ Weak.sw ?_ ?_
            · rw [e4]
              clear e1 e2 e3 e4
              by_cases mvar : var = 0
              · subst mvar
                rw [decide_eq_false (show ¬ (0 : Int) ≠ 0 by decide)]
                by_cases mother : other = 0
                · subst mother
                  rw [decide_eq_false (show ¬ (0 : Int) ≠ 0 by decide)]
                  by_cases mword : word = 0
                  · subst mword
                    rw [decide_eq_false (show ¬ (0 : Int) ≠ 0 by decide)]
                    by_cases mword2 : word2 = 0
                    · subst mword2
                      rw [decide_eq_false (show ¬ (0 : Int) ≠ 0 by decide)]
                      by_cases mnum : num = 0
                      · subst mnum
                        rw [decide_eq_false (show ¬ (0 : Int) ≠ 0 by decide)]
                        by_cases mc : coefs.length = 0
                        · rw [decide_eq_false (show ¬ coefs.length ≠ 0 by omega)]
                          try simp only [Bool.false_or, Bool.or_false]
                          repeat' (first | (with_reducible first | apply w1 | apply w2 | apply w3 | apply w4 | apply w5 | apply w6 | apply w7 | apply w8 | apply w9 | apply wa | apply wb | apply wc) | ((with_reducible apply wd); focus decide) | ((with_reducible apply we); focus exact rfl) | ((with_reducible apply wf); focus exact rfl) | ((first | (with_reducible apply SW_run tt_ok hG htb) | ((with_reducible apply SW_draw rfl tt_ok hG htb); (focus kernel_rfl); focus simp only [List.range, List.range.loop, List.size_toArray, List.length_cons, List.length_nil, Nat.reduceAdd])); focus ((repeat' (first | (with_reducible first | exact wg | exact wh) | ((with_reducible first | apply wi | apply wj); focus (simp (discharger := omega) only [go_sem, mc, simprocAttr]; with_reducible rfl)))); done)))
                          exact Meet.h ⟨_, Norm.headS (own := []) (keep := [1, 179]) (by refine ⟨?_, ?_⟩; (simp (discharger := omega) only [go_sem, simprocAttr]; with_reducible rfl); refine ⟨?_, ?_, ?_, ?_⟩ <;> (simp only [go_sem, simprocAttr]; with_reducible rfl)), rfl⟩
                        · rw [decide_eq_true (show coefs.length ≠ 0 by omega)]
                          try simp only [Bool.false_or, Bool.true_or, Bool.or_true]
                          repeat' (first | (with_reducible first | apply w1 | apply w2 | apply w3 | apply w4 | apply w5 | apply w6 | apply w7 | apply w8 | apply w9 | apply wa | apply wb | apply wc) | ((with_reducible apply wd); focus decide) | ((with_reducible apply we); focus exact rfl) | ((with_reducible apply wf); focus exact rfl) | ((first | (with_reducible apply SW_run tt_ok hG htb) | ((with_reducible apply SW_draw rfl tt_ok hG htb); (focus kernel_rfl); focus simp only [List.range, List.range.loop, List.size_toArray, List.length_cons, List.length_nil, Nat.reduceAdd])); focus ((repeat' (first | (with_reducible first | exact wg | exact wh) | ((with_reducible first | apply wi | apply wj); focus (simp (discharger := omega) only [go_sem, mc, simprocAttr]; with_reducible rfl)))); done)))
                          exact Meet.h ⟨_, Norm.headS (own := []) (keep := [1, 179]) (by refine ⟨?_, ?_⟩; (simp (discharger := omega) only [go_sem, simprocAttr]; with_reducible rfl); refine ⟨?_, ?_, ?_, ?_⟩ <;> (simp only [go_sem, simprocAttr]; with_reducible rfl)), rfl⟩
                      · rw [decide_eq_true (show num ≠ 0 by omega)]
                        try simp only [Bool.false_or, Bool.true_or, Bool.or_true]
                        repeat' (first | (with_reducible first | apply w1 | apply w2 | apply w3 | apply w4 | apply w5 | apply w6 | apply w7 | apply w8 | apply w9 | apply wa | apply wb | apply wc) | ((with_reducible apply wd); focus decide) | ((with_reducible apply we); focus exact rfl) | ((with_reducible apply wf); focus exact rfl) | ((first | (with_reducible apply SW_run tt_ok hG htb) | ((with_reducible apply SW_draw rfl tt_ok hG htb); (focus kernel_rfl); focus simp only [List.range, List.range.loop, List.size_toArray, List.length_cons, List.length_nil, Nat.reduceAdd])); focus ((repeat' (first | (with_reducible first | exact wg | exact wh) | ((with_reducible first | apply wi | apply wj); focus (simp (discharger := omega) only [go_sem, mnum, simprocAttr]; with_reducible rfl)))); done)))
                        exact Meet.h ⟨_, Norm.headS (own := []) (keep := [1, 179]) (by refine ⟨?_, ?_⟩; (simp (discharger := omega) only [go_sem, simprocAttr]; with_reducible rfl); refine ⟨?_, ?_, ?_, ?_⟩ <;> (simp only [go_sem, simprocAttr]; with_reducible rfl)), rfl⟩
                    · rw [decide_eq_true (show word2 ≠ 0 by omega)]
                      try simp only [Bool.false_or, Bool.true_or, Bool.or_true]
                      repeat' (first | (with_reducible first | apply w1 | apply w2 | apply w3 | apply w4 | apply w5 | apply w6 | apply w7 | apply w8 | apply w9 | apply wa | apply wb | apply wc) | ((with_reducible apply wd); focus decide) | ((with_reducible apply we); focus exact rfl) | ((with_reducible apply wf); focus exact rfl) | ((first | (with_reducible apply SW_run tt_ok hG htb) | ((with_reducible apply SW_draw rfl tt_ok hG htb); (focus kernel_rfl); focus simp only [List.range, List.range.loop, List.size_toArray, List.length_cons, List.length_nil, Nat.reduceAdd])); focus ((repeat' (first | (with_reducible first | exact wg | exact wh) | ((with_reducible first | apply wi | apply wj); focus (simp (discharger := omega) only [go_sem, mword2, simprocAttr]; with_reducible rfl)))); done)))
                      exact Meet.h ⟨_, Norm.headS (own := []) (keep := [1, 179]) (by refine ⟨?_, ?_⟩; (simp (discharger := omega) only [go_sem, simprocAttr]; with_reducible rfl); refine ⟨?_, ?_, ?_, ?_⟩ <;> (simp only [go_sem, simprocAttr]; with_reducible rfl)), rfl⟩
                  · rw [decide_eq_true (show word ≠ 0 by omega)]
                    try simp only [Bool.false_or, Bool.true_or, Bool.or_true]
                    repeat' (first | (with_reducible first | apply w1 | apply w2 | apply w3 | apply w4 | apply w5 | apply w6 | apply w7 | apply w8 | apply w9 | apply wa | apply wb | apply wc) | ((with_reducible apply wd); focus decide) | ((with_reducible apply we); focus exact rfl) | ((with_reducible apply wf); focus exact rfl) | ((first | (with_reducible apply SW_run tt_ok hG htb) | ((with_reducible apply SW_draw rfl tt_ok hG htb); (focus kernel_rfl); focus simp only [List.range, List.range.loop, List.size_toArray, List.length_cons, List.length_nil, Nat.reduceAdd])); focus ((repeat' (first | (with_reducible first | exact wg | exact wh) | ((with_reducible first | apply wi | apply wj); focus (simp (discharger := omega) only [go_sem, mword, simprocAttr]; with_reducible rfl)))); done)))
                    exact Meet.h ⟨_, Norm.headS (own := []) (keep := [1, 179]) (by refine ⟨?_, ?_⟩; (simp (discharger := omega) only [go_sem, simprocAttr]; with_reducible rfl); refine ⟨?_, ?_, ?_, ?_⟩ <;> (simp only [go_sem, simprocAttr]; with_reducible rfl)), rfl⟩
                · rw [decide_eq_true (show other ≠ 0 by omega)]
                  try simp only [Bool.false_or, Bool.true_or, Bool.or_true]
                  repeat' (first | (with_reducible first | apply w1 | apply w2 | apply w3 | apply w4 | apply w5 | apply w6 | apply w7 | apply w8 | apply w9 | apply wa | apply wb | apply wc) | ((with_reducible apply wd); focus decide) | ((with_reducible apply we); focus exact rfl) | ((with_reducible apply wf); focus exact rfl) | ((first | (with_reducible apply SW_run tt_ok hG htb) | ((with_reducible apply SW_draw rfl tt_ok hG htb); (focus kernel_rfl); focus simp only [List.range, List.range.loop, List.size_toArray, List.length_cons, List.length_nil, Nat.reduceAdd])); focus ((repeat' (first | (with_reducible first | exact wg | exact wh) | ((with_reducible first | apply wi | apply wj); focus (simp (discharger := omega) only [go_sem, mother, simprocAttr]; with_reducible rfl)))); done)))
                  exact Meet.h ⟨_, Norm.headS (own := []) (keep := [1, 179]) (by refine ⟨?_, ?_⟩; (simp (discharger := omega) only [go_sem, simprocAttr]; with_reducible rfl); refine ⟨?_, ?_, ?_, ?_⟩ <;> (simp only [go_sem, simprocAttr]; with_reducible rfl)), rfl⟩
              · rw [decide_eq_true (show var ≠ 0 by omega)]
                try simp only [Bool.false_or, Bool.true_or, Bool.or_true]
                repeat' (first | (with_reducible first | apply w1 | apply w2 | apply w3 | apply w4 | apply w5 | apply w6 | apply w7 | apply w8 | apply w9 | apply wa | apply wb | apply wc) | ((with_reducible apply wd); focus decide) | ((with_reducible apply we); focus exact rfl) | ((with_reducible apply wf); focus exact rfl) | ((first | (with_reducible apply SW_run tt_ok hG htb) | ((with_reducible apply SW_draw rfl tt_ok hG htb); (focus kernel_rfl); focus simp only [List.range, List.range.loop, List.size_toArray, List.length_cons, List.length_nil, Nat.reduceAdd])); focus ((repeat' (first | (with_reducible first | exact wg | exact wh) | ((with_reducible first | apply wi | apply wj); focus (simp (discharger := omega) only [go_sem, mvar, simprocAttr]; with_reducible rfl)))); done)))
                exact Meet.h ⟨_, Norm.headS (own := []) (keep := [1, 179]) (by refine ⟨?_, ?_⟩; (simp (discharger := omega) only [go_sem, simprocAttr]; with_reducible rfl); refine ⟨?_, ?_, ?_, ?_⟩ <;> (simp only [go_sem, simprocAttr]; with_reducible rfl)), rfl⟩
            · generalize nodeMore ⟨5, var, other, word, word2, num, coefs⟩ = mo at *
              cases mo with
              | true =>
                rw [if_pos rfl]
                repeat' (first | (with_reducible first | apply w1 | apply w2 | apply w3 | apply w4 | apply w5 | apply w6 | apply w7 | apply w8 | apply w9 | apply wa | apply wb | apply wc) | ((with_reducible apply wd); focus decide) | ((with_reducible apply we); focus exact rfl) | ((with_reducible apply wf); focus exact rfl) | ((first | (with_reducible apply SW_run tt_ok hG htb) | ((with_reducible apply SW_draw rfl tt_ok hG htb); (focus kernel_rfl); focus simp only [List.range, List.range.loop, List.size_toArray, List.length_cons, List.length_nil, Nat.reduceAdd])); focus ((repeat' (first | (with_reducible first | exact wg | exact wh) | ((with_reducible first | apply wi | apply wj); focus (simp (discharger := omega) only [go_sem, simprocAttr]; with_reducible rfl)))); done)))
                exact (by simp (discharger := omega) only [go_sem, tErr, simprocAttr])
              | false =>
                rw [if_neg (by decide)]
                clear e1 e2 e3 e4 cV cO c1
                by_cases hc : 0 < coefs.length
                · obtain ⟨x, hx⟩ : ∃ x, coefs[coefs.length - 1]! = x := ⟨_, rfl⟩
                  have hxe : (coefs.length : Int) - 1 = ((coefs.length - 1 : Nat) : Int) := by omega
                  have hkk : coefs.length - 1 < coefs.length := by omega
                  rw [hx]
                  generalize coefs.length - 1 = kk at *
                  by_cases h0 : x = 0
                  · rw [if_pos ⟨hc, h0⟩]
                    repeat' (first | (with_reducible first | apply w1 | apply w2 | apply w3 | apply w4 | apply w5 | apply w6 | apply w7 | apply w8 | apply w9 | apply wa | apply wb | apply wc) | ((with_reducible apply wd); focus decide) | ((with_reducible apply we); focus exact rfl) | ((with_reducible apply wf); focus exact rfl) | ((first | (with_reducible apply SW_run tt_ok hG htb) | ((with_reducible apply SW_draw rfl tt_ok hG htb); (focus kernel_rfl); focus simp only [List.range, List.range.loop, List.size_toArray, List.length_cons, List.length_nil, Nat.reduceAdd])); focus ((repeat' (first | (with_reducible first | exact wg | exact wh) | ((with_reducible first | apply wi | apply wj); focus (simp (discharger := omega) only [go_sem, hxe, hx, h0, simprocAttr]; with_reducible rfl)))); done)))
                    exact (by simp (discharger := omega) only [go_sem, tErr, simprocAttr])
                  · rw [if_neg (by rintro ⟨_, e⟩; exact h0 e)]
                    repeat' (first | (with_reducible first | apply w1 | apply w2 | apply w3 | apply w4 | apply w5 | apply w6 | apply w7 | apply w8 | apply w9 | apply wa | apply wb | apply wc) | ((with_reducible apply wd); focus decide) | ((with_reducible apply we); focus exact rfl) | ((with_reducible apply wf); focus exact rfl) | ((first | (with_reducible apply SW_run tt_ok hG htb) | ((with_reducible apply SW_draw rfl tt_ok hG htb); (focus kernel_rfl); focus simp only [List.range, List.range.loop, List.size_toArray, List.length_cons, List.length_nil, Nat.reduceAdd])); focus ((repeat' (first | (with_reducible first | exact wg | exact wh) | ((with_reducible first | apply wi | apply wj); focus (simp (discharger := omega) only [go_sem, hxe, hx, h0, simprocAttr]; with_reducible rfl)))); done)))
                    exact (by simp (discharger := omega) only [go_sem, tErr, simprocAttr])
                · rw [if_neg (by rintro ⟨e, _⟩; exact hc e)]
                  have hc0 : coefs.length = 0 := by omega
                  repeat' (first | (with_reducible first | apply w1 | apply w2 | apply w3 | apply w4 | apply w5 | apply w6 | apply w7 | apply w8 | apply w9 | apply wa | apply wb | apply wc) | ((with_reducible apply wd); focus decide) | ((with_reducible apply we); focus exact rfl) | ((with_reducible apply wf); focus exact rfl) | ((first | (with_reducible apply SW_run tt_ok hG htb) | ((with_reducible apply SW_draw rfl tt_ok hG htb); (focus kernel_rfl); focus simp only [List.range, List.range.loop, List.size_toArray, List.length_cons, List.length_nil, Nat.reduceAdd])); focus ((repeat' (first | (with_reducible first | exact wg | exact wh) | ((with_reducible first | apply wi | apply wj); focus (simp (discharger := omega) only [go_sem, hc0, simprocAttr]; with_reducible rfl)))); done)))
                  exact (by simp (discharger := omega) only [go_sem, tErr, simprocAttr])
      · have e1 : nodeOk ⟨6, var, other, word, word2, num, coefs⟩ = true := by unfold nodeOk; simp
        have e2 : usedN ⟨6, var, other, word, word2, num, coefs⟩ = ⟨6, 0, 0, 0, 0, 0, []⟩ := by unfold usedN; simp
        have e4 : nodeMore ⟨6, var, other, word, word2, num, coefs⟩ = (decide (var ≠ 0) || decide (other ≠ 0) || decide (word ≠ 0) || decide (word2 ≠ 0) || decide (num ≠ 0) || decide (coefs.length ≠ 0)) := by unfold nodeMore; rw [e2]; simp
        refine SW_meetG ⟨196, [(1, .bptr 0 0), (3, .bptr 1 0), (4, .t (.bool (nodeOk ⟨6, var, other, word, word2, num, coefs⟩)))], [.fbox [tInt 6, tInt var, tInt other, tInt word, tInt word2, tInt num, tInts coefs], .box [.t (tInt 6), .t (tInt 0), .t (tInt 0), .t (tInt 0), .t (tInt 0), .t (tInt 0), .nil]]⟩ Weak.sw (SW_block ?_) ?_
        · rw [e1]
          clear e1 e2 e3 e4
          try simp only [Bool.true_and, Bool.false_and, Bool.and_true, Bool.and_false]
          have htb := Tab.cons cV Tab.nil
          repeat' (first | (with_reducible first | apply w1 | apply w2 | apply w3 | apply w4 | apply w5 | apply w6 | apply w7 | apply w8 | apply w9 | apply wa | apply wb | apply wc) | ((with_reducible apply wd); focus decide) | ((with_reducible apply we); focus exact rfl) | ((with_reducible apply wf); focus exact rfl) | ((first | (with_reducible apply SW_run tt_ok hG htb) | ((with_reducible apply SW_draw rfl tt_ok hG htb); (focus kernel_rfl); focus simp only [List.range, List.range.loop, List.size_toArray, List.length_cons, List.length_nil, Nat.reduceAdd])); focus ((repeat' (first | (with_reducible first | exact wg | exact wh) | ((with_reducible first | apply wi | apply wj); focus (simp (discharger := omega) only [go_sem, simprocAttr]; with_reducible rfl)))); done)))
          exact Meet.h ⟨_, Norm.headS (own := []) (keep := [1, 3, 4]) (by refine ⟨?_, ?_⟩; (simp (discharger := omega) only [go_sem, simprocAttr]; with_reducible rfl); refine ⟨?_, ?_, ?_, ?_⟩ <;> (simp only [go_sem, simprocAttr]; with_reducible rfl)), rfl⟩
        · generalize nodeOk ⟨6, var, other, word, word2, num, coefs⟩ = ok at *
          cases ok with
          | false =>
            rw [if_pos rfl]
            repeat' (first | (with_reducible first | apply w1 | apply w2 | apply w3 | apply w4 | apply w5 | apply w6 | apply w7 | apply w8 | apply w9 | apply wa | apply wb | apply wc) | ((with_reducible apply wd); focus decide) | ((with_reducible apply we); focus exact rfl) | ((with_reducible apply wf); focus exact rfl) | ((first | (with_reducible apply SW_run tt_ok hG htb) | ((with_reducible apply SW_draw rfl tt_ok hG htb); (focus kernel_rfl); focus simp only [List.range, List.range.loop, List.size_toArray, List.length_cons, List.length_nil, Nat.reduceAdd])); focus ((repeat' (first | (with_reducible first | exact wg | exact wh) | ((with_reducible first | apply wi | apply wj); focus (simp (discharger := omega) only [go_sem, simprocAttr]; with_reducible rfl)))); done)))
            exact (by simp (discharger := omega) only [go_sem, tErr, simprocAttr])
          | true =>
            rw [if_neg (by decide)]
            repeat' (first | (with_reducible first | apply w1 | apply w2 | apply w3 | apply w4 | apply w5 | apply w6 | apply w7 | apply w8 | apply w9 | apply wa | apply wb | apply wc) | ((with_reducible apply wd); focus decide) | ((with_reducible apply we); focus exact rfl) | ((with_reducible apply wf); focus exact rfl) | ((first | (with_reducible apply SW_run tt_ok hG htb) | ((with_reducible apply SW_draw rfl tt_ok hG htb); (focus kernel_rfl); focus simp only [List.range, List.range.loop, List.size_toArray, List.length_cons, List.length_nil, Nat.reduceAdd])); focus ((repeat' (first | (with_reducible first | exact wg | exact wh) | ((with_reducible first | apply wi | apply wj); focus (simp (discharger := omega) only [go_sem, simprocAttr]; with_reducible rfl)))); done)))
            refine SW_meetG ⟨196, [(1, .bptr 0 0), (179, .t (.bool (nodeMore ⟨6, var, other, word, word2, num, coefs⟩)))], [.fbox [tInt 6, tInt var, tInt other, tInt word, tInt word2, tInt num, tInts coefs]]⟩ Weak.sw ?_ ?_
            · rw [e4]
              clear e1 e2 e3 e4
              by_cases mvar : var = 0
              · subst mvar
                rw [decide_eq_false (show ¬ (0 : Int) ≠ 0 by decide)]
                by_cases mother : other = 0
                · subst mother
                  rw [decide_eq_false (show ¬ (0 : Int) ≠ 0 by decide)]
                  by_cases mword : word = 0
                  · subst mword
                    rw [decide_eq_false (show ¬ (0 : Int) ≠ 0 by decide)]
                    by_cases mword2 : word2 = 0
                    · subst mword2
                      rw [decide_eq_false (show ¬ (0 : Int) ≠ 0 by decide)]
                      by_cases mnum : num = 0
                      · subst mnum
                        rw [decide_eq_false (show ¬ (0 : Int) ≠ 0 by decide)]
                        by_cases mc : coefs.length = 0
                        · rw [decide_eq_false (show ¬ coefs.length ≠ 0 by omega)]
                          try simp only [Bool.false_or, Bool.or_false]
                          repeat' (first | (with_reducible first | apply w1 | apply w2 | apply w3 | apply w4 | apply w5 | apply w6 | apply w7 | apply w8 | apply w9 | apply wa | apply wb | apply wc) | ((with_reducible apply wd); focus decide) | ((with_reducible apply we); focus exact rfl) | ((with_reducible apply wf); focus exact rfl) | ((first | (with_reducible apply SW_run tt_ok hG htb) | ((with_reducible apply SW_draw rfl tt_ok hG htb); (focus kernel_rfl); focus simp only [List.range, List.range.loop, List.size_toArray, List.length_cons, List.length_nil, Nat.reduceAdd])); focus ((repeat' (first | (with_reducible first | exact wg | exact wh) | ((with_reducible first | apply wi | apply wj); focus (simp (discharger := omega) only [go_sem, mc, simprocAttr]; with_reducible rfl)))); done)))
                          exact Meet.h ⟨_, Norm.headS (own := []) (keep := [1, 179]) (by refine ⟨?_, ?_⟩; (simp (discharger := omega) only [go_sem, simprocAttr]; with_reducible rfl); refine ⟨?_, ?_, ?_, ?_⟩ <;> (simp only [go_sem, simprocAttr]; with_reducible rfl)), rfl⟩
                        · rw [decide_eq_true (show coefs.length ≠ 0 by omega)]
                          try simp only [Bool.false_or, Bool.true_or, Bool.or_true]
                          repeat' (first | (with_reducible first | apply w1 | apply w2 | apply w3 | apply w4 | apply w5 | apply w6 | apply w7 | apply w8 | apply w9 | apply wa | apply wb | apply wc) | ((with_reducible apply wd); focus decide) | ((with_reducible apply we); focus exact rfl) | ((with_reducible apply wf); focus exact rfl) | ((first | (with_reducible apply SW_run tt_ok hG htb) | ((with_reducible apply SW_draw rfl tt_ok hG htb); (focus kernel_rfl); focus simp only [List.range, List.range.loop, List.size_toArray, List.length_cons, List.length_nil, Nat.reduceAdd])); focus ((repeat' (first | (with_reducible first | exact wg | exact wh) | ((with_reducible first | apply wi | apply wj); focus (simp (discharger := omega) only [go_sem, mc, simprocAttr]; with_reducible rfl)))); done)))
                          exact Meet.h ⟨_, Norm.headS (own := []) (keep := [1, 179]) (by refine ⟨?_, ?_⟩; (simp (discharger := omega) only [go_sem, simprocAttr]; with_reducible rfl); refine ⟨?_, ?_, ?_, ?_⟩ <;> (simp only [go_sem, simprocAttr]; with_reducible rfl)), rfl⟩
                      · rw [decide_eq_true (show num ≠ 0 by omega)]
                        try simp only [Bool.false_or, Bool.true_or, Bool.or_true]
                        repeat' (first | (with_reducible first | apply w1 | apply w2 | apply w3 | apply w4 | apply w5 | apply w6 | apply w7 | apply w8 | apply w9 | apply wa | apply wb | apply wc) | ((with_reducible apply wd); focus decide) | ((with_reducible apply we); focus exact rfl) | ((with_reducible apply wf); focus exact rfl) | ((first | (with_reducible apply SW_run tt_ok hG htb) | ((with_reducible apply SW_draw rfl tt_ok hG htb); (focus kernel_rfl); focus simp only [List.range, List.range.loop, List.size_toArray, List.length_cons, List.length_nil, Nat.reduceAdd])); focus ((repeat' (first | (with_reducible first | exact wg | exact wh) | ((with_reducible first | apply wi | apply wj); focus (simp (discharger := omega) only [go_sem, mnum, simprocAttr]; with_reducible rfl)))); done)))
                        exact Meet.h ⟨_, Norm.headS (own := []) (keep := [1, 179]) (by refine ⟨?_, ?_⟩; (simp (discharger := omega) only [go_sem, simprocAttr]; with_reducible rfl); refine ⟨?_, ?_, ?_, ?_⟩ <;> (simp only [go_sem, simprocAttr]; with_reducible rfl)), rfl⟩
                    · rw [decide_eq_true (show word2 ≠ 0 by omega)]
                      try simp only [Bool.false_or, Bool.true_or, Bool.or_true]
                      repeat' (first | (with_reducible first | apply w1 | apply w2 | apply w3 | apply w4 | apply w5 | apply w6 | apply w7 | apply w8 | apply w9 | apply wa | apply wb | apply wc) | ((with_reducible apply wd); focus decide) | ((with_reducible apply we); focus exact rfl) | ((with_reducible apply wf); focus exact rfl) | ((first | (with_reducible apply SW_run tt_ok hG htb) | ((with_reducible apply SW_draw rfl tt_ok hG htb); (focus kernel_rfl); focus simp only [List.range, List.range.loop, List.size_toArray, List.length_cons, List.length_nil, Nat.reduceAdd])); focus ((repeat' (first | (with_reducible first | exact wg | exact wh) | ((with_reducible first | apply wi | apply wj); focus (simp (discharger := omega) only [go_sem, mword2, simprocAttr]; with_reducible rfl)))); done)))
                      exact Meet.h ⟨_, Norm.headS (own := []) (keep := [1, 179]) (by refine ⟨?_, ?_⟩; (simp (discharger := omega) only [go_sem, simprocAttr]; with_reducible rfl); refine ⟨?_, ?_, ?_, ?_⟩ <;> (simp only [go_sem, simprocAttr]; with_reducible rfl)), rfl⟩
                  · rw [decide_eq_true (show word ≠ 0 by omega)]
                    try simp only [Bool.false_or, Bool.true_or, Bool.or_true]
                    repeat' (first | (with_reducible first | apply w1 | apply w2 | apply w3 | apply w4 | apply w5 | apply w6 | apply w7 | apply w8 | apply w9 | apply wa | apply wb | apply wc) | ((with_reducible apply wd); focus decide) | ((with_reducible apply we); focus exact rfl) | ((with_reducible apply wf); focus exact rfl) | ((first | (with_reducible apply SW_run tt_ok hG htb) | ((with_reducible apply SW_draw rfl tt_ok hG htb); (focus kernel_rfl); focus simp only [List.range, List.range.loop, List.size_toArray, List.length_cons, List.length_nil, Nat.reduceAdd])); focus ((repeat' (first | (with_reducible first | exact wg | exact wh) | ((with_reducible first | apply wi | apply wj); focus (simp (discharger := omega) only [go_sem, mword, simprocAttr]; with_reducible rfl)))); done)))
                    exact Meet.h ⟨_, Norm.headS (own := []) (keep := [1, 179]) (by refine ⟨?_, ?_⟩; (simp (discharger := omega) only [go_sem, simprocAttr]; with_reducible rfl); refine ⟨?_, ?_, ?_, ?_⟩ <;> (simp only [go_sem, simprocAttr]; with_reducible rfl)), rfl⟩
                · rw [decide_eq_true (show other ≠ 0 by omega)]
                  try simp only [Bool.false_or, Bool.true_or, Bool.or_true]
                  repeat' (first | (with_reducible first | apply w1 | apply w2 | apply w3 | apply w4 | apply w5 | apply w6 | apply w7 | apply w8 | apply w9 | apply wa | apply wb | apply wc) | ((with_reducible apply wd); focus decide) | ((with_reducible apply we); focus exact rfl) | ((with_reducible apply wf); focus exact rfl) | ((first | (with_reducible apply SW_run tt_ok hG htb) | ((with_reducible apply SW_draw rfl tt_ok hG htb); (focus kernel_rfl); focus simp only [List.range, List.range.loop, List.size_toArray, List.length_cons, List.length_nil, Nat.reduceAdd])); focus ((repeat' (first | (with_reducible first | exact wg | exact wh) | ((with_reducible first | apply wi | apply wj); focus (simp (discharger := omega) only [go_sem, mother, simprocAttr]; with_reducible rfl)))); done)))
                  exact Meet.h ⟨_, Norm.headS (own := []) (keep := [1, 179]) (by refine ⟨?_, ?_⟩; (simp (discharger := omega) only [go_sem, simprocAttr]; with_reducible rfl); refine ⟨?_, ?_, ?_, ?_⟩ <;> (simp only [go_sem, simprocAttr]; with_reducible rfl)), rfl⟩
              · rw [decide_eq_true (show var ≠ 0 by omega)]
                try simp only [Bool.false_or, Bool.true_or, Bool.or_true]
                repeat' (first | (with_reducible first | apply w1 | apply w2 | apply w3 | apply w4 | apply w5 | apply w6 | apply w7 | apply w8 | apply w9 | apply wa | apply wb | apply wc) | ((with_reducible apply wd); focus decide) | ((with_reducible apply we); focus exact rfl) | ((with_reducible apply wf); focus exact rfl) | ((first | (with_reducible apply SW_run tt_ok hG htb) | ((with_reducible apply SW_draw rfl tt_ok hG htb); (focus kernel_rfl); focus simp only [List.range, List.range.loop, List.size_toArray, List.length_cons, List.length_nil, Nat.reduceAdd])); focus ((repeat' (first | (with_reducible first | exact wg | exact wh) | ((with_reducible first | apply wi | apply wj); focus (simp (discharger := omega) only [go_sem, mvar, simprocAttr]; with_reducible rfl)))); done)))
                exact Meet.h ⟨_, Norm.headS (own := []) (keep := [1, 179]) (by refine ⟨?_, ?_⟩; (simp (discharger := omega) only [go_sem, simprocAttr]; with_reducible rfl); refine ⟨?_, ?_, ?_, ?_⟩ <;> (simp only [go_sem, simprocAttr]; with_reducible rfl)), rfl⟩
            · generalize nodeMore ⟨6, var, other, word, word2, num, coefs⟩ = mo at *
              cases mo with
              | true =>
                rw [if_pos rfl]
                repeat' (first | (with_reducible first | apply w1 | apply w2 | apply w3 | apply w4 | apply w5 | apply w6 | apply w7 | apply w8 | apply w9 | apply wa | apply wb | apply wc) | ((with_reducible apply wd); focus decide) | ((with_reducible apply we); focus exact rfl) | ((with_reducible apply wf); focus exact rfl) | ((first | (with_reducible apply SW_run tt_ok hG htb) | ((with_reducible apply SW_draw rfl tt_ok hG htb); (focus kernel_rfl); focus simp only [List.range, List.range.loop, List.size_toArray, List.length_cons, List.length_nil, Nat.reduceAdd])); focus ((repeat' (first | (with_reducible first | exact wg | exact wh) | ((with_reducible first | apply wi | apply wj); focus (simp (discharger := omega) only [go_sem, simprocAttr]; with_reducible rfl)))); done)))
                exact (by simp (discharger := omega) only [go_sem, tErr, simprocAttr])
              | false =>
                rw [if_neg (by decide)]
                clear e1 e2 e3 e4 cV cO c1
                by_cases hc : 0 < coefs.length
                · obtain ⟨x, hx⟩ : ∃ x, coefs[coefs.length - 1]! = x := ⟨_, rfl⟩
                  have hxe : (coefs.length : Int) - 1 = ((coefs.length - 1 : Nat) : Int) := by omega
                  have hkk : coefs.length - 1 < coefs.length := by omega
                  rw [hx]
                  generalize coefs.length - 1 = kk at *
                  by_cases h0 : x = 0
                  · rw [if_pos ⟨hc, h0⟩]
                    repeat' (first | (with_reducible first | apply w1 | apply w2 | apply w3 | apply w4 | apply w5 | apply w6 | apply w7 | apply w8 | apply w9 | apply wa | apply wb | apply wc) | ((with_reducible apply wd); focus decide) | ((with_reducible apply we); focus exact rfl) | ((with_reducible apply wf); focus exact rfl) | ((first | (with_reducible apply SW_run tt_ok hG htb) | ((with_reducible apply SW_draw rfl tt_ok hG htb); (focus kernel_rfl); focus simp only [List.range, List.range.loop, List.size_toArray, List.length_cons, List.length_nil, Nat.reduceAdd])); focus ((repeat' (first | (with_reducible first | exact wg | exact wh) | ((with_reducible first | apply wi | apply wj); focus (simp (discharger := omega) only [go_sem, hxe, hx, h0, simprocAttr]; with_reducible rfl)))); done)))
                    exact (by simp (discharger := omega) only [go_sem, tErr, simprocAttr])
                  · rw [if_neg (by rintro ⟨_, e⟩; exact h0 e)]
                    repeat' (first | (with_reducible first | apply w1 | apply w2 | apply w3 | apply w4 | apply w5 | apply w6 | apply w7 | apply w8 | apply w9 | apply wa | apply wb | apply wc) | ((with_reducible apply wd); focus decide) | ((with_reducible apply we); focus exact rfl) | ((with_reducible apply wf); focus exact rfl) | ((first | (with_reducible apply SW_run tt_ok hG htb) | ((with_reducible apply SW_draw rfl tt_ok hG htb); (focus kernel_rfl); focus simp only [List.range, List.range.loop, List.size_toArray, List.length_cons, List.length_nil, Nat.reduceAdd])); focus ((repeat' (first | (with_reducible first | exact wg | exact wh) | ((with_reducible first | apply wi | apply wj); focus (simp (discharger := omega) only [go_sem, hxe, hx, h0, simprocAttr]; with_reducible rfl)))); done)))
                    exact (by simp (discharger := omega) only [go_sem, tErr, simprocAttr])
                · rw [if_neg (by rintro ⟨e, _⟩; exact hc e)]
                  have hc0 : coefs.length = 0 := by omega
                  repeat' (first | (with_reducible first | apply w1 | apply w2 | apply w3 | apply w4 | apply w5 | apply w6 | apply w7 | apply w8 | apply w9 | apply wa | apply wb | apply wc) | ((with_reducible apply wd); focus decide) | ((with_reducible apply we); focus exact rfl) | ((with_reducible apply wf); focus exact rfl) | ((first | (with_reducible apply SW_run tt_ok hG htb) | ((with_reducible apply SW_draw rfl tt_ok hG htb); (focus kernel_rfl); focus simp only [List.range, List.range.loop, List.size_toArray, List.length_cons, List.length_nil, Nat.reduceAdd])); focus ((repeat' (first | (with_reducible first | exact wg | exact wh) | ((with_reducible first | apply wi | apply wj); focus (simp (discharger := omega) only [go_sem, hc0, simprocAttr]; with_reducible rfl)))); done)))
                  exact (by simp (discharger := omega) only [go_sem, tErr, simprocAttr])
      · have e1 : nodeOk ⟨7, var, other, word, word2, num, coefs⟩ = true := by unfold nodeOk; simp
        have e2 : usedN ⟨7, var, other, word, word2, num, coefs⟩ = ⟨7, 0, 0, 0, 0, 0, []⟩ := by unfold usedN; simp
        have e4 : nodeMore ⟨7, var, other, word, word2, num, coefs⟩ = (decide (var ≠ 0) || decide (other ≠ 0) || decide (word ≠ 0) || decide (word2 ≠ 0) || decide (num ≠ 0) || decide (coefs.length ≠ 0)) := by unfold nodeMore; rw [e2]; simp
        refine SW_meetG ⟨196, [(1, .bptr 0 0), (3, .bptr 1 0), (4, .t (.bool (nodeOk ⟨7, var, other, word, word2, num, coefs⟩)))], [.fbox [tInt 7, tInt var, tInt other, tInt word, tInt word2, tInt num, tInts coefs], .box [.t (tInt 7), .t (tInt 0), .t (tInt 0), .t (tInt 0), .t (tInt 0), .t (tInt 0), .nil]]⟩ Weak.sw (SW_block ?_) ?_
        · rw [e1]
          clear e1 e2 e3 e4
          try simp only [Bool.true_and, Bool.false_and, Bool.and_true, Bool.and_false]
          have htb := Tab.cons cV Tab.nil
          repeat' (first | (with_reducible first | apply w1 | apply w2 | apply w3 | apply w4 | apply w5 | apply w6 | apply w7 | apply w8 | apply w9 | apply wa | apply wb | apply wc) | ((with_reducible apply wd); focus decide) | ((with_reducible apply we); focus exact rfl) | ((with_reducible apply wf); focus exact rfl) | ((first | (with_reducible apply SW_run tt_ok hG htb) | ((with_reducible apply SW_draw rfl tt_ok hG htb); (focus kernel_rfl); focus simp only [List.range, List.range.loop, List.size_toArray, List.length_cons, List.length_nil, Nat.reduceAdd])); focus ((repeat' (first | (with_reducible first | exact wg | exact wh) | ((with_reducible first | apply wi | apply wj); focus (simp (discharger := omega) only [go_sem, simprocAttr]; with_reducible rfl)))); done)))
          exact Meet.h ⟨_, Norm.headS (own := []) (keep := [1, 3, 4]) (by refine ⟨?_, ?_⟩; (simp (discharger := omega) only [go_sem, simprocAttr]; with_reducible rfl); refine ⟨?_, ?_, ?_, ?_⟩ <;> (simp only [go_sem, simprocAttr]; with_reducible rfl)), rfl⟩
        · generalize nodeOk ⟨7, var, other, word, word2, num, coefs⟩ = ok at *
          cases ok with
          | false =>
            rw [if_pos rfl]
            repeat' (first | (with_reducible first | apply w1 | apply w2 | apply w3 | apply w4 | apply w5 | apply w6 | apply w7 | apply w8 | apply w9 | apply wa | apply wb | apply wc) | ((with_reducible apply wd); focus decide) | ((with_reducible apply we); focus exact rfl) | ((with_reducible apply wf); focus exact rfl) | ((first | (with_reducible apply SW_run tt_ok hG htb) | ((with_reducible apply SW_draw rfl tt_ok hG htb); (focus kernel_rfl); focus simp only [List.range, List.range.loop, List.size_toArray, List.length_cons, List.length_nil, Nat.reduceAdd])); focus ((repeat' (first | (with_reducible first | exact wg | exact wh) | ((with_reducible first | apply wi | apply wj); focus (simp (discharger := omega) only [go_sem, simprocAttr]; with_reducible rfl)))); done)))
            exact (by simp (discharger := omega) only [go_sem, tErr, simprocAttr])
          | true =>
            rw [if_neg (by decide)]
            repeat' (first | (with_reducible first | apply w1 | apply w2 | apply w3 | apply w4 | apply w5 | apply w6 | apply w7 | apply w8 | apply w9 | apply wa | apply wb | apply wc) | ((with_reducible apply wd); focus decide) | ((with_reducible apply we); focus exact rfl) | ((with_reducible apply wf); focus exact rfl) | ((first | (with_reducible apply SW_run tt_ok hG htb) | ((with_reducible apply SW_draw rfl tt_ok hG htb); (focus kernel_rfl); focus simp only [List.range, List.range.loop, List.size_toArray, List.length_cons, List.length_nil, Nat.reduceAdd])); focus ((repeat' (first | (with_reducible first | exact wg | exact wh) | ((with_reducible first | apply wi | apply wj); focus (simp (discharger := omega) only [go_sem, simprocAttr]; with_reducible rfl)))); done)))
            refine SW_meetG ⟨196, [(1, .bptr 0 0), (179, .t (.bool (nodeMore ⟨7, var, other, word, word2, num, coefs⟩)))], [.fbox [tInt 7, tInt var, tInt other, tInt word, tInt word2, tInt num, tInts coefs]]⟩ Weak.sw ?_ ?_
            · rw [e4]
              clear e1 e2 e3 e4
              by_cases mvar : var = 0
              · subst mvar
                rw [decide_eq_false (show ¬ (0 : Int) ≠ 0 by decide)]
                by_cases mother : other = 0
                · subst mother
                  rw [decide_eq_false (show ¬ (0 : Int) ≠ 0 by decide)]
                  by_cases mword : word = 0
                  · subst mword
                    rw [decide_eq_false (show ¬ (0 : Int) ≠ 0 by decide)]
                    by_cases mword2 : word2 = 0
                    · subst mword2
                      rw [decide_eq_false (show ¬ (0 : Int) ≠ 0 by decide)]
                      by_cases mnum : num = 0
                      · subst mnum
                        rw [decide_eq_false (show ¬ (0 : Int) ≠ 0 by decide)]
                        by_cases mc : coefs.length = 0
                        · rw [decide_eq_false (show ¬ coefs.length ≠ 0 by omega)]
                          try simp only [Bool.false_or, Bool.or_false]
                          repeat' (first | (with_reducible first | apply w1 | apply w2 | apply w3 | apply w4 | apply w5 | apply w6 | apply w7 | apply w8 | apply w9 | apply wa | apply wb | apply wc) | ((with_reducible apply wd); focus decide) | ((with_reducible apply we); focus exact rfl) | ((with_reducible apply wf); focus exact rfl) | ((first | (with_reducible apply SW_run tt_ok hG htb) | ((with_reducible apply SW_draw rfl tt_ok hG htb); (focus kernel_rfl); focus simp only [List.range, List.range.loop, List.size_toArray, List.length_cons, List.length_nil, Nat.reduceAdd])); focus ((repeat' (first | (with_reducible first | exact wg | exact wh) | ((with_reducible first | apply wi | apply wj); focus (simp (discharger := omega) only [go_sem, mc, simprocAttr]; with_reducible rfl)))); done)))
                          exact Meet.h ⟨_, Norm.headS (own := []) (keep := [1, 179]) (by refine ⟨?_, ?_⟩; (simp (discharger := omega) only [go_sem, simprocAttr]; with_reducible rfl); refine ⟨?_, ?_, ?_, ?_⟩ <;> (simp only [go_sem, simprocAttr]; with_reducible rfl)), rfl⟩
                        · rw [decide_eq_true (show coefs.length ≠ 0 by omega)]
                          try simp only [Bool.false_or, Bool.true_or, Bool.or_true]
                          repeat' (first | (with_reducible first | apply w1 | apply w2 | apply w3 | apply w4 | apply w5 | apply w6 | apply w7 | apply w8 | apply w9 | apply wa | apply wb | apply wc) | ((with_reducible apply wd); focus decide) | ((with_reducible apply we); focus exact rfl) | ((with_reducible apply wf); focus exact rfl) | ((first | (with_reducible apply SW_run tt_ok hG htb) | ((with_reducible apply SW_draw rfl tt_ok hG htb); (focus kernel_rfl); focus simp only [List.range, List.range.loop, List.size_toArray, List.length_cons, List.length_nil, Nat.reduceAdd])); focus ((repeat' (first | (with_reducible first | exact wg | exact wh) | ((with_reducible first | apply wi | apply wj); focus (simp (discharger := omega) only [go_sem, mc, simprocAttr]; with_reducible rfl)))); done)))
                          exact Meet.h ⟨_, Norm.headS (own := []) (keep := [1, 179]) (by refine ⟨?_, ?_⟩; (simp (discharger := omega) only [go_sem, simprocAttr]; with_reducible rfl); refine ⟨?_, ?_, ?_, ?_⟩ <;> (simp only [go_sem, simprocAttr]; with_reducible rfl)), rfl⟩
                      · rw [decide_eq_true (show num ≠ 0 by omega)]
                        try simp only [Bool.false_or, Bool.true_or, Bool.or_true]
                        repeat' (first | (with_reducible first | apply w1 | apply w2 | apply w3 | apply w4 | apply w5 | apply w6 | apply w7 | apply w8 | apply w9 | apply wa | apply wb | apply wc) | ((with_reducible apply wd); focus decide) | ((with_reducible apply we); focus exact rfl) | ((with_reducible apply wf); focus exact rfl) | ((first | (with_reducible apply SW_run tt_ok hG htb) | ((with_reducible apply SW_draw rfl tt_ok hG htb); (focus kernel_rfl); focus simp only [List.range, List.range.loop, List.size_toArray, List.length_cons, List.length_nil, Nat.reduceAdd])); focus ((repeat' (first | (with_reducible first | exact wg | exact wh) | ((with_reducible first | apply wi | apply wj); focus (simp (discharger := omega) only [go_sem, mnum, simprocAttr]; with_reducible rfl)))); done)))
                        exact Meet.h ⟨_, Norm.headS (own := []) (keep := [1, 179]) (by refine ⟨?_, ?_⟩; (simp (discharger := omega) only [go_sem, simprocAttr]; with_reducible rfl); refine ⟨?_, ?_, ?_, ?_⟩ <;> (simp only [go_sem, simprocAttr]; with_reducible rfl)), rfl⟩
                    · rw [decide_eq_true (show word2 ≠ 0 by omega)]
                      try simp only [Bool.false_or, Bool.true_or, Bool.or_true]
                      repeat' (first | (with_reducible first | apply w1 | apply w2 | apply w3 | apply w4 | apply w5 | apply w6 | apply w7 | apply w8 | apply w9 | apply wa | apply wb | apply wc) | ((with_reducible apply wd); focus decide) | ((with_reducible apply we); focus exact rfl) | ((with_reducible apply wf); focus exact rfl) | ((first | (with_reducible apply SW_run tt_ok hG htb) | ((with_reducible apply SW_draw rfl tt_ok hG htb); (focus kernel_rfl); focus simp only [List.range, List.range.loop, List.size_toArray, List.length_cons, List.length_nil, Nat.reduceAdd])); focus ((repeat' (first | (with_reducible first | exact wg | exact wh) | ((with_reducible first | apply wi | apply wj); focus (simp (discharger := omega) only [go_sem, mword2, simprocAttr]; with_reducible rfl)))); done)))
                      exact Meet.h ⟨_, Norm.headS (own := []) (keep := [1, 179]) (by refine ⟨?_, ?_⟩; (simp (discharger := omega) only [go_sem, simprocAttr]; with_reducible rfl); refine ⟨?_, ?_, ?_, ?_⟩ <;> (simp only [go_sem, simprocAttr]; with_reducible rfl)), rfl⟩
                  · rw [decide_eq_true (show word ≠ 0 by omega)]
                    try simp only [Bool.false_or, Bool.true_or, Bool.or_true]
                    repeat' (first | (with_reducible first | apply w1 | apply w2 | apply w3 | apply w4 | apply w5 | apply w6 | apply w7 | apply w8 | apply w9 | apply wa | apply wb | apply wc) | ((with_reducible apply wd); focus decide) | ((with_reducible apply we); focus exact rfl) | ((with_reducible apply wf); focus exact rfl) | ((first | (with_reducible apply SW_run tt_ok hG htb) | ((with_reducible apply SW_draw rfl tt_ok hG htb); (focus kernel_rfl); focus simp only [List.range, List.range.loop, List.size_toArray, List.length_cons, List.length_nil, Nat.reduceAdd])); focus ((repeat' (first | (with_reducible first | exact wg | exact wh) | ((with_reducible first | apply wi | apply wj); focus (simp (discharger := omega) only [go_sem, mword, simprocAttr]; with_reducible rfl)))); done)))
                    exact Meet.h ⟨_, Norm.headS (own := []) (keep := [1, 179]) (by refine ⟨?_, ?_⟩; (simp (discharger := omega) only [go_sem, simprocAttr]; with_reducible rfl); refine ⟨?_, ?_, ?_, ?_⟩ <;> (simp only [go_sem, simprocAttr]; with_reducible rfl)), rfl⟩
                · rw [decide_eq_true (show other ≠ 0 by omega)]
                  try simp only [Bool.false_or, Bool.true_or, Bool.or_true]
                  repeat' (first | (with_reducible first | apply w1 | apply w2 | apply w3 | apply w4 | apply w5 | apply w6 | apply w7 | apply w8 | apply w9 | apply wa | apply wb | apply wc) | ((with_reducible apply wd); focus decide) | ((with_reducible apply we); focus exact rfl) | ((with_reducible apply wf); focus exact rfl) | ((first | (with_reducible apply SW_run tt_ok hG htb) | ((with_reducible apply SW_draw rfl tt_ok hG htb); (focus kernel_rfl); focus simp only [List.range, List.range.loop, List.size_toArray, List.length_cons, List.length_nil, Nat.reduceAdd])); focus ((repeat' (first | (with_reducible first | exact wg | exact wh) | ((with_reducible first | apply wi | apply wj); focus (simp (discharger := omega) only [go_sem, mother, simprocAttr]; with_reducible rfl)))); done)))
                  exact Meet.h ⟨_, Norm.headS (own := []) (keep := [1, 179]) (by refine ⟨?_, ?_⟩; (simp (discharger := omega) only [go_sem, simprocAttr]; with_reducible rfl); refine ⟨?_, ?_, ?_, ?_⟩ <;> (simp only [go_sem, simprocAttr]; with_reducible rfl)), rfl⟩
              · rw [decide_eq_true (show var ≠ 0 by omega)]
                try simp only [Bool.false_or, Bool.true_or, Bool.or_true]
                repeat' (first | (with_reducible first | apply w1 | apply w2 | apply w3 | apply w4 | apply w5 | apply w6 | apply w7 | apply w8 | apply w9 | apply wa | apply wb | apply wc) | ((with_reducible apply wd); focus decide) | ((with_reducible apply we); focus exact rfl) | ((with_reducible apply wf); focus exact rfl) | ((first | (with_reducible apply SW_run tt_ok hG htb) | ((with_reducible apply SW_draw rfl tt_ok hG htb); (focus kernel_rfl); focus simp only [List.range, List.range.loop, List.size_toArray, List.length_cons, List.length_nil, Nat.reduceAdd])); focus ((repeat' (first | (with_reducible first | exact wg | exact wh) | ((with_reducible first | apply wi | apply wj); focus (simp (discharger := omega) only [go_sem, mvar, simprocAttr]; with_reducible rfl)))); done)))
                exact Meet.h ⟨_, Norm.headS (own := []) (keep := [1, 179]) (by refine ⟨?_, ?_⟩; (simp (discharger := omega) only [go_sem, simprocAttr]; with_reducible rfl); refine ⟨?_, ?_, ?_, ?_⟩ <;> (simp only [go_sem, simprocAttr]; with_reducible rfl)), rfl⟩
            · generalize nodeMore ⟨7, var, other, word, word2, num, coefs⟩ = mo at *
              cases mo with
              | true =>
                rw [if_pos rfl]
                repeat' (first | (with_reducible first | apply w1 | apply w2 | apply w3 | apply w4 | apply w5 | apply w6 | apply w7 | apply w8 | apply w9 | apply wa | apply wb | apply wc) | ((with_reducible apply wd); focus decide) | ((with_reducible apply we); focus exact rfl) | ((with_reducible apply wf); focus exact rfl) | ((first | (with_reducible apply SW_run tt_ok hG htb) | ((with_reducible apply SW_draw rfl tt_ok hG htb); (focus kernel_rfl); focus simp only [List.range, List.range.loop, List.size_toArray, List.length_cons, List.length_nil, Nat.reduceAdd])); focus ((repeat' (first | (with_reducible first | exact wg | exact wh) | ((with_reducible first | apply wi | apply wj); focus (simp (discharger := omega) only [go_sem, simprocAttr]; with_reducible rfl)))); done)))
                exact (by simp (discharger := omega) only [go_sem, tErr, simprocAttr])
              | false =>
                rw [if_neg (by decide)]
                clear e1 e2 e3 e4 cV cO c1
                by_cases hc : 0 < coefs.length
                · obtain ⟨x, hx⟩ : ∃ x, coefs[coefs.length - 1]! = x := ⟨_, rfl⟩
                  have hxe : (coefs.length : Int) - 1 = ((coefs.length - 1 : Nat) : Int) := by omega
                  have hkk : coefs.length - 1 < coefs.length := by omega
                  rw [hx]
                  generalize coefs.length - 1 = kk at *
                  by_cases h0 : x = 0
                  · rw [if_pos ⟨hc, h0⟩]
                    repeat' (first | (with_reducible first | apply w1 | apply w2 | apply w3 | apply w4 | apply w5 | apply w6 | apply w7 | apply w8 | apply w9 | apply wa | apply wb | apply wc) | ((with_reducible apply wd); focus decide) | ((with_reducible apply we); focus exact rfl) | ((with_reducible apply wf); focus exact rfl) | ((first | (with_reducible apply SW_run tt_ok hG htb) | ((with_reducible apply SW_draw rfl tt_ok hG htb); (focus kernel_rfl); focus simp only [List.range, List.range.loop, List.size_toArray, List.length_cons, List.length_nil, Nat.reduceAdd])); focus ((repeat' (first | (with_reducible first | exact wg | exact wh) | ((with_reducible first | apply wi | apply wj); focus (simp (discharger := omega) only [go_sem, hxe, hx, h0, simprocAttr]; with_reducible rfl)))); done)))
                    exact (by simp (discharger := omega) only [go_sem, tErr, simprocAttr])
                  · rw [if_neg (by rintro ⟨_, e⟩; exact h0 e)]
                    repeat' (first | (with_reducible first | apply w1 | apply w2 | apply w3 | apply w4 | apply w5 | apply w6 | apply w7 | apply w8 | apply w9 | apply wa | apply wb | apply wc) | ((with_reducible apply wd); focus decide) | ((with_reducible apply we); focus exact rfl) | ((with_reducible apply wf); focus exact rfl) | ((first | (with_reducible apply SW_run tt_ok hG htb) | ((with_reducible apply SW_draw rfl tt_ok hG htb); (focus kernel_rfl); focus simp only [List.range, List.range.loop, List.size_toArray, List.length_cons, List.length_nil, Nat.reduceAdd])); focus ((repeat' (first | (with_reducible first | exact wg | exact wh) | ((with_reducible first | apply wi | apply wj); focus (simp (discharger := omega) only [go_sem, hxe, hx, h0, simprocAttr]; with_reducible rfl)))); done)))
                    exact (by simp (discharger := omega) only [go_sem, tErr, simprocAttr])
                · rw [if_neg (by rintro ⟨e, _⟩; exact hc e)]
                  have hc0 : coefs.length = 0 := by omega
                  repeat' (first | (with_reducible first | apply w1 | apply w2 | apply w3 | apply w4 | apply w5 | apply w6 | apply w7 | apply w8 | apply w9 | apply wa | apply wb | apply wc) | ((with_reducible apply wd); focus decide) | ((with_reducible apply we); focus exact rfl) | ((with_reducible apply wf); focus exact rfl) | ((first | (with_reducible apply SW_run tt_ok hG htb) | ((with_reducible apply SW_draw rfl tt_ok hG htb); (focus kernel_rfl); focus simp only [List.range, List.range.loop, List.size_toArray, List.length_cons, List.length_nil, Nat.reduceAdd])); focus ((repeat' (first | (with_reducible first | exact wg | exact wh) | ((with_reducible first | apply wi | apply wj); focus (simp (discharger := omega) only [go_sem, hc0, simprocAttr]; with_reducible rfl)))); done)))
                  exact (by simp (discharger := omega) only [go_sem, tErr, simprocAttr])
      · have e1 : nodeOk ⟨8, var, other, word, word2, num, coefs⟩ = isVar var := by unfold nodeOk; simp
        have e2 : usedN ⟨8, var, other, word, word2, num, coefs⟩ = ⟨8, var, 0, 0, 0, 0, []⟩ := by unfold usedN; simp
        have e4 : nodeMore ⟨8, var, other, word, word2, num, coefs⟩ = (decide (other ≠ 0) || decide (word ≠ 0) || decide (word2 ≠ 0) || decide (num ≠ 0) || decide (coefs.length ≠ 0)) := by unfold nodeMore; rw [e2]; simp
        refine SW_meetG ⟨196, [(1, .bptr 0 0), (3, .bptr 1 0), (4, .t (.bool (nodeOk ⟨8, var, other, word, word2, num, coefs⟩)))], [.fbox [tInt 8, tInt var, tInt other, tInt word, tInt word2, tInt num, tInts coefs], .box [.t (tInt 8), .t (tInt var), .t (tInt 0), .t (tInt 0), .t (tInt 0), .t (tInt 0), .nil]]⟩ Weak.sw (SW_block ?_) ?_
        · rw [e1]
          clear e1 e2 e3 e4
          try simp only [Bool.true_and, Bool.false_and, Bool.and_true, Bool.and_false]
          have htb := Tab.cons cV Tab.nil
          repeat' (first | (with_reducible first | apply w1 | apply w2 | apply w3 | apply w4 | apply w5 | apply w6 | apply w7 | apply w8 | apply w9 | apply wa | apply wb | apply wc) | ((with_reducible apply wd); focus decide) | ((with_reducible apply we); focus exact rfl) | ((with_reducible apply wf); focus exact rfl) | ((first | (with_reducible apply SW_run tt_ok hG htb) | ((with_reducible apply SW_draw rfl tt_ok hG htb); (focus kernel_rfl); focus simp only [List.range, List.range.loop, List.size_toArray, List.length_cons, List.length_nil, Nat.reduceAdd])); focus ((repeat' (first | (with_reducible first | exact wg | exact wh) | ((with_reducible first | apply wi | apply wj); focus (simp (discharger := omega) only [go_sem, simprocAttr]; with_reducible rfl)))); done)))
          exact Meet.h ⟨_, Norm.headS (own := []) (keep := [1, 3, 4]) (by refine ⟨?_, ?_⟩; (simp (discharger := omega) only [go_sem, simprocAttr]; with_reducible rfl); refine ⟨?_, ?_, ?_, ?_⟩ <;> (simp only [go_sem, simprocAttr]; with_reducible rfl)), rfl⟩
        · generalize nodeOk ⟨8, var, other, word, word2, num, coefs⟩ = ok at *
          cases ok with
          | false =>
            rw [if_pos rfl]
            repeat' (first | (with_reducible first | apply w1 | apply w2 | apply w3 | apply w4 | apply w5 | apply w6 | apply w7 | apply w8 | apply w9 | apply wa | apply wb | apply wc) | ((with_reducible apply wd); focus decide) | ((with_reducible apply we); focus exact rfl) | ((with_reducible apply wf); focus exact rfl) | ((first | (with_reducible apply SW_run tt_ok hG htb) | ((with_reducible apply SW_draw rfl tt_ok hG htb); (focus kernel_rfl); focus simp only [List.range, List.range.loop, List.size_toArray, List.length_cons, List.length_nil, Nat.reduceAdd])); focus ((repeat' (first | (with_reducible first | exact wg | exact wh) | ((with_reducible first | apply wi | apply wj); focus (simp (discharger := omega) only [go_sem, simprocAttr]; with_reducible rfl)))); done)))
            exact (by simp (discharger := omega) only [go_sem, tErr, simprocAttr])
          | true =>
            rw [if_neg (by decide)]
            repeat' (first | (with_reducible first | apply w1 | apply w2 | apply w3 | apply w4 | apply w5 | apply w6 | apply w7 | apply w8 | apply w9 | apply wa | apply wb | apply wc) | ((with_reducible apply wd); focus decide) | ((with_reducible apply we); focus exact rfl) | ((with_reducible apply wf); focus exact rfl) | ((first | (with_reducible apply SW_run tt_ok hG htb) | ((with_reducible apply SW_draw rfl tt_ok hG htb); (focus kernel_rfl); focus simp only [List.range, List.range.loop, List.size_toArray, List.length_cons, List.length_nil, Nat.reduceAdd])); focus ((repeat' (first | (with_reducible first | exact wg | exact wh) | ((with_reducible first | apply wi | apply wj); focus (simp (discharger := omega) only [go_sem, simprocAttr]; with_reducible rfl)))); done)))
            refine SW_meetG ⟨196, [(1, .bptr 0 0), (179, .t (.bool (nodeMore ⟨8, var, other, word, word2, num, coefs⟩)))], [.fbox [tInt 8, tInt var, tInt other, tInt word, tInt word2, tInt num, tInts coefs]]⟩ Weak.sw ?_ ?_
            · rw [e4]
              clear e1 e2 e3 e4
              by_cases mother : other = 0
              · subst mother
                rw [decide_eq_false (show ¬ (0 : Int) ≠ 0 by decide)]
                by_cases mword : word = 0
                · subst mword
                  rw [decide_eq_false (show ¬ (0 : Int) ≠ 0 by decide)]
                  by_cases mword2 : word2 = 0
                  · subst mword2
                    rw [decide_eq_false (show ¬ (0 : Int) ≠ 0 by decide)]
                    by_cases mnum : num = 0
                    · subst mnum
                      rw [decide_eq_false (show ¬ (0 : Int) ≠ 0 by decide)]
                      by_cases mc : coefs.length = 0
                      · rw [decide_eq_false (show ¬ coefs.length ≠ 0 by omega)]
                        try simp only [Bool.false_or, Bool.or_false]
                        repeat' (first | (with_reducible first | apply w1 | apply w2 | apply w3 | apply w4 | apply w5 | apply w6 | apply w7 | apply w8 | apply w9 | apply wa | apply wb | apply wc) | ((with_reducible apply wd); focus decide) | ((with_reducible apply we); focus exact rfl) | ((with_reducible apply wf); focus exact rfl) | ((first | (with_reducible apply SW_run tt_ok hG htb) | ((with_reducible apply SW_draw rfl tt_ok hG htb); (focus kernel_rfl); focus simp only [List.range, List.range.loop, List.size_toArray, List.length_cons, List.length_nil, Nat.reduceAdd])); focus ((repeat' (first | (with_reducible first | exact wg | exact wh) | ((with_reducible first | apply wi | apply wj); focus (simp (discharger := omega) only [go_sem, mc, simprocAttr]; with_reducible rfl)))); done)))
                        exact Meet.h ⟨_, Norm.headS (own := []) (keep := [1, 179]) (by refine ⟨?_, ?_⟩; (simp (discharger := omega) only [go_sem, simprocAttr]; with_reducible rfl); refine ⟨?_, ?_, ?_, ?_⟩ <;> (simp only [go_sem, simprocAttr]; with_reducible rfl)), rfl⟩
                      · rw [decide_eq_true (show coefs.length ≠ 0 by omega)]
                        try simp only [Bool.false_or, Bool.true_or, Bool.or_true]
                        repeat' (first | (with_reducible first | apply w1 | apply w2 | apply w3 | apply w4 | apply w5 | apply w6 | apply w7 | apply w8 | apply w9 | apply wa | apply wb | apply wc) | ((with_reducible apply wd); focus decide) | ((with_reducible apply we); focus exact rfl) | ((with_reducible apply wf); focus exact rfl) | ((first | (with_reducible apply SW_run tt_ok hG htb) | ((with_reducible apply SW_draw rfl tt_ok hG htb); (focus kernel_rfl); focus simp only [List.range, List.range.loop, List.size_toArray, List.length_cons, List.length_nil, Nat.reduceAdd])); focus ((repeat' (first | (with_reducible first | exact wg | exact wh) | ((with_reducible first | apply wi | apply wj); focus (simp (discharger := omega) only [go_sem, mc, simprocAttr]; with_reducible rfl)))); done)))
                        exact Meet.h ⟨_, Norm.headS (own := []) (keep := [1, 179]) (by refine ⟨?_, ?_⟩; (simp (discharger := omega) only [go_sem, simprocAttr]; with_reducible rfl); refine ⟨?_, ?_, ?_, ?_⟩ <;> (simp only [go_sem, simprocAttr]; with_reducible rfl)), rfl⟩
                    · rw [decide_eq_true (show num ≠ 0 by omega)]
                      try simp only [Bool.false_or, Bool.true_or, Bool.or_true]
                      repeat' (first | (with_reducible first | apply w1 | apply w2 | apply w3 | apply w4 | apply w5 | apply w6 | apply w7 | apply w8 | apply w9 | apply wa | apply wb | apply wc) | ((with_reducible apply wd); focus decide) | ((with_reducible apply we); focus exact rfl) | ((with_reducible apply wf); focus exact rfl) | ((first | (with_reducible apply SW_run tt_ok hG htb) | ((with_reducible apply SW_draw rfl tt_ok hG htb); (focus kernel_rfl); focus simp only [List.range, List.range.loop, List.size_toArray, List.length_cons, List.length_nil, Nat.reduceAdd])); focus ((repeat' (first | (with_reducible first | exact wg | exact wh) | ((with_reducible first | apply wi | apply wj); focus (simp (discharger := omega) only [go_sem, mnum, simprocAttr]; with_reducible rfl)))); done)))
                      exact Meet.h ⟨_, Norm.headS (own := []) (keep := [1, 179]) (by refine ⟨?_, ?_⟩; (simp (discharger := omega) only [go_sem, simprocAttr]; with_reducible rfl); refine ⟨?_, ?_, ?_, ?_⟩ <;> (simp only [go_sem, simprocAttr]; with_reducible rfl)), rfl⟩
                  · rw [decide_eq_true (show word2 ≠ 0 by omega)]
                    try simp only [Bool.false_or, Bool.true_or, Bool.or_true]
                    repeat' (first | (with_reducible first | apply w1 | apply w2 | apply w3 | apply w4 | apply w5 | apply w6 | apply w7 | apply w8 | apply w9 | apply wa | apply wb | apply wc) | ((with_reducible apply wd); focus decide) | ((with_reducible apply we); focus exact rfl) | ((with_reducible apply wf); focus exact rfl) | ((first | (with_reducible apply SW_run tt_ok hG htb) | ((with_reducible apply SW_draw rfl tt_ok hG htb); (focus kernel_rfl); focus simp only [List.range, List.range.loop, List.size_toArray, List.length_cons, List.length_nil, Nat.reduceAdd])); focus ((repeat' (first | (with_reducible first | exact wg | exact wh) | ((with_reducible first | apply wi | apply wj); focus (simp (discharger := omega) only [go_sem, mword2, simprocAttr]; with_reducible rfl)))); done)))
                    exact Meet.h ⟨_, Norm.headS (own := []) (keep := [1, 179]) (by refine ⟨?_, ?_⟩; (simp (discharger := omega) only [go_sem, simprocAttr]; with_reducible rfl); refine ⟨?_, ?_, ?_, ?_⟩ <;> (simp only [go_sem, simprocAttr]; with_reducible rfl)), rfl⟩
                · rw [decide_eq_true (show word ≠ 0 by omega)]
                  try simp only [Bool.false_or, Bool.true_or, Bool.or_true]
                  repeat' (first | (with_reducible first | apply w1 | apply w2 | apply w3 | apply w4 | apply w5 | apply w6 | apply w7 | apply w8 | apply w9 | apply wa | apply wb | apply wc) | ((with_reducible apply wd); focus decide) | ((with_reducible apply we); focus exact rfl) | ((with_reducible apply wf); focus exact rfl) | ((first | (with_reducible apply SW_run tt_ok hG htb) | ((with_reducible apply SW_draw rfl tt_ok hG htb); (focus kernel_rfl); focus simp only [List.range, List.range.loop, List.size_toArray, List.length_cons, List.length_nil, Nat.reduceAdd])); focus ((repeat' (first | (with_reducible first | exact wg | exact wh) | ((with_reducible first | apply wi | apply wj); focus (simp (discharger := omega) only [go_sem, mword, simprocAttr]; with_reducible rfl)))); done)))
                  exact Meet.h ⟨_, Norm.headS (own := []) (keep := [1, 179]) (by refine ⟨?_, ?_⟩; (simp (discharger := omega) only [go_sem, simprocAttr]; with_reducible rfl); refine ⟨?_, ?_, ?_, ?_⟩ <;> (simp only [go_sem, simprocAttr]; with_reducible rfl)), rfl⟩
              · rw [decide_eq_true (show other ≠ 0 by omega)]
                try simp only [Bool.false_or, Bool.true_or, Bool.or_true]
                repeat' (first | (with_reducible first | apply w1 | apply w2 | apply w3 | apply w4 | apply w5 | apply w6 | apply w7 | apply w8 | apply w9 | apply wa | apply wb | apply wc) | ((with_reducible apply wd); focus decide) | ((with_reducible apply we); focus exact rfl) | ((with_reducible apply wf); focus exact rfl) | ((first | (with_reducible apply SW_run tt_ok hG htb) | ((with_reducible apply SW_draw rfl tt_ok hG htb); (focus kernel_rfl); focus simp only [List.range, List.range.loop, List.size_toArray, List.length_cons, List.length_nil, Nat.reduceAdd])); focus ((repeat' (first | (with_reducible first | exact wg | exact wh) | ((with_reducible first | apply wi | apply wj); focus (simp (discharger := omega) only [go_sem, mother, simprocAttr]; with_reducible rfl)))); done)))
                exact Meet.h ⟨_, Norm.headS (own := []) (keep := [1, 179]) (by refine ⟨?_, ?_⟩; (simp (discharger := omega) only [go_sem, simprocAttr]; with_reducible rfl); refine ⟨?_, ?_, ?_, ?_⟩ <;> (simp only [go_sem, simprocAttr]; with_reducible rfl)), rfl⟩
            · generalize nodeMore ⟨8, var, other, word, word2, num, coefs⟩ = mo at *
              cases mo with
              | true =>
                rw [if_pos rfl]
                repeat' (first | (with_reducible first | apply w1 | apply w2 | apply w3 | apply w4 | apply w5 | apply w6 | apply w7 | apply w8 | apply w9 | apply wa | apply wb | apply wc) | ((with_reducible apply wd); focus decide) | ((with_reducible apply we); focus exact rfl) | ((with_reducible apply wf); focus exact rfl) | ((first | (with_reducible apply SW_run tt_ok hG htb) | ((with_reducible apply SW_draw rfl tt_ok hG htb); (focus kernel_rfl); focus simp only [List.range, List.range.loop, List.size_toArray, List.length_cons, List.length_nil, Nat.reduceAdd])); focus ((repeat' (first | (with_reducible first | exact wg | exact wh) | ((with_reducible first | apply wi | apply wj); focus (simp (discharger := omega) only [go_sem, simprocAttr]; with_reducible rfl)))); done)))
                exact (by simp (discharger := omega) only [go_sem, tErr, simprocAttr])
              | false =>
                rw [if_neg (by decide)]
                clear e1 e2 e3 e4 cV cO c1
                by_cases hc : 0 < coefs.length
                · obtain ⟨x, hx⟩ : ∃ x, coefs[coefs.length - 1]! = x := ⟨_, rfl⟩
                  have hxe : (coefs.length : Int) - 1 = ((coefs.length - 1 : Nat) : Int) := by omega
                  have hkk : coefs.length - 1 < coefs.length := by omega
                  rw [hx]
                  generalize coefs.length - 1 = kk at *
                  by_cases h0 : x = 0
                  · rw [if_pos ⟨hc, h0⟩]
                    repeat' (first | (with_reducible first | apply w1 | apply w2 | apply w3 | apply w4 | apply w5 | apply w6 | apply w7 | apply w8 | apply w9 | apply wa | apply wb | apply wc) | ((with_reducible apply wd); focus decide) | ((with_reducible apply we); focus exact rfl) | ((with_reducible apply wf); focus exact rfl) | ((first | (with_reducible apply SW_run tt_ok hG htb) | ((with_reducible apply SW_draw rfl tt_ok hG htb); (focus kernel_rfl); focus simp only [List.range, List.range.loop, List.size_toArray, List.length_cons, List.length_nil, Nat.reduceAdd])); focus ((repeat' (first | (with_reducible first | exact wg | exact wh) | ((with_reducible first | apply wi | apply wj); focus (simp (discharger := omega) only [go_sem, hxe, hx, h0, simprocAttr]; with_reducible rfl)))); done)))
                    exact (by simp (discharger := omega) only [go_sem, tErr, simprocAttr])
                  · rw [if_neg (by rintro ⟨_, e⟩; exact h0 e)]
                    repeat' (first | (with_reducible first | apply w1 | apply w2 | apply w3 | apply w4 | apply w5 | apply w6 | apply w7 | apply w8 | apply w9 | apply wa | apply wb | apply wc) | ((with_reducible apply wd); focus decide) | ((with_reducible apply we); focus exact rfl) | ((with_reducible apply wf); focus exact rfl) | ((first | (with_reducible apply SW_run tt_ok hG htb) | ((with_reducible apply SW_draw rfl tt_ok hG htb); (focus kernel_rfl); focus simp only [List.range, List.range.loop, List.size_toArray, List.length_cons, List.length_nil, Nat.reduceAdd])); focus ((repeat' (first | (with_reducible first | exact wg | exact wh) | ((with_reducible first | apply wi | apply wj); focus (simp (discharger := omega) only [go_sem, hxe, hx, h0, simprocAttr]; with_reducible rfl)))); done)))
                    exact (by simp (discharger := omega) only [go_sem, tErr, simprocAttr])
                · rw [if_neg (by rintro ⟨e, _⟩; exact hc e)]
                  have hc0 : coefs.length = 0 := by omega
                  repeat' (first | (with_reducible first | apply w1 | apply w2 | apply w3 | apply w4 | apply w5 | apply w6 | apply w7 | apply w8 | apply w9 | apply wa | apply wb | apply wc) | ((with_reducible apply wd); focus decide) | ((with_reducible apply we); focus exact rfl) | ((with_reducible apply wf); focus exact rfl) | ((first | (with_reducible apply SW_run tt_ok hG htb) | ((with_reducible apply SW_draw rfl tt_ok hG htb); (focus kernel_rfl); focus simp only [List.range, List.range.loop, List.size_toArray, List.length_cons, List.length_nil, Nat.reduceAdd])); focus ((repeat' (first | (with_reducible first | exact wg | exact wh) | ((with_reducible first | apply wi | apply wj); focus (simp (discharger := omega) only [go_sem, hc0, simprocAttr]; with_reducible rfl)))); done)))
                  exact (by simp (discharger := omega) only [go_sem, tErr, simprocAttr])
      · have e1 : nodeOk ⟨9, var, other, word, word2, num, coefs⟩ = isVar var := by unfold nodeOk; simp
        have e2 : usedN ⟨9, var, other, word, word2, num, coefs⟩ = ⟨9, var, 0, 0, 0, 0, []⟩ := by unfold usedN; simp
        have e4 : nodeMore ⟨9, var, other, word, word2, num, coefs⟩ = (decide (other ≠ 0) || decide (word ≠ 0) || decide (word2 ≠ 0) || decide (num ≠ 0) || decide (coefs.length ≠ 0)) := by unfold nodeMore; rw [e2]; simp
        refine SW_meetG ⟨196, [(1, .bptr 0 0), (3, .bptr 1 0), (4, .t (.bool (nodeOk ⟨9, var, other, word, word2, num, coefs⟩)))], [.fbox [tInt 9, tInt var, tInt other, tInt word, tInt word2, tInt num, tInts coefs], .box [.t (tInt 9), .t (tInt var), .t (tInt 0), .t (tInt 0), .t (tInt 0), .t (tInt 0), .nil]]⟩ Weak.sw (SW_block ?_) ?_
        · rw [e1]
          clear e1 e2 e3 e4
          try simp only [Bool.true_and, Bool.false_and, Bool.and_true, Bool.and_false]
          have htb := Tab.cons cV Tab.nil
          repeat' (first | (with_reducible first | apply w1 | apply w2 | apply w3 | apply w4 | apply w5 | apply w6 | apply w7 | apply w8 | apply w9 | apply wa | apply wb | apply wc) | ((with_reducible apply wd); focus decide) | ((with_reducible apply we); focus exact rfl) | ((with_reducible apply wf); focus exact rfl) | ((first | (with_reducible apply SW_run tt_ok hG htb) | ((with_reducible apply SW_draw rfl tt_ok hG htb); (focus kernel_rfl); focus simp only [List.range, List.range.loop, List.size_toArray, List.length_cons, List.length_nil, Nat.reduceAdd])); focus ((repeat' (first | (with_reducible first | exact wg | exact wh) | ((with_reducible first | apply wi | apply wj); focus (simp (discharger := omega) only [go_sem, simprocAttr]; with_reducible rfl)))); done)))
          exact Meet.h ⟨_, Norm.headS (own := []) (keep := [1, 3, 4]) (by refine ⟨?_, ?_⟩; (simp (discharger := omega) only [go_sem, simprocAttr]; with_reducible rfl); refine ⟨?_, ?_, ?_, ?_⟩ <;> (simp only [go_sem, simprocAttr]; with_reducible rfl)), rfl⟩
        · generalize nodeOk ⟨9, var, other, word, word2, num, coefs⟩ = ok at *
          cases ok with
          | false =>
            rw [if_pos rfl]
            repeat' (first | (with_reducible first | apply w1 | apply w2 | apply w3 | apply w4 | apply w5 | apply w6 | apply w7 | apply w8 | apply w9 | apply wa | apply wb | apply wc) | ((with_reducible apply wd); focus decide) | ((with_reducible apply we); focus exact rfl) | ((with_reducible apply wf); focus exact rfl) | ((first | (with_reducible apply SW_run tt_ok hG htb) | ((with_reducible apply SW_draw rfl tt_ok hG htb); (focus kernel_rfl); focus simp only [List.range, List.range.loop, List.size_toArray, List.length_cons, List.length_nil, Nat.reduceAdd])); focus ((repeat' (first | (with_reducible first | exact wg | exact wh) | ((with_reducible first | apply wi | apply wj); focus (simp (discharger := omega) only [go_sem, simprocAttr]; with_reducible rfl)))); done)))
            exact (by simp (discharger := omega) only [go_sem, tErr, simprocAttr])
          | true =>
            rw [if_neg (by decide)]
            repeat' (first | (with_reducible first | apply w1 | apply w2 | apply w3 | apply w4 | apply w5 | apply w6 | apply w7 | apply w8 | apply w9 | apply wa | apply wb | apply wc) | ((with_reducible apply wd); focus decide) | ((with_reducible apply we); focus exact rfl) | ((with_reducible apply wf); focus exact rfl) | ((first | (with_reducible apply SW_run tt_ok hG htb) | ((with_reducible apply SW_draw rfl tt_ok hG htb); (focus kernel_rfl); focus simp only [List.range, List.range.loop, List.size_toArray, List.length_cons, List.length_nil, Nat.reduceAdd])); focus ((repeat' (first | (with_reducible first | exact wg | exact wh) | ((with_reducible first | apply wi | apply wj); focus (simp (discharger := omega) only [go_sem, simprocAttr]; with_reducible rfl)))); done)))
            refine SW_meetG ⟨196, [(1, .bptr 0 0), (179, .t (.bool (nodeMore ⟨9, var, other, word, word2, num, coefs⟩)))], [.fbox [tInt 9, tInt var, tInt other, tInt word, tInt word2, tInt num, tInts coefs]]⟩ Weak.sw ?_ ?_
            · rw [e4]
              clear e1 e2 e3 e4
              by_cases mother : other = 0
              · subst mother
                rw [decide_eq_false (show ¬ (0 : Int) ≠ 0 by decide)]
                by_cases mword : word = 0
                · subst mword
                  rw [decide_eq_false (show ¬ (0 : Int) ≠ 0 by decide)]
                  by_cases mword2 : word2 = 0
                  · subst mword2
                    rw [decide_eq_false (show ¬ (0 : Int) ≠ 0 by decide)]
                    by_cases mnum : num = 0
                    · subst mnum
                      rw [decide_eq_false (show ¬ (0 : Int) ≠ 0 by decide)]
                      by_cases mc : coefs.length = 0
                      · rw [decide_eq_false (show ¬ coefs.length ≠ 0 by omega)]
                        try simp only [Bool.false_or, Bool.or_false]
                        repeat' (first | (with_reducible first | apply w1 | apply w2 | apply w3 | apply w4 | apply w5 | apply w6 | apply w7 | apply w8 | apply w9 | apply wa | apply wb | apply wc) | ((with_reducible apply wd); focus decide) | ((with_reducible apply we); focus exact rfl) | ((with_reducible apply wf); focus exact rfl) | ((first | (with_reducible apply SW_run tt_ok hG htb) | ((with_reducible apply SW_draw rfl tt_ok hG htb); (focus kernel_rfl); focus simp only [List.range, List.range.loop, List.size_toArray, List.length_cons, List.length_nil, Nat.reduceAdd])); focus ((repeat' (first | (with_reducible first | exact wg | exact wh) | ((with_reducible first | apply wi | apply wj); focus (simp (discharger := omega) only [go_sem, mc, simprocAttr]; with_reducible rfl)))); done)))
                        exact Meet.h ⟨_, Norm.headS (own := []) (keep := [1, 179]) (by refine ⟨?_, ?_⟩; (simp (discharger := omega) only [go_sem, simprocAttr]; with_reducible rfl); refine ⟨?_, ?_, ?_, ?_⟩ <;> (simp only [go_sem, simprocAttr]; with_reducible rfl)), rfl⟩
                      · rw [decide_eq_true (show coefs.length ≠ 0 by omega)]
                        try simp only [Bool.false_or, Bool.true_or, Bool.or_true]
                        repeat' (first | (with_reducible first | apply w1 | apply w2 | apply w3 | apply w4 | apply w5 | apply w6 | apply w7 | apply w8 | apply w9 | apply wa | apply wb | apply wc) | ((with_reducible apply wd); focus decide) | ((with_reducible apply we); focus exact rfl) | ((with_reducible apply wf); focus exact rfl) | ((first | (with_reducible apply SW_run tt_ok hG htb) | ((with_reducible apply SW_draw rfl tt_ok hG htb); (focus kernel_rfl); focus simp only [List.range, List.range.loop, List.size_toArray, List.length_cons, List.length_nil, Nat.reduceAdd])); focus ((repeat' (first | (with_reducible first | exact wg | exact wh) | ((with_reducible first | apply wi | apply wj); focus (simp (discharger := omega) only [go_sem, mc, simprocAttr]; with_reducible rfl)))); done)))
                        exact Meet.h ⟨_, Norm.headS (own := []) (keep := [1, 179]) (by refine ⟨?_, ?_⟩; (simp (discharger := omega) only [go_sem, simprocAttr]; with_reducible rfl); refine ⟨?_, ?_, ?_, ?_⟩ <;> (simp only [go_sem, simprocAttr]; with_reducible rfl)), rfl⟩
                    · rw [decide_eq_true (show num ≠ 0 by omega)]
                      try simp only [Bool.false_or, Bool.true_or, Bool.or_true]
                      repeat' (first | (with_reducible first | apply w1 | apply w2 | apply w3 | apply w4 | apply w5 | apply w6 | apply w7 | apply w8 | apply w9 | apply wa | apply wb | apply wc) | ((with_reducible apply wd); focus decide) | ((with_reducible apply we); focus exact rfl) | ((with_reducible apply wf); focus exact rfl) | ((first | (with_reducible apply SW_run tt_ok hG htb) | ((with_reducible apply SW_draw rfl tt_ok hG htb); (focus kernel_rfl); focus simp only [List.range, List.range.loop, List.size_toArray, List.length_cons, List.length_nil, Nat.reduceAdd])); focus ((repeat' (first | (with_reducible first | exact wg | exact wh) | ((with_reducible first | apply wi | apply wj); focus (simp (discharger := omega) only [go_sem, mnum, simprocAttr]; with_reducible rfl)))); done)))
                      exact Meet.h ⟨_, Norm.headS (own := []) (keep := [1, 179]) (by refine ⟨?_, ?_⟩; (simp (discharger := omega) only [go_sem, simprocAttr]; with_reducible rfl); refine ⟨?_, ?_, ?_, ?_⟩ <;> (simp only [go_sem, simprocAttr]; with_reducible rfl)), rfl⟩
                  · rw [decide_eq_true (show word2 ≠ 0 by omega)]
                    try simp only [Bool.false_or, Bool.true_or, Bool.or_true]
                    repeat' (first | (with_reducible first | apply w1 | apply w2 | apply w3 | apply w4 | apply w5 | apply w6 | apply w7 | apply w8 | apply w9 | apply wa | apply wb | apply wc) | ((with_reducible apply wd); focus decide) | ((with_reducible apply we); focus exact rfl) | ((with_reducible apply wf); focus exact rfl) | ((first | (with_reducible apply SW_run tt_ok hG htb) | ((with_reducible apply SW_draw rfl tt_ok hG htb); (focus kernel_rfl); focus simp only [List.range, List.range.loop, List.size_toArray, List.length_cons, List.length_nil, Nat.reduceAdd])); focus ((repeat' (first | (with_reducible first | exact wg | exact wh) | ((with_reducible first | apply wi | apply wj); focus (simp (discharger := omega) only [go_sem, mword2, simprocAttr]; with_reducible rfl)))); done)))
                    exact Meet.h ⟨_, Norm.headS (own := []) (keep := [1, 179]) (by refine ⟨?_, ?_⟩; (simp (discharger := omega) only [go_sem, simprocAttr]; with_reducible rfl); refine ⟨?_, ?_, ?_, ?_⟩ <;> (simp only [go_sem, simprocAttr]; with_reducible rfl)), rfl⟩
                · rw [decide_eq_true (show word ≠ 0 by omega)]
                  try simp only [Bool.false_or, Bool.true_or, Bool.or_true]
                  repeat' (first | (with_reducible first | apply w1 | apply w2 | apply w3 | apply w4 | apply w5 | apply w6 | apply w7 | apply w8 | apply w9 | apply wa | apply wb | apply wc) | ((with_reducible apply wd); focus decide) | ((with_reducible apply we); focus exact rfl) | ((with_reducible apply wf); focus exact rfl) | ((first | (with_reducible apply SW_run tt_ok hG htb) | ((with_reducible apply SW_draw rfl tt_ok hG htb); (focus kernel_rfl); focus simp only [List.range, List.range.loop, List.size_toArray, List.length_cons, List.length_nil, Nat.reduceAdd])); focus ((repeat' (first | (with_reducible first | exact wg | exact wh) | ((with_reducible first | apply wi | apply wj); focus (simp (discharger := omega) only [go_sem, mword, simprocAttr]; with_reducible rfl)))); done)))
                  exact Meet.h ⟨_, Norm.headS (own := []) (keep := [1, 179]) (by refine ⟨?_, ?_⟩; (simp (discharger := omega) only [go_sem, simprocAttr]; with_reducible rfl); refine ⟨?_, ?_, ?_, ?_⟩ <;> (simp only [go_sem, simprocAttr]; with_reducible rfl)), rfl⟩
              · rw [decide_eq_true (show other ≠ 0 by omega)]
                try simp only [Bool.false_or, Bool.true_or, Bool.or_true]
                repeat' (first | (with_reducible first | apply w1 | apply w2 | apply w3 | apply w4 | apply w5 | apply w6 | apply w7 | apply w8 | apply w9 | apply wa | apply wb | apply wc) | ((with_reducible apply wd); focus decide) | ((with_reducible apply we); focus exact rfl) | ((with_reducible apply wf); focus exact rfl) | ((first | (with_reducible apply SW_run tt_ok hG htb) | ((with_reducible apply SW_draw rfl tt_ok hG htb); (focus kernel_rfl); focus simp only [List.range, List.range.loop, List.size_toArray, List.length_cons, List.length_nil, Nat.reduceAdd])); focus ((repeat' (first | (with_reducible first | exact wg | exact wh) | ((with_reducible first | apply wi | apply wj); focus (simp (discharger := omega) only [go_sem, mother, simprocAttr]; with_reducible rfl)))); done)))
                exact Meet.h ⟨_, Norm.headS (own := []) (keep := [1, 179]) (by refine ⟨?_, ?_⟩; (simp (discharger := omega) only [go_sem, simprocAttr]; with_reducible rfl); refine ⟨?_, ?_, ?_, ?_⟩ <;> (simp only [go_sem, simprocAttr]; with_reducible rfl)), rfl⟩
            · generalize nodeMore ⟨9, var, other, word, word2, num, coefs⟩ = mo at *
              cases mo with
              | true =>
                rw [if_pos rfl]
                repeat' (first | (with_reducible first | apply w1 | apply w2 | apply w3 | apply w4 | apply w5 | apply w6 | apply w7 | apply w8 | apply w9 | apply wa | apply wb | apply wc) | ((with_reducible apply wd); focus decide) | ((with_reducible apply we); focus exact rfl) | ((with_reducible apply wf); focus exact rfl) | ((first | (with_reducible apply SW_run tt_ok hG htb) | ((with_reducible apply SW_draw rfl tt_ok hG htb); (focus kernel_rfl); focus simp only [List.range, List.range.loop, List.size_toArray, List.length_cons, List.length_nil, Nat.reduceAdd])); focus ((repeat' (first | (with_reducible first | exact wg | exact wh) | ((with_reducible first | apply wi | apply wj); focus (simp (discharger := omega) only [go_sem, simprocAttr]; with_reducible rfl)))); done)))
                exact (by simp (discharger := omega) only [go_sem, tErr, simprocAttr])
              | false =>
                rw [if_neg (by decide)]
                clear e1 e2 e3 e4 cV cO c1
                by_cases hc : 0 < coefs.length
                · obtain ⟨x, hx⟩ : ∃ x, coefs[coefs.length - 1]! = x := ⟨_, rfl⟩
                  have hxe : (coefs.length : Int) - 1 = ((coefs.length - 1 : Nat) : Int) := by omega
                  have hkk : coefs.length - 1 < coefs.length := by omega
                  rw [hx]
                  generalize coefs.length - 1 = kk at *
                  by_cases h0 : x = 0
                  · rw [if_pos ⟨hc, h0⟩]
                    repeat' (first | (with_reducible first | apply w1 | apply w2 | apply w3 | apply w4 | apply w5 | apply w6 | apply w7 | apply w8 | apply w9 | apply wa | apply wb | apply wc) | ((with_reducible apply wd); focus decide) | ((with_reducible apply we); focus exact rfl) | ((with_reducible apply wf); focus exact rfl) | ((first | (with_reducible apply SW_run tt_ok hG htb) | ((with_reducible apply SW_draw rfl tt_ok hG htb); (focus kernel_rfl); focus simp only [List.range, List.range.loop, List.size_toArray, List.length_cons, List.length_nil, Nat.reduceAdd])); focus ((repeat' (first | (with_reducible first | exact wg | exact wh) | ((with_reducible first | apply wi | apply wj); focus (simp (discharger := omega) only [go_sem, hxe, hx, h0, simprocAttr]; with_reducible rfl)))); done)))
                    exact (by simp (discharger := omega) only [go_sem, tErr, simprocAttr])
                  · rw [if_neg (by rintro ⟨_, e⟩; exact h0 e)]
                    repeat' (first | (with_reducible first | apply w1 | apply w2 | apply w3 | apply w4 | apply w5 | apply w6 | apply w7 | apply w8 | apply w9 | apply wa | apply wb | apply wc) | ((with_reducible apply wd); focus decide) | ((with_reducible apply we); focus exact rfl) | ((with_reducible apply wf); focus exact rfl) | ((first | (with_reducible apply SW_run tt_ok hG htb) | ((with_reducible apply SW_draw rfl tt_ok hG htb); (focus kernel_rfl); focus simp only [List.range, List.range.loop, List.size_toArray, List.length_cons, List.length_nil, Nat.reduceAdd])); focus ((repeat' (first | (with_reducible first | exact wg | exact wh) | ((with_reducible first | apply wi | apply wj); focus (simp (discharger := omega) only [go_sem, hxe, hx, h0, simprocAttr]; with_reducible rfl)))); done)))
                    exact (by simp (discharger := omega) only [go_sem, tErr, simprocAttr])
                · rw [if_neg (by rintro ⟨e, _⟩; exact hc e)]
                  have hc0 : coefs.length = 0 := by omega
                  repeat' (first | (with_reducible first | apply w1 | apply w2 | apply w3 | apply w4 | apply w5 | apply w6 | apply w7 | apply w8 | apply w9 | apply wa | apply wb | apply wc) | ((with_reducible apply wd); focus decide) | ((with_reducible apply we); focus exact rfl) | ((with_reducible apply wf); focus exact rfl) | ((first | (with_reducible apply SW_run tt_ok hG htb) | ((with_reducible apply SW_draw rfl tt_ok hG htb); (focus kernel_rfl); focus simp only [List.range, List.range.loop, List.size_toArray, List.length_cons, List.length_nil, Nat.reduceAdd])); focus ((repeat' (first | (with_reducible first | exact wg | exact wh) | ((with_reducible first | apply wi | apply wj); focus (simp (discharger := omega) only [go_sem, hc0, simprocAttr]; with_reducible rfl)))); done)))
                  exact (by simp (discharger := omega) only [go_sem, tErr, simprocAttr])
  · have e3 : nodeErr ⟨op, var, other, word, word2, num, coefs⟩ = 1 := by unfold nodeErr; rw [if_pos (by simp only; omega)]
    rw [e3]
    repeat' (first | (with_reducible first | apply w1 | apply w2 | apply w3 | apply w4 | apply w5 | apply w6 | apply w7 | apply w8 | apply w9 | apply wa | apply wb | apply wc) | ((with_reducible apply wd); focus decide) | ((with_reducible apply we); focus exact rfl) | ((with_reducible apply wf); focus exact rfl) | ((first | (with_reducible apply SW_run tt_ok hG htb) | ((with_reducible apply SW_draw rfl tt_ok hG htb); (focus kernel_rfl); focus simp only [List.range, List.range.loop, List.size_toArray, List.length_cons, List.length_nil, Nat.reduceAdd])); focus ((repeat' (first | (with_reducible first | exact wg | exact wh) | ((with_reducible first | apply wi | apply wj); focus (simp (discharger := omega) only [go_sem, tNode, simprocAttr]; with_reducible rfl)))); done)))
    exact (by simp (discharger := omega) only [go_sem, tErr, simprocAttr])
end
end Go.Proofs.YtcaopcpofepniaaDoor
namespace Go.Proofs.YtcaopcpofepniaaDoor
open Go.RowKit
theorem formGo_bd {i : Nat} {o : Int} (h : 0 ≤ o ∧ o ≤ (i : Int) + 1) (op : Int) (h0 : o ≠ 0) : 0 ≤ o + (partsOf op - 1) ∧ o + (partsOf op - 1) ≤ ((i + 1 : Nat) : Int) + 1 := by
  have := parts_cases op
  omega
section
variable {G : World → Prop} (hG : Lasting G)
include hG
set_option maxHeartbeats 8000000 in
theorem Check_form_snd (f : List GNode) : Snd Tryd.prog G 31 [tForm f] (.tup [tInt (formErr f).1, tErr (formErr f).2]) := by
  refine snd_of_body (n := 45) (tm := [(0, .t (tForm f))]) (rs := [.tmp 2, .tmp 3]) tt_ok Tryd.func31 rfl rfl rfl rfl rfl ?_
  have htb : Tab.ok Tryd.prog G [] := Tab.nil
  refine SW_len (t := 0) rfl fun hcl => ?_
  rw [List.length_map] at hcl
  unfold formErr tForm
  by_cases h1 : f.length = 0
  · rw [if_pos h1]
    repeat' (first | (with_reducible first | apply w1 | apply w2 | apply w3 | apply w4 | apply w5 | apply w6 | apply w7 | apply w8 | apply w9 | apply wa | apply wb | apply wc) | ((with_reducible apply wd); focus decide) | ((with_reducible apply we); focus exact rfl) | ((with_reducible apply wf); focus exact rfl) | ((first | (with_reducible apply SW_run tt_ok hG htb) | ((with_reducible apply SW_draw rfl tt_ok hG htb); (focus kernel_rfl); focus simp only [List.range, List.range.loop, List.size_toArray, List.length_cons, List.length_nil, Nat.reduceAdd])); focus ((repeat' (first | (with_reducible first | exact wg | exact wh) | ((with_reducible first | apply wi | apply wj); focus (simp (discharger := omega) only [go_sem, h1, simprocAttr]; with_reducible rfl)))); done)))
    exact (by simp (discharger := omega) only [go_sem, tErr, simprocAttr])
  · rw [if_neg h1]
    by_cases h2 : 40 < f.length
    · rw [if_pos h2]
      repeat' (first | (with_reducible first | apply w1 | apply w2 | apply w3 | apply w4 | apply w5 | apply w6 | apply w7 | apply w8 | apply w9 | apply wa | apply wb | apply wc) | ((with_reducible apply wd); focus decide) | ((with_reducible apply we); focus exact rfl) | ((with_reducible apply wf); focus exact rfl) | ((first | (with_reducible apply SW_run tt_ok hG htb) | ((with_reducible apply SW_draw rfl tt_ok hG htb); (focus kernel_rfl); focus simp only [List.range, List.range.loop, List.size_toArray, List.length_cons, List.length_nil, Nat.reduceAdd])); focus ((repeat' (first | (with_reducible first | exact wg | exact wh) | ((with_reducible first | apply wi | apply wj); focus (simp (discharger := omega) only [go_sem, simprocAttr]; with_reducible rfl)))); done)))
      exact (by simp (discharger := omega) only [go_sem, tErr, simprocAttr])
    · rw [if_neg h2]
      repeat' (first | (with_reducible first | apply w1 | apply w2 | apply w3 | apply w4 | apply w5 | apply w6 | apply w7 | apply w8 | apply w9 | apply wa | apply wb | apply wc) | ((with_reducible apply wd); focus decide) | ((with_reducible apply we); focus exact rfl) | ((with_reducible apply wf); focus exact rfl) | ((first | (with_reducible apply SW_run tt_ok hG htb) | ((with_reducible apply SW_draw rfl tt_ok hG htb); (focus kernel_rfl); focus simp only [List.range, List.range.loop, List.size_toArray, List.length_cons, List.length_nil, Nat.reduceAdd])); focus ((repeat' (first | (with_reducible first | exact wg | exact wh) | ((with_reducible first | apply wi | apply wj); focus (simp (discharger := omega) only [go_sem, simprocAttr]; with_reducible rfl)))); done)))
      refine SW_loop (fun mm s => ∃ (i : Nat) (q : Int), mm = f.length - i ∧ s = ⟨45, [(0, .t (.list (f.map tNode))), (4, .t (tInt q)), (16, .t (.list (f.map tNode))), (17, .t (tInt f.length)), (18, .t (tInt i))], []⟩ ∧ i ≤ f.length ∧ (0 ≤ q ∧ q ≤ (i : Int) + 1) ∧ formGo f 0 1 = formGo (f.drop i) i q) f.length
        ⟨_, Norm.headS (own := []) (keep := [0, 4, 16, 17, 18]) (by refine ⟨?_, ?_⟩; (simp (discharger := omega) only [go_sem, simprocAttr]; with_reducible rfl); refine ⟨?_, ?_, ?_, ?_⟩ <;> (simp only [go_sem, simprocAttr]; with_reducible rfl)), 0, 1, rfl, rfl, Nat.zero_le _, by omega, by rw [List.drop_zero]⟩ ?_
      rintro mm s ⟨i, q, rfl, rfl, hi, hq, hF⟩
      by_cases hlt : i < f.length
      · obtain ⟨n, hn⟩ : ∃ n, f[i]! = n := ⟨_, rfl⟩
        have hio : f[i]? = some n := bang_get hn hlt
        rw [drop_cons hio, formGo] at hF
        have c1 := wrong_snd hG n
        have c2 := Parts_snd hG n.op
        by_cases hw : nodeErr n = 0
        · rw [if_neg (by omega)] at hF
          rw [hw] at c1
          by_cases hq0 : q = 0
          · rw [if_pos hq0] at hF
            rw [hF]
            have htb := Tab.cons c1 (Tab.cons c2 Tab.nil)
            repeat' (first | (with_reducible first | apply w1 | apply w2 | apply w3 | apply w4 | apply w5 | apply w6 | apply w7 | apply w8 | apply w9 | apply wa | apply wb | apply wc) | ((with_reducible apply wd); focus decide) | ((with_reducible apply we); focus exact rfl) | ((with_reducible apply wf); focus exact rfl) | ((first | (with_reducible apply SW_run tt_ok hG htb) | ((with_reducible apply SW_draw rfl tt_ok hG htb); (focus kernel_rfl); focus simp only [List.range, List.range.loop, List.size_toArray, List.length_cons, List.length_nil, Nat.reduceAdd])); focus ((repeat' (first | (with_reducible first | exact wg | exact wh) | ((with_reducible first | apply wi | apply wj); focus (simp (discharger := omega) only [go_sem, tErr, hn, tNode, hq0, simprocAttr]; with_reducible rfl)))); done)))
            exact (by simp (discharger := omega) only [go_sem, tErr, simprocAttr])
          · rw [if_neg hq0] at hF
            have hb := formGo_bd hq n.op hq0
            have hpc := parts_cases n.op
            generalize partsOf n.op = pp at *
            have htb := Tab.cons c1 (Tab.cons c2 Tab.nil)
            repeat' (first | (with_reducible first | apply w1 | apply w2 | apply w3 | apply w4 | apply w5 | apply w6 | apply w7 | apply w8 | apply w9 | apply wa | apply wb | apply wc) | ((with_reducible apply wd); focus decide) | ((with_reducible apply we); focus exact rfl) | ((with_reducible apply wf); focus exact rfl) | ((first | (with_reducible apply SW_run tt_ok hG htb) | ((with_reducible apply SW_draw rfl tt_ok hG htb); (focus kernel_rfl); focus simp only [List.range, List.range.loop, List.size_toArray, List.length_cons, List.length_nil, Nat.reduceAdd])); focus ((repeat' (first | (with_reducible first | exact wg | exact wh) | ((with_reducible first | apply wi | apply wj); focus (simp (discharger := omega) only [go_sem, tErr, hn, tNode, hq0, simprocAttr]; with_reducible rfl)))); done)))
            exact ⟨f.length - (i + 1), _, by omega, Norm.headS (own := []) (keep := [0, 4, 16, 17, 18]) (by refine ⟨?_, ?_⟩; (simp (discharger := omega) only [go_sem, simprocAttr]; with_reducible rfl); refine ⟨?_, ?_, ?_, ?_⟩ <;> (simp only [go_sem, simprocAttr]; with_reducible rfl)), i + 1, _, rfl, rfl, by omega, hb, hF⟩
        · rw [if_pos hw] at hF
          rw [hF]
          generalize nodeErr n = e at *
          have htb := Tab.cons c1 Tab.nil
          repeat' (first | (with_reducible first | apply w1 | apply w2 | apply w3 | apply w4 | apply w5 | apply w6 | apply w7 | apply w8 | apply w9 | apply wa | apply wb | apply wc) | ((with_reducible apply wd); focus decide) | ((with_reducible apply we); focus exact rfl) | ((with_reducible apply wf); focus exact rfl) | ((first | (with_reducible apply SW_run tt_ok hG htb) | ((with_reducible apply SW_draw rfl tt_ok hG htb); (focus kernel_rfl); focus simp only [List.range, List.range.loop, List.size_toArray, List.length_cons, List.length_nil, Nat.reduceAdd])); focus ((repeat' (first | (with_reducible first | exact wg | exact wh) | ((with_reducible first | apply wi | apply wj); focus (simp (discharger := omega) only [go_sem, tErr, hn, tNode, hw, simprocAttr]; with_reducible rfl)))); done)))
          exact (by simp (discharger := omega) only [go_sem, tErr, hw, simprocAttr])
      · obtain rfl : i = f.length := by omega
        rw [List.drop_length, formGo] at hF
        by_cases hq0 : 0 < q
        · rw [if_pos hq0] at hF
          rw [hF]
          repeat' (first | (with_reducible first | apply w1 | apply w2 | apply w3 | apply w4 | apply w5 | apply w6 | apply w7 | apply w8 | apply w9 | apply wa | apply wb | apply wc) | ((with_reducible apply wd); focus decide) | ((with_reducible apply we); focus exact rfl) | ((with_reducible apply wf); focus exact rfl) | ((first | (with_reducible apply SW_run tt_ok hG htb) | ((with_reducible apply SW_draw rfl tt_ok hG htb); (focus kernel_rfl); focus simp only [List.range, List.range.loop, List.size_toArray, List.length_cons, List.length_nil, Nat.reduceAdd])); focus ((repeat' (first | (with_reducible first | exact wg | exact wh) | ((with_reducible first | apply wi | apply wj); focus (simp (discharger := omega) only [go_sem, simprocAttr]; with_reducible rfl)))); done)))
          exact (by simp (discharger := omega) only [go_sem, tErr, simprocAttr])
        · rw [if_neg hq0] at hF
          rw [hF]
          repeat' (first | (with_reducible first | apply w1 | apply w2 | apply w3 | apply w4 | apply w5 | apply w6 | apply w7 | apply w8 | apply w9 | apply wa | apply wb | apply wc) | ((with_reducible apply wd); focus decide) | ((with_reducible apply we); focus exact rfl) | ((with_reducible apply wf); focus exact rfl) | ((first | (with_reducible apply SW_run tt_ok hG htb) | ((with_reducible apply SW_draw rfl tt_ok hG htb); (focus kernel_rfl); focus simp only [List.range, List.range.loop, List.size_toArray, List.length_cons, List.length_nil, Nat.reduceAdd])); focus ((repeat' (first | (with_reducible first | exact wg | exact wh) | ((with_reducible first | apply wi | apply wj); focus (simp (discharger := omega) only [go_sem, simprocAttr]; with_reducible rfl)))); done)))
          exact (by simp (discharger := omega) only [go_sem, tErr, simprocAttr])
end
end Go.Proofs.YtcaopcpofepniaaDoor
namespace Go.Proofs.YtcaopcpofepniaaDoor
open Go.RowKit
section
variable {G : World → Prop} (hG : Lasting G)
include hG
set_option maxHeartbeats 8000000 in
set_option maxRecDepth 100000 in
theorem RNodeFault_1 (var other word word2 num : Int) (coefs : List Int) : Snd Tryd.prog G 55 [tNode ⟨1, var, other, word, word2, num, coefs⟩] (tInt (nodeErr ⟨1, var, other, word, word2, num, coefs⟩)) := by
  refine snd_of_body (n := 206) (tm := [(0, .t (tNode ⟨1, var, other, word, word2, num, coefs⟩))]) (rs := [.tmp 2]) tt_ok Tryd.func55 rfl rfl rfl rfl rfl ?_
  have htb : Tab.ok Tryd.prog G [] := Tab.nil
  refine SW_lenA (t := 0) (i := 6) rfl rfl fun hcl => ?_
  rw [List.length_map] at hcl
  have hcl : coefs.length ≤ 9223372036854775807 := hcl
  have e3 : nodeErr ⟨1, var, other, word, word2, num, coefs⟩ = if nodeOk ⟨1, var, other, word, word2, num, coefs⟩ = false then 1 else if nodeMore ⟨1, var, other, word, word2, num, coefs⟩ = true then 2 else if 0 < coefs.length ∧ coefs[coefs.length - 1]! = 0 then 2 else 0 := by unfold nodeErr; rw [if_neg (by simp only; omega)]
  have e1 : nodeOk ⟨1, var, other, word, word2, num, coefs⟩ = (decide (coefs.length ≤ 5) && decide (sizeA coefs ≤ 12) && decide (-60 ≤ num) && decide (num ≤ 60)) := by unfold nodeOk; simp
  have e2 : usedN ⟨1, var, other, word, word2, num, coefs⟩ = ⟨1, 0, 0, 0, 0, num, coefs⟩ := by unfold usedN; simp
  have e4 : nodeMore ⟨1, var, other, word, word2, num, coefs⟩ = (decide (var ≠ 0) || decide (other ≠ 0) || decide (word ≠ 0) || decide (word2 ≠ 0)) := by unfold nodeMore; rw [e2]; simp
  repeat' (first | (with_reducible first | apply w1 | apply w2 | apply w3 | apply w4 | apply w5 | apply w6 | apply w7 | apply w8 | apply w9 | apply wa | apply wb | apply wc) | ((with_reducible apply wd); focus decide) | ((with_reducible apply we); focus exact rfl) | ((with_reducible apply wf); focus exact rfl) | ((first | (with_reducible apply SW_run tt_ok hG htb) | ((with_reducible apply SW_draw rfl tt_ok hG htb); (focus kernel_rfl); focus simp only [List.range, List.range.loop, List.size_toArray, List.length_cons, List.length_nil, Nat.reduceAdd])); focus ((repeat' (first | (with_reducible first | exact wg | exact wh) | ((with_reducible first | apply wi | apply wj); focus (simp (discharger := omega) only [go_sem, tNode, simprocAttr]; with_reducible rfl)))); done)))
  refine SW_norm (Norm.headS (own := []) (keep := [1, 3, 4, 5]) (by refine ⟨?_, ?_⟩; (simp (discharger := omega) only [go_sem, simprocAttr]; with_reducible rfl); refine ⟨?_, ?_, ?_, ?_⟩ <;> (simp only [go_sem, simprocAttr]; with_reducible rfl))) ?_
  by_cases q0 : coefs.length ≤ 5
  · have cS := RSizeOf_snd hG coefs (by omega)
    by_cases q1 : sizeA coefs ≤ 12
    · rw [if_neg (by omega)] at cS
      have hsz : 0 ≤ sizeA coefs := by
        have := posneg coefs coefs.length
        unfold sizeA; omega
      generalize hszE : sizeA coefs = sz at *
      clear htb
      have htb := Tab.cons cS Tab.nil
      by_cases q2 : -60 ≤ num
      · skip
        by_cases q3 : num ≤ 60
        · skip
          have hok : nodeOk ⟨1, var, other, word, word2, num, coefs⟩ = true := by rw [e1]; simp [isVar, q0, q1, q2, q3]
          have e5 : nodeErr ⟨1, var, other, word, word2, num, coefs⟩ = if nodeMore ⟨1, var, other, word, word2, num, coefs⟩ = true then 2 else if 0 < coefs.length ∧ coefs[coefs.length - 1]! = 0 then 2 else 0 := by rw [e3, hok, if_neg (by decide)]
          repeat' (first | (with_reducible first | apply w1 | apply w2 | apply w3 | apply w4 | apply w5 | apply w6 | apply w7 | apply w8 | apply w9 | apply wa | apply wb | apply wc) | ((with_reducible apply wd); focus decide) | ((with_reducible apply we); focus exact rfl) | ((with_reducible apply wf); focus exact rfl) | ((first | (with_reducible apply SW_run tt_ok hG htb) | ((with_reducible apply SW_draw rfl tt_ok hG htb); (focus kernel_rfl); focus simp only [List.range, List.range.loop, List.size_toArray, List.length_cons, List.length_nil, Nat.reduceAdd])); focus ((repeat' (first | (with_reducible first | exact wg | exact wh) | ((with_reducible first | apply wi | apply wj); focus (simp (discharger := omega) only [go_sem, tNode, simprocAttr]; with_reducible rfl)))); done)))
          refine SW_norm (Norm.headS (own := []) (keep := [1, 3, 4, 5]) (by refine ⟨?_, ?_⟩; (simp (discharger := omega) only [go_sem, simprocAttr]; with_reducible rfl); refine ⟨?_, ?_, ?_, ?_⟩ <;> (simp only [go_sem, simprocAttr]; with_reducible rfl))) ?_
          by_cases mvar : var = 0
          · skip
            by_cases mother : other = 0
            · skip
              by_cases mword2 : word2 = 0
              · skip
                by_cases mword : word = 0
                · skip
                  have hmo : nodeMore ⟨1, var, other, word, word2, num, coefs⟩ = false := by rw [e4]; simp [mvar, mother, mword2, mword]
                  rw [e5, hmo, if_neg (by decide)]
                  clear e1 e2 e3 e4 e5 hok hmo
                  subst mvar
                  subst mother
                  subst mword2
                  subst mword
                  repeat' (first | (with_reducible first | apply w1 | apply w2 | apply w3 | apply w4 | apply w5 | apply w6 | apply w7 | apply w8 | apply w9 | apply wa | apply wb | apply wc) | ((with_reducible apply wd); focus decide) | ((with_reducible apply we); focus exact rfl) | ((with_reducible apply wf); focus exact rfl) | ((first | (with_reducible apply SW_run tt_ok hG htb) | ((with_reducible apply SW_draw rfl tt_ok hG htb); (focus kernel_rfl); focus simp only [List.range, List.range.loop, List.size_toArray, List.length_cons, List.length_nil, Nat.reduceAdd])); focus ((repeat' (first | (with_reducible first | exact wg | exact wh) | ((with_reducible first | apply wi | apply wj); focus (simp (discharger := omega) only [go_sem, tNode, simprocAttr]; with_reducible rfl)))); done)))
                  refine SW_norm (Norm.headS (own := []) (keep := [1, 3, 4, 5]) (by refine ⟨?_, ?_⟩; (simp (discharger := omega) only [go_sem, simprocAttr]; with_reducible rfl); refine ⟨?_, ?_, ?_, ?_⟩ <;> (simp only [go_sem, simprocAttr]; with_reducible rfl))) ?_
                  by_cases hc : 0 < coefs.length
                  · obtain ⟨x, hx⟩ : ∃ x, coefs[coefs.length - 1]! = x := ⟨_, rfl⟩
                    have hxe : (coefs.length : Int) - 1 = ((coefs.length - 1 : Nat) : Int) := by omega
                    have hkk : coefs.length - 1 < coefs.length := by omega
                    rw [hx]
                    generalize coefs.length - 1 = kk at *
                    by_cases h0 : x = 0
                    · rw [if_pos ⟨hc, h0⟩]
                      repeat' (first | (with_reducible first | apply w1 | apply w2 | apply w3 | apply w4 | apply w5 | apply w6 | apply w7 | apply w8 | apply w9 | apply wa | apply wb | apply wc) | ((with_reducible apply wd); focus decide) | ((with_reducible apply we); focus exact rfl) | ((with_reducible apply wf); focus exact rfl) | ((first | (with_reducible apply SW_run tt_ok hG htb) | ((with_reducible apply SW_draw rfl tt_ok hG htb); (focus kernel_rfl); focus simp only [List.range, List.range.loop, List.size_toArray, List.length_cons, List.length_nil, Nat.reduceAdd])); focus ((repeat' (first | (with_reducible first | exact wg | exact wh) | ((with_reducible first | apply wi | apply wj); focus (simp (discharger := omega) only [go_sem, tNode, hxe, hx, h0, simprocAttr]; with_reducible rfl)))); done)))
                      exact (by simp (discharger := omega) only [go_sem, simprocAttr])
                    · rw [if_neg (by rintro ⟨_, e⟩; exact h0 e)]
                      repeat' (first | (with_reducible first | apply w1 | apply w2 | apply w3 | apply w4 | apply w5 | apply w6 | apply w7 | apply w8 | apply w9 | apply wa | apply wb | apply wc) | ((with_reducible apply wd); focus decide) | ((with_reducible apply we); focus exact rfl) | ((with_reducible apply wf); focus exact rfl) | ((first | (with_reducible apply SW_run tt_ok hG htb) | ((with_reducible apply SW_draw rfl tt_ok hG htb); (focus kernel_rfl); focus simp only [List.range, List.range.loop, List.size_toArray, List.length_cons, List.length_nil, Nat.reduceAdd])); focus ((repeat' (first | (with_reducible first | exact wg | exact wh) | ((with_reducible first | apply wi | apply wj); focus (simp (discharger := omega) only [go_sem, tNode, hxe, hx, h0, simprocAttr]; with_reducible rfl)))); done)))
                      exact (by simp (discharger := omega) only [go_sem, simprocAttr])
                  · rw [if_neg (by rintro ⟨e, _⟩; exact hc e)]
                    have hc0 : coefs.length = 0 := by omega
                    repeat' (first | (with_reducible first | apply w1 | apply w2 | apply w3 | apply w4 | apply w5 | apply w6 | apply w7 | apply w8 | apply w9 | apply wa | apply wb | apply wc) | ((with_reducible apply wd); focus decide) | ((with_reducible apply we); focus exact rfl) | ((with_reducible apply wf); focus exact rfl) | ((first | (with_reducible apply SW_run tt_ok hG htb) | ((with_reducible apply SW_draw rfl tt_ok hG htb); (focus kernel_rfl); focus simp only [List.range, List.range.loop, List.size_toArray, List.length_cons, List.length_nil, Nat.reduceAdd])); focus ((repeat' (first | (with_reducible first | exact wg | exact wh) | ((with_reducible first | apply wi | apply wj); focus (simp (discharger := omega) only [go_sem, tNode, hc0, simprocAttr]; with_reducible rfl)))); done)))
                    exact (by simp (discharger := omega) only [go_sem, simprocAttr])
                · have hmo : nodeMore ⟨1, var, other, word, word2, num, coefs⟩ = true := by rw [e4]; simp [mword]
                  rw [e5, hmo, if_pos rfl]
                  clear e1 e2 e3 e4 e5 hok hmo
                  subst mvar
                  subst mother
                  subst mword2
                  repeat' (first | (with_reducible first | apply w1 | apply w2 | apply w3 | apply w4 | apply w5 | apply w6 | apply w7 | apply w8 | apply w9 | apply wa | apply wb | apply wc) | ((with_reducible apply wd); focus decide) | ((with_reducible apply we); focus exact rfl) | ((with_reducible apply wf); focus exact rfl) | ((first | (with_reducible apply SW_run tt_ok hG htb) | ((with_reducible apply SW_draw rfl tt_ok hG htb); (focus kernel_rfl); focus simp only [List.range, List.range.loop, List.size_toArray, List.length_cons, List.length_nil, Nat.reduceAdd])); focus ((repeat' (first | (with_reducible first | exact wg | exact wh) | ((with_reducible first | apply wi | apply wj); focus (simp (discharger := omega) only [go_sem, tNode, mword, simprocAttr]; with_reducible rfl)))); done)))
                  exact (by simp (discharger := omega) only [go_sem, simprocAttr])
              · have hmo : nodeMore ⟨1, var, other, word, word2, num, coefs⟩ = true := by rw [e4]; simp [mword2]
                rw [e5, hmo, if_pos rfl]
                clear e1 e2 e3 e4 e5 hok hmo
                subst mvar
                subst mother
                repeat' (first | (with_reducible first | apply w1 | apply w2 | apply w3 | apply w4 | apply w5 | apply w6 | apply w7 | apply w8 | apply w9 | apply wa | apply wb | apply wc) | ((with_reducible apply wd); focus decide) | ((with_reducible apply we); focus exact rfl) | ((with_reducible apply wf); focus exact rfl) | ((first | (with_reducible apply SW_run tt_ok hG htb) | ((with_reducible apply SW_draw rfl tt_ok hG htb); (focus kernel_rfl); focus simp only [List.range, List.range.loop, List.size_toArray, List.length_cons, List.length_nil, Nat.reduceAdd])); focus ((repeat' (first | (with_reducible first | exact wg | exact wh) | ((with_reducible first | apply wi | apply wj); focus (simp (discharger := omega) only [go_sem, tNode, mword2, simprocAttr]; with_reducible rfl)))); done)))
                exact (by simp (discharger := omega) only [go_sem, simprocAttr])
            · have hmo : nodeMore ⟨1, var, other, word, word2, num, coefs⟩ = true := by rw [e4]; simp [mother]
              rw [e5, hmo, if_pos rfl]
              clear e1 e2 e3 e4 e5 hok hmo
              subst mvar
              repeat' (first | (with_reducible first | apply w1 | apply w2 | apply w3 | apply w4 | apply w5 | apply w6 | apply w7 | apply w8 | apply w9 | apply wa | apply wb | apply wc) | ((with_reducible apply wd); focus decide) | ((with_reducible apply we); focus exact rfl) | ((with_reducible apply wf); focus exact rfl) | ((first | (with_reducible apply SW_run tt_ok hG htb) | ((with_reducible apply SW_draw rfl tt_ok hG htb); (focus kernel_rfl); focus simp only [List.range, List.range.loop, List.size_toArray, List.length_cons, List.length_nil, Nat.reduceAdd])); focus ((repeat' (first | (with_reducible first | exact wg | exact wh) | ((with_reducible first | apply wi | apply wj); focus (simp (discharger := omega) only [go_sem, tNode, mother, simprocAttr]; with_reducible rfl)))); done)))
              exact (by simp (discharger := omega) only [go_sem, simprocAttr])
          · have hmo : nodeMore ⟨1, var, other, word, word2, num, coefs⟩ = true := by rw [e4]; simp [mvar]
            rw [e5, hmo, if_pos rfl]
            clear e1 e2 e3 e4 e5 hok hmo
            repeat' (first | (with_reducible first | apply w1 | apply w2 | apply w3 | apply w4 | apply w5 | apply w6 | apply w7 | apply w8 | apply w9 | apply wa | apply wb | apply wc) | ((with_reducible apply wd); focus decide) | ((with_reducible apply we); focus exact rfl) | ((with_reducible apply wf); focus exact rfl) | ((first | (with_reducible apply SW_run tt_ok hG htb) | ((with_reducible apply SW_draw rfl tt_ok hG htb); (focus kernel_rfl); focus simp only [List.range, List.range.loop, List.size_toArray, List.length_cons, List.length_nil, Nat.reduceAdd])); focus ((repeat' (first | (with_reducible first | exact wg | exact wh) | ((with_reducible first | apply wi | apply wj); focus (simp (discharger := omega) only [go_sem, tNode, mvar, simprocAttr]; with_reducible rfl)))); done)))
            exact (by simp (discharger := omega) only [go_sem, simprocAttr])
        · have e5 : nodeErr ⟨1, var, other, word, word2, num, coefs⟩ = 1 := by rw [e3, e1]; simp [isVar, q3]
          rw [e5]
          clear e1 e2 e3 e4 e5
          repeat' (first | (with_reducible first | apply w1 | apply w2 | apply w3 | apply w4 | apply w5 | apply w6 | apply w7 | apply w8 | apply w9 | apply wa | apply wb | apply wc) | ((with_reducible apply wd); focus decide) | ((with_reducible apply we); focus exact rfl) | ((with_reducible apply wf); focus exact rfl) | ((first | (with_reducible apply SW_run tt_ok hG htb) | ((with_reducible apply SW_draw rfl tt_ok hG htb); (focus kernel_rfl); focus simp only [List.range, List.range.loop, List.size_toArray, List.length_cons, List.length_nil, Nat.reduceAdd])); focus ((repeat' (first | (with_reducible first | exact wg | exact wh) | ((with_reducible first | apply wi | apply wj); focus (simp (discharger := omega) only [go_sem, tNode, simprocAttr]; with_reducible rfl)))); done)))
          exact (by simp (discharger := omega) only [go_sem, simprocAttr])
      · have e5 : nodeErr ⟨1, var, other, word, word2, num, coefs⟩ = 1 := by rw [e3, e1]; simp [isVar, q2]
        rw [e5]
        clear e1 e2 e3 e4 e5
        repeat' (first | (with_reducible first | apply w1 | apply w2 | apply w3 | apply w4 | apply w5 | apply w6 | apply w7 | apply w8 | apply w9 | apply wa | apply wb | apply wc) | ((with_reducible apply wd); focus decide) | ((with_reducible apply we); focus exact rfl) | ((with_reducible apply wf); focus exact rfl) | ((first | (with_reducible apply SW_run tt_ok hG htb) | ((with_reducible apply SW_draw rfl tt_ok hG htb); (focus kernel_rfl); focus simp only [List.range, List.range.loop, List.size_toArray, List.length_cons, List.length_nil, Nat.reduceAdd])); focus ((repeat' (first | (with_reducible first | exact wg | exact wh) | ((with_reducible first | apply wi | apply wj); focus (simp (discharger := omega) only [go_sem, tNode, simprocAttr]; with_reducible rfl)))); done)))
        exact (by simp (discharger := omega) only [go_sem, simprocAttr])
    · have e5 : nodeErr ⟨1, var, other, word, word2, num, coefs⟩ = 1 := by rw [e3, e1]; simp [isVar, q1]
      rw [e5]
      clear e1 e2 e3 e4 e5
      rw [if_pos (by omega)] at cS
      clear htb
      have htb := Tab.cons cS Tab.nil
      repeat' (first | (with_reducible first | apply w1 | apply w2 | apply w3 | apply w4 | apply w5 | apply w6 | apply w7 | apply w8 | apply w9 | apply wa | apply wb | apply wc) | ((with_reducible apply wd); focus decide) | ((with_reducible apply we); focus exact rfl) | ((with_reducible apply wf); focus exact rfl) | ((first | (with_reducible apply SW_run tt_ok hG htb) | ((with_reducible apply SW_draw rfl tt_ok hG htb); (focus kernel_rfl); focus simp only [List.range, List.range.loop, List.size_toArray, List.length_cons, List.length_nil, Nat.reduceAdd])); focus ((repeat' (first | (with_reducible first | exact wg | exact wh) | ((with_reducible first | apply wi | apply wj); focus (simp (discharger := omega) only [go_sem, tNode, simprocAttr]; with_reducible rfl)))); done)))
      exact (by simp (discharger := omega) only [go_sem, simprocAttr])
  · have e5 : nodeErr ⟨1, var, other, word, word2, num, coefs⟩ = 1 := by rw [e3, e1]; simp [isVar, q0]
    rw [e5]
    clear e1 e2 e3 e4 e5
    repeat' (first | (with_reducible first | apply w1 | apply w2 | apply w3 | apply w4 | apply w5 | apply w6 | apply w7 | apply w8 | apply w9 | apply wa | apply wb | apply wc) | ((with_reducible apply wd); focus decide) | ((with_reducible apply we); focus exact rfl) | ((with_reducible apply wf); focus exact rfl) | ((first | (with_reducible apply SW_run tt_ok hG htb) | ((with_reducible apply SW_draw rfl tt_ok hG htb); (focus kernel_rfl); focus simp only [List.range, List.range.loop, List.size_toArray, List.length_cons, List.length_nil, Nat.reduceAdd])); focus ((repeat' (first | (with_reducible first | exact wg | exact wh) | ((with_reducible first | apply wi | apply wj); focus (simp (discharger := omega) only [go_sem, tNode, simprocAttr]; with_reducible rfl)))); done)))
    exact (by simp (discharger := omega) only [go_sem, simprocAttr])
end
end Go.Proofs.YtcaopcpofepniaaDoor
namespace Go.Proofs.YtcaopcpofepniaaDoor
open Go.RowKit
section
variable {G : World → Prop} (hG : Lasting G)
include hG
set_option maxHeartbeats 8000000 in
set_option maxRecDepth 100000 in
theorem RNodeFault_2 (var other word word2 num : Int) (coefs : List Int) : Snd Tryd.prog G 55 [tNode ⟨2, var, other, word, word2, num, coefs⟩] (tInt (nodeErr ⟨2, var, other, word, word2, num, coefs⟩)) := by
  refine snd_of_body (n := 206) (tm := [(0, .t (tNode ⟨2, var, other, word, word2, num, coefs⟩))]) (rs := [.tmp 2]) tt_ok Tryd.func55 rfl rfl rfl rfl rfl ?_
  have htb : Tab.ok Tryd.prog G [] := Tab.nil
  refine SW_lenA (t := 0) (i := 6) rfl rfl fun hcl => ?_
  rw [List.length_map] at hcl
  have hcl : coefs.length ≤ 9223372036854775807 := hcl
  have e3 : nodeErr ⟨2, var, other, word, word2, num, coefs⟩ = if nodeOk ⟨2, var, other, word, word2, num, coefs⟩ = false then 1 else if nodeMore ⟨2, var, other, word, word2, num, coefs⟩ = true then 2 else if 0 < coefs.length ∧ coefs[coefs.length - 1]! = 0 then 2 else 0 := by unfold nodeErr; rw [if_neg (by simp only; omega)]
  have e1 : nodeOk ⟨2, var, other, word, word2, num, coefs⟩ = (decide (coefs.length ≤ 5) && decide (sizeA coefs ≤ 12) && decide (-60 ≤ num) && decide (num ≤ 60)) := by unfold nodeOk; simp
  have e2 : usedN ⟨2, var, other, word, word2, num, coefs⟩ = ⟨2, 0, 0, 0, 0, num, coefs⟩ := by unfold usedN; simp
  have e4 : nodeMore ⟨2, var, other, word, word2, num, coefs⟩ = (decide (var ≠ 0) || decide (other ≠ 0) || decide (word ≠ 0) || decide (word2 ≠ 0)) := by unfold nodeMore; rw [e2]; simp
  repeat' (first | (with_reducible first | apply w1 | apply w2 | apply w3 | apply w4 | apply w5 | apply w6 | apply w7 | apply w8 | apply w9 | apply wa | apply wb | apply wc) | ((with_reducible apply wd); focus decide) | ((with_reducible apply we); focus exact rfl) | ((with_reducible apply wf); focus exact rfl) | ((first | (with_reducible apply SW_run tt_ok hG htb) | ((with_reducible apply SW_draw rfl tt_ok hG htb); (focus kernel_rfl); focus simp only [List.range, List.range.loop, List.size_toArray, List.length_cons, List.length_nil, Nat.reduceAdd])); focus ((repeat' (first | (with_reducible first | exact wg | exact wh) | ((with_reducible first | apply wi | apply wj); focus (simp (discharger := omega) only [go_sem, tNode, simprocAttr]; with_reducible rfl)))); done)))
  refine SW_norm (Norm.headS (own := []) (keep := [1, 3, 4, 5]) (by refine ⟨?_, ?_⟩; (simp (discharger := omega) only [go_sem, simprocAttr]; with_reducible rfl); refine ⟨?_, ?_, ?_, ?_⟩ <;> (simp only [go_sem, simprocAttr]; with_reducible rfl))) ?_
  by_cases q0 : coefs.length ≤ 5
  · have cS := RSizeOf_snd hG coefs (by omega)
    by_cases q1 : sizeA coefs ≤ 12
    · rw [if_neg (by omega)] at cS
      have hsz : 0 ≤ sizeA coefs := by
        have := posneg coefs coefs.length
        unfold sizeA; omega
      generalize hszE : sizeA coefs = sz at *
      clear htb
      have htb := Tab.cons cS Tab.nil
      by_cases q2 : -60 ≤ num
      · skip
        by_cases q3 : num ≤ 60
        · skip
          have hok : nodeOk ⟨2, var, other, word, word2, num, coefs⟩ = true := by rw [e1]; simp [isVar, q0, q1, q2, q3]
          have e5 : nodeErr ⟨2, var, other, word, word2, num, coefs⟩ = if nodeMore ⟨2, var, other, word, word2, num, coefs⟩ = true then 2 else if 0 < coefs.length ∧ coefs[coefs.length - 1]! = 0 then 2 else 0 := by rw [e3, hok, if_neg (by decide)]
          repeat' (first | (with_reducible first | apply w1 | apply w2 | apply w3 | apply w4 | apply w5 | apply w6 | apply w7 | apply w8 | apply w9 | apply wa | apply wb | apply wc) | ((with_reducible apply wd); focus decide) | ((with_reducible apply we); focus exact rfl) | ((with_reducible apply wf); focus exact rfl) | ((first | (with_reducible apply SW_run tt_ok hG htb) | ((with_reducible apply SW_draw rfl tt_ok hG htb); (focus kernel_rfl); focus simp only [List.range, List.range.loop, List.size_toArray, List.length_cons, List.length_nil, Nat.reduceAdd])); focus ((repeat' (first | (with_reducible first | exact wg | exact wh) | ((with_reducible first | apply wi | apply wj); focus (simp (discharger := omega) only [go_sem, tNode, simprocAttr]; with_reducible rfl)))); done)))
          refine SW_norm (Norm.headS (own := []) (keep := [1, 3, 4, 5]) (by refine ⟨?_, ?_⟩; (simp (discharger := omega) only [go_sem, simprocAttr]; with_reducible rfl); refine ⟨?_, ?_, ?_, ?_⟩ <;> (simp only [go_sem, simprocAttr]; with_reducible rfl))) ?_
          by_cases mvar : var = 0
          · skip
            by_cases mother : other = 0
            · skip
              by_cases mword2 : word2 = 0
              · skip
                by_cases mword : word = 0
                · skip
                  have hmo : nodeMore ⟨2, var, other, word, word2, num, coefs⟩ = false := by rw [e4]; simp [mvar, mother, mword2, mword]
                  rw [e5, hmo, if_neg (by decide)]
                  clear e1 e2 e3 e4 e5 hok hmo
                  subst mvar
                  subst mother
                  subst mword2
                  subst mword
                  repeat' (first | (with_reducible first | apply w1 | apply w2 | apply w3 | apply w4 | apply w5 | apply w6 | apply w7 | apply w8 | apply w9 | apply wa | apply wb | apply wc) | ((with_reducible apply wd); focus decide) | ((with_reducible apply we); focus exact rfl) | ((with_reducible apply wf); focus exact rfl) | ((first | (with_reducible apply SW_run tt_ok hG htb) | ((with_reducible apply SW_draw rfl tt_ok hG htb); (focus kernel_rfl); focus simp only [List.range, List.range.loop, List.size_toArray, List.length_cons, List.length_nil, Nat.reduceAdd])); focus ((repeat' (first | (with_reducible first | exact wg | exact wh) | ((with_reducible first | apply wi | apply wj); focus (simp (discharger := omega) only [go_sem, tNode, simprocAttr]; with_reducible rfl)))); done)))
                  refine SW_norm (Norm.headS (own := []) (keep := [1, 3, 4, 5]) (by refine ⟨?_, ?_⟩; (simp (discharger := omega) only [go_sem, simprocAttr]; with_reducible rfl); refine ⟨?_, ?_, ?_, ?_⟩ <;> (simp only [go_sem, simprocAttr]; with_reducible rfl))) ?_
                  by_cases hc : 0 < coefs.length
                  · obtain ⟨x, hx⟩ : ∃ x, coefs[coefs.length - 1]! = x := ⟨_, rfl⟩
                    have hxe : (coefs.length : Int) - 1 = ((coefs.length - 1 : Nat) : Int) := by omega
                    have hkk : coefs.length - 1 < coefs.length := by omega
                    rw [hx]
                    generalize coefs.length - 1 = kk at *
                    by_cases h0 : x = 0
                    · rw [if_pos ⟨hc, h0⟩]
                      repeat' (first | (with_reducible first | apply w1 | apply w2 | apply w3 | apply w4 | apply w5 | apply w6 | apply w7 | apply w8 | apply w9 | apply wa | apply wb | apply wc) | ((with_reducible apply wd); focus decide) | ((with_reducible apply we); focus exact rfl) | ((with_reducible apply wf); focus exact rfl) | ((first | (with_reducible apply SW_run tt_ok hG htb) | ((with_reducible apply SW_draw rfl tt_ok hG htb); (focus kernel_rfl); focus simp only [List.range, List.range.loop, List.size_toArray, List.length_cons, List.length_nil, Nat.reduceAdd])); focus ((repeat' (first | (with_reducible first | exact wg | exact wh) | ((with_reducible first | apply wi | apply wj); focus (simp (discharger := omega) only [go_sem, tNode, hxe, hx, h0, simprocAttr]; with_reducible rfl)))); done)))
                      exact (by simp (discharger := omega) only [go_sem, simprocAttr])
                    · rw [if_neg (by rintro ⟨_, e⟩; exact h0 e)]
                      repeat' (first | (with_reducible first | apply w1 | apply w2 | apply w3 | apply w4 | apply w5 | apply w6 | apply w7 | apply w8 | apply w9 | apply wa | apply wb | apply wc) | ((with_reducible apply wd); focus decide) | ((with_reducible apply we); focus exact rfl) | ((with_reducible apply wf); focus exact rfl) | ((first | (with_reducible apply SW_run tt_ok hG htb) | ((with_reducible apply SW_draw rfl tt_ok hG htb); (focus kernel_rfl); focus simp only [List.range, List.range.loop, List.size_toArray, List.length_cons, List.length_nil, Nat.reduceAdd])); focus ((repeat' (first | (with_reducible first | exact wg | exact wh) | ((with_reducible first | apply wi | apply wj); focus (simp (discharger := omega) only [go_sem, tNode, hxe, hx, h0, simprocAttr]; with_reducible rfl)))); done)))
                      exact (by simp (discharger := omega) only [go_sem, simprocAttr])
                  · rw [if_neg (by rintro ⟨e, _⟩; exact hc e)]
                    have hc0 : coefs.length = 0 := by omega
                    repeat' (first | (with_reducible first | apply w1 | apply w2 | apply w3 | apply w4 | apply w5 | apply w6 | apply w7 | apply w8 | apply w9 | apply wa | apply wb | apply wc) | ((with_reducible apply wd); focus decide) | ((with_reducible apply we); focus exact rfl) | ((with_reducible apply wf); focus exact rfl) | ((first | (with_reducible apply SW_run tt_ok hG htb) | ((with_reducible apply SW_draw rfl tt_ok hG htb); (focus kernel_rfl); focus simp only [List.range, List.range.loop, List.size_toArray, List.length_cons, List.length_nil, Nat.reduceAdd])); focus ((repeat' (first | (with_reducible first | exact wg | exact wh) | ((with_reducible first | apply wi | apply wj); focus (simp (discharger := omega) only [go_sem, tNode, hc0, simprocAttr]; with_reducible rfl)))); done)))
                    exact (by simp (discharger := omega) only [go_sem, simprocAttr])
                · have hmo : nodeMore ⟨2, var, other, word, word2, num, coefs⟩ = true := by rw [e4]; simp [mword]
                  rw [e5, hmo, if_pos rfl]
                  clear e1 e2 e3 e4 e5 hok hmo
                  subst mvar
                  subst mother
                  subst mword2
                  repeat' (first | (with_reducible first | apply w1 | apply w2 | apply w3 | apply w4 | apply w5 | apply w6 | apply w7 | apply w8 | apply w9 | apply wa | apply wb | apply wc) | ((with_reducible apply wd); focus decide) | ((with_reducible apply we); focus exact rfl) | ((with_reducible apply wf); focus exact rfl) | ((first | (with_reducible apply SW_run tt_ok hG htb) | ((with_reducible apply SW_draw rfl tt_ok hG htb); (focus kernel_rfl); focus simp only [List.range, List.range.loop, List.size_toArray, List.length_cons, List.length_nil, Nat.reduceAdd])); focus ((repeat' (first | (with_reducible first | exact wg | exact wh) | ((with_reducible first | apply wi | apply wj); focus (simp (discharger := omega) only [go_sem, tNode, mword, simprocAttr]; with_reducible rfl)))); done)))
                  exact (by simp (discharger := omega) only [go_sem, simprocAttr])
              · have hmo : nodeMore ⟨2, var, other, word, word2, num, coefs⟩ = true := by rw [e4]; simp [mword2]
                rw [e5, hmo, if_pos rfl]
                clear e1 e2 e3 e4 e5 hok hmo
                subst mvar
                subst mother
                repeat' (first | (with_reducible first | apply w1 | apply w2 | apply w3 | apply w4 | apply w5 | apply w6 | apply w7 | apply w8 | apply w9 | apply wa | apply wb | apply wc) | ((with_reducible apply wd); focus decide) | ((with_reducible apply we); focus exact rfl) | ((with_reducible apply wf); focus exact rfl) | ((first | (with_reducible apply SW_run tt_ok hG htb) | ((with_reducible apply SW_draw rfl tt_ok hG htb); (focus kernel_rfl); focus simp only [List.range, List.range.loop, List.size_toArray, List.length_cons, List.length_nil, Nat.reduceAdd])); focus ((repeat' (first | (with_reducible first | exact wg | exact wh) | ((with_reducible first | apply wi | apply wj); focus (simp (discharger := omega) only [go_sem, tNode, mword2, simprocAttr]; with_reducible rfl)))); done)))
                exact (by simp (discharger := omega) only [go_sem, simprocAttr])
            · have hmo : nodeMore ⟨2, var, other, word, word2, num, coefs⟩ = true := by rw [e4]; simp [mother]
              rw [e5, hmo, if_pos rfl]
              clear e1 e2 e3 e4 e5 hok hmo
              subst mvar
              repeat' (first | (with_reducible first | apply w1 | apply w2 | apply w3 | apply w4 | apply w5 | apply w6 | apply w7 | apply w8 | apply w9 | apply wa | apply wb | apply wc) | ((with_reducible apply wd); focus decide) | ((with_reducible apply we); focus exact rfl) | ((with_reducible apply wf); focus exact rfl) | ((first | (with_reducible apply SW_run tt_ok hG htb) | ((with_reducible apply SW_draw rfl tt_ok hG htb); (focus kernel_rfl); focus simp only [List.range, List.range.loop, List.size_toArray, List.length_cons, List.length_nil, Nat.reduceAdd])); focus ((repeat' (first | (with_reducible first | exact wg | exact wh) | ((with_reducible first | apply wi | apply wj); focus (simp (discharger := omega) only [go_sem, tNode, mother, simprocAttr]; with_reducible rfl)))); done)))
              exact (by simp (discharger := omega) only [go_sem, simprocAttr])
          · have hmo : nodeMore ⟨2, var, other, word, word2, num, coefs⟩ = true := by rw [e4]; simp [mvar]
            rw [e5, hmo, if_pos rfl]
            clear e1 e2 e3 e4 e5 hok hmo
            repeat' (first | (with_reducible first | apply w1 | apply w2 | apply w3 | apply w4 | apply w5 | apply w6 | apply w7 | apply w8 | apply w9 | apply wa | apply wb | apply wc) | ((with_reducible apply wd); focus decide) | ((with_reducible apply we); focus exact rfl) | ((with_reducible apply wf); focus exact rfl) | ((first | (with_reducible apply SW_run tt_ok hG htb) | ((with_reducible apply SW_draw rfl tt_ok hG htb); (focus kernel_rfl); focus simp only [List.range, List.range.loop, List.size_toArray, List.length_cons, List.length_nil, Nat.reduceAdd])); focus ((repeat' (first | (with_reducible first | exact wg | exact wh) | ((with_reducible first | apply wi | apply wj); focus (simp (discharger := omega) only [go_sem, tNode, mvar, simprocAttr]; with_reducible rfl)))); done)))
            exact (by simp (discharger := omega) only [go_sem, simprocAttr])
        · have e5 : nodeErr ⟨2, var, other, word, word2, num, coefs⟩ = 1 := by rw [e3, e1]; simp [isVar, q3]
          rw [e5]
          clear e1 e2 e3 e4 e5
          repeat' (first | (with_reducible first | apply w1 | apply w2 | apply w3 | apply w4 | apply w5 | apply w6 | apply w7 | apply w8 | apply w9 | apply wa | apply wb | apply wc) | ((with_reducible apply wd); focus decide) | ((with_reducible apply we); focus exact rfl) | ((with_reducible apply wf); focus exact rfl) | ((first | (with_reducible apply SW_run tt_ok hG htb) | ((with_reducible apply SW_draw rfl tt_ok hG htb); (focus kernel_rfl); focus simp only [List.range, List.range.loop, List.size_toArray, List.length_cons, List.length_nil, Nat.reduceAdd])); focus ((repeat' (first | (with_reducible first | exact wg | exact wh) | ((with_reducible first | apply wi | apply wj); focus (simp (discharger := omega) only [go_sem, tNode, simprocAttr]; with_reducible rfl)))); done)))
          exact (by simp (discharger := omega) only [go_sem, simprocAttr])
      · have e5 : nodeErr ⟨2, var, other, word, word2, num, coefs⟩ = 1 := by rw [e3, e1]; simp [isVar, q2]
        rw [e5]
        clear e1 e2 e3 e4 e5
        repeat' (first | (with_reducible first | apply w1 | apply w2 | apply w3 | apply w4 | apply w5 | apply w6 | apply w7 | apply w8 | apply w9 | apply wa | apply wb | apply wc) | ((with_reducible apply wd); focus decide) | ((with_reducible apply we); focus exact rfl) | ((with_reducible apply wf); focus exact rfl) | ((first | (with_reducible apply SW_run tt_ok hG htb) | ((with_reducible apply SW_draw rfl tt_ok hG htb); (focus kernel_rfl); focus simp only [List.range, List.range.loop, List.size_toArray, List.length_cons, List.length_nil, Nat.reduceAdd])); focus ((repeat' (first | (with_reducible first | exact wg | exact wh) | ((with_reducible first | apply wi | apply wj); focus (simp (discharger := omega) only [go_sem, tNode, simprocAttr]; with_reducible rfl)))); done)))
        exact (by simp (discharger := omega) only [go_sem, simprocAttr])
    · have e5 : nodeErr ⟨2, var, other, word, word2, num, coefs⟩ = 1 := by rw [e3, e1]; simp [isVar, q1]
      rw [e5]
      clear e1 e2 e3 e4 e5
      rw [if_pos (by omega)] at cS
      clear htb
      have htb := Tab.cons cS Tab.nil
      repeat' (first | (with_reducible first | apply w1 | apply w2 | apply w3 | apply w4 | apply w5 | apply w6 | apply w7 | apply w8 | apply w9 | apply wa | apply wb | apply wc) | ((with_reducible apply wd); focus decide) | ((with_reducible apply we); focus exact rfl) | ((with_reducible apply wf); focus exact rfl) | ((first | (with_reducible apply SW_run tt_ok hG htb) | ((with_reducible apply SW_draw rfl tt_ok hG htb); (focus kernel_rfl); focus simp only [List.range, List.range.loop, List.size_toArray, List.length_cons, List.length_nil, Nat.reduceAdd])); focus ((repeat' (first | (with_reducible first | exact wg | exact wh) | ((with_reducible first | apply wi | apply wj); focus (simp (discharger := omega) only [go_sem, tNode, simprocAttr]; with_reducible rfl)))); done)))
      exact (by simp (discharger := omega) only [go_sem, simprocAttr])
  · have e5 : nodeErr ⟨2, var, other, word, word2, num, coefs⟩ = 1 := by rw [e3, e1]; simp [isVar, q0]
    rw [e5]
    clear e1 e2 e3 e4 e5
    repeat' (first | (with_reducible first | apply w1 | apply w2 | apply w3 | apply w4 | apply w5 | apply w6 | apply w7 | apply w8 | apply w9 | apply wa | apply wb | apply wc) | ((with_reducible apply wd); focus decide) | ((with_reducible apply we); focus exact rfl) | ((with_reducible apply wf); focus exact rfl) | ((first | (with_reducible apply SW_run tt_ok hG htb) | ((with_reducible apply SW_draw rfl tt_ok hG htb); (focus kernel_rfl); focus simp only [List.range, List.range.loop, List.size_toArray, List.length_cons, List.length_nil, Nat.reduceAdd])); focus ((repeat' (first | (with_reducible first | exact wg | exact wh) | ((with_reducible first | apply wi | apply wj); focus (simp (discharger := omega) only [go_sem, tNode, simprocAttr]; with_reducible rfl)))); done)))
    exact (by simp (discharger := omega) only [go_sem, simprocAttr])
end
end Go.Proofs.YtcaopcpofepniaaDoor
namespace Go.Proofs.YtcaopcpofepniaaDoor
open Go.RowKit
section
variable {G : World → Prop} (hG : Lasting G)
include hG
set_option maxHeartbeats 8000000 in
set_option maxRecDepth 100000 in
theorem RNodeFault_3 (var other word word2 num : Int) (coefs : List Int) : Snd Tryd.prog G 55 [tNode ⟨3, var, other, word, word2, num, coefs⟩] (tInt (nodeErr ⟨3, var, other, word, word2, num, coefs⟩)) := by
  refine snd_of_body (n := 206) (tm := [(0, .t (tNode ⟨3, var, other, word, word2, num, coefs⟩))]) (rs := [.tmp 2]) tt_ok Tryd.func55 rfl rfl rfl rfl rfl ?_
  have htb : Tab.ok Tryd.prog G [] := Tab.nil
  refine SW_lenA (t := 0) (i := 6) rfl rfl fun hcl => ?_
  rw [List.length_map] at hcl
  have hcl : coefs.length ≤ 9223372036854775807 := hcl
  have e3 : nodeErr ⟨3, var, other, word, word2, num, coefs⟩ = if nodeOk ⟨3, var, other, word, word2, num, coefs⟩ = false then 1 else if nodeMore ⟨3, var, other, word, word2, num, coefs⟩ = true then 2 else if 0 < coefs.length ∧ coefs[coefs.length - 1]! = 0 then 2 else 0 := by unfold nodeErr; rw [if_neg (by simp only; omega)]
  have e1 : nodeOk ⟨3, var, other, word, word2, num, coefs⟩ = (isVar var && decide (0 ≤ word) && decide (word < 3) && decide (0 ≤ num) && decide (num ≤ 9)) := by unfold nodeOk; simp
  have e2 : usedN ⟨3, var, other, word, word2, num, coefs⟩ = ⟨3, var, 0, word, 0, num, []⟩ := by unfold usedN; simp
  have e4 : nodeMore ⟨3, var, other, word, word2, num, coefs⟩ = (decide (other ≠ 0) || decide (word2 ≠ 0) || decide (coefs.length ≠ 0)) := by unfold nodeMore; rw [e2]; simp
  repeat' (first | (with_reducible first | apply w1 | apply w2 | apply w3 | apply w4 | apply w5 | apply w6 | apply w7 | apply w8 | apply w9 | apply wa | apply wb | apply wc) | ((with_reducible apply wd); focus decide) | ((with_reducible apply we); focus exact rfl) | ((with_reducible apply wf); focus exact rfl) | ((first | (with_reducible apply SW_run tt_ok hG htb) | ((with_reducible apply SW_draw rfl tt_ok hG htb); (focus kernel_rfl); focus simp only [List.range, List.range.loop, List.size_toArray, List.length_cons, List.length_nil, Nat.reduceAdd])); focus ((repeat' (first | (with_reducible first | exact wg | exact wh) | ((with_reducible first | apply wi | apply wj); focus (simp (discharger := omega) only [go_sem, tNode, simprocAttr]; with_reducible rfl)))); done)))
  refine SW_norm (Norm.headS (own := []) (keep := [1, 3, 4, 5]) (by refine ⟨?_, ?_⟩; (simp (discharger := omega) only [go_sem, simprocAttr]; with_reducible rfl); refine ⟨?_, ?_, ?_, ?_⟩ <;> (simp only [go_sem, simprocAttr]; with_reducible rfl))) ?_
  by_cases q0 : 0 ≤ var
  · skip
    by_cases q1 : var < 5
    · skip
      by_cases q2 : 0 ≤ word
      · skip
        by_cases q3 : word < 3
        · skip
          by_cases q4 : 0 ≤ num
          · skip
            by_cases q5 : num ≤ 9
            · skip
              have hok : nodeOk ⟨3, var, other, word, word2, num, coefs⟩ = true := by rw [e1]; simp [isVar, q0, q1, q2, q3, q4, q5]
              have e5 : nodeErr ⟨3, var, other, word, word2, num, coefs⟩ = if nodeMore ⟨3, var, other, word, word2, num, coefs⟩ = true then 2 else if 0 < coefs.length ∧ coefs[coefs.length - 1]! = 0 then 2 else 0 := by rw [e3, hok, if_neg (by decide)]
              repeat' (first | (with_reducible first | apply w1 | apply w2 | apply w3 | apply w4 | apply w5 | apply w6 | apply w7 | apply w8 | apply w9 | apply wa | apply wb | apply wc) | ((with_reducible apply wd); focus decide) | ((with_reducible apply we); focus exact rfl) | ((with_reducible apply wf); focus exact rfl) | ((first | (with_reducible apply SW_run tt_ok hG htb) | ((with_reducible apply SW_draw rfl tt_ok hG htb); (focus kernel_rfl); focus simp only [List.range, List.range.loop, List.size_toArray, List.length_cons, List.length_nil, Nat.reduceAdd])); focus ((repeat' (first | (with_reducible first | exact wg | exact wh) | ((with_reducible first | apply wi | apply wj); focus (simp (discharger := omega) only [go_sem, tNode, simprocAttr]; with_reducible rfl)))); done)))
              refine SW_norm (Norm.headS (own := []) (keep := [1, 3, 4, 5]) (by refine ⟨?_, ?_⟩; (simp (discharger := omega) only [go_sem, simprocAttr]; with_reducible rfl); refine ⟨?_, ?_, ?_, ?_⟩ <;> (simp only [go_sem, simprocAttr]; with_reducible rfl))) ?_
              by_cases mother : other = 0
              · skip
                by_cases mword2 : word2 = 0
                · skip
                  by_cases mC : coefs.length = 0
                  · skip
                    have hmo : nodeMore ⟨3, var, other, word, word2, num, coefs⟩ = false := by rw [e4]; simp [mother, mword2, mC]
                    rw [e5, hmo, if_neg (by decide)]
                    clear e1 e2 e3 e4 e5 hok hmo
                    subst mother
                    subst mword2
                    rw [if_neg (by omega)]
                    repeat' (first | (with_reducible first | apply w1 | apply w2 | apply w3 | apply w4 | apply w5 | apply w6 | apply w7 | apply w8 | apply w9 | apply wa | apply wb | apply wc) | ((with_reducible apply wd); focus decide) | ((with_reducible apply we); focus exact rfl) | ((with_reducible apply wf); focus exact rfl) | ((first | (with_reducible apply SW_run tt_ok hG htb) | ((with_reducible apply SW_draw rfl tt_ok hG htb); (focus kernel_rfl); focus simp only [List.range, List.range.loop, List.size_toArray, List.length_cons, List.length_nil, Nat.reduceAdd])); focus ((repeat' (first | (with_reducible first | exact wg | exact wh) | ((with_reducible first | apply wi | apply wj); focus (simp (discharger := omega) only [go_sem, tNode, mC, simprocAttr]; with_reducible rfl)))); done)))
                    exact (by simp (discharger := omega) only [go_sem, simprocAttr])
                  · have hmo : nodeMore ⟨3, var, other, word, word2, num, coefs⟩ = true := by rw [e4]; simp [mC]
                    rw [e5, hmo, if_pos rfl]
                    clear e1 e2 e3 e4 e5 hok hmo
                    subst mother
                    subst mword2
                    repeat' (first | (with_reducible first | apply w1 | apply w2 | apply w3 | apply w4 | apply w5 | apply w6 | apply w7 | apply w8 | apply w9 | apply wa | apply wb | apply wc) | ((with_reducible apply wd); focus decide) | ((with_reducible apply we); focus exact rfl) | ((with_reducible apply wf); focus exact rfl) | ((first | (with_reducible apply SW_run tt_ok hG htb) | ((with_reducible apply SW_draw rfl tt_ok hG htb); (focus kernel_rfl); focus simp only [List.range, List.range.loop, List.size_toArray, List.length_cons, List.length_nil, Nat.reduceAdd])); focus ((repeat' (first | (with_reducible first | exact wg | exact wh) | ((with_reducible first | apply wi | apply wj); focus (simp (discharger := omega) only [go_sem, tNode, mC, simprocAttr]; with_reducible rfl)))); done)))
                    exact (by simp (discharger := omega) only [go_sem, simprocAttr])
                · have hmo : nodeMore ⟨3, var, other, word, word2, num, coefs⟩ = true := by rw [e4]; simp [mword2]
                  rw [e5, hmo, if_pos rfl]
                  clear e1 e2 e3 e4 e5 hok hmo
                  subst mother
                  repeat' (first | (with_reducible first | apply w1 | apply w2 | apply w3 | apply w4 | apply w5 | apply w6 | apply w7 | apply w8 | apply w9 | apply wa | apply wb | apply wc) | ((with_reducible apply wd); focus decide) | ((with_reducible apply we); focus exact rfl) | ((with_reducible apply wf); focus exact rfl) | ((first | (with_reducible apply SW_run tt_ok hG htb) | ((with_reducible apply SW_draw rfl tt_ok hG htb); (focus kernel_rfl); focus simp only [List.range, List.range.loop, List.size_toArray, List.length_cons, List.length_nil, Nat.reduceAdd])); focus ((repeat' (first | (with_reducible first | exact wg | exact wh) | ((with_reducible first | apply wi | apply wj); focus (simp (discharger := omega) only [go_sem, tNode, mword2, simprocAttr]; with_reducible rfl)))); done)))
                  exact (by simp (discharger := omega) only [go_sem, simprocAttr])
              · have hmo : nodeMore ⟨3, var, other, word, word2, num, coefs⟩ = true := by rw [e4]; simp [mother]
                rw [e5, hmo, if_pos rfl]
                clear e1 e2 e3 e4 e5 hok hmo
                repeat' (first | (with_reducible first | apply w1 | apply w2 | apply w3 | apply w4 | apply w5 | apply w6 | apply w7 | apply w8 | apply w9 | apply wa | apply wb | apply wc) | ((with_reducible apply wd); focus decide) | ((with_reducible apply we); focus exact rfl) | ((with_reducible apply wf); focus exact rfl) | ((first | (with_reducible apply SW_run tt_ok hG htb) | ((with_reducible apply SW_draw rfl tt_ok hG htb); (focus kernel_rfl); focus simp only [List.range, List.range.loop, List.size_toArray, List.length_cons, List.length_nil, Nat.reduceAdd])); focus ((repeat' (first | (with_reducible first | exact wg | exact wh) | ((with_reducible first | apply wi | apply wj); focus (simp (discharger := omega) only [go_sem, tNode, mother, simprocAttr]; with_reducible rfl)))); done)))
                exact (by simp (discharger := omega) only [go_sem, simprocAttr])
            · have e5 : nodeErr ⟨3, var, other, word, word2, num, coefs⟩ = 1 := by rw [e3, e1]; simp [isVar, q5]
              rw [e5]
              clear e1 e2 e3 e4 e5
              repeat' (first | (with_reducible first | apply w1 | apply w2 | apply w3 | apply w4 | apply w5 | apply w6 | apply w7 | apply w8 | apply w9 | apply wa | apply wb | apply wc) | ((with_reducible apply wd); focus decide) | ((with_reducible apply we); focus exact rfl) | ((with_reducible apply wf); focus exact rfl) | ((first | (with_reducible apply SW_run tt_ok hG htb) | ((with_reducible apply SW_draw rfl tt_ok hG htb); (focus kernel_rfl); focus simp only [List.range, List.range.loop, List.size_toArray, List.length_cons, List.length_nil, Nat.reduceAdd])); focus ((repeat' (first | (with_reducible first | exact wg | exact wh) | ((with_reducible first | apply wi | apply wj); focus (simp (discharger := omega) only [go_sem, tNode, simprocAttr]; with_reducible rfl)))); done)))
              exact (by simp (discharger := omega) only [go_sem, simprocAttr])
          · have e5 : nodeErr ⟨3, var, other, word, word2, num, coefs⟩ = 1 := by rw [e3, e1]; simp [isVar, q4]
            rw [e5]
            clear e1 e2 e3 e4 e5
            repeat' (first | (with_reducible first | apply w1 | apply w2 | apply w3 | apply w4 | apply w5 | apply w6 | apply w7 | apply w8 | apply w9 | apply wa | apply wb | apply wc) | ((with_reducible apply wd); focus decide) | ((with_reducible apply we); focus exact rfl) | ((with_reducible apply wf); focus exact rfl) | ((first | (with_reducible apply SW_run tt_ok hG htb) | ((with_reducible apply SW_draw rfl tt_ok hG htb); (focus kernel_rfl); focus simp only [List.range, List.range.loop, List.size_toArray, List.length_cons, List.length_nil, Nat.reduceAdd])); focus ((repeat' (first | (with_reducible first | exact wg | exact wh) | ((with_reducible first | apply wi | apply wj); focus (simp (discharger := omega) only [go_sem, tNode, simprocAttr]; with_reducible rfl)))); done)))
            exact (by simp (discharger := omega) only [go_sem, simprocAttr])
        · have e5 : nodeErr ⟨3, var, other, word, word2, num, coefs⟩ = 1 := by rw [e3, e1]; simp [isVar, q3]
          rw [e5]
          clear e1 e2 e3 e4 e5
          repeat' (first | (with_reducible first | apply w1 | apply w2 | apply w3 | apply w4 | apply w5 | apply w6 | apply w7 | apply w8 | apply w9 | apply wa | apply wb | apply wc) | ((with_reducible apply wd); focus decide) | ((with_reducible apply we); focus exact rfl) | ((with_reducible apply wf); focus exact rfl) | ((first | (with_reducible apply SW_run tt_ok hG htb) | ((with_reducible apply SW_draw rfl tt_ok hG htb); (focus kernel_rfl); focus simp only [List.range, List.range.loop, List.size_toArray, List.length_cons, List.length_nil, Nat.reduceAdd])); focus ((repeat' (first | (with_reducible first | exact wg | exact wh) | ((with_reducible first | apply wi | apply wj); focus (simp (discharger := omega) only [go_sem, tNode, simprocAttr]; with_reducible rfl)))); done)))
          exact (by simp (discharger := omega) only [go_sem, simprocAttr])
      · have e5 : nodeErr ⟨3, var, other, word, word2, num, coefs⟩ = 1 := by rw [e3, e1]; simp [isVar, q2]
        rw [e5]
        clear e1 e2 e3 e4 e5
        repeat' (first | (with_reducible first | apply w1 | apply w2 | apply w3 | apply w4 | apply w5 | apply w6 | apply w7 | apply w8 | apply w9 | apply wa | apply wb | apply wc) | ((with_reducible apply wd); focus decide) | ((with_reducible apply we); focus exact rfl) | ((with_reducible apply wf); focus exact rfl) | ((first | (with_reducible apply SW_run tt_ok hG htb) | ((with_reducible apply SW_draw rfl tt_ok hG htb); (focus kernel_rfl); focus simp only [List.range, List.range.loop, List.size_toArray, List.length_cons, List.length_nil, Nat.reduceAdd])); focus ((repeat' (first | (with_reducible first | exact wg | exact wh) | ((with_reducible first | apply wi | apply wj); focus (simp (discharger := omega) only [go_sem, tNode, simprocAttr]; with_reducible rfl)))); done)))
        exact (by simp (discharger := omega) only [go_sem, simprocAttr])
    · have e5 : nodeErr ⟨3, var, other, word, word2, num, coefs⟩ = 1 := by rw [e3, e1]; simp [isVar, q1]
      rw [e5]
      clear e1 e2 e3 e4 e5
      repeat' (first | (with_reducible first | apply w1 | apply w2 | apply w3 | apply w4 | apply w5 | apply w6 | apply w7 | apply w8 | apply w9 | apply wa | apply wb | apply wc) | ((with_reducible apply wd); focus decide) | ((with_reducible apply we); focus exact rfl) | ((with_reducible apply wf); focus exact rfl) | ((first | (with_reducible apply SW_run tt_ok hG htb) | ((with_reducible apply SW_draw rfl tt_ok hG htb); (focus kernel_rfl); focus simp only [List.range, List.range.loop, List.size_toArray, List.length_cons, List.length_nil, Nat.reduceAdd])); focus ((repeat' (first | (with_reducible first | exact wg | exact wh) | ((with_reducible first | apply wi | apply wj); focus (simp (discharger := omega) only [go_sem, tNode, simprocAttr]; with_reducible rfl)))); done)))
      exact (by simp (discharger := omega) only [go_sem, simprocAttr])
  · have e5 : nodeErr ⟨3, var, other, word, word2, num, coefs⟩ = 1 := by rw [e3, e1]; simp [isVar, q0]
    rw [e5]
    clear e1 e2 e3 e4 e5
    repeat' (first | (with_reducible first | apply w1 | apply w2 | apply w3 | apply w4 | apply w5 | apply w6 | apply w7 | apply w8 | apply w9 | apply wa | apply wb | apply wc) | ((with_reducible apply wd); focus decide) | ((with_reducible apply we); focus exact rfl) | ((with_reducible apply wf); focus exact rfl) | ((first | (with_reducible apply SW_run tt_ok hG htb) | ((with_reducible apply SW_draw rfl tt_ok hG htb); (focus kernel_rfl); focus simp only [List.range, List.range.loop, List.size_toArray, List.length_cons, List.length_nil, Nat.reduceAdd])); focus ((repeat' (first | (with_reducible first | exact wg | exact wh) | ((with_reducible first | apply wi | apply wj); focus (simp (discharger := omega) only [go_sem, tNode, simprocAttr]; with_reducible rfl)))); done)))
    exact (by simp (discharger := omega) only [go_sem, simprocAttr])
end
end Go.Proofs.YtcaopcpofepniaaDoor
namespace Go.Proofs.YtcaopcpofepniaaDoor
open Go.RowKit
section
variable {G : World → Prop} (hG : Lasting G)
include hG
set_option maxHeartbeats 8000000 in
set_option maxRecDepth 100000 in
theorem RNodeFault_4 (var other word word2 num : Int) (coefs : List Int) : Snd Tryd.prog G 55 [tNode ⟨4, var, other, word, word2, num, coefs⟩] (tInt (nodeErr ⟨4, var, other, word, word2, num, coefs⟩)) := by
  refine snd_of_body (n := 206) (tm := [(0, .t (tNode ⟨4, var, other, word, word2, num, coefs⟩))]) (rs := [.tmp 2]) tt_ok Tryd.func55 rfl rfl rfl rfl rfl ?_
  have htb : Tab.ok Tryd.prog G [] := Tab.nil
  refine SW_lenA (t := 0) (i := 6) rfl rfl fun hcl => ?_
  rw [List.length_map] at hcl
  have hcl : coefs.length ≤ 9223372036854775807 := hcl
  have e3 : nodeErr ⟨4, var, other, word, word2, num, coefs⟩ = if nodeOk ⟨4, var, other, word, word2, num, coefs⟩ = false then 1 else if nodeMore ⟨4, var, other, word, word2, num, coefs⟩ = true then 2 else if 0 < coefs.length ∧ coefs[coefs.length - 1]! = 0 then 2 else 0 := by unfold nodeErr; rw [if_neg (by simp only; omega)]
  have e1 : nodeOk ⟨4, var, other, word, word2, num, coefs⟩ = (isVar var && isVar other && decide (0 ≤ word) && decide (word < 3) && decide (0 ≤ word2) && decide (word2 < 3)) := by unfold nodeOk; simp
  have e2 : usedN ⟨4, var, other, word, word2, num, coefs⟩ = ⟨4, var, other, word, word2, 0, []⟩ := by unfold usedN; simp
  have e4 : nodeMore ⟨4, var, other, word, word2, num, coefs⟩ = (decide (num ≠ 0) || decide (coefs.length ≠ 0)) := by unfold nodeMore; rw [e2]; simp
  repeat' (first | (with_reducible first | apply w1 | apply w2 | apply w3 | apply w4 | apply w5 | apply w6 | apply w7 | apply w8 | apply w9 | apply wa | apply wb | apply wc) | ((with_reducible apply wd); focus decide) | ((with_reducible apply we); focus exact rfl) | ((with_reducible apply wf); focus exact rfl) | ((first | (with_reducible apply SW_run tt_ok hG htb) | ((with_reducible apply SW_draw rfl tt_ok hG htb); (focus kernel_rfl); focus simp only [List.range, List.range.loop, List.size_toArray, List.length_cons, List.length_nil, Nat.reduceAdd])); focus ((repeat' (first | (with_reducible first | exact wg | exact wh) | ((with_reducible first | apply wi | apply wj); focus (simp (discharger := omega) only [go_sem, tNode, simprocAttr]; with_reducible rfl)))); done)))
  refine SW_norm (Norm.headS (own := []) (keep := [1, 3, 4, 5]) (by refine ⟨?_, ?_⟩; (simp (discharger := omega) only [go_sem, simprocAttr]; with_reducible rfl); refine ⟨?_, ?_, ?_, ?_⟩ <;> (simp only [go_sem, simprocAttr]; with_reducible rfl))) ?_
  by_cases q0 : 0 ≤ var
  · skip
    by_cases q1 : var < 5
    · skip
      by_cases q2 : 0 ≤ other
      · skip
        by_cases q3 : other < 5
        · skip
          by_cases q4 : 0 ≤ word
          · skip
            by_cases q5 : word < 3
            · skip
              by_cases q6 : 0 ≤ word2
              · skip
                by_cases q7 : word2 < 3
                · skip
                  have hok : nodeOk ⟨4, var, other, word, word2, num, coefs⟩ = true := by rw [e1]; simp [isVar, q0, q1, q2, q3, q4, q5, q6, q7]
                  have e5 : nodeErr ⟨4, var, other, word, word2, num, coefs⟩ = if nodeMore ⟨4, var, other, word, word2, num, coefs⟩ = true then 2 else if 0 < coefs.length ∧ coefs[coefs.length - 1]! = 0 then 2 else 0 := by rw [e3, hok, if_neg (by decide)]
                  repeat' (first | (with_reducible first | apply w1 | apply w2 | apply w3 | apply w4 | apply w5 | apply w6 | apply w7 | apply w8 | apply w9 | apply wa | apply wb | apply wc) | ((with_reducible apply wd); focus decide) | ((with_reducible apply we); focus exact rfl) | ((with_reducible apply wf); focus exact rfl) | ((first | (with_reducible apply SW_run tt_ok hG htb) | ((with_reducible apply SW_draw rfl tt_ok hG htb); (focus kernel_rfl); focus simp only [List.range, List.range.loop, List.size_toArray, List.length_cons, List.length_nil, Nat.reduceAdd])); focus ((repeat' (first | (with_reducible first | exact wg | exact wh) | ((with_reducible first | apply wi | apply wj); focus (simp (discharger := omega) only [go_sem, tNode, simprocAttr]; with_reducible rfl)))); done)))
                  refine SW_norm (Norm.headS (own := []) (keep := [1, 3, 4, 5]) (by refine ⟨?_, ?_⟩; (simp (discharger := omega) only [go_sem, simprocAttr]; with_reducible rfl); refine ⟨?_, ?_, ?_, ?_⟩ <;> (simp only [go_sem, simprocAttr]; with_reducible rfl))) ?_
                  by_cases mnum : num = 0
                  · skip
                    by_cases mC : coefs.length = 0
                    · skip
                      have hmo : nodeMore ⟨4, var, other, word, word2, num, coefs⟩ = false := by rw [e4]; simp [mnum, mC]
                      rw [e5, hmo, if_neg (by decide)]
                      clear e1 e2 e3 e4 e5 hok hmo
                      subst mnum
                      rw [if_neg (by omega)]
                      repeat' (first | (with_reducible first | apply w1 | apply w2 | apply w3 | apply w4 | apply w5 | apply w6 | apply w7 | apply w8 | apply w9 | apply wa | apply wb | apply wc) | ((with_reducible apply wd); focus decide) | ((with_reducible apply we); focus exact rfl) | ((with_reducible apply wf); focus exact rfl) | ((first | (with_reducible apply SW_run tt_ok hG htb) | ((with_reducible apply SW_draw rfl tt_ok hG htb); (focus kernel_rfl); focus simp only [List.range, List.range.loop, List.size_toArray, List.length_cons, List.length_nil, Nat.reduceAdd])); focus ((repeat' (first | (with_reducible first | exact wg | exact wh) | ((with_reducible first | apply wi | apply wj); focus (simp (discharger := omega) only [go_sem, tNode, mC, simprocAttr]; with_reducible rfl)))); done)))
                      exact (by simp (discharger := omega) only [go_sem, simprocAttr])
                    · have hmo : nodeMore ⟨4, var, other, word, word2, num, coefs⟩ = true := by rw [e4]; simp [mC]
                      rw [e5, hmo, if_pos rfl]
                      clear e1 e2 e3 e4 e5 hok hmo
                      subst mnum
                      repeat' (first | (with_reducible first | apply w1 | apply w2 | apply w3 | apply w4 | apply w5 | apply w6 | apply w7 | apply w8 | apply w9 | apply wa | apply wb | apply wc) | ((with_reducible apply wd); focus decide) | ((with_reducible apply we); focus exact rfl) | ((with_reducible apply wf); focus exact rfl) | ((first | (with_reducible apply SW_run tt_ok hG htb) | ((with_reducible apply SW_draw rfl tt_ok hG htb); (focus kernel_rfl); focus simp only [List.range, List.range.loop, List.size_toArray, List.length_cons, List.length_nil, Nat.reduceAdd])); focus ((repeat' (first | (with_reducible first | exact wg | exact wh) | ((with_reducible first | apply wi | apply wj); focus (simp (discharger := omega) only [go_sem, tNode, mC, simprocAttr]; with_reducible rfl)))); done)))
                      exact (by simp (discharger := omega) only [go_sem, simprocAttr])
                  · have hmo : nodeMore ⟨4, var, other, word, word2, num, coefs⟩ = true := by rw [e4]; simp [mnum]
                    rw [e5, hmo, if_pos rfl]
                    clear e1 e2 e3 e4 e5 hok hmo
                    repeat' (first | (with_reducible first | apply w1 | apply w2 | apply w3 | apply w4 | apply w5 | apply w6 | apply w7 | apply w8 | apply w9 | apply wa | apply wb | apply wc) | ((with_reducible apply wd); focus decide) | ((with_reducible apply we); focus exact rfl) | ((with_reducible apply wf); focus exact rfl) | ((first | (with_reducible apply SW_run tt_ok hG htb) | ((with_reducible apply SW_draw rfl tt_ok hG htb); (focus kernel_rfl); focus simp only [List.range, List.range.loop, List.size_toArray, List.length_cons, List.length_nil, Nat.reduceAdd])); focus ((repeat' (first | (with_reducible first | exact wg | exact wh) | ((with_reducible first | apply wi | apply wj); focus (simp (discharger := omega) only [go_sem, tNode, mnum, simprocAttr]; with_reducible rfl)))); done)))
                    exact (by simp (discharger := omega) only [go_sem, simprocAttr])
                · have e5 : nodeErr ⟨4, var, other, word, word2, num, coefs⟩ = 1 := by rw [e3, e1]; simp [isVar, q7]
                  rw [e5]
                  clear e1 e2 e3 e4 e5
                  repeat' (first | (with_reducible first | apply w1 | apply w2 | apply w3 | apply w4 | apply w5 | apply w6 | apply w7 | apply w8 | apply w9 | apply wa | apply wb | apply wc) | ((with_reducible apply wd); focus decide) | ((with_reducible apply we); focus exact rfl) | ((with_reducible apply wf); focus exact rfl) | ((first | (with_reducible apply SW_run tt_ok hG htb) | ((with_reducible apply SW_draw rfl tt_ok hG htb); (focus kernel_rfl); focus simp only [List.range, List.range.loop, List.size_toArray, List.length_cons, List.length_nil, Nat.reduceAdd])); focus ((repeat' (first | (with_reducible first | exact wg | exact wh) | ((with_reducible first | apply wi | apply wj); focus (simp (discharger := omega) only [go_sem, tNode, simprocAttr]; with_reducible rfl)))); done)))
                  exact (by simp (discharger := omega) only [go_sem, simprocAttr])
              · have e5 : nodeErr ⟨4, var, other, word, word2, num, coefs⟩ = 1 := by rw [e3, e1]; simp [isVar, q6]
                rw [e5]
                clear e1 e2 e3 e4 e5
                repeat' (first | (with_reducible first | apply w1 | apply w2 | apply w3 | apply w4 | apply w5 | apply w6 | apply w7 | apply w8 | apply w9 | apply wa | apply wb | apply wc) | ((with_reducible apply wd); focus decide) | ((with_reducible apply we); focus exact rfl) | ((with_reducible apply wf); focus exact rfl) | ((first | (with_reducible apply SW_run tt_ok hG htb) | ((with_reducible apply SW_draw rfl tt_ok hG htb); (focus kernel_rfl); focus simp only [List.range, List.range.loop, List.size_toArray, List.length_cons, List.length_nil, Nat.reduceAdd])); focus ((repeat' (first | (with_reducible first | exact wg | exact wh) | ((with_reducible first | apply wi | apply wj); focus (simp (discharger := omega) only [go_sem, tNode, simprocAttr]; with_reducible rfl)))); done)))
                exact (by simp (discharger := omega) only [go_sem, simprocAttr])
            · have e5 : nodeErr ⟨4, var, other, word, word2, num, coefs⟩ = 1 := by rw [e3, e1]; simp [isVar, q5]
              rw [e5]
              clear e1 e2 e3 e4 e5
              repeat' (first | (with_reducible first | apply w1 | apply w2 | apply w3 | apply w4 | apply w5 | apply w6 | apply w7 | apply w8 | apply w9 | apply wa | apply wb | apply wc) | ((with_reducible apply wd); focus decide) | ((with_reducible apply we); focus exact rfl) | ((with_reducible apply wf); focus exact rfl) | ((first | (with_reducible apply SW_run tt_ok hG htb) | ((with_reducible apply SW_draw rfl tt_ok hG htb); (focus kernel_rfl); focus simp only [List.range, List.range.loop, List.size_toArray, List.length_cons, List.length_nil, Nat.reduceAdd])); focus ((repeat' (first | (with_reducible first | exact wg | exact wh) | ((with_reducible first | apply wi | apply wj); focus (simp (discharger := omega) only [go_sem, tNode, simprocAttr]; with_reducible rfl)))); done)))
              exact (by simp (discharger := omega) only [go_sem, simprocAttr])
          · have e5 : nodeErr ⟨4, var, other, word, word2, num, coefs⟩ = 1 := by rw [e3, e1]; simp [isVar, q4]
            rw [e5]
            clear e1 e2 e3 e4 e5
            repeat' (first | (with_reducible first | apply w1 | apply w2 | apply w3 | apply w4 | apply w5 | apply w6 | apply w7 | apply w8 | apply w9 | apply wa | apply wb | apply wc) | ((with_reducible apply wd); focus decide) | ((with_reducible apply we); focus exact rfl) | ((with_reducible apply wf); focus exact rfl) | ((first | (with_reducible apply SW_run tt_ok hG htb) | ((with_reducible apply SW_draw rfl tt_ok hG htb); (focus kernel_rfl); focus simp only [List.range, List.range.loop, List.size_toArray, List.length_cons, List.length_nil, Nat.reduceAdd])); focus ((repeat' (first | (with_reducible first | exact wg | exact wh) | ((with_reducible first | apply wi | apply wj); focus (simp (discharger := omega) only [go_sem, tNode, simprocAttr]; with_reducible rfl)))); done)))
            exact (by simp (discharger := omega) only [go_sem, simprocAttr])
        · have e5 : nodeErr ⟨4, var, other, word, word2, num, coefs⟩ = 1 := by rw [e3, e1]; simp [isVar, q3]
          rw [e5]
          clear e1 e2 e3 e4 e5
          repeat' (first | (with_reducible first | apply w1 | apply w2 | apply w3 | apply w4 | apply w5 | apply w6 | apply w7 | apply w8 | apply w9 | apply wa | apply wb | apply wc) | ((with_reducible apply wd); focus decide) | ((with_reducible apply we); focus exact rfl) | ((with_reducible apply wf); focus exact rfl) | ((first | (with_reducible apply SW_run tt_ok hG htb) | ((with_reducible apply SW_draw rfl tt_ok hG htb); (focus kernel_rfl); focus simp only [List.range, List.range.loop, List.size_toArray, List.length_cons, List.length_nil, Nat.reduceAdd])); focus ((repeat' (first | (with_reducible first | exact wg | exact wh) | ((with_reducible first | apply wi | apply wj); focus (simp (discharger := omega) only [go_sem, tNode, simprocAttr]; with_reducible rfl)))); done)))
          exact (by simp (discharger := omega) only [go_sem, simprocAttr])
      · have e5 : nodeErr ⟨4, var, other, word, word2, num, coefs⟩ = 1 := by rw [e3, e1]; simp [isVar, q2]
        rw [e5]
        clear e1 e2 e3 e4 e5
        repeat' (first | (with_reducible first | apply w1 | apply w2 | apply w3 | apply w4 | apply w5 | apply w6 | apply w7 | apply w8 | apply w9 | apply wa | apply wb | apply wc) | ((with_reducible apply wd); focus decide) | ((with_reducible apply we); focus exact rfl) | ((with_reducible apply wf); focus exact rfl) | ((first | (with_reducible apply SW_run tt_ok hG htb) | ((with_reducible apply SW_draw rfl tt_ok hG htb); (focus kernel_rfl); focus simp only [List.range, List.range.loop, List.size_toArray, List.length_cons, List.length_nil, Nat.reduceAdd])); focus ((repeat' (first | (with_reducible first | exact wg | exact wh) | ((with_reducible first | apply wi | apply wj); focus (simp (discharger := omega) only [go_sem, tNode, simprocAttr]; with_reducible rfl)))); done)))
        exact (by simp (discharger := omega) only [go_sem, simprocAttr])
    · have e5 : nodeErr ⟨4, var, other, word, word2, num, coefs⟩ = 1 := by rw [e3, e1]; simp [isVar, q1]
      rw [e5]
      clear e1 e2 e3 e4 e5
      repeat' (first | (with_reducible first | apply w1 | apply w2 | apply w3 | apply w4 | apply w5 | apply w6 | apply w7 | apply w8 | apply w9 | apply wa | apply wb | apply wc) | ((with_reducible apply wd); focus decide) | ((with_reducible apply we); focus exact rfl) | ((with_reducible apply wf); focus exact rfl) | ((first | (with_reducible apply SW_run tt_ok hG htb) | ((with_reducible apply SW_draw rfl tt_ok hG htb); (focus kernel_rfl); focus simp only [List.range, List.range.loop, List.size_toArray, List.length_cons, List.length_nil, Nat.reduceAdd])); focus ((repeat' (first | (with_reducible first | exact wg | exact wh) | ((with_reducible first | apply wi | apply wj); focus (simp (discharger := omega) only [go_sem, tNode, simprocAttr]; with_reducible rfl)))); done)))
      exact (by simp (discharger := omega) only [go_sem, simprocAttr])
  · have e5 : nodeErr ⟨4, var, other, word, word2, num, coefs⟩ = 1 := by rw [e3, e1]; simp [isVar, q0]
    rw [e5]
    clear e1 e2 e3 e4 e5
    repeat' (first | (with_reducible first | apply w1 | apply w2 | apply w3 | apply w4 | apply w5 | apply w6 | apply w7 | apply w8 | apply w9 | apply wa | apply wb | apply wc) | ((with_reducible apply wd); focus decide) | ((with_reducible apply we); focus exact rfl) | ((with_reducible apply wf); focus exact rfl) | ((first | (with_reducible apply SW_run tt_ok hG htb) | ((with_reducible apply SW_draw rfl tt_ok hG htb); (focus kernel_rfl); focus simp only [List.range, List.range.loop, List.size_toArray, List.length_cons, List.length_nil, Nat.reduceAdd])); focus ((repeat' (first | (with_reducible first | exact wg | exact wh) | ((with_reducible first | apply wi | apply wj); focus (simp (discharger := omega) only [go_sem, tNode, simprocAttr]; with_reducible rfl)))); done)))
    exact (by simp (discharger := omega) only [go_sem, simprocAttr])
end
end Go.Proofs.YtcaopcpofepniaaDoor
