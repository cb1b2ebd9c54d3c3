/- The law TurnIs returns true at every input and leaves its arguments as they read; the card ties the variable that errors.As reads. No conditions. -/
import Derived.Test.YthcclcbliedodaaDoorLay
import Derived.Test.YthcclcbliedodaaDoorM5
import Derived.Shelf.Slices.Clone
import Derived.Shelf.Spec.SlicesInsert
import Derived.Shelf.Spec.SlicesInsertGrow
import Derived.Ground.Names2Prog
import Derived.Lib.SmallJoins
set_option linter.unusedSimpArgs false
set_option linter.unusedVariables false
set_option linter.unnecessarySimpa false
set_option linter.unusedSectionVars false
namespace Go.Proofs.YthcclcbliedodaaDoor
open Go.RowKit

section
variable {G : World → Prop} (hG : Lasting G)
include hG
set_option maxHeartbeats 4000000 in
theorem RLetters_snd (base t : Int) : Snd Tryd.prog G 25 [tInt base, tInt t] (.tup [tInt (manyOf base t), tInt (manyErr base t)]) := by
  have htb := Tab.cons (RRadix_snd hG base) Tab.nil
  refine snd_of_body (n := 32) (tm := [(0, .t (tInt base)), (1, .t (tInt t))]) (rs := [.tmp 4, .tmp 5]) tt_ok Tryd.func25 rfl rfl rfl rfl rfl ?_
  unfold manyOf manyErr
  generalize hk : radix base = k at htb ⊢
  by_cases h1 : k = 0
  · subst h1
    repeat' (first | (with_reducible first | apply w1 | apply w2 | apply w3 | apply w4 | apply w5 | apply w6 | apply w7 | apply w8 | apply w9 | apply wa | apply wb | apply wc) | ((with_reducible apply wd); focus decide) | ((with_reducible apply we); focus exact rfl) | ((with_reducible apply wf); focus exact rfl) | ((first | (with_reducible apply SW_run tt_ok hG htb) | ((with_reducible apply SW_draw rfl tt_ok hG htb); (focus kernel_rfl); focus simp only [List.range, List.range.loop, List.size_toArray, List.length_cons, List.length_nil, Nat.reduceAdd])); focus ((repeat' (first | (with_reducible first | exact wg | exact wh) | ((with_reducible first | apply wi | apply wj); focus (simp (discharger := omega) only [go_sem, simprocAttr]; with_reducible rfl)))); done)))
    exact (by simp (discharger := omega) only [go_sem, simprocAttr])
  · by_cases h2 : t < 0
    · repeat' (first | (with_reducible first | apply w1 | apply w2 | apply w3 | apply w4 | apply w5 | apply w6 | apply w7 | apply w8 | apply w9 | apply wa | apply wb | apply wc) | ((with_reducible apply wd); focus decide) | ((with_reducible apply we); focus exact rfl) | ((with_reducible apply wf); focus exact rfl) | ((first | (with_reducible apply SW_run tt_ok hG htb) | ((with_reducible apply SW_draw rfl tt_ok hG htb); (focus kernel_rfl); focus simp only [List.range, List.range.loop, List.size_toArray, List.length_cons, List.length_nil, Nat.reduceAdd])); focus ((repeat' (first | (with_reducible first | exact wg | exact wh) | ((with_reducible first | apply wi | apply wj); focus (simp (discharger := omega) only [go_sem, simprocAttr]; with_reducible rfl)))); done)))
      exact (by simp (discharger := omega) only [go_sem, simprocAttr])
    · by_cases h3 : 5 < t
      · repeat' (first | (with_reducible first | apply w1 | apply w2 | apply w3 | apply w4 | apply w5 | apply w6 | apply w7 | apply w8 | apply w9 | apply wa | apply wb | apply wc) | ((with_reducible apply wd); focus decide) | ((with_reducible apply we); focus exact rfl) | ((with_reducible apply wf); focus exact rfl) | ((first | (with_reducible apply SW_run tt_ok hG htb) | ((with_reducible apply SW_draw rfl tt_ok hG htb); (focus kernel_rfl); focus simp only [List.range, List.range.loop, List.size_toArray, List.length_cons, List.length_nil, Nat.reduceAdd])); focus ((repeat' (first | (with_reducible first | exact wg | exact wh) | ((with_reducible first | apply wi | apply wj); focus (simp (discharger := omega) only [go_sem, simprocAttr]; with_reducible rfl)))); done)))
        exact (by simp (discharger := omega) only [go_sem, simprocAttr])
      · obtain ⟨r2, r6⟩ := radix_two (b := base) (by omega)
        rw [hk] at r2 r6
        obtain ⟨t, rfl⟩ := Int.eq_ofNat_of_zero_le (show 0 ≤ t by omega)
        rw [show (if k = 0 ∨ (t : Int) < 0 ∨ 5 < (t : Int) then (1 : Int) else if 36 < powW k (t : Int).toNat then 3 else 0) = if 36 < powW k t then 3 else 0 by rw [if_neg (by omega)]; rfl]
        repeat' (first | (with_reducible first | apply w1 | apply w2 | apply w3 | apply w4 | apply w5 | apply w6 | apply w7 | apply w8 | apply w9 | apply wa | apply wb | apply wc) | ((with_reducible apply wd); focus decide) | ((with_reducible apply we); focus exact rfl) | ((with_reducible apply wf); focus exact rfl) | ((first | (with_reducible apply SW_run tt_ok hG htb) | ((with_reducible apply SW_draw rfl tt_ok hG htb); (focus kernel_rfl); focus simp only [List.range, List.range.loop, List.size_toArray, List.length_cons, List.length_nil, Nat.reduceAdd])); focus ((repeat' (first | (with_reducible first | exact wg | exact wh) | ((with_reducible first | apply wi | apply wj); focus (simp (discharger := omega) only [go_sem, simprocAttr]; with_reducible rfl)))); done)))
        refine SW_loop (fun m s => ∃ i : Nat, m = t - i ∧ s = ⟨32, [(1, .t (tInt t)), (6, .t (tInt k)), (7, .t (tInt (powW k i))), (8, .t (tInt i))], []⟩ ∧ i ≤ t) t ⟨_, Norm.headS (own := []) (keep := [1, 6, 7, 8]) (by refine ⟨?_, ?_⟩; (simp (discharger := omega) only [go_sem, simprocAttr]; with_reducible rfl); refine ⟨?_, ?_, ?_, ?_⟩ <;> (simp only [go_sem, simprocAttr]; with_reducible rfl)), 0, rfl, rfl, Nat.zero_le _⟩ ?_
        rintro m s ⟨i, rfl, rfl, hi⟩
        have hb := powW_bd r2 r6 (j := i) (by omega)
        by_cases hlt : i < t
        · have hb1 : 1 ≤ powW k i * k ∧ powW k i * k ≤ 7776 := powW_bd r2 r6 (j := i + 1) (by omega)
          repeat' (first | (with_reducible first | apply w1 | apply w2 | apply w3 | apply w4 | apply w5 | apply w6 | apply w7 | apply w8 | apply w9 | apply wa | apply wb | apply wc) | ((with_reducible apply wd); focus decide) | ((with_reducible apply we); focus exact rfl) | ((with_reducible apply wf); focus exact rfl) | ((first | (with_reducible apply SW_run tt_ok hG htb) | ((with_reducible apply SW_draw rfl tt_ok hG htb); (focus kernel_rfl); focus simp only [List.range, List.range.loop, List.size_toArray, List.length_cons, List.length_nil, Nat.reduceAdd])); focus ((repeat' (first | (with_reducible first | exact wg | exact wh) | ((with_reducible first | apply wi | apply wj); focus (simp (discharger := omega) only [go_sem, simprocAttr]; with_reducible rfl)))); done)))
          exact ⟨t - (i + 1), _, by omega, Norm.headS (own := []) (keep := [1, 6, 7, 8]) (by refine ⟨?_, ?_⟩; (simp (discharger := omega) only [go_sem, simprocAttr]; with_reducible rfl); refine ⟨?_, ?_, ?_, ?_⟩ <;> (simp only [go_sem, simprocAttr]; with_reducible rfl)), i + 1, rfl, rfl, by omega⟩
        · obtain rfl : i = t := by omega
          by_cases h36 : 36 < powW k i
          · repeat' (first | (with_reducible first | apply w1 | apply w2 | apply w3 | apply w4 | apply w5 | apply w6 | apply w7 | apply w8 | apply w9 | apply wa | apply wb | apply wc) | ((with_reducible apply wd); focus decide) | ((with_reducible apply we); focus exact rfl) | ((with_reducible apply wf); focus exact rfl) | ((first | (with_reducible apply SW_run tt_ok hG htb) | ((with_reducible apply SW_draw rfl tt_ok hG htb); (focus kernel_rfl); focus simp only [List.range, List.range.loop, List.size_toArray, List.length_cons, List.length_nil, Nat.reduceAdd])); focus ((repeat' (first | (with_reducible first | exact wg | exact wh) | ((with_reducible first | apply wi | apply wj); focus (simp (discharger := omega) only [go_sem, simprocAttr]; with_reducible rfl)))); done)))
            exact (by simp (discharger := omega) only [go_sem, simprocAttr])
          · repeat' (first | (with_reducible first | apply w1 | apply w2 | apply w3 | apply w4 | apply w5 | apply w6 | apply w7 | apply w8 | apply w9 | apply wa | apply wb | apply wc) | ((with_reducible apply wd); focus decide) | ((with_reducible apply we); focus exact rfl) | ((with_reducible apply wf); focus exact rfl) | ((first | (with_reducible apply SW_run tt_ok hG htb) | ((with_reducible apply SW_draw rfl tt_ok hG htb); (focus kernel_rfl); focus simp only [List.range, List.range.loop, List.size_toArray, List.length_cons, List.length_nil, Nat.reduceAdd])); focus ((repeat' (first | (with_reducible first | exact wg | exact wh) | ((with_reducible first | apply wi | apply wj); focus (simp (discharger := omega) only [go_sem, simprocAttr]; with_reducible rfl)))); done)))
            exact (by simp (discharger := omega) only [go_sem, simprocAttr])
end
end Go.Proofs.YthcclcbliedodaaDoor
namespace Go.Proofs.YthcclcbliedodaaDoor
open Go.RowKit
section
variable {G : World → Prop} (hG : Lasting G)
include hG
set_option maxHeartbeats 4000000 in
theorem Fault_snd (a : GAuto) : Snd Tryd.prog G 7 [tAuto a] (tInt (autoFault a)) := by
  have htb := Tab.cons (RLetters_snd hG a.base a.tracks) Tab.nil
  refine snd_of_body (n := 76) (tm := [(0, .t (tAuto a))]) (rs := [.tmp 2]) tt_ok Tryd.func7 rfl rfl rfl rfl rfl ?_
  unfold autoFault
  by_cases h0 : manyErr a.base a.tracks = 0
  · rw [if_neg (by omega)]
    rw [h0] at htb
    have h36 := (many_ok h0).2.2.2.1
    rw [← (many_ok h0).2.2.2.2] at h36
    generalize hmo : manyOf a.base a.tracks = mo at *
    by_cases h1 : a.next.length = 0
    · repeat' (first | (with_reducible first | apply w1 | apply w2 | apply w3 | apply w4 | apply w5 | apply w6 | apply w7 | apply w8 | apply w9 | apply wa | apply wb | apply wc) | ((with_reducible apply wd); focus decide) | ((with_reducible apply we); focus exact rfl) | ((with_reducible apply wf); focus exact rfl) | ((first | (with_reducible apply SW_run tt_ok hG htb) | ((with_reducible apply SW_draw rfl tt_ok hG htb); (focus kernel_rfl); focus simp only [List.range, List.range.loop, List.size_toArray, List.length_cons, List.length_nil, Nat.reduceAdd])); focus ((repeat' (first | (with_reducible first | exact wg | exact wh) | ((with_reducible first | apply wi | apply wj); focus (simp (discharger := omega) only [go_sem, tAuto, simprocAttr]; with_reducible rfl)))); done)))
      exact (by simp (discharger := omega) only [go_sem, simprocAttr])
    · by_cases h2 : 80 < a.next.length
      · repeat' (first | (with_reducible first | apply w1 | apply w2 | apply w3 | apply w4 | apply w5 | apply w6 | apply w7 | apply w8 | apply w9 | apply wa | apply wb | apply wc) | ((with_reducible apply wd); focus decide) | ((with_reducible apply we); focus exact rfl) | ((with_reducible apply wf); focus exact rfl) | ((first | (with_reducible apply SW_run tt_ok hG htb) | ((with_reducible apply SW_draw rfl tt_ok hG htb); (focus kernel_rfl); focus simp only [List.range, List.range.loop, List.size_toArray, List.length_cons, List.length_nil, Nat.reduceAdd])); focus ((repeat' (first | (with_reducible first | exact wg | exact wh) | ((with_reducible first | apply wi | apply wj); focus (simp (discharger := omega) only [go_sem, tAuto, simprocAttr]; with_reducible rfl)))); done)))
        exact (by simp (discharger := omega) only [go_sem, simprocAttr])
      · by_cases h3 : a.ends.length = a.next.length
        · rw [if_neg h1, if_neg h2, if_neg (by omega)]
          repeat' (first | (with_reducible first | apply w1 | apply w2 | apply w3 | apply w4 | apply w5 | apply w6 | apply w7 | apply w8 | apply w9 | apply wa | apply wb | apply wc) | ((with_reducible apply wd); focus decide) | ((with_reducible apply we); focus exact rfl) | ((with_reducible apply wf); focus exact rfl) | ((first | (with_reducible apply SW_run tt_ok hG htb) | ((with_reducible apply SW_draw rfl tt_ok hG htb); (focus kernel_rfl); focus simp only [List.range, List.range.loop, List.size_toArray, List.length_cons, List.length_nil, Nat.reduceAdd])); focus ((repeat' (first | (with_reducible first | exact wg | exact wh) | ((with_reducible first | apply wi | apply wj); focus (simp (discharger := omega) only [go_sem, tAuto, h3, simprocAttr]; with_reducible rfl)))); done)))
          refine SW_loop (fun m s => ∃ i : Nat, m = a.next.length - i ∧ s = ⟨76, [(1, .bptr 0 0), (3, .t (tInt mo)), (5, .t (tInt i))], [.box [.t (tInt a.base), .t (tInt a.tracks), .t (tIntss a.next), .t (tBools a.ends)]]⟩ ∧ i ≤ a.next.length ∧ ∀ j (hj : j < a.next.length), j < i → (a.next[j].length : Int) = mo ∧ ∀ s ∈ a.next[j], 0 ≤ s ∧ s < (a.next.length : Int)) a.next.length
            ⟨_, Norm.headS (own := []) (keep := [1, 3, 5]) (by refine ⟨?_, ?_⟩; (simp (discharger := omega) only [go_sem, simprocAttr]; with_reducible rfl); refine ⟨?_, ?_, ?_, ?_⟩ <;> (simp only [go_sem, simprocAttr]; with_reducible rfl)), 0, rfl, rfl, Nat.zero_le _, fun j hj h => by omega⟩ ?_
          rintro m s ⟨i, rfl, rfl, hi, hA⟩
          by_cases hlt : i < a.next.length
          · obtain ⟨row, hrow⟩ : ∃ row, a.next[i]! = row := ⟨_, rfl⟩
            have hat := bang_at hrow hlt
            obtain ⟨f1, f2⟩ := rowsFault_at hlt hA
            rw [hat] at f1 f2
            by_cases hrl : (row.length : Int) = mo
            · repeat' (first | (with_reducible first | apply w1 | apply w2 | apply w3 | apply w4 | apply w5 | apply w6 | apply w7 | apply w8 | apply w9 | apply wa | apply wb | apply wc) | ((with_reducible apply wd); focus decide) | ((with_reducible apply we); focus exact rfl) | ((with_reducible apply wf); focus exact rfl) | ((first | (with_reducible apply SW_run tt_ok hG htb) | ((with_reducible apply SW_draw rfl tt_ok hG htb); (focus kernel_rfl); focus simp only [List.range, List.range.loop, List.size_toArray, List.length_cons, List.length_nil, Nat.reduceAdd])); focus ((repeat' (first | (with_reducible first | exact wg | exact wh) | ((with_reducible first | apply wi | apply wj); focus (simp (discharger := omega) only [go_sem, hrow, simprocAttr]; with_reducible rfl)))); done)))
              refine SW_loop (fun m s => ∃ l : Nat, m = row.length - l ∧ s = ⟨76, [(1, .bptr 0 0), (3, .t (tInt mo)), (5, .t (tInt i)), (6, .t (tInt l))], [.box [.t (tInt a.base), .t (tInt a.tracks), .t (tIntss a.next), .t (tBools a.ends)]]⟩ ∧ l ≤ row.length ∧ ∀ x ∈ row.take l, 0 ≤ x ∧ x < (a.next.length : Int)) row.length
                ⟨_, Norm.headS (own := []) (keep := [1, 3, 5, 6]) (by refine ⟨?_, ?_⟩; (simp (discharger := omega) only [go_sem, simprocAttr]; with_reducible rfl); refine ⟨?_, ?_, ?_, ?_⟩ <;> (simp only [go_sem, simprocAttr]; with_reducible rfl)), 0, rfl, rfl, Nat.zero_le _, fun x hx => by simp at hx⟩ ?_
              rintro m s ⟨l, rfl, rfl, hl, hB⟩
              by_cases hlt2 : l < row.length
              · obtain ⟨x, hx⟩ : ∃ x, row[l]! = x := ⟨_, rfl⟩
                have htk := take_next hx hlt2
                have hxm := bang_mem hx hlt2
                by_cases hx0 : 0 ≤ x
                · by_cases hxm2 : x < (a.next.length : Int)
                  · repeat' (first | (with_reducible first | apply w1 | apply w2 | apply w3 | apply w4 | apply w5 | apply w6 | apply w7 | apply w8 | apply w9 | apply wa | apply wb | apply wc) | ((with_reducible apply wd); focus decide) | ((with_reducible apply we); focus exact rfl) | ((with_reducible apply wf); focus exact rfl) | ((first | (with_reducible apply SW_run tt_ok hG htb) | ((with_reducible apply SW_draw rfl tt_ok hG htb); (focus kernel_rfl); focus simp only [List.range, List.range.loop, List.size_toArray, List.length_cons, List.length_nil, Nat.reduceAdd])); focus ((repeat' (first | (with_reducible first | exact wg | exact wh) | ((with_reducible first | apply wi | apply wj); focus (simp (discharger := omega) only [go_sem, hrow, hx, simprocAttr]; with_reducible rfl)))); done)))
                    exact ⟨row.length - (l + 1), _, by omega, Norm.headS (own := []) (keep := [1, 3, 5, 6]) (by refine ⟨?_, ?_⟩; (simp (discharger := omega) only [go_sem, simprocAttr]; with_reducible rfl); refine ⟨?_, ?_, ?_, ?_⟩ <;> (simp only [go_sem, simprocAttr]; with_reducible rfl)), l + 1, rfl, rfl, by omega, fun y hy => by
                      rw [htk] at hy
                      rcases List.mem_append.1 hy with h | h
                      · exact hB y h
                      · simp at h; subst h; exact ⟨hx0, hxm2⟩⟩
                  · rw [f2 hrl ⟨x, hxm, by omega⟩]
                    repeat' (first | (with_reducible first | apply w1 | apply w2 | apply w3 | apply w4 | apply w5 | apply w6 | apply w7 | apply w8 | apply w9 | apply wa | apply wb | apply wc) | ((with_reducible apply wd); focus decide) | ((with_reducible apply we); focus exact rfl) | ((with_reducible apply wf); focus exact rfl) | ((first | (with_reducible apply SW_run tt_ok hG htb) | ((with_reducible apply SW_draw rfl tt_ok hG htb); (focus kernel_rfl); focus simp only [List.range, List.range.loop, List.size_toArray, List.length_cons, List.length_nil, Nat.reduceAdd])); focus ((repeat' (first | (with_reducible first | exact wg | exact wh) | ((with_reducible first | apply wi | apply wj); focus (simp (discharger := omega) only [go_sem, hrow, hx, simprocAttr]; with_reducible rfl)))); done)))
                    exact (by simp (discharger := omega) only [go_sem, simprocAttr])
                · rw [f2 hrl ⟨x, hxm, by omega⟩]
                  repeat' (first | (with_reducible first | apply w1 | apply w2 | apply w3 | apply w4 | apply w5 | apply w6 | apply w7 | apply w8 | apply w9 | apply wa | apply wb | apply wc) | ((with_reducible apply wd); focus decide) | ((with_reducible apply we); focus exact rfl) | ((with_reducible apply wf); focus exact rfl) | ((first | (with_reducible apply SW_run tt_ok hG htb) | ((with_reducible apply SW_draw rfl tt_ok hG htb); (focus kernel_rfl); focus simp only [List.range, List.range.loop, List.size_toArray, List.length_cons, List.length_nil, Nat.reduceAdd])); focus ((repeat' (first | (with_reducible first | exact wg | exact wh) | ((with_reducible first | apply wi | apply wj); focus (simp (discharger := omega) only [go_sem, hrow, hx, simprocAttr]; with_reducible rfl)))); done)))
                  exact (by simp (discharger := omega) only [go_sem, simprocAttr])
              · obtain rfl : l = row.length := by omega
                rw [List.take_length] at hB
                repeat' (first | (with_reducible first | apply w1 | apply w2 | apply w3 | apply w4 | apply w5 | apply w6 | apply w7 | apply w8 | apply w9 | apply wa | apply wb | apply wc) | ((with_reducible apply wd); focus decide) | ((with_reducible apply we); focus exact rfl) | ((with_reducible apply wf); focus exact rfl) | ((first | (with_reducible apply SW_run tt_ok hG htb) | ((with_reducible apply SW_draw rfl tt_ok hG htb); (focus kernel_rfl); focus simp only [List.range, List.range.loop, List.size_toArray, List.length_cons, List.length_nil, Nat.reduceAdd])); focus ((repeat' (first | (with_reducible first | exact wg | exact wh) | ((with_reducible first | apply wi | apply wj); focus (simp (discharger := omega) only [go_sem, simprocAttr]; with_reducible rfl)))); done)))
                exact ⟨a.next.length - (i + 1), _, by omega, Norm.headS (own := []) (keep := [1, 3, 5]) (by refine ⟨?_, ?_⟩; (simp (discharger := omega) only [go_sem, simprocAttr]; with_reducible rfl); refine ⟨?_, ?_, ?_, ?_⟩ <;> (simp only [go_sem, simprocAttr]; with_reducible rfl)), i + 1, rfl, rfl, by omega, fun j hj h => by
                  by_cases e : j = i
                  · subst e; rw [hat]; exact ⟨hrl, hB⟩
                  · exact hA j hj (by omega)⟩
            · rw [f1 hrl]
              repeat' (first | (with_reducible first | apply w1 | apply w2 | apply w3 | apply w4 | apply w5 | apply w6 | apply w7 | apply w8 | apply w9 | apply wa | apply wb | apply wc) | ((with_reducible apply wd); focus decide) | ((with_reducible apply we); focus exact rfl) | ((with_reducible apply wf); focus exact rfl) | ((first | (with_reducible apply SW_run tt_ok hG htb) | ((with_reducible apply SW_draw rfl tt_ok hG htb); (focus kernel_rfl); focus simp only [List.range, List.range.loop, List.size_toArray, List.length_cons, List.length_nil, Nat.reduceAdd])); focus ((repeat' (first | (with_reducible first | exact wg | exact wh) | ((with_reducible first | apply wi | apply wj); focus (simp (discharger := omega) only [go_sem, hrow, simprocAttr]; with_reducible rfl)))); done)))
              exact (by simp (discharger := omega) only [go_sem, simprocAttr])
          · obtain rfl : i = a.next.length := by omega
            rw [rowsFault_zero.2 fun r hr => by obtain ⟨j, hj, rfl⟩ := List.mem_iff_getElem.1 hr; exact hA j hj hj]
            repeat' (first | (with_reducible first | apply w1 | apply w2 | apply w3 | apply w4 | apply w5 | apply w6 | apply w7 | apply w8 | apply w9 | apply wa | apply wb | apply wc) | ((with_reducible apply wd); focus decide) | ((with_reducible apply we); focus exact rfl) | ((with_reducible apply wf); focus exact rfl) | ((first | (with_reducible apply SW_run tt_ok hG htb) | ((with_reducible apply SW_draw rfl tt_ok hG htb); (focus kernel_rfl); focus simp only [List.range, List.range.loop, List.size_toArray, List.length_cons, List.length_nil, Nat.reduceAdd])); focus ((repeat' (first | (with_reducible first | exact wg | exact wh) | ((with_reducible first | apply wi | apply wj); focus (simp (discharger := omega) only [go_sem, simprocAttr]; with_reducible rfl)))); done)))
            exact (by simp (discharger := omega) only [go_sem, simprocAttr])
        · repeat' (first | (with_reducible first | apply w1 | apply w2 | apply w3 | apply w4 | apply w5 | apply w6 | apply w7 | apply w8 | apply w9 | apply wa | apply wb | apply wc) | ((with_reducible apply wd); focus decide) | ((with_reducible apply we); focus exact rfl) | ((with_reducible apply wf); focus exact rfl) | ((first | (with_reducible apply SW_run tt_ok hG htb) | ((with_reducible apply SW_draw rfl tt_ok hG htb); (focus kernel_rfl); focus simp only [List.range, List.range.loop, List.size_toArray, List.length_cons, List.length_nil, Nat.reduceAdd])); focus ((repeat' (first | (with_reducible first | exact wg | exact wh) | ((with_reducible first | apply wi | apply wj); focus (simp (discharger := omega) only [go_sem, tAuto, h3, simprocAttr]; with_reducible rfl)))); done)))
          exact (by simp (discharger := omega) only [go_sem, h3, simprocAttr])
  · generalize manyErr a.base a.tracks = e at *
    repeat' (first | (with_reducible first | apply w1 | apply w2 | apply w3 | apply w4 | apply w5 | apply w6 | apply w7 | apply w8 | apply w9 | apply wa | apply wb | apply wc) | ((with_reducible apply wd); focus decide) | ((with_reducible apply we); focus exact rfl) | ((with_reducible apply wf); focus exact rfl) | ((first | (with_reducible apply SW_run tt_ok hG htb) | ((with_reducible apply SW_draw rfl tt_ok hG htb); (focus kernel_rfl); focus simp only [List.range, List.range.loop, List.size_toArray, List.length_cons, List.length_nil, Nat.reduceAdd])); focus ((repeat' (first | (with_reducible first | exact wg | exact wh) | ((with_reducible first | apply wi | apply wj); focus (simp (discharger := omega) only [go_sem, tAuto, h0, simprocAttr]; with_reducible rfl)))); done)))
    exact (by simp (discharger := omega) only [go_sem, h0, simprocAttr])
end
end Go.Proofs.YthcclcbliedodaaDoor
namespace Go.Proofs.YthcclcbliedodaaDoor
open Go.RowKit

def single (n : Nat) : List (List Int) := (List.range n).map fun (l : Nat) => [(l : Int)]
theorem single_at {n l : Nat} (h : l < n) : (single n)[l]! = [(l : Int)] := by
  rw [getElem!_pos (single n) l (by simp [single]; exact h)]
  simp [single]
section
variable {G : World → Prop} (hG : Lasting G)
include hG
end
end Go.Proofs.YthcclcbliedodaaDoor
namespace Go.Proofs.YthcclcbliedodaaDoor
open Go.RowKit

section
variable {G : World → Prop} (hG : Lasting G)
include hG
end
end Go.Proofs.YthcclcbliedodaaDoor
namespace Go.Proofs.YthcclcbliedodaaDoor

def walkOk (c : Nat → Nat → Bool) : Nat → List Nat → Bool
  | _, [] => true
  | s, l :: w => !c s l && walkOk c l w
def chain (c : Nat → Nat → Bool) : List Nat → Bool
  | [] => true
  | x :: w => walkOk c x w
/-- Two letters that have a digit 1 on the same track, in base Fib. -/
def clash (base : Int) (t s l : Nat) : Bool := base == 1 && (List.range t).any fun k => digitAt (radix base) t (s : Int) k == 1 && digitAt (radix base) t (l : Int) k == 1
end Go.Proofs.YthcclcbliedodaaDoor
namespace Go.Proofs.YthcclcbliedodaaDoor
open Go.RowKit

section
variable {G : World → Prop} (hG : Lasting G)
include hG
end
end Go.Proofs.YthcclcbliedodaaDoor
namespace Go.Proofs.YthcclcbliedodaaDoor
open Go.RowKit

def stepW (next : List (List Int)) (W : List (List Int)) (s : List Int) (l : Nat) : List Int := s.flatMap fun x => (W[l]!).map fun k => nx next x k.toNat
section
variable {G : World → Prop} (hG : Lasting G)
include hG
end
end Go.Proofs.YthcclcbliedodaaDoor
namespace Go.Proofs.YthcclcbliedodaaDoor
open Go.RowKit

section
variable {P : Program} {G : World → Prop} {κ : Type} {tt : Nat → Option TI} {tb : Tab} {K : St → (κ → Option HR) → Prop} {Q : Exit → St → (κ → Option HR) → Prop} {st : St} {g : κ → Option HR} {i id : Nat}
theorem HThen_n (h : K st g) : HThen K Q .normal st g := h
theorem HThen_r (h : Q .ret st g) : HThen K Q .ret st g := h
theorem HThen_e (h : Q (.exit i) st g) : HThen K Q (.exit i) st g := h
theorem HIn_n (h : Q .normal st g) : HIn id Q .normal st g := h
theorem HIn_r (h : Q .ret st g) : HIn id Q .ret st g := h
theorem HIn_eq (h : Q .normal st g) : HIn id Q (.exit id) st g := by simp [HIn, h]
theorem HIn_ne (hne : i ≠ id) (h : Q (.exit i) st g) : HIn id Q (.exit i) st g := by simp [HIn, hne, h]
theorem HW_run (hT : TTok P tt) (hGl : Lasting G) (htb : Tab.ok P G tb) {id : Nat} {l : List Oper} {st st' : St} {g : κ → Option HR} (h : runX tt tb l.toArray l st = some st') (hq : Q .normal st' g) : HW P G (.region id l.toArray false) Q st g :=
  HW_sw (SW_run hT hGl htb h hq)
theorem HW_draw (hm : P.follows .mixedOrders = true) (hT : TTok P tt) (hGl : Lasting G) (htb : Tab.ok P G tb) {id : Nat} {ops : Array Oper} (htopo : topoB ops = true) {s t : St} {g : κ → Option HR} (h : runI tt tb ops (List.range ops.size) s = some t) (hq : Q .normal t g) : HW P G (.region id ops true) Q s g :=
  HW_sw (SW_draw hm hT hGl htb htopo h hq)
end
theorem v1 : type_of% @HW_seq := @HW_seq
theorem v2 : type_of% @HW_block := @HW_block
theorem v3 : type_of% @HThen_n := @HThen_n
theorem v4 : type_of% @HThen_r := @HThen_r
theorem v5 : type_of% @HThen_e := @HThen_e
theorem v6 : type_of% @HIn_n := @HIn_n
theorem v7 : type_of% @HIn_r := @HIn_r
theorem v8 : type_of% @HIn_eq := @HIn_eq
theorem v9 : type_of% @HW_skip := @HW_skip
theorem va : type_of% @HW_exit := @HW_exit
theorem vb : type_of% @HW_ret := @HW_ret
theorem vc : type_of% @SPost_r := @SPost_r
theorem vd : type_of% @HIn_ne := @HIn_ne
theorem ve : type_of% @HW_true := @HW_true
theorem vf : type_of% @HW_false := @HW_false
/-- The types, a nil []int being told as its header. -/
def ttR (t : Nat) : Option TI := if t = 35 then some ⟨.slice 3, 1, 24, [.t (.raw none 0 0)], false⟩ else tt t
attribute [go_sem] ttR
theorem ttR_ok : TTok Tryd.prog ttR := fun t i h => by
  unfold ttR at h
  split at h
  · rename_i e
    subst e
    cases h
    have k := tt_ok 35 ⟨.slice 3, 1, 24, [.nil], false⟩ rfl
    obtain ⟨inf, i1, i2, i3, z, i4, i5, i6, i7, i8⟩ := k.info
    refine ⟨⟨inf, i1, i2, i3, z, i4, i5, rfl, fun q x v h1 h2 => ?_, i8⟩, k.pos, k.says, fun h => by cases h⟩
    match q, h1 with
    | 0, h1 =>
      cases h1
      have := i7 0 .nil v rfl h2
      unfold zm at this
      split at this <;> first | rfl | (cases this; done) | (simp_all; done) | skip
  · exact tt_ok t i h
end Go.Proofs.YthcclcbliedodaaDoor
namespace Go.Proofs.YthcclcbliedodaaDoor
open Go.RowKit

/-- At each letter of what is left the letters with a digit more. -/
def withR (base : Int) (t k l : Nat) : List Int := (List.range (radix base).toNat).map fun x : Nat => fixL base t k x l
def withW (base : Int) (t k : Nat) : List (List Int) := (List.range (manyOf base (t : Int)).toNat).map (withR base t k)
def leftW (a : GAuto) (track : Int) : List (List Int) := withW a.base (a.tracks - 1).toNat track.toNat
def leftN (a : GAuto) : Nat := (manyOf a.base (((a.tracks - 1).toNat : Nat) : Int)).toNat
noncomputable def leftF (a : GAuto) (track : Int) : List Int := closeL (leastA a) ((leftW a track)[0]!)
def leftBad (a : GAuto) (track : Int) : Prop := autoFault a ≠ 0 ∨ track < 0 ∨ a.tracks ≤ track
open Classical in
noncomputable def leftS (a : GAuto) (track : Int) : List (List Int) := if leftBad a track then [] else growSets (stepW (leastA a).next (leftW a track)) (leftN a) (leftF a track)
open Classical in
noncomputable def leftR (a : GAuto) (track : Int) : List (List Int) := if leftBad a track then [] else growRows (stepW (leastA a).next (leftW a track)) (leftN a) (leftF a track)
/-- What is known where nothing is wrong. -/
structure LeftOk (a : GAuto) (k t N nW r : Nat) : Prop where
  good : Good a N a.next.length
  tr : a.tracks = ((t + 1 : Nat) : Int)
  kt : k ≤ t
  t4 : t ≤ 4
  rad : radix a.base = (r : Int)
  r2 : 2 ≤ r
  r6 : r ≤ 6
  many : manyErr a.base (t : Int) = 0
  nWe : manyOf a.base (t : Int) = (nW : Int)
  nW0 : 0 < nW
  nW36 : nW ≤ 36
  N_eq : (N : Int) = powW (radix a.base) (t + 1)
/-- Rows of hidden rows, and what they hold. -/
def HdrInv (g : Nat → Option HR) (ws : List T) (n : Nat) (cont : Nat → List Int) : Prop := ws.length = n ∧ ∀ j, j < n → HdrOk g j 3 1 (iL (cont j)) (ws[j]!)
theorem HdrInv.init (n : Nat) : HdrInv (fun _ => none) (List.replicate n (.raw none 0 0)) n (fun _ => []) :=
  ⟨List.length_replicate, fun j hj => .inl ⟨rfl, rfl, by rw [getElem!_pos _ _ (by rw [List.length_replicate]; exact hj), List.getElem_replicate]⟩⟩
theorem HdrInv.congr {g : Nat → Option HR} {ws : List T} {n : Nat} {cont cont' : Nat → List Int} (h : HdrInv g ws n cont) (he : ∀ j, j < n → cont' j = cont j) : HdrInv g ws n cont' :=
  ⟨h.1, fun j hj => by rw [he j hj]; exact h.2 j hj⟩
theorem HdrInv.step {g : Nat → Option HR} {ws : List T} {n : Nat} {cont cont' : Nat → List Int} (h : HdrInv g ws n cont) {l : Nat} (hl : l < n) (v : Int) (c : Option Addr × Nat × Nat) (h1 : cont' l = cont l ++ [v]) (h2 : ∀ j, j ≠ l → j < n → cont' j = cont j) :
    HdrInv (upd g l (some ⟨c.1, c.2.1, c.2.2, 3, 1, iL (cont l) ++ [.int .i64 v]⟩)) (ws.set l (.raw c.1 c.2.1 c.2.2)) n cont' := by
  refine ⟨by rw [List.length_set]; exact h.1, fun j hj => ?_⟩
  have hlen := h.1
  have hg : (ws.set l (T.raw c.1 c.2.1 c.2.2))[j]! = if l = j then T.raw c.1 c.2.1 c.2.2 else ws[j]! := by
    rw [getElem!_pos _ _ (by rw [List.length_set]; omega), List.getElem_set]
    split
    · rfl
    · rw [getElem!_pos _ _ (by omega)]
  rw [hg]
  by_cases e : l = j
  · subst e
    rw [if_pos rfl, h1]
    refine .inr ⟨⟨c.1, c.2.1, c.2.2, 3, 1, iL (cont l) ++ [.int .i64 v]⟩, by simp [upd], rfl, rfl, by simp [iL], rfl⟩
  · rw [if_neg e, h2 j (fun q => e q.symm) hj]
    have e2 : upd g l (some ⟨c.1, c.2.1, c.2.2, 3, 1, iL (cont l) ++ [.int .i64 v]⟩) j = g j := by
      show (if j = l then _ else g j) = g j
      rw [if_neg fun q => e q.symm]
    rcases h.2 j hj with ⟨q1, q2, q3⟩ | ⟨r, q1, q2, q3, q4, q5⟩
    · exact .inl ⟨by rw [e2]; exact q1, q2, q3⟩
    · exact .inr ⟨r, by rw [e2]; exact q1, q2, q3, q4, q5⟩
theorem HdrInv.opens {g : Nat → Option HR} {ws : List T} {n : Nat} {W : List (List Int)} (h : HdrInv g ws n (fun j => W[j]!)) (hW : W.length = n) (hne : ∀ r ∈ W, r ≠ []) : (W.map tInts).length = ws.length ∧ ∀ (i : Nat) (y y' : T), ws[i]? = some y → (W.map tInts)[i]? = some y' → OpenH g y y' := by
  refine ⟨by rw [List.length_map, h.1, hW], fun i y y' h1 h2 => ?_⟩
  obtain ⟨hi, e1⟩ := List.getElem?_eq_some_iff.1 h1
  have hin : i < n := by rw [← h.1]; exact hi
  have ey : ws[i]! = y := by rw [getElem!_pos ws i hi, e1]
  rw [List.getElem?_map, Option.map_eq_some_iff] at h2
  obtain ⟨r, hr, rfl⟩ := h2
  have er : W[i]! = r := by
    obtain ⟨q1, q2⟩ := List.getElem?_eq_some_iff.1 hr
    rw [getElem!_pos W i q1, q2]
  have hk := h.2 i hin
  simp only [er, ey] at hk
  rcases hk with ⟨_, q2, _⟩ | ⟨q, q1, _, _, q4, rfl⟩
  · exfalso
    exact hne r (List.mem_of_getElem? hr) (List.eq_nil_of_length_eq_zero (by have := congrArg List.length q2; rw [iL_length] at this; exact this))
  · exact .raw i q (iL r) q1 (by rw [q4]) fun k y z e1 e2 => by
      rw [q4, e2] at e1
      cases e1
      exact .refl _
end Go.Proofs.YthcclcbliedodaaDoor
namespace Go.Proofs.YthcclcbliedodaaDoor
open Go.RowKit

section
variable {G : World → Prop} (hG : Lasting G)
include hG
end
end Go.Proofs.YthcclcbliedodaaDoor
namespace Go.Proofs
open Go.Shelf
end Go.Proofs
namespace Go.Proofs.YthcclcbliedodaaDoor
open Go.RowKit Go.Lib

section
variable {P : Program} {C : Ctx} {hd : List Hd} {w w' : World} {e : Nat} {l ys : List Int}
end
section
variable {G : World → Prop}
/-- What a call hands back, in another form. -/
theorem SndG.post {P : Program} {f : Nat} {xs : List SV} {obs obs' obs'' : List Ob} {r r' : SV} {tm : List (Nat × SV)} (h : SndG P G f xs obs [] r obs') (hlen : obs.length ≤ obs''.length) (hbox : ∀ (i : Nat) (l : List SV), obs[i]? ≠ some (.box l)) (hl : look tm 0 = some r') (hn : Norm ⟨1, [(0, r)], obs'⟩ ⟨1, tm, obs''⟩) : SndG P G f xs obs [] r' obs'' :=
  ⟨h.enter, hlen, fun i l q => (hbox i l q).elim, fun C hd w vs hG hr hvs hrep => (h.calls C hd w vs hG hr hvs hrep).mono fun e w' ⟨v, hd', e1, h1, _, _, h2⟩ => by
    have hr1 : StR C ⟨1, [(0, r)], obs'⟩ hd' { tmps := #[v], defers := [] } w' := ⟨h1.below, rfl, rfl, h1.hl, h1.ob, h1.own, h1.dist, fun t y hy => (by
      simp only [look] at hy
      split at hy
      · rename_i e; subst e; cases hy; exact h2
      · cases hy), h1.ext⟩
    obtain ⟨hd2, hr2⟩ := hn C hd' _ w' hr1
    exact ⟨v, hd2, e1, ⟨hr2.below, rfl, rfl, hr2.hl, hr2.ob, hr2.own, hr2.dist, fun t y hy => by simp [look] at hy, hr2.ext⟩, fun i l b q => (hbox i l q).elim, fun i hi => by simp at hi, hr2.sl 0 r' hl⟩⟩
end
end Go.Proofs.YthcclcbliedodaaDoor
namespace Go.Proofs.YthcclcbliedodaaDoor
open Go.RowKit

section
variable {G : World → Prop} (hG : Lasting G)
include hG
end
end Go.Proofs.YthcclcbliedodaaDoor
namespace Go.Proofs.YthcclcbliedodaaDoor
open Go.RowKit

section
variable {G : World → Prop} (hG : Lasting G)
include hG
end
end Go.Proofs.YthcclcbliedodaaDoor
namespace Go.Proofs.YthcclcbliedodaaDoor
open Go.RowKit

/-- What is known where nothing is wrong. -/
structure LeftIs (a : GAuto) (k t N nW r m : Nat) : Prop where
  ok : LeftOk a k t N nW r
  M : Good (leastA a) N m
  Wlen : (withW a.base t k).length = nW
  Wrow : ∀ w ∈ withW a.base t k, w.length = r ∧ ∀ x ∈ w, 0 ≤ x ∧ x < (N : Int)
  W : leftW a (k : Int) = withW a.base t k
  n : leftN a = nW
  first : Inm m (closeL (leastA a) ((withW a.base t k)[0]!))
  F : leftF a (k : Int) = closeL (leastA a) ((withW a.base t k)[0]!)
  len : (leftR a k).length = (leftS a k).length
  pos : 0 < (leftS a k).length
  few : (leftS a k).length ≤ 2000
  rows : Rows0 nW (leftS a k).length (leftR a k)
  sets : ∀ s ∈ leftS a k, Inm m s ∧ s.Pairwise (· < ·)
  gok : growOk (stepW (leastA a).next (withW a.base t k)) nW (closeL (leastA a) ((withW a.base t k)[0]!)) = true
  expl : Expl (nextD (stepW (leastA a).next (withW a.base t k))) nW (leftS a k) (leftR a k)
  start : (leftS a k)[0]! = canonL (closeL (leastA a) ((withW a.base t k)[0]!))
section
variable {G : World → Prop} (hG : Lasting G)
include hG
end
end Go.Proofs.YthcclcbliedodaaDoor
namespace Go.Proofs.YthcclcbliedodaaDoor
open Go.RowKit

section
variable {G : World → Prop} (hG : Lasting G)
include hG
end
end Go.Proofs.YthcclcbliedodaaDoor
namespace Go.Proofs.YthcclcbliedodaaDoor

/-- The least rows and ends of a language. -/
noncomputable def leastL (n : Nat) (L : List Nat → Bool) : List (List Int) × List Bool := open Classical in if h : ∃ p : List (List Int) × List Bool, Least n p.1 p.2 L then Classical.choose h else ([], [])
theorem leastL_eq {n : Nat} {N : List (List Int)} {E : List Bool} {L : List Nat → Bool} (h : Least n N E L) : leastL n L = (N, E) := by
  have hx : ∃ p : List (List Int) × List Bool, Least n p.1 p.2 L := ⟨(N, E), h⟩
  unfold leastL
  rw [dif_pos hx]
  have := (Classical.choose_spec hx).unique h
  exact Prod.ext this.1 this.2
/-- Some table takes this language. -/
def Regular (n : Nat) (L : List Nat → Bool) : Prop := ∃ N E, Least n N E L
theorem Regular.of {n m : Nat} {next : List (List Int)} {ends : List Bool} {L : List Nat → Bool} (hR : Rows0 n m next) (hm : 0 < m) (h : ∀ w, Ltr n w → lang next ends 0 w = L w) : Regular n L :=
  ⟨_, _, (leastRE_spec (ends := ends) hR hm).1.lang_congr h⟩
theorem Regular.least {n : Nat} {L : List Nat → Bool} (h : Regular n L) : Least n (leastL n L).1 (leastL n L).2 L := by
  obtain ⟨N, E, h⟩ := h
  rw [leastL_eq h]; exact h
/-- A least automaton has no more states than words have kinds. -/
theorem Least.bound {n : Nat} {N : List (List Int)} {E : List Bool} {L : List Nat → Bool} (h : Least n N E L) (K : Nat) (κ : List Nat → Nat) (hκ : ∀ v, Ltr n v → κ v < K)
    (hres : ∀ v w, Ltr n v → Ltr n w → κ v = κ w → ∀ x, Ltr n x → L (v ++ x) = L (w ++ x)) : N.length ≤ K := by
  have hreach : ∀ k s, s ≤ k → s < N.length → ∃ v, Ltr n v ∧ runN (fun k l => ((N.getD k []).getD l 0).toNat) 0 v = s := by
    intro k
    induction k with
    | zero => intro s hs _; exact ⟨[], fun _ h => by simp at h, by rw [show s = 0 by omega]; rfl⟩
    | succ k ih =>
      intro s hs hlt
      by_cases h0 : s = 0
      · subst h0; exact ⟨[], fun _ h => by simp at h, rfl⟩
      · obtain ⟨q, l, hq, hl, e⟩ := h.canon.reach s (by omega) hlt
        obtain ⟨v, hv, ev⟩ := ih q (by omega) (by omega)
        refine ⟨v ++ [l], fun x hx => ?_, ?_⟩
        · rcases List.mem_append.1 hx with hx | hx
          · exact hv x hx
          · simp at hx; subst hx; exact hl
        · unfold runN at ev ⊢
          rw [List.foldl_append, ev]; exact e
  have hr : ∀ s, ∃ v, s < N.length → Ltr n v ∧ runN (fun k l => ((N.getD k []).getD l 0).toNat) 0 v = s := fun s => by
    by_cases hs : s < N.length
    · obtain ⟨v, hv⟩ := hreach s s (Nat.le_refl _) hs
      exact ⟨v, fun _ => hv⟩
    · exact ⟨[], fun h => (hs h).elim⟩
  obtain ⟨f, hf⟩ := Classical.axiomOfChoice hr
  have := nodup_boundN K ((List.range N.length).map fun s => κ (f s)) (by
    refine List.pairwise_map.2 (List.nodup_range.imp_of_mem fun {s q} hs hq hne e => hne ?_)
    have hs := List.mem_range.1 hs
    have hq := List.mem_range.1 hq
    obtain ⟨h1, h2⟩ := hf s hs
    obtain ⟨h3, h4⟩ := hf q hq
    refine h.canon.red s q hs hq fun x hx => ?_
    have := hres _ _ h1 h3 e x hx
    have app : ∀ v, Ltr n v → Ltr n (v ++ x) := fun v hv y hy => by
      rcases List.mem_append.1 hy with hy | hy
      · exact hv y hy
      · exact hx y hy
    rw [← h.canon.lang _ (app _ h1), ← h.canon.lang _ (app _ h3)] at this
    unfold runN at this h2 h4 ⊢
    rw [List.foldl_append, List.foldl_append, h2, h4] at this
    exact this) fun k hk => by
      obtain ⟨s, hs, rfl⟩ := List.mem_map.1 hk
      exact hκ _ (hf s (List.mem_range.1 hs)).1
  simpa using this

section
variable {base : Int} {t n m : Nat} {next : List (List Int)} {ends : List Bool}
end

section
variable {k m : Nat} {next : List (List Int)}
end

section
variable {A B : List (List Int)} {f g : Nat → Nat} {n n1 n2 ma mb : Nat}
end
end Go.Proofs.YthcclcbliedodaaDoor
namespace Go.Proofs.YthcclcbliedodaaDoor
open Go.RowKit

/-- A word of all tracks that reads as one of what is left. -/
inductive Fill (W : List (List Int)) : List Nat → List Nat → Prop
  | nil : Fill W [] []
  | cons {k l : Nat} {v w : List Nat} (h : ((k : Nat) : Int) ∈ W[l]!) (t : Fill W v w) : Fill W (k :: v) (l :: w)
theorem bang_in {W : List (List Int)} {l : Nat} {k : Int} (h : k ∈ W[l]!) : ∃ r ∈ W, k ∈ r ∧ W[l]? = some r := by
  by_cases hl : l < W.length
  · exact ⟨_, bang_mem rfl hl, h, bang_get rfl hl⟩
  · rw [getElem!_neg W l hl] at h
    cases h
theorem Fill.ltr {W : List (List Int)} {N : Nat} (hW : ∀ r ∈ W, ∀ k ∈ r, 0 ≤ k ∧ k < (N : Int)) {v w : List Nat} (h : Fill W v w) : Ltr N v := by
  induction h with
  | nil => intro x hx; cases hx
  | cons h t ih =>
    intro x hx
    rcases List.mem_cons.1 hx with rfl | hx
    · obtain ⟨r, h1, h2, _⟩ := bang_in h
      have := hW r h1 _ h2
      omega
    · exact ih x hx
section
variable {next W : List (List Int)}
theorem runS_append (w v : List Nat) (s : Int) : runS next s (w ++ v) = runS next (runS next s w) v := List.foldl_append
end
theorem bool_iff {a b : Bool} (h : a = true ↔ b = true) : a = b := by
  cases a <;> cases b <;> simp_all
end Go.Proofs.YthcclcbliedodaaDoor
namespace Go.Proofs.YthcclcbliedodaaDoor
open Go.RowKit

section
variable {base : Int} {t j : Nat}
end
section
variable {a : GAuto} {k t N nW r : Nat}
end
/-- 0s ahead do not matter. -/
def Closed (n : Nat) (L : List Nat → Bool) : Prop := ∀ w, Ltr n w → L (0 :: w) = L w
theorem Closed.congr {n : Nat} {L L' : List Nat → Bool} (hn : 0 < n) (h : Closed n L) (he : ∀ w, Ltr n w → L w = L' w) : Closed n L' := fun w hw => by
  rw [← he w hw, ← he (0 :: w) (fun x hx => by rcases List.mem_cons.1 hx with rfl | hx; exact hn; exact hw x hx)]
  exact h w hw
end Go.Proofs.YthcclcbliedodaaDoor
namespace Go.Proofs.YthcclcbliedodaaDoor
open Go.RowKit

/-- The states that lead to one at a letter. -/
def fromL (next : List (List Int)) (m : Nat) (t : Int) (l : Nat) : List Int := ((List.range m).filter fun x : Nat => decide (nx next ((x : Nat) : Int) l = t)).map fun x : Nat => ((x : Nat) : Int)
def stepT (next : List (List Int)) (m : Nat) (s : List Int) (l : Nat) : List Int := s.flatMap fun t => fromL next m t l
theorem fromL_mem {next : List (List Int)} {m : Nat} {t : Int} {l : Nat} {x : Int} : x ∈ fromL next m t l ↔ (0 ≤ x ∧ x < (m : Int)) ∧ nx next x l = t := by
  unfold fromL
  rw [List.mem_map]
  constructor
  · rintro ⟨y, hy, rfl⟩
    obtain ⟨h1, h2⟩ := List.mem_filter.1 hy
    have := List.mem_range.1 h1
    exact ⟨by omega, of_decide_eq_true h2⟩
  · rintro ⟨h, e⟩
    refine ⟨x.toNat, List.mem_filter.2 ⟨List.mem_range.2 (by omega), ?_⟩, by omega⟩
    rw [Int.toNat_of_nonneg h.1]
    exact decide_eq_true e
theorem fromL_len (next : List (List Int)) (m : Nat) (t : Int) (l : Nat) : (fromL next m t l).length ≤ m := by
  unfold fromL
  rw [List.length_map]
  exact Nat.le_trans (List.length_filter_le _ _) (by simp)
theorem stepT_mem {next : List (List Int)} {m : Nat} {s : List Int} {l : Nat} {x : Int} : x ∈ stepT next m s l ↔ (0 ≤ x ∧ x < (m : Int)) ∧ nx next x l ∈ s := by
  unfold stepT
  rw [List.mem_flatMap]
  constructor
  · rintro ⟨t, ht, hx⟩
    obtain ⟨h1, rfl⟩ := fromL_mem.1 hx
    exact ⟨h1, ht⟩
  · rintro ⟨h1, h2⟩
    exact ⟨_, h2, fromL_mem.2 ⟨h1, rfl⟩⟩
theorem stepT_in {next : List (List Int)} {m : Nat} {s : List Int} {l : Nat} : Inm m (stepT next m s l) := fun _ hx => (stepT_mem.1 hx).1
theorem stepT_len (next : List (List Int)) (m : Nat) (s : List Int) (l : Nat) : (stepT next m s l).length ≤ s.length * m := by
  induction s with
  | nil => simp [stepT]
  | cons x s ih =>
    have e : stepT next m (x :: s) l = fromL next m x l ++ stepT next m s l := rfl
    have := fromL_len next m x l
    rw [e, List.length_append, List.length_cons, Nat.add_mul, Nat.one_mul]
    omega
/-- The states with an end. -/
def endsF (ends : List Bool) (m : Nat) : List Int := ((List.range m).filter fun x : Nat => endOf ends ((x : Nat) : Int)).map fun x : Nat => ((x : Nat) : Int)
theorem endsF_mem {ends : List Bool} {m : Nat} {x : Int} : x ∈ endsF ends m ↔ (0 ≤ x ∧ x < (m : Int)) ∧ endOf ends x = true := by
  unfold endsF
  rw [List.mem_map]
  constructor
  · rintro ⟨y, hy, rfl⟩
    obtain ⟨h1, h2⟩ := List.mem_filter.1 hy
    have := List.mem_range.1 h1
    exact ⟨by omega, h2⟩
  · rintro ⟨h, e⟩
    refine ⟨x.toNat, List.mem_filter.2 ⟨List.mem_range.2 (by omega), ?_⟩, by omega⟩
    rw [Int.toNat_of_nonneg h.1]
    exact e
theorem endsF_asc (ends : List Bool) (m : Nat) : (endsF ends m).Pairwise (· < ·) := by
  unfold endsF
  rw [List.pairwise_map]
  exact (List.pairwise_lt_range.sublist List.filter_sublist).imp fun h => by omega
theorem endsF_len (ends : List Bool) (m : Nat) : (endsF ends m).length ≤ m := by
  unfold endsF
  rw [List.length_map]
  exact Nat.le_trans (List.length_filter_le _ _) (by simp)
def isZ (x : Int) : Bool := decide (x = 0)
noncomputable def turnN (a : GAuto) : Nat := (manyOf a.base a.tracks).toNat
noncomputable def turnF (a : GAuto) : List Int := endsF (leastA a).ends (leastA a).next.length
noncomputable def turnD (a : GAuto) : List Int → Nat → List Int := stepT (leastA a).next (leastA a).next.length
noncomputable def turnOk (a : GAuto) : Bool := growOk (turnD a) (turnN a) (turnF a)
noncomputable def turnErr0 (a : GAuto) : Int := if autoFault a ≠ 0 then autoFault a else if turnOk a = false then 3 else 0
noncomputable def turnS (a : GAuto) : List (List Int) := if autoFault a ≠ 0 then [] else growSets (turnD a) (turnN a) (turnF a)
noncomputable def turnR (a : GAuto) : List (List Int) := if autoFault a ≠ 0 then [] else growRows (turnD a) (turnN a) (turnF a)
noncomputable def turnE (a : GAuto) : List Bool := (turnS a).map fun s => s.any isZ
noncomputable def turnRE (a : GAuto) : List (List Int) × List Bool := leastRE (turnN a) (turnR a) (turnE a)
noncomputable def turnErr (a : GAuto) : Int := if turnErr0 a ≠ 0 then turnErr0 a else if (turnRE a).1.length ≤ 80 then 0 else 3
noncomputable def turnA (a : GAuto) : GAuto := if turnErr a = 0 then ⟨a.base, a.tracks, (turnRE a).1, (turnRE a).2⟩ else GAuto.zero
/-- What is known where nothing is wrong. -/
structure TurnIs (a : GAuto) (n m : Nat) : Prop where
  ok : Good a n a.next.length
  M : Good (leastA a) n m
  nE : turnN a = n
  mE : (leastA a).next.length = m
  D : turnD a = stepT (leastA a).next m
  F : turnF a = endsF (leastA a).ends m
  len : (turnR a).length = (turnS a).length
  pos : 0 < (turnS a).length
  few : (turnS a).length ≤ 2000
  rows : Rows0 n (turnS a).length (turnR a)
  sets : ∀ s ∈ turnS a, Inm m s ∧ s.Pairwise (· < ·)
  gok : growOk (stepT (leastA a).next m) n (endsF (leastA a).ends m) = true
  Se : turnS a = growSets (stepT (leastA a).next m) n (endsF (leastA a).ends m)
  Re : turnR a = growRows (stepT (leastA a).next m) n (endsF (leastA a).ends m)
  expl : Expl (nextD (stepT (leastA a).next m)) n (turnS a) (turnR a)
  start : (turnS a)[0]! = canonL (endsF (leastA a).ends m)
theorem turnErr0_zero {a : GAuto} (h : turnErr0 a = 0) : autoFault a = 0 ∧ turnOk a = true := by
  unfold turnErr0 at h
  split at h
  · rename_i h1; exact (h1 h).elim
  · rename_i h1
    split at h
    · omega
    · rename_i h2
      exact ⟨Classical.not_not.1 h1, by simpa using h2⟩
theorem turn_is {a : GAuto} (h : turnErr0 a = 0) : ∃ n m, TurnIs a n m := by
  obtain ⟨hf, hok⟩ := turnErr0_zero h
  have g := good_of hf
  obtain ⟨_, _, gM⟩ := least_again g
  have hS : turnS a = growSets (turnD a) (turnN a) (turnF a) := if_neg fun q => q hf
  have hR : turnR a = growRows (turnD a) (turnN a) (turnF a) := if_neg fun q => q hf
  obtain ⟨f1, f2, f3, f4, f5, f6⟩ := grow_facts hok
  have hIm : Inm (leastA a).next.length (turnF a) := fun x hx => (endsF_mem.1 hx).1
  have fS := grow_inm (n := turnN a) (stp := turnD a) hIm fun s l _ _ => stepT_in
  rw [← hS] at f1 f2 f3 f4 f5 f6 fS
  rw [← hR] at f1 f4 f6
  exact ⟨_, _, g, gM, rfl, rfl, rfl, rfl, f1, f2, f3, f4, fS, hok, hS, hR, f6, f5⟩
/-- Each state of a least automaton is reached. -/
theorem Least.word {n : Nat} {N : List (List Int)} {E : List Bool} {L : List Nat → Bool} (h : Least n N E L) : ∀ k, k < N.length → ∃ u, Ltr n u ∧ Go.Proofs.YthcclcbliedodaaDoor.runS N 0 u = ((k : Nat) : Int) := by
  intro k
  induction k using Nat.strongRecOn with
  | ind k ih =>
    intro hk
    by_cases h0 : k = 0
    · subst h0; exact ⟨[], fun x hx => by (cases hx), rfl⟩
    · obtain ⟨s, l, hs, hl, e⟩ := h.canon.reach k (by omega) hk
      obtain ⟨u, hu, eu⟩ := ih s hs (by omega)
      refine ⟨u ++ [l], fun x hx => ?_, ?_⟩
      · rcases List.mem_append.1 hx with hx | hx
        · exact hu x hx
        · rw [List.mem_singleton] at hx; subst hx; exact hl
      · rw [runS_append, eu]
        have hr := h.rows
        have hb := nx_ok hr (s := ((s : Nat) : Int)) (by omega) hl
        show nx N ((s : Nat) : Int) l = _
        have e2 : (nx N ((s : Nat) : Int) l).toNat = k := by rw [← e]; rfl
        omega
end Go.Proofs.YthcclcbliedodaaDoor
namespace Go.Proofs.YthcclcbliedodaaDoor
open Go.RowKit

theorem stepT_G {next : List (List Int)} {m n : Nat} {s : List Int} {l : Nat} (hl : l < n) : nextD (stpG next m (single n) true) s l = nextD (stepT next m) s l := by
  unfold nextD
  refine canonL_eq fun y => ?_
  rw [stepT_mem]
  unfold stpG
  rw [single_at hl, List.mem_flatMap]
  constructor
  · rintro ⟨x, hx, hy⟩
    have hx := List.mem_range.1 hx
    simp only [List.flatMap_cons, List.flatMap_nil, List.append_nil, conG, if_true, Int.toNat_natCast] at hy
    split at hy
    · rw [List.mem_singleton] at hy
      subst hy
      exact ⟨by omega, ‹_›⟩
    · cases hy
  · rintro ⟨h1, h2⟩
    refine ⟨y.toNat, List.mem_range.2 (by omega), ?_⟩
    simp only [List.flatMap_cons, List.flatMap_nil, List.append_nil, conG, if_true, Int.toNat_natCast]
    rw [Int.toNat_of_nonneg h1.1, if_pos h2]
    exact List.mem_singleton.2 rfl
theorem any_zero (s : List Int) : s.any isZ = decide (((0 : Nat) : Int) ∈ s) := by
  refine bool_iff ?_
  rw [List.any_eq_true, decide_eq_true_iff]
  exact ⟨fun ⟨x, hx, e⟩ => by rw [show x = 0 from of_decide_eq_true e] at hx; exact hx, fun h => ⟨_, h, rfl⟩⟩
section
variable {G : World → Prop} (hG : Lasting G)
include hG
set_option maxHeartbeats 16000000 in
set_option maxRecDepth 100000 in
theorem TurnOf_ref (a : GAuto) : Snd Tryd.prog G 14 [tAuto a] (.tup [tNat (turnS a).length, tInt (turnErr0 a), tAuto (turnA a), tInt (turnErr a)]) := by
  have c1 := Fault_snd hG a
  have htb0 : Tab.ok Tryd.prog G [] := Tab.nil
  refine snd_of_body (n := 89) (tm := [(0, .t (tAuto a))]) (rs := [.tmp 2, .tmp 3, .cell 4 25, .tmp 5]) tt_ok Tryd.func14 rfl rfl rfl rfl rfl ?_
  have hbad : turnErr0 a ≠ 0 → turnErr a = turnErr0 a ∧ turnA a = GAuto.zero := fun h => by
    have he : turnErr a = turnErr0 a := if_pos h
    exact ⟨he, by unfold turnA; rw [he, if_neg h]⟩
  by_cases hf : autoFault a = 0
  rotate_left
  · have he : turnErr0 a = autoFault a := if_pos hf
    have hS : turnS a = [] := if_pos hf
    obtain ⟨e1, e2⟩ := hbad (by rw [he]; exact hf)
    rw [e1, e2, he, hS]
    generalize autoFault a = e at *
    have htb := Tab.cons c1 Tab.nil
    repeat' (first | (with_reducible first | apply w1 | apply w2 | apply w3 | apply w4 | apply w5 | apply w6 | apply w7 | apply w8 | apply w9 | apply wa | apply wb | apply wc) | ((with_reducible apply wd); focus decide) | ((with_reducible apply we); focus exact rfl) | ((with_reducible apply wf); focus exact rfl) | ((first | (with_reducible apply SW_run tt_ok hG htb) | ((with_reducible apply SW_draw rfl tt_ok hG htb); (focus kernel_rfl); focus simp only [List.range, List.range.loop, List.size_toArray, List.length_cons, List.length_nil, Nat.reduceAdd])); focus ((repeat' (first | (with_reducible first | exact wg | exact wh) | ((with_reducible first | apply wi | apply wj); focus (simp (discharger := omega) only [go_sem, tAuto, hf, simprocAttr]; with_reducible rfl)))); done)))
    exact (by simp (discharger := omega) only [go_sem, tAuto, hf, GAuto.zero, simprocAttr])
  have c2 := LeastOf_snd hG hf
  have g := good_of hf
  obtain ⟨n, hn⟩ : ∃ n, (manyOf a.base a.tracks).toNat = n := ⟨_, rfl⟩
  rw [hn] at g
  obtain ⟨_, _, gM⟩ := least_again g
  have hNe : turnN a = n := hn
  have hSe : turnS a = growSets (stepT (leastA a).next (leastA a).next.length) n (endsF (leastA a).ends (leastA a).next.length) := by
    have : turnS a = growSets (turnD a) (turnN a) (turnF a) := if_neg fun q => q hf
    rw [this, hNe]; rfl
  have hRe : turnR a = growRows (stepT (leastA a).next (leastA a).next.length) n (endsF (leastA a).ends (leastA a).next.length) := by
    have : turnR a = growRows (turnD a) (turnN a) (turnF a) := if_neg fun q => q hf
    rw [this, hNe]; rfl
  have hoke : turnOk a = growOk (stepT (leastA a).next (leastA a).next.length) n (endsF (leastA a).ends (leastA a).next.length) := by
    unfold turnOk; rw [hNe]; rfl
  have hErr : turnErr0 a = if turnOk a = false then 3 else 0 := by unfold turnErr0; rw [if_neg (fun q => q hf)]
  have hsE : turnE a = (turnS a).map fun s => s.any isZ := rfl
  have hRE : turnRE a = leastRE n (turnR a) (turnE a) := by unfold turnRE; rw [hNe]
  rw [hf] at c1
  rw [hoke] at hErr
  obtain ⟨M, hM⟩ : ∃ M, leastA a = M := ⟨_, rfl⟩
  rw [hM] at gM c2 hSe hRe hErr
  obtain ⟨m, hm⟩ : ∃ m, M.next.length = m := ⟨_, rfl⟩
  rw [hm] at gM hSe hRe hErr
  have hm80 := gM.m80
  have hn36 := gM.n36
  have hn0 := gM.n0
  have hm0 := gM.m0
  have hmE := gM.ends
  have gMr := gM.rows
  have hIm : Inm m (endsF M.ends m) := fun x hx => (endsF_mem.1 hx).1
  obtain ⟨F, hF⟩ : ∃ F, canonL (endsF M.ends m) = F := ⟨_, rfl⟩
  have hF2 : endsF M.ends m = F := by rw [← hF]; exact (canonL_self (endsF_asc _ _)).symm
  have hFp : Inm m F ∧ F.Pairwise (· < ·) := ⟨hF ▸ hIm.canon, hF ▸ (canonL_spec _).1⟩
  have c4 := single_snd hG n (by omega)
  have hsl : (single n).length = n := by simp [single]
  have c5 := Grown_ref hG gMr hm80 F hFp (single n) (fun r hr k hk => by
    obtain ⟨l, hl, rfl⟩ := List.mem_map.1 hr
    have := List.mem_range.1 hl
    simp at hk; omega) (by omega) (fun r hr => by
    obtain ⟨l, hl, rfl⟩ := List.mem_map.1 hr
    simp) true
  obtain ⟨sc1, sc2, sc3⟩ := sets_cong (δ := nextD (stpG M.next m (single n) true)) (δ' := nextD (stepT M.next m)) (n := n) (s0 := F) (p := Inm m) hFp.1 (fun s l hl hs => by rw [stepT_G hl]; exact stepT_in.canon) (fun s l hs hl => stepT_G hl)
  unfold grownR at c5
  rw [hsl, sc1, sc2, sc3] at c5
  obtain ⟨S, hS⟩ : ∃ S, growSets (stepT M.next m) n (endsF M.ends m) = S := ⟨_, rfl⟩
  obtain ⟨N, hN⟩ : ∃ N, growRows (stepT M.next m) n (endsF M.ends m) = N := ⟨_, rfl⟩
  obtain ⟨ok, hok⟩ : ∃ ok, growOk (stepT M.next m) n (endsF M.ends m) = ok := ⟨_, rfl⟩
  have hok1 : setsOk (nextD (stepT M.next m)) n F = ok := by rw [← hok, ← hF]; rfl
  rw [hok1] at c5
  rw [hS] at hSe
  rw [hN] at hRe
  rw [hok] at hErr
  obtain ⟨r0, hr0⟩ : ∃ r0, M.next[0]! = r0 := ⟨_, rfl⟩
  have hrl := gMr.row r0 (bang_mem hr0 (by omega))
  obtain ⟨hbn1, hbn2⟩ := bits_nil
  have htb := Tab.cons c1 (Tab.cons c2 Tab.nil)
  repeat' (first | (with_reducible first | apply w1 | apply w2 | apply w3 | apply w4 | apply w5 | apply w6 | apply w7 | apply w8 | apply w9 | apply wa | apply wb | apply wc) | ((with_reducible apply wd); focus decide) | ((with_reducible apply we); focus exact rfl) | ((with_reducible apply wf); focus exact rfl) | ((first | (with_reducible apply SW_run tt_ok hG htb) | ((with_reducible apply SW_draw rfl tt_ok hG htb); (focus kernel_rfl); focus simp only [List.range, List.range.loop, List.size_toArray, List.length_cons, List.length_nil, Nat.reduceAdd])); focus ((repeat' (first | (with_reducible first | exact wg | exact wh) | ((with_reducible first | apply wi | apply wj); focus (simp (discharger := omega) only [go_sem, tAuto, simprocAttr]; with_reducible rfl)))); done)))
  clear htb
  refine SW_loop (fun mm st => ∃ (i : Nat) (D : List Int), mm = m - i ∧ st = ⟨89, [(1, .bptr 0 0), (4, .bptr 1 0), (7, .bptr 2 0), (8, .bptr 3 0), (9, .t (tNat i))], [.box [.t (tInt a.base), .t (tInt a.tracks), .t (tIntss a.next), .t (tBools a.ends)], .box [.t (tInt 0), .t (tInt 0), .nil, .nil], .box [.t (tInt M.base), .t (tInt M.tracks), .t (tIntss M.next), .t (tBools M.ends)], .box [.t (tNat (lowOf D)), .t (tNat (highOf D))]]⟩ ∧ i ≤ m ∧ ∀ y, y ∈ D ↔ y ∈ F ∧ y < ((i : Nat) : Int)) m
    ⟨_, Norm.headS (own := []) (keep := [1, 4, 7, 8, 9]) (by refine ⟨?_, ?_⟩; (simp (discharger := omega) only [go_sem, simprocAttr]; with_reducible rfl); refine ⟨?_, ?_, ?_, ?_⟩ <;> (simp only [go_sem, simprocAttr]; with_reducible rfl)), 0, [], rfl, by rw [hbn1, hbn2]; rfl, Nat.zero_le _, fun y => ⟨fun h => (by cases h), fun ⟨h1, h2⟩ => by have := hFp.1 y h1; omega⟩⟩ ?_
  rintro mm st ⟨i, D, rfl, rfl, hi, hD⟩
  have htb := htb0
  by_cases hlt : i < m
  · have hlt2 : ((i : Nat) : Int) < ((m : Nat) : Int) := by omega
    obtain ⟨b, hb⟩ : ∃ b, M.ends[i]! = b := ⟨_, rfl⟩
    have heb : endOf M.ends ((i : Nat) : Int) = b := by unfold endOf; exact bang_D hb (by rw [hmE]; simpa using hlt)
    have hmem : ((i : Nat) : Int) ∈ F ↔ b = true := by rw [← hF2, endsF_mem, heb]; exact ⟨fun q => q.2, fun q => ⟨by omega, q⟩⟩
    cases b with
    | false =>
      repeat' (first | (with_reducible first | apply w1 | apply w2 | apply w3 | apply w4 | apply w5 | apply w6 | apply w7 | apply w8 | apply w9 | apply wa | apply wb | apply wc) | ((with_reducible apply wd); focus decide) | ((with_reducible apply we); focus exact rfl) | ((with_reducible apply wf); focus exact rfl) | ((first | (with_reducible apply SW_run tt_ok hG htb) | ((with_reducible apply SW_draw rfl tt_ok hG htb); (focus kernel_rfl); focus simp only [List.range, List.range.loop, List.size_toArray, List.length_cons, List.length_nil, Nat.reduceAdd])); focus ((repeat' (first | (with_reducible first | exact wg | exact wh) | ((with_reducible first | apply wi | apply wj); focus (simp (discharger := omega) only [go_sem, hlt2, hm, hb, hmE, simprocAttr]; with_reducible rfl)))); done)))
      exact ⟨m - (i + 1), _, by omega, Norm.headS (own := []) (keep := [1, 4, 7, 8, 9]) (by refine ⟨?_, ?_⟩; (simp (discharger := omega) only [go_sem, simprocAttr]; with_reducible rfl); refine ⟨?_, ?_, ?_, ?_⟩ <;> (simp only [go_sem, simprocAttr]; with_reducible rfl)), i + 1, D, rfl, rfl, by omega, fun y => by
        rw [hD y]
        refine and_congr_right fun hy => ⟨fun h => by omega, fun h => ?_⟩
        by_cases e : y = ((i : Nat) : Int)
        · subst e; exact absurd (hmem.1 hy) (by decide)
        · omega⟩
    | true =>
      have c6 : Snd Tryd.prog G 34 [.agg [.int .i64 (lowOf D : Nat), .int .i64 (highOf D : Nat)], tNat i] (.agg [.int .i64 (lowOf (addS D ((i : Nat) : Int)) : Nat), .int .i64 (highOf (addS D ((i : Nat) : Int)) : Nat)]) := Put_snd hG D i (by omega)
      have hD2 : ∀ y, y ∈ addS D ((i : Nat) : Int) ↔ y ∈ D ∨ y = ((i : Nat) : Int) := fun y => addS_mem_iff
      generalize addS D ((i : Nat) : Int) = D2 at *
      have htb := Tab.cons c6 Tab.nil
      repeat' (first | (with_reducible first | apply w1 | apply w2 | apply w3 | apply w4 | apply w5 | apply w6 | apply w7 | apply w8 | apply w9 | apply wa | apply wb | apply wc) | ((with_reducible apply wd); focus decide) | ((with_reducible apply we); focus exact rfl) | ((with_reducible apply wf); focus exact rfl) | ((first | (with_reducible apply SW_run tt_ok hG htb) | ((with_reducible apply SW_draw rfl tt_ok hG htb); (focus kernel_rfl); focus simp only [List.range, List.range.loop, List.size_toArray, List.length_cons, List.length_nil, Nat.reduceAdd])); focus ((repeat' (first | (with_reducible first | exact wg | exact wh) | ((with_reducible first | apply wi | apply wj); focus (simp (discharger := omega) only [go_sem, hlt2, hm, hb, hmE, simprocAttr]; with_reducible rfl)))); done)))
      exact ⟨m - (i + 1), _, by omega, Norm.headS (own := []) (keep := [1, 4, 7, 8, 9]) (by refine ⟨?_, ?_⟩; (simp (discharger := omega) only [go_sem, simprocAttr]; with_reducible rfl); refine ⟨?_, ?_, ?_, ?_⟩ <;> (simp only [go_sem, simprocAttr]; with_reducible rfl)), i + 1, D2, rfl, rfl, by omega, fun y => by
        rw [hD2 y, hD y]
        constructor
        · rintro (⟨h1, h2⟩ | rfl)
          · exact ⟨h1, by omega⟩
          · exact ⟨hmem.2 rfl, by omega⟩
        · rintro ⟨h1, h2⟩
          by_cases e : y = ((i : Nat) : Int)
          · exact .inr e
          · exact .inl ⟨h1, by omega⟩⟩
  obtain rfl : i = m := by omega
  have hlt2 : ¬ ((i : Nat) : Int) < ((i : Nat) : Int) := by omega
  obtain ⟨hb1, hb2⟩ := bits_cong (l := D) (l' := F) fun y => by rw [hD y]; exact ⟨fun h => h.1, fun h => ⟨h, (hFp.1 y h).2⟩⟩
  rw [hb1, hb2]
  refine SW_norm (Norm.fixBox 2 rfl rfl) ?_
  refine SW_norm (Norm.fixBox 3 rfl rfl) ?_
  have hsing : ((List.range n).map fun (l : Nat) => [(l : Int)]) = single n := rfl
  rw [hsing] at c4
  generalize single n = sg at *
  cases ok with
  | false =>
    have he : turnErr0 a = 3 := by rw [hErr, if_pos rfl]
    have hS0 : turnS a = [] := by rw [hSe, ← hS]; unfold growSets; rw [if_neg (by rw [hok]; decide)]
    obtain ⟨e1, e2⟩ := hbad (by rw [he]; decide)
    rw [e1, e2, he, hS0]
    rw [if_neg (by decide)] at c5
    have htb := Tab.cons c4 (Tab.cons c5 Tab.nil)
    repeat' (first | (with_reducible first | apply w1 | apply w2 | apply w3 | apply w4 | apply w5 | apply w6 | apply w7 | apply w8 | apply w9 | apply wa | apply wb | apply wc) | ((with_reducible apply wd); focus decide) | ((with_reducible apply we); focus exact rfl) | ((with_reducible apply wf); focus exact rfl) | ((first | (with_reducible apply SW_run tt_ok hG htb) | ((with_reducible apply SW_draw rfl tt_ok hG htb); (focus kernel_rfl); focus simp only [List.range, List.range.loop, List.size_toArray, List.length_cons, List.length_nil, Nat.reduceAdd])); focus ((repeat' (first | (with_reducible first | exact wg | exact wh) | ((with_reducible first | apply wi | apply wj); focus (simp (discharger := omega) only [go_sem, tAuto, tSet, hr0, hrl, hm, hlt2, simprocAttr]; with_reducible rfl)))); done)))
    exact (by simp (discharger := omega) only [go_sem, tAuto, GAuto.zero, simprocAttr])
  | true =>
    have hS1 : setsOf (nextD (stepT M.next i)) n F = S := by rw [← hS, ← hF]; unfold growSets; rw [hok, if_pos rfl]
    have hN1 : rowsOf (nextD (stepT M.next i)) n F = N := by rw [← hN, ← hF]; unfold growRows; rw [hok, if_pos rfl]
    rw [if_pos rfl, hS1, hN1] at c5
    have he : turnErr0 a = 0 := by rw [hErr, if_neg (by decide)]
    obtain ⟨f1, f2, f3, f4, f5, _⟩ := grow_facts hok
    rw [hS, hN] at f1 f4
    rw [hS] at f2 f3 f5
    obtain ⟨E, hE⟩ : ∃ E, (S.map fun s => s.any isZ) = E := ⟨_, rfl⟩
    have hEl : E.length = S.length := by rw [← hE, List.length_map]
    rw [hSe, hE] at hsE
    rw [hRe, hsE] at hRE
    have he0 : turnErr a = if (leastRE n N E).1.length ≤ 80 then 0 else 3 := by unfold turnErr; rw [if_neg (fun q => q he), hRE]
    have hz0 : turnA a = if turnErr a = 0 then ⟨a.base, a.tracks, (leastRE n N E).1, (leastRE n N E).2⟩ else GAuto.zero := by unfold turnA; rw [hRE]
    rw [hz0, he0, he, hSe]
    have htb := Tab.cons c4 (Tab.cons c5 Tab.nil)
    repeat' (first | (with_reducible first | apply w1 | apply w2 | apply w3 | apply w4 | apply w5 | apply w6 | apply w7 | apply w8 | apply w9 | apply wa | apply wb | apply wc) | ((with_reducible apply wd); focus decide) | ((with_reducible apply we); focus exact rfl) | ((with_reducible apply wf); focus exact rfl) | ((first | (with_reducible apply SW_run tt_ok hG htb) | ((with_reducible apply SW_draw rfl tt_ok hG htb); (focus kernel_rfl); focus simp only [List.range, List.range.loop, List.size_toArray, List.length_cons, List.length_nil, Nat.reduceAdd])); focus ((repeat' (first | (with_reducible first | exact wg | exact wh) | ((with_reducible first | apply wi | apply wj); focus (simp (discharger := omega) only [go_sem, tAuto, tSet, hr0, hrl, hm, hlt2, simprocAttr]; with_reducible rfl)))); done)))
    clear htb
    refine SW_loop (fun mm st => ∃ (j : Nat) (es : List T), mm = S.length - j ∧ st = ⟨89, [(1, .bptr 0 0), (4, .bptr 1 0), (10, .t (.list (S.map tSet))), (11, .t (tIntss N)), (13, .sref 2), (14, .t (tNat j))], [.box [.t (tInt a.base), .t (tInt a.tracks), .t (tIntss a.next), .t (tBools a.ends)], .box [.t (tInt 0), .t (tInt 0), .nil, .nil], .row 4 1 true es]⟩ ∧ j ≤ S.length ∧ es = (E.take j).map T.bool) S.length
      ⟨_, Norm.headS (own := [(13, 4, 1, true)]) (keep := [1, 4, 10, 11, 13, 14]) (by refine ⟨?_, ?_⟩; (simp (discharger := omega) only [go_sem, simprocAttr]; with_reducible rfl); refine ⟨?_, ?_, ?_, ?_⟩ <;> (simp only [go_sem, simprocAttr]; with_reducible rfl)), 0, _, rfl, rfl, Nat.zero_le _, rfl⟩ ?_
    rintro mm st ⟨j, es, rfl, rfl, hj, hes⟩
    have hesl : es.length = j := by rw [hes, List.length_map, List.length_take]; omega
    by_cases hlt : j < S.length
    · obtain ⟨sj, hsj⟩ : ∃ sj, S[j]! = sj := ⟨_, rfl⟩
      have c6 := In_snd hG sj 0 (by omega)
      obtain ⟨b, hb⟩ : ∃ b, decide (((0 : Nat) : Int) ∈ sj) = b := ⟨_, rfl⟩
      rw [hb] at c6
      have c6' : Snd Tryd.prog G 37 [tSet sj, tInt 0] (.bool b) := c6
      have htk : E.take (j + 1) = E.take j ++ [b] := by
        have hej : E[j]? = some b := by
          rw [← hE, List.getElem?_map, bang_get hsj hlt, Option.map_some, any_zero, hb]
        obtain ⟨q1, q2⟩ := List.getElem?_eq_some_iff.1 hej
        rw [List.take_succ_eq_append_getElem q1, q2]
      have htb := Tab.cons c6' Tab.nil
      repeat' (first | (with_reducible first | apply w1 | apply w2 | apply w3 | apply w4 | apply w5 | apply w6 | apply w7 | apply w8 | apply w9 | apply wa | apply wb | apply wc) | ((with_reducible apply wd); focus decide) | ((with_reducible apply we); focus exact rfl) | ((with_reducible apply wf); focus exact rfl) | ((first | (with_reducible apply SW_run tt_ok hG htb) | ((with_reducible apply SW_draw rfl tt_ok hG htb); (focus kernel_rfl); focus simp only [List.range, List.range.loop, List.size_toArray, List.length_cons, List.length_nil, Nat.reduceAdd])); focus ((repeat' (first | (with_reducible first | exact wg | exact wh) | ((with_reducible first | apply wi | apply wj); focus (simp (discharger := omega) only [go_sem, hesl, hsj, tSet, tAuto, simprocAttr]; with_reducible rfl)))); done)))
      exact ⟨S.length - (j + 1), _, by omega, Norm.headS (own := []) (keep := [1, 4, 10, 11, 13, 14]) (by refine ⟨?_, ?_⟩; (simp (discharger := omega) only [go_sem, simprocAttr]; with_reducible rfl); refine ⟨?_, ?_, ?_, ?_⟩ <;> (simp only [go_sem, simprocAttr]; with_reducible rfl)), j + 1, _, rfl, rfl, by omega, by rw [htk, List.map_append, ← hes]; rfl⟩
    obtain rfl : j = S.length := by omega
    have hes2 : es = E.map T.bool := by rw [hes, List.take_of_length_le (by omega)]
    clear hes
    subst hes2
    have c7 := Shrunk_snd hG a.base a.tracks f4 f2 (by omega) (ends := E) hEl (by omega)
    refine SW_norm (Norm.frzRow 2 rfl) ?_
    by_cases h80 : (leastRE n N E).1.length ≤ 80
    · have hsh : shrinkT a.base a.tracks n N E = .tup [tAuto ⟨a.base, a.tracks, (leastRE n N E).1, (leastRE n N E).2⟩, .bool true] := if_pos h80
      rw [if_pos h80, if_pos rfl]
      rw [hsh] at c7
      generalize leastRE n N E = RE at *
      have htb := Tab.cons c7 Tab.nil
      repeat' (first | (with_reducible first | apply w1 | apply w2 | apply w3 | apply w4 | apply w5 | apply w6 | apply w7 | apply w8 | apply w9 | apply wa | apply wb | apply wc) | ((with_reducible apply wd); focus decide) | ((with_reducible apply we); focus exact rfl) | ((with_reducible apply wf); focus exact rfl) | ((first | (with_reducible apply SW_run tt_ok hG htb) | ((with_reducible apply SW_draw rfl tt_ok hG htb); (focus kernel_rfl); focus simp only [List.range, List.range.loop, List.size_toArray, List.length_cons, List.length_nil, Nat.reduceAdd])); focus ((repeat' (first | (with_reducible first | exact wg | exact wh) | ((with_reducible first | apply wi | apply wj); focus (simp (discharger := omega) only [go_sem, tAuto, simprocAttr]; with_reducible rfl)))); done)))
      exact (by simp (discharger := omega) only [go_sem, tAuto, simprocAttr])
    · have hsh : shrinkT a.base a.tracks n N E = .tup [tAuto GAuto.zero, .bool false] := if_neg h80
      rw [if_neg h80, if_neg (by decide)]
      rw [hsh] at c7
      have htb := Tab.cons c7 Tab.nil
      repeat' (first | (with_reducible first | apply w1 | apply w2 | apply w3 | apply w4 | apply w5 | apply w6 | apply w7 | apply w8 | apply w9 | apply wa | apply wb | apply wc) | ((with_reducible apply wd); focus decide) | ((with_reducible apply we); focus exact rfl) | ((with_reducible apply wf); focus exact rfl) | ((first | (with_reducible apply SW_run tt_ok hG htb) | ((with_reducible apply SW_draw rfl tt_ok hG htb); (focus kernel_rfl); focus simp only [List.range, List.range.loop, List.size_toArray, List.length_cons, List.length_nil, Nat.reduceAdd])); focus ((repeat' (first | (with_reducible first | exact wg | exact wh) | ((with_reducible first | apply wi | apply wj); focus (simp (discharger := omega) only [go_sem, tAuto, simprocAttr]; with_reducible rfl)))); done)))
      exact (by simp (discharger := omega) only [go_sem, tAuto, GAuto.zero, simprocAttr])
end
end Go.Proofs.YthcclcbliedodaaDoor
namespace Go.Proofs.YthcclcbliedodaaDoor
open Go.RowKit

def keyT (t : Int) (l : Nat) : T := .agg [.int .i64 t, .int .i64 ((l : Nat) : Int)]
theorem keyT_inj {t t' : Int} {l l' : Nat} (h : keyT t l = keyT t' l') : t = t' ∧ l = l' := by
  unfold keyT at h
  simp only [T.agg.injEq, List.cons.injEq, T.int.injEq, true_and, and_true] at h
  omega
def MapSays (mes : List (T × T)) (next : List (List Int)) (m n : Nat) : Prop := ∀ (t : Int) (l : Nat), 0 ≤ t → t < (m : Int) → l < n → mapGet mes (keyT t l) = if fromL next m t l = [] then none else some (tInts (fromL next m t l))
section
variable {G : World → Prop} (hG : Lasting G)
include hG
set_option maxHeartbeats 8000000 in
set_option maxRecDepth 100000 in
theorem TurnStep_snd {next : List (List Int)} {m n : Nat} (hm80 : m ≤ 80) (hn : n ≤ 36) {mes : List (T × T)} (h : MapSays mes next m n) (s : List Int) (hs : Inm m s) (hsl : s.length ≤ 1000) (l : Nat) (hl : l < n) :
    SndG Tryd.prog G 60 ([.t (tInts s), .t (tNat l)] ++ [.bptr 0 0]) [.box [.map 1], .map (.ints 2) mes] [] (.sref 2) ([.box [.map 1], .map (.ints 2) mes] ++ [.row 3 1 true (iL (stepT next m s l))]) := by
  refine sndG_of_body tt_ok Tryd.func60 rfl rfl (n := 24) rfl (rs := [.tmp 5]) rfl (by simp only [List.length_cons, List.length_nil, List.length_append]; decide) [0] (fun i l h => ?_) (fun i hi => ?_) fun bs => ?_
  · match i, h with
    | 0, h => exact ⟨by simp, _, rfl⟩
    | 1, h => cases h
  · simp only [List.mem_singleton] at hi
    subst hi
    exact ⟨_, rfl⟩
  show SW _ _ _ _ ⟨24, [(0, .t (tInts s)), (1, .t (tNat l)), (2, .bptr 0 0), (24, .pin 0 (bs 0))], [.box [.map 1], .map (.ints 2) mes]⟩
  have htb : Tab.ok Tryd.prog G [] := Tab.nil
  have hstep : ∀ (p : List Int) (x : Int), stepT next m (p ++ [x]) l = stepT next m p l ++ fromL next m x l := fun p x => by
    unfold stepT
    rw [List.flatMap_append]; simp
  repeat' (first | (with_reducible first | apply w1 | apply w2 | apply w3 | apply w4 | apply w5 | apply w6 | apply w7 | apply w8 | apply w9 | apply wa | apply wb | apply wc) | ((with_reducible apply wd); focus decide) | ((with_reducible apply we); focus exact rfl) | ((with_reducible apply wf); focus exact rfl) | ((first | (with_reducible apply SW_run tt_ok hG htb) | ((with_reducible apply SW_draw rfl tt_ok hG htb); (focus kernel_rfl); focus simp only [List.range, List.range.loop, List.size_toArray, List.length_cons, List.length_nil, Nat.reduceAdd])); focus ((repeat' (first | (with_reducible first | exact wg | exact wh) | ((with_reducible first | apply wi | apply wj); focus (simp (discharger := omega) only [go_sem, simprocAttr]; with_reducible rfl)))); done)))
  refine SW_loop (fun mm st => ∃ (i : Nat) (os : List T), mm = s.length - i ∧ st = ⟨24, [(24, .pin 0 (bs 0)), (1, .t (tNat l)), (2, .bptr 0 0), (6, .sref 1), (9, .t (tInts s)), (10, .t (tNat s.length)), (11, .t (tNat i))], [.box [.map 2], .row 3 1 true os, .map (.ints 2) mes]⟩ ∧ i ≤ s.length ∧ os = iL (stepT next m (s.take i) l)) s.length
    ⟨_, Norm.headS (own := [(6, 3, 1, true)]) (keep := [24, 1, 2, 6, 9, 10, 11]) (by refine ⟨?_, ?_⟩; (simp (discharger := omega) only [go_sem, simprocAttr]; with_reducible rfl); refine ⟨?_, ?_, ?_, ?_⟩ <;> (simp only [go_sem, simprocAttr]; with_reducible rfl)), 0, _, rfl, rfl, Nat.zero_le _, rfl⟩ ?_
  rintro mm st ⟨i, os, rfl, rfl, hi, hos⟩
  have hos1 : os.length ≤ 1000 * 80 := by
    rw [hos, iL_length]
    refine Nat.le_trans (stepT_len next m _ l) (Nat.mul_le_mul ?_ hm80)
    rw [List.length_take]; omega
  by_cases hlt : i < s.length
  · obtain ⟨x, hx⟩ : ∃ x, s[i]! = x := ⟨_, rfl⟩
    have hg := bang_get hx hlt
    have hxb := hs x (List.mem_of_getElem? hg)
    have htk : s.take (i + 1) = s.take i ++ [x] := by
      rw [List.take_succ_eq_append_getElem hlt]
      obtain ⟨q1, q2⟩ := List.getElem?_eq_some_iff.1 hg
      rw [q2]
    have hget := h x l hxb.1 hxb.2 hl
    have hFl := fromL_len next m x l
    have hos2 : iL (stepT next m (s.take (i + 1)) l) = os ++ iL (fromL next m x l) := by rw [htk, hstep, hos]; simp [iL]
    obtain ⟨F, hF⟩ : ∃ F, fromL next m x l = F := ⟨_, rfl⟩
    rw [hF] at hget hFl hos2
    unfold keyT at hget
    by_cases hE : F = []
    · subst hE
      rw [if_pos rfl] at hget
      rw [show iL [] = [] from rfl, List.append_nil] at hos2
      repeat' (first | (with_reducible first | apply w1 | apply w2 | apply w3 | apply w4 | apply w5 | apply w6 | apply w7 | apply w8 | apply w9 | apply wa | apply wb | apply wc) | ((with_reducible apply wd); focus decide) | ((with_reducible apply we); focus exact rfl) | ((with_reducible apply wf); focus exact rfl) | ((first | (with_reducible apply SW_run tt_ok hG htb) | ((with_reducible apply SW_draw rfl tt_ok hG htb); (focus kernel_rfl); focus simp only [List.range, List.range.loop, List.size_toArray, List.length_cons, List.length_nil, Nat.reduceAdd])); focus ((repeat' (first | (with_reducible first | exact wg | exact wh) | ((with_reducible first | apply wi | apply wj); focus (simp (discharger := omega) only [go_sem, hx, hget, List.append_nil, simprocAttr]; with_reducible rfl)))); done)))
      exact ⟨s.length - (i + 1), _, by omega, Norm.headS (own := []) (keep := [24, 1, 2, 6, 9, 10, 11]) (by refine ⟨?_, ?_⟩; (simp (discharger := omega) only [go_sem, simprocAttr]; with_reducible rfl); refine ⟨?_, ?_, ?_, ?_⟩ <;> (simp only [go_sem, simprocAttr]; with_reducible rfl)), i + 1, _, rfl, rfl, by omega, hos2.symm⟩
    · rw [if_neg hE] at hget
      have hall : ∀ l : List Int, (l.all fun _ => true) = true := fun l => by simp
      repeat' (first | (with_reducible first | apply w1 | apply w2 | apply w3 | apply w4 | apply w5 | apply w6 | apply w7 | apply w8 | apply w9 | apply wa | apply wb | apply wc) | ((with_reducible apply wd); focus decide) | ((with_reducible apply we); focus exact rfl) | ((with_reducible apply wf); focus exact rfl) | ((first | (with_reducible apply SW_run tt_ok hG htb) | ((with_reducible apply SW_draw rfl tt_ok hG htb); (focus kernel_rfl); focus simp only [List.range, List.range.loop, List.size_toArray, List.length_cons, List.length_nil, Nat.reduceAdd])); focus ((repeat' (first | (with_reducible first | exact wg | exact wh) | ((with_reducible first | apply wi | apply wj); focus (simp (discharger := omega) only [go_sem, hx, hget, Function.comp_def, hall, simprocAttr]; with_reducible rfl)))); done)))
      exact ⟨s.length - (i + 1), _, by omega, Norm.headS (own := []) (keep := [24, 1, 2, 6, 9, 10, 11]) (by refine ⟨?_, ?_⟩; (simp (discharger := omega) only [go_sem, simprocAttr]; with_reducible rfl); refine ⟨?_, ?_, ?_, ?_⟩ <;> (simp only [go_sem, simprocAttr]; with_reducible rfl)), i + 1, _, rfl, rfl, by omega, hos2.symm⟩
  · obtain rfl : i = s.length := by omega
    rw [List.take_length] at hos
    rw [← hos]
    repeat' (first | (with_reducible first | apply w1 | apply w2 | apply w3 | apply w4 | apply w5 | apply w6 | apply w7 | apply w8 | apply w9 | apply wa | apply wb | apply wc) | ((with_reducible apply wd); focus decide) | ((with_reducible apply we); focus exact rfl) | ((with_reducible apply wf); focus exact rfl) | ((first | (with_reducible apply SW_run tt_ok hG htb) | ((with_reducible apply SW_draw rfl tt_ok hG htb); (focus kernel_rfl); focus simp only [List.range, List.range.loop, List.size_toArray, List.length_cons, List.length_nil, Nat.reduceAdd])); focus ((repeat' (first | (with_reducible first | exact wg | exact wh) | ((with_reducible first | apply wi | apply wj); focus (simp (discharger := omega) only [go_sem, simprocAttr]; with_reducible rfl)))); done)))
    refine SPostG_norm (Norm.headP [0, 2, 1] rfl (own := []) (keep := [24, 5]) (by refine ⟨?_, ?_⟩; (simp (discharger := omega) only [go_sem, simprocAttr]; with_reducible rfl); refine ⟨?_, ?_, ?_, ?_⟩ <;> (simp only [go_sem, simprocAttr]; with_reducible rfl))) ?_
    exact SPostG_r (Norm.refl _) rfl rfl (fun i hi => by simp only [List.mem_singleton] at hi; subst hi; rfl)
end
theorem mapGet_all {es : List (T × T)} {k : T} (h : mapGet es k = none) : ∀ p ∈ es, p.1 ≠ k := by
  induction es with
  | nil => intro p hp; cases hp
  | cons q es ih =>
    unfold mapGet at h
    split at h
    · cases h
    · rename_i hq
      intro p hp
      rcases List.mem_cons.1 hp with rfl | hp
      · exact hq
      · exact ih h p hp
theorem mapGet_at {es : List (T × T)} {k v : T} (h : mapGet es k = some v) : ∃ (j : Nat) (p : T × T), es[j]? = some p ∧ p.1 = k ∧ p.2 = v := by
  induction es with
  | nil => cases h
  | cons q es ih =>
    unfold mapGet at h
    split at h
    · rename_i hq
      cases h
      exact ⟨0, q, rfl, hq, rfl⟩
    · obtain ⟨j, p, h1, h2⟩ := ih h
      exact ⟨j + 1, p, h1, h2⟩
theorem mapGet_set (es : List (T × T)) (k v : T) : mapGet (mapSet es k v) k = some v := by
  induction es with
  | nil => unfold mapSet mapGet; rw [if_pos rfl]
  | cons q es ih =>
    unfold mapSet
    split
    · unfold mapGet; rw [if_pos rfl]
    · rename_i hq
      unfold mapGet; rw [if_neg hq]; exact ih
theorem mapGet_other (es : List (T × T)) {k k' : T} (v : T) (h : k ≠ k') : mapGet (mapSet es k v) k' = mapGet es k' := by
  induction es with
  | nil => unfold mapSet mapGet; rw [if_neg h]; rfl
  | cons q es ih =>
    unfold mapSet
    split
    · rename_i hq
      unfold mapGet; rw [if_neg h, if_neg (by rw [hq]; exact h)]
    · unfold mapGet
      split
      · rfl
      · exact ih
theorem mapGet_map (f : T → T) (es : List (T × T)) (k : T) : mapGet (es.map fun p => (p.1, f p.1)) k = (mapGet es k).map fun _ => f k := by
  induction es with
  | nil => rfl
  | cons q es ih =>
    rw [List.map_cons]
    unfold mapGet
    split
    · rename_i hq
      rw [Option.map_some]
      simp only at hq ⊢
      rw [hq]
    · exact ih
/-- A map to hidden rows, and what they hold. -/
structure MapInv (g : Nat × Nat → Option HR) (es : List (T × T)) (m n : Nat) (cont : Nat → Nat → List Int) : Prop where
  is : ∀ t l, t < m → l < n → (cont t l = [] ∧ g (t, l) = none ∧ mapGet es (keyT ((t : Nat) : Int) l) = none) ∨ ∃ h : HR, g (t, l) = some h ∧ h.e = 3 ∧ h.sz = 1 ∧ h.l = iL (cont t l) ∧ cont t l ≠ [] ∧ mapGet es (keyT ((t : Nat) : Int) l) = some h.raw
  keys : ∀ p ∈ es, ∃ t l, t < m ∧ l < n ∧ p.1 = keyT ((t : Nat) : Int) l
  pw : es.Pairwise fun p q => p.1 ≠ q.1
theorem MapInv.init (m n : Nat) : MapInv (fun _ => none) [] m n (fun _ _ => []) := ⟨fun _ _ _ _ => .inl ⟨rfl, rfl, rfl⟩, fun p hp => (by cases hp), .nil⟩
theorem MapInv.congr {g : Nat × Nat → Option HR} {es : List (T × T)} {m n : Nat} {cont cont' : Nat → Nat → List Int} (h : MapInv g es m n cont) (he : ∀ t l, t < m → l < n → cont' t l = cont t l) : MapInv g es m n cont' :=
  ⟨fun t l ht hl => by rw [he t l ht hl]; exact h.is t l ht hl, h.keys, h.pw⟩
theorem MapInv.hdr {g : Nat × Nat → Option HR} {es : List (T × T)} {m n : Nat} {cont : Nat → Nat → List Int} (h : MapInv g es m n cont) {t l : Nat} (ht : t < m) (hl : l < n) : (HdrOk g (t, l) 3 1 (iL (cont t l)) (.raw none 0 0) ∧ mapGet es (keyT ((t : Nat) : Int) l) = none) ∨ ∃ a k c, HdrOk g (t, l) 3 1 (iL (cont t l)) (.raw a k c) ∧ mapGet es (keyT ((t : Nat) : Int) l) = some (.raw a k c) := by
  rcases h.is t l ht hl with ⟨h1, h2, h3⟩ | ⟨r, h1, h2, h3, h4, h5, h6⟩
  · exact .inl ⟨.inl ⟨h2, by rw [h1]; rfl, rfl⟩, h3⟩
  · exact .inr ⟨r.a, r.n, r.cap, .inr ⟨r, h1, h2, h3, h4, rfl⟩, h6⟩
theorem MapInv.step {g : Nat × Nat → Option HR} {es : List (T × T)} {m n : Nat} {cont cont' : Nat → Nat → List Int} (h : MapInv g es m n cont) {t l : Nat} (ht : t < m) (hl : l < n) (v : Int) (c : Option Addr × Nat × Nat) (h1 : cont' t l = cont t l ++ [v]) (h2 : ∀ t' l', ¬ (t' = t ∧ l' = l) → cont' t' l' = cont t' l') :
    MapInv (upd g (t, l) (some ⟨c.1, c.2.1, c.2.2, 3, 1, iL (cont t l) ++ [.int .i64 v]⟩)) (mapSet es (keyT ((t : Nat) : Int) l) (.raw c.1 c.2.1 c.2.2)) m n cont' := by
  refine ⟨fun t' l' ht' hl' => ?_, fun p hp => ?_, ?_⟩
  · by_cases e : t' = t ∧ l' = l
    · obtain ⟨rfl, rfl⟩ := e
      exact .inr ⟨⟨c.1, c.2.1, c.2.2, 3, 1, iL (cont t' l') ++ [.int .i64 v]⟩, by simp [upd], rfl, rfl, by rw [h1]; simp [iL], by rw [h1]; simp, mapGet_set _ _ _⟩
    · have hk : keyT ((t : Nat) : Int) l ≠ keyT ((t' : Nat) : Int) l' := fun q => e (by obtain ⟨q1, q2⟩ := keyT_inj q; exact ⟨by omega, q2.symm⟩)
      have hg : upd g (t, l) (some ⟨c.1, c.2.1, c.2.2, 3, 1, iL (cont t l) ++ [.int .i64 v]⟩) (t', l') = g (t', l') := by
        show (if (t', l') = (t, l) then _ else _) = _
        rw [if_neg fun q => e (by simpa using q)]
      rw [h2 t' l' e, hg, mapGet_other _ _ hk]
      exact h.is t' l' ht' hl'
  · cases hq : mapGet es (keyT ((t : Nat) : Int) l) with
    | none =>
      rw [mapSet_none (mapGet_all hq)] at hp
      rcases List.mem_append.1 hp with hp | hp
      · exact h.keys p hp
      · rw [List.mem_singleton] at hp; subst hp; exact ⟨t, l, ht, hl, rfl⟩
    | some u =>
      obtain ⟨j, q, q1, q2, _⟩ := mapGet_at hq
      rw [mapSet_some h.pw q1 q2] at hp
      rcases List.mem_or_eq_of_mem_set hp with hp | rfl
      · exact h.keys p hp
      · exact ⟨t, l, ht, hl, rfl⟩
  · cases hq : mapGet es (keyT ((t : Nat) : Int) l) with
    | none =>
      rw [mapSet_none (mapGet_all hq), List.pairwise_append]
      exact ⟨h.pw, by simp, fun p hp q hq2 => by rw [List.mem_singleton] at hq2; subst hq2; exact mapGet_all hq p hp⟩
    | some u =>
      obtain ⟨j, q, q1, q2, _⟩ := mapGet_at hq
      rw [mapSet_some h.pw q1 q2]
      have e : ((es.set j (keyT ((t : Nat) : Int) l, T.raw c.1 c.2.1 c.2.2)).map (·.1)) = es.map (·.1) := by
        rw [List.map_set]
        show (es.map (·.1)).set j (keyT ((t : Nat) : Int) l) = _
        rw [← q2]
        apply List.ext_getElem?
        intro i
        rw [List.getElem?_set]
        split
        · rename_i e; subst e
          split
          · rw [List.getElem?_map, q1]; rfl
          · rename_i hl; exact absurd (List.getElem?_eq_some_iff.1 q1).1 (by simpa using hl)
        · rfl
      have := List.pairwise_map.2 h.pw
      rw [← e] at this
      exact List.pairwise_map.1 this
/-- What a hidden row holds, by its key. -/
def openV (cont : Nat → Nat → List Int) : T → T
  | .agg [.int _ t, .int _ l] => tInts (cont t.toNat l.toNat)
  | _ => .undef
def openM (cont : Nat → Nat → List Int) (es : List (T × T)) : List (T × T) := es.map fun p => (p.1, openV cont p.1)
theorem openV_key (cont : Nat → Nat → List Int) (t l : Nat) : openV cont (keyT ((t : Nat) : Int) l) = tInts (cont t l) := by simp [openV, keyT]
theorem MapInv.opens {g : Nat × Nat → Option HR} {es : List (T × T)} {m n : Nat} {cont : Nat → Nat → List Int} (h : MapInv g es m n cont) : (openM cont es).length = es.length ∧ ∀ (i : Nat) (y y' : T × T), es[i]? = some y → (openM cont es)[i]? = some y' → y'.1 = y.1 ∧ OpenH g y.2 y'.2 := by
  refine ⟨by simp [openM], fun i y y' h1 h2 => ?_⟩
  unfold openM at h2
  rw [List.getElem?_map, h1, Option.map_some] at h2
  cases h2
  refine ⟨rfl, ?_⟩
  obtain ⟨t, l, ht, hl, e⟩ := h.keys y (List.mem_of_getElem? h1)
  have hg := mapGet_some h.pw h1 e
  rcases h.is t l ht hl with ⟨_, _, h3⟩ | ⟨r, q1, q2, q3, q4, q5, q6⟩
  · rw [h3] at hg; cases hg
  · rw [q6] at hg
    have hy : y.2 = r.raw := (Option.some.inj hg).symm
    show OpenH g y.2 (openV cont y.1)
    rw [e, openV_key, hy]
    exact .raw (t, l) r (iL (cont t l)) q1 (by rw [q4]) fun k a b e1 e2 => by
      rw [q4, e2] at e1
      cases e1
      exact .refl _
theorem MapInv.says {g : Nat × Nat → Option HR} {es : List (T × T)} {m n : Nat} {next : List (List Int)} (h : MapInv g es m n fun t l => fromL next m ((t : Nat) : Int) l) : MapSays (openM (fun t l => fromL next m ((t : Nat) : Int) l) es) next m n := fun t l h0 ht hl => by
  obtain ⟨t, rfl⟩ := Int.eq_ofNat_of_zero_le h0
  unfold openM
  rw [mapGet_map]
  rcases h.is t l (by omega) hl with ⟨h1, _, h3⟩ | ⟨r, q1, q2, q3, q4, q5, q6⟩
  · rw [h3, if_pos h1]; rfl
  · rw [q6, if_neg q5, Option.map_some, openV_key]
/-- What is built while states and letters go on. -/
def contS (next : List (List Int)) (s lc t l : Nat) : List Int := fromL next s ((t : Nat) : Int) l ++ if l < lc ∧ nx next ((s : Nat) : Int) l = ((t : Nat) : Int) then [((s : Nat) : Int)] else []
theorem fromL_succ (next : List (List Int)) (s : Nat) (t : Int) (l : Nat) : fromL next (s + 1) t l = fromL next s t l ++ if nx next ((s : Nat) : Int) l = t then [((s : Nat) : Int)] else [] := by
  unfold fromL
  rw [List.range_succ, List.filter_append, List.map_append]
  congr 1
  by_cases h : nx next ((s : Nat) : Int) l = t
  · rw [if_pos h, List.filter_cons_of_pos (by simpa using h)]; rfl
  · rw [if_neg h, List.filter_cons_of_neg (by simpa using h)]; rfl
theorem contS_zero (next : List (List Int)) (s t l : Nat) : contS next s 0 t l = fromL next s ((t : Nat) : Int) l := by unfold contS; rw [if_neg (by omega), List.append_nil]
theorem contS_end (next : List (List Int)) (s : Nat) {n : Nat} (t : Nat) {l : Nat} (hl : l < n) : fromL next (s + 1) ((t : Nat) : Int) l = contS next s n t l := by
  rw [fromL_succ]
  unfold contS
  by_cases h : nx next ((s : Nat) : Int) l = ((t : Nat) : Int)
  · rw [if_pos h, if_pos ⟨hl, h⟩]
  · rw [if_neg h, if_neg fun q => h q.2]
theorem contS_at {next : List (List Int)} {s lc t : Nat} (h : nx next ((s : Nat) : Int) lc = ((t : Nat) : Int)) : contS next s (lc + 1) t lc = contS next s lc t lc ++ [((s : Nat) : Int)] := by
  unfold contS
  rw [if_pos ⟨by omega, h⟩, if_neg (by omega), List.append_nil]
theorem contS_other {next : List (List Int)} {s lc t t' l' : Nat} (h : nx next ((s : Nat) : Int) lc = ((t : Nat) : Int)) (hne : ¬ (t' = t ∧ l' = lc)) : contS next s (lc + 1) t' l' = contS next s lc t' l' := by
  unfold contS
  congr 1
  by_cases hl : l' = lc
  · subst hl
    rw [if_neg fun q => hne ⟨by omega, rfl⟩, if_neg (by omega)]
  · by_cases q : l' < lc ∧ nx next ((s : Nat) : Int) l' = ((t' : Nat) : Int)
    · rw [if_pos q, if_pos ⟨by omega, q.2⟩]
    · rw [if_neg q, if_neg fun r => q ⟨by omega, r.2⟩]
theorem contS_len (next : List (List Int)) (s lc t l : Nat) : (contS next s lc t l).length ≤ s + 1 := by
  unfold contS
  have := fromL_len next s ((t : Nat) : Int) l
  rw [List.length_append]
  split <;> simp <;> omega
end Go.Proofs.YthcclcbliedodaaDoor
namespace Go.Proofs.YthcclcbliedodaaDoor
open Go.RowKit

section
variable {G : World → Prop} (hG : Lasting G)
include hG
set_option maxHeartbeats 16000000 in
set_option maxRecDepth 100000 in
theorem GrowM_snd {m : Nat} (hm80 : m ≤ 80) (first : List Int) (n : Nat) (sf : Nat) {kk : KK} (mes : List (T × T)) (stp : List Int → Nat → List Int) (hf : Inm m first) (hfl : first.length ≤ 1000000) (hn : n ≤ 36) (hsm : ∀ s l, Inm m s → l < n → Inm m (stp s l)) (hlen : ∀ s l, Inm m s → s.Pairwise (· < ·) → l < n → (stp s l).length ≤ 1000000)
    (hstp : ∀ s l, Inm m s → s.Pairwise (· < ·) → l < n → SndG Tryd.prog G sf ([.t (tInts s), .t (tNat l)] ++ [.bptr 0 0]) [.box [.map 1], .map kk mes] [] (.sref 2) ([.box [.map 1], .map kk mes] ++ [.row 3 1 true (iL (stp s l))])) :
    SndG Tryd.prog G 46 [.sref 0, .t (tNat n), .fn sf [.bptr 1 0]] [.row 3 1 true (iL first), .box [.map 2], .map kk mes] [] (.t (.tup [tIntss (growSets stp n first), tIntss (growRows stp n first), .bool (growOk stp n first)])) [.hole, .box [.map 2], .map kk mes, .box [.t (tIntss (growSets stp n first))]] := by
  refine sndG_of_body tt_ok Tryd.func46 rfl rfl (n := 54) rfl (rs := [.cell 6 22, .tmp 7, .tmp 8]) rfl (by simp only [List.length_cons, List.length_nil]; decide) [1] (fun i l h => ?_) (fun i hi => ?_) fun bs => ?_
  · match i, h with
    | 0, h => cases h
    | 1, h => exact ⟨by simp, _, rfl⟩
    | 2, h => cases h
  · simp only [List.mem_singleton] at hi
    subst hi
    exact ⟨_, rfl⟩
  show SW _ _ _ _ ⟨54, [(0, .sref 0), (1, .t (tNat n)), (2, .fn sf [.bptr 1 0]), (55, .pin 1 (bs 1))], [.row 3 1 true (iL first), .box [.map 2], .map kk mes]⟩
  have htb : Tab.ok Tryd.prog G [] := Tab.nil
  obtain ⟨δ, hδ⟩ : ∃ δ, nextD stp = δ := ⟨_, rfl⟩
  obtain ⟨s0, hs0⟩ : ∃ s0, canonL first = s0 := ⟨_, rfl⟩
  have c1 := find_snd hG [] first (hf.small hm80) hfl (fun q hq => by simp at hq) List.nodup_nil (by simp)
  have e1 : addS ([] : List (List Int)) (canonL first) = [canonL first] := by simp [addS]
  rw [e1, hs0] at c1
  repeat' (first | (with_reducible first | refine SW_seq ?_ | refine SW_block ?_ | refine SThen_n ?_ | refine SThen_r ?_ | refine SThen_e ?_ | refine SIn_n ?_ | refine SIn_r ?_ | refine SIn_eq ?_ | refine SW_skip ?_ | refine SW_exit ?_ | refine SW_ret ?_ | refine SPost_r ?_) | ((with_reducible refine SIn_ne ?_ ?_); focus decide) | ((with_reducible refine SW_true ?_ ?_); focus exact rfl) | ((with_reducible refine SW_false ?_ ?_); focus exact rfl) | ((with_reducible apply SW_run tt_ok hG htb); focus ((repeat' (first | (with_reducible exact runX_nil) | ((with_reducible apply runX_cons); focus (simp (discharger := omega) only [go_sem, simprocAttr]; with_reducible rfl)))); done)))
  refine SW_norm ((Norm.headS (own := []) (keep := [55, 9, 6, 0, 1, 2, 7, 8, 10]) (by refine ⟨?_, ?_⟩; (simp (discharger := omega) only [go_sem, simprocAttr]; with_reducible rfl); refine ⟨?_, ?_, ?_, ?_⟩ <;> (simp only [go_sem, simprocAttr]; with_reducible rfl))).trans (Norm.ownB (j := 2) (off := 0) (e := 35) (sz := 1) rfl rfl (by decide))) ?_
  refine SW_norm (Norm.headP [1, 2, 5, 6, 3] rfl (own := []) (keep := [55, 9, 6, 0, 1, 2, 7, 8, 10]) (by refine ⟨?_, ?_⟩; (simp (discharger := omega) only [go_sem, simprocAttr]; with_reducible rfl); refine ⟨?_, ?_, ?_, ?_⟩ <;> (simp only [go_sem, simprocAttr]; with_reducible rfl))) ?_
  refine SW_region ?_
  refine SL_k tt_ok hG htb 2 (by simp only [List.take_succ_cons, List.take_zero]; rfl) (by simp only [List.drop_succ_cons, List.drop_zero, Nat.reduceAdd]; rfl) (by (repeat' (first | (with_reducible exact runX_nil) | ((with_reducible apply runX_cons); focus (simp (discharger := omega) only [go_sem, simprocAttr]; with_reducible rfl))))) ?_
  refine SL_callH (g := 62) (cap := [.bptr 0 0, .bptr 1 0]) (obs := [.box [.map 2], .box [.sref 3], .map .str (strEntries []), .row 35 1 true ([].map tInts), .row 3 1 true (iL first)]) (ks := []) (obs' := [.box [.map 2], .box [.sref 3], .map .str (strEntries [s0]), .row 35 1 true ([s0].map tInts), .hole]) (rst := ?zra) (r := .t (tNat (idxS [s0] s0))) (s3 := ?zua) rfl rfl ?q1a ?q2a ?q3a ?q4a ?q5a ?q6a ?q7a ?q8a ?q9a
  case q5a => exact c1
  case q1a => rfl
  case q2a => rfl
  case q3a => rfl
  case q4a => rfl
  case q6a => rfl
  case q7a => rfl
  case q8a =>
    simp only [go_sem, St.back, List.map_cons, List.map_nil, SV.ren, Ob.ren, renL, pastG, lateG, List.length_cons, List.length_nil, List.take_succ_cons, List.take_zero, List.drop_succ_cons, List.drop_zero, List.getElem?_cons_zero, List.getElem?_cons_succ, List.getElem?_nil, simprocAttr]
    rfl
  refine SL_done tt_ok hG htb (by (repeat' (first | (with_reducible exact runX_nil) | ((with_reducible apply runX_cons); focus (simp (discharger := omega) only [go_sem, simprocAttr]; with_reducible rfl))))) ?_
  repeat' (first | (with_reducible first | refine SW_seq ?_ | refine SW_block ?_ | refine SThen_n ?_ | refine SThen_r ?_ | refine SThen_e ?_ | refine SIn_n ?_ | refine SIn_r ?_ | refine SIn_eq ?_ | refine SW_skip ?_ | refine SW_exit ?_ | refine SW_ret ?_ | refine SPost_r ?_) | ((with_reducible refine SIn_ne ?_ ?_); focus decide) | ((with_reducible refine SW_true ?_ ?_); focus exact rfl) | ((with_reducible refine SW_false ?_ ?_); focus exact rfl) | ((with_reducible apply SW_run tt_ok hG htb); focus ((repeat' (first | (with_reducible exact runX_nil) | ((with_reducible apply runX_cons); focus (simp (discharger := omega) only [go_sem, simprocAttr]; with_reducible rfl)))); done)))
  have hp0 : Inm m s0 ∧ s0.Pairwise (· < ·) := ⟨hs0 ▸ hf.canon, hs0 ▸ (canonL_spec first).1⟩
  have hpd : ∀ s l, l < n → Inm m s ∧ s.Pairwise (· < ·) → Inm m (δ s l) ∧ (δ s l).Pairwise (· < ·) := fun s l hl h => by
    rw [← hδ]
    exact ⟨(hsm s l h.1 hl).canon, (canonL_spec _).1⟩
  have hgood : ∀ k, ∀ q ∈ growS δ n s0 k, Inm m q ∧ q.Pairwise (· < ·) := growS_in' hp0 hpd
  unfold growSets growRows growOk
  rw [hδ, hs0]
  refine SW_loop (fun mm st => ∃ (i : Nat) (nx ms : List T) (es : List (T × T)), mm = 2001 - i ∧ st = ⟨54, [(55, .pin 0 (bs 1)), (9, .bptr 1 0), (6, .bptr 2 0), (1, .t (tNat n)), (2, .fn sf [.bptr 0 0]), (7, .sref 3), (8, .t (.bool false)), (10, .fn 62 [.bptr 1 0, .bptr 2 0]), (11, .t (tNat i))], [.box [.map 4], .box [.map 5], .box [.sref 6], .row 35 1 true nx, .map kk mes, .map .str es, .row 35 1 true ms]⟩ ∧ i ≤ 2000 ∧ i ≤ (growS δ n s0 i).length ∧ es = strEntries (growS δ n s0 i) ∧ ms = (growS δ n s0 i).map tInts ∧ nx = (rowsIn δ n (growS δ n s0 i) i).map tInts) 2001
    ⟨_, Norm.headS (own := [(7, 35, 1, true)]) (keep := [55, 9, 6, 1, 2, 7, 8, 10, 11]) (by refine ⟨?_, ?_⟩; (simp (discharger := omega) only [go_sem, simprocAttr]; with_reducible rfl); refine ⟨?_, ?_, ?_, ?_⟩ <;> (simp only [go_sem, simprocAttr]; with_reducible rfl)), 0, _, _, _, rfl, rfl, Nat.zero_le _, Nat.zero_le _, rfl, rfl, rfl⟩ ?_
  rintro mm st ⟨i, nx, ms, es, rfl, rfl, hi, hil, hes, hms, hnx⟩
  have hml : ms.length = (growS δ n s0 i).length := by rw [hms, List.length_map]
  by_cases hlt : i < (growS δ n s0 i).length
  rotate_left
  · have hie : (growS δ n s0 i).length = i := by omega
    have hok := grow_few (δ := δ) (n := n) (s0 := s0) hi hie
    rw [if_pos hok, if_pos hok, hok, grow_end (i := i) (by omega) (by omega), grow_rows (by omega) hie]
    have hlt2 : ¬ ((i : Nat) : Int) < ((ms.length : Nat) : Int) := by omega
    have hle2 : ((ms.length : Nat) : Int) ≤ 2000 := by omega
    have hle3 := eq_true hle2
    repeat' (first | (with_reducible first | apply w1 | apply w2 | apply w3 | apply w4 | apply w5 | apply w6 | apply w7 | apply w8 | apply w9 | apply wa | apply wb | apply wc) | ((with_reducible apply wd); focus decide) | ((with_reducible apply we); focus exact rfl) | ((with_reducible apply wf); focus exact rfl) | ((first | (with_reducible apply SW_run tt_ok hG htb) | ((with_reducible apply SW_draw rfl tt_ok hG htb); (focus kernel_rfl); focus simp only [List.range, List.range.loop, List.size_toArray, List.length_cons, List.length_nil, Nat.reduceAdd])); focus ((repeat' (first | (with_reducible first | exact wg | exact wh) | ((with_reducible first | apply wi | apply wj); focus (simp (discharger := omega) only [go_sem, hlt2, hle3, simprocAttr]; with_reducible rfl)))); done)))
    subst hms hnx
    refine SPostG_norm (Norm.headS (own := []) (keep := [55, 6, 7, 8]) (by refine ⟨?_, ?_⟩; (simp (discharger := omega) only [go_sem, simprocAttr]; with_reducible rfl); refine ⟨?_, ?_, ?_, ?_⟩ <;> (simp only [go_sem, simprocAttr]; with_reducible rfl))) ?_
    refine SPostG_normE (Norm.frzRow 4 rfl) (by simp only [go_sem, simprocAttr]; rfl) ?_
    refine SPostG_normE (Norm.frzRow 2 rfl) (by simp only [go_sem, simprocAttr]; rfl) ?_
    refine SPostG_normE (Norm.trB 1 0 rfl rfl rfl) (by simp only [go_sem, simprocAttr]; rfl) ?_
    refine SPostG_normE (Norm.datum 7 2 rfl rfl) (by simp only [go_sem, simprocAttr]; rfl) ?_
    refine SPostG_norm (Norm.headS (own := []) (keep := [55, 6, 7, 8]) (by refine ⟨?_, ?_⟩; (simp (discharger := omega) only [go_sem, simprocAttr]; with_reducible rfl); refine ⟨?_, ?_, ?_, ?_⟩ <;> (simp only [go_sem, simprocAttr]; with_reducible rfl))) ?_
    refine SPostG_normE (Norm.hole _) (by simp only [go_sem, simprocAttr]; rfl) ?_
    refine SPostG_norm (Norm.headP [3, 0, 2, 1] rfl (own := []) (keep := [55, 6, 7, 8]) (by refine ⟨?_, ?_⟩; (simp (discharger := omega) only [go_sem, simprocAttr]; with_reducible rfl); refine ⟨?_, ?_, ?_, ?_⟩ <;> (simp only [go_sem, simprocAttr]; with_reducible rfl))) ?_
    exact SPostG_r (Norm.refl _) rfl rfl (fun i hi => by simp only [List.mem_singleton] at hi; subst hi; rfl)
  by_cases hbig : 2000 < (growS δ n s0 i).length
  · have hok := grow_many (δ := δ) (n := n) (s0 := s0) (i := i) (by omega) hbig
    rw [hok, if_neg (by decide), if_neg (by decide)]
    have hlt2 : ((i : Nat) : Int) < ((ms.length : Nat) : Int) := by omega
    have hgt2 : ((ms.length : Nat) : Int) > 2000 := by omega
    repeat' (first | (with_reducible first | apply w1 | apply w2 | apply w3 | apply w4 | apply w5 | apply w6 | apply w7 | apply w8 | apply w9 | apply wa | apply wb | apply wc) | ((with_reducible apply wd); focus decide) | ((with_reducible apply we); focus exact rfl) | ((with_reducible apply wf); focus exact rfl) | ((first | (with_reducible apply SW_run tt_ok hG htb) | ((with_reducible apply SW_draw rfl tt_ok hG htb); (focus kernel_rfl); focus simp only [List.range, List.range.loop, List.size_toArray, List.length_cons, List.length_nil, Nat.reduceAdd])); focus ((repeat' (first | (with_reducible first | exact wg | exact wh) | ((with_reducible first | apply wi | apply wj); focus (simp (discharger := omega) only [go_sem, hlt2, hgt2, simprocAttr]; with_reducible rfl)))); done)))
    refine SPostG_norm (Norm.headS (own := []) (keep := [55, 6, 7, 8]) (by refine ⟨?_, ?_⟩; (simp (discharger := omega) only [go_sem, simprocAttr]; with_reducible rfl); refine ⟨?_, ?_, ?_, ?_⟩ <;> (simp only [go_sem, simprocAttr]; with_reducible rfl))) ?_
    refine SPostG_normE (Norm.trB 1 0 rfl rfl rfl) (by simp only [go_sem, simprocAttr]; rfl) ?_
    refine SPostG_normE (Norm.tr 7 rfl rfl) (by simp only [go_sem, simprocAttr]; rfl) ?_
    refine SPostG_norm (Norm.headS (own := []) (keep := [55, 6, 7, 8]) (by refine ⟨?_, ?_⟩; (simp (discharger := omega) only [go_sem, simprocAttr]; with_reducible rfl); refine ⟨?_, ?_, ?_, ?_⟩ <;> (simp only [go_sem, simprocAttr]; with_reducible rfl))) ?_
    refine SPostG_normE (Norm.hole _) (by simp only [go_sem, simprocAttr]; rfl) ?_
    refine SPostG_norm (Norm.headP [3, 0, 2, 1] rfl (own := []) (keep := [55, 6, 7, 8]) (by refine ⟨?_, ?_⟩; (simp (discharger := omega) only [go_sem, simprocAttr]; with_reducible rfl); refine ⟨?_, ?_, ?_, ?_⟩ <;> (simp only [go_sem, simprocAttr]; with_reducible rfl))) ?_
    exact SPostG_r (Norm.refl _) rfl rfl (fun i hi => by simp only [List.mem_singleton] at hi; subst hi; rfl)
  obtain ⟨s, hs⟩ : ∃ s, (growS δ n s0 i)[i]? = some s := ⟨_, List.getElem?_eq_getElem hlt⟩
  have hsg := hgood i s (List.mem_of_getElem? hs)
  have hgi := hgood i
  have hndi := growS_nodup (δ := δ) (n := n) (s0 := s0) i
  have hnext := growS_some hs
  have hrows := rows_step hs
  rw [hnext] at hrows
  generalize hP : growS δ n s0 i = P at *
  have hlt2 : ((i : Nat) : Int) < ((ms.length : Nat) : Int) := by omega
  have hgt2 : ¬ ((ms.length : Nat) : Int) > 2000 := by omega
  repeat' (first | (with_reducible first | apply w1 | apply w2 | apply w3 | apply w4 | apply w5 | apply w6 | apply w7 | apply w8 | apply w9 | apply wa | apply wb | apply wc) | ((with_reducible apply wd); focus decide) | ((with_reducible apply we); focus exact rfl) | ((with_reducible apply wf); focus exact rfl) | ((first | (with_reducible apply SW_run tt_ok hG htb) | ((with_reducible apply SW_draw rfl tt_ok hG htb); (focus kernel_rfl); focus simp only [List.range, List.range.loop, List.size_toArray, List.length_cons, List.length_nil, Nat.reduceAdd])); focus ((repeat' (first | (with_reducible first | exact wg | exact wh) | ((with_reducible first | apply wi | apply wj); focus (simp (discharger := omega) only [go_sem, hlt2, hgt2, simprocAttr]; with_reducible rfl)))); done)))
  refine SW_loop (fun mm st => ∃ (l : Nat) (rw' ms' : List T) (es' : List (T × T)), mm = n - l ∧ st = ⟨54, [(55, .pin 0 (bs 1)), (9, .bptr 1 0), (6, .bptr 2 0), (1, .t (tNat n)), (2, .fn sf [.bptr 0 0]), (7, .sref 3), (8, .t (.bool false)), (10, .fn 62 [.bptr 1 0, .bptr 2 0]), (11, .t (tNat i)), (12, .sref 4), (28, .t (tNat n)), (29, .t (tNat l))], [.box [.map 5], .box [.map 6], .box [.sref 7], .row 35 1 true nx, .row 3 1 true rw', .map kk mes, .map .str es', .row 35 1 true ms']⟩ ∧ l ≤ n ∧ es' = strEntries (partS δ P s l) ∧ ms' = (partS δ P s l).map tInts ∧ rw' = (rowIn δ (partS δ P s l) s l).map tInt) n
    ⟨_, Norm.headS (own := [(12, 3, 1, true)]) (keep := [55, 9, 6, 1, 2, 7, 8, 10, 11, 12, 28, 29]) (by refine ⟨?_, ?_⟩; (simp (discharger := omega) only [go_sem, simprocAttr]; with_reducible rfl); refine ⟨?_, ?_, ?_, ?_⟩ <;> (simp only [go_sem, simprocAttr]; with_reducible rfl)), 0, _, _, _, rfl, rfl, Nat.zero_le _, hes, hms, rfl⟩ ?_
  rintro mm st ⟨l, rw', ms', es', rfl, rfl, hl, hes', hms', hrw'⟩
  by_cases hll : l < n
  · have e2 : canonL (stp s l) = δ s l := by rw [← hδ]; rfl
    have hpl := partS_len δ P s l
    have c2 := find_snd hG (partS δ P s l) (stp s l) ((hsm s l hsg.1 hll).small hm80) (hlen s l hsg.1 hsg.2 hll) (fun q hq => (partS_in' (p := fun q => Inm m q ∧ q.Pairwise (· < ·)) hgi l (fun j hj => hpd s j (by omega) hsg) q hq).1.small hm80) (partS_nodup hndi s l) (by omega)
    rw [e2, show addS (partS δ P s l) (δ s l) = partS δ P s (l + 1) from rfl, ← hes', ← hms'] at c2
    have c3 := hstp s l hsg.1 hsg.2 hll
    have hil2 : i < (partS δ P s l).length := by
      have := (partS_pre δ P s l).length_le
      omega
    have hsi : ms'[i]! = tInts s := by
      have h1 : (partS δ P s l)[i]? = some s := pre_get (partS_pre δ P s l) hs
      rw [hms', getElem!_pos _ _ (by rw [List.length_map]; exact hil2)]
      obtain ⟨q1, q2⟩ := List.getElem?_eq_some_iff.1 h1
      simp [q2]
    have hms2 : ms'.length = (partS δ P s l).length := by rw [hms', List.length_map]
    have hrl : rw'.length = l := by rw [hrw', List.length_map]; simp [rowIn]
    obtain ⟨es2, hes2⟩ : ∃ es2, strEntries (partS δ P s (l + 1)) = es2 := ⟨_, rfl⟩
    obtain ⟨ms2, hms3⟩ : ∃ ms2, (partS δ P s (l + 1)).map tInts = ms2 := ⟨_, rfl⟩
    obtain ⟨k, hk⟩ : ∃ k, idxS (partS δ P s (l + 1)) (δ s l) = k := ⟨_, rfl⟩
    have hstep := rowIn_step (δ := δ) (met := P) (s := s) l
    rw [hk] at hstep
    rw [hes2, hms3, hk] at c2
    generalize stp s l = u at *
    repeat' (first | (with_reducible first | refine SW_seq ?_ | refine SW_block ?_ | refine SThen_n ?_ | refine SThen_r ?_ | refine SThen_e ?_ | refine SIn_n ?_ | refine SIn_r ?_ | refine SIn_eq ?_ | refine SW_skip ?_ | refine SW_exit ?_ | refine SW_ret ?_ | refine SPost_r ?_) | ((with_reducible refine SIn_ne ?_ ?_); focus decide) | ((with_reducible refine SW_true ?_ ?_); focus exact rfl) | ((with_reducible refine SW_false ?_ ?_); focus exact rfl) | ((with_reducible apply SW_run tt_ok hG htb); focus ((repeat' (first | (with_reducible exact runX_nil) | ((with_reducible apply runX_cons); focus (simp (discharger := omega) only [go_sem, simprocAttr]; with_reducible rfl)))); done)))
    refine SW_region ?_
    refine SL_k tt_ok hG htb 8 (by simp only [List.take_succ_cons, List.take_zero]; rfl) (by simp only [List.drop_succ_cons, List.drop_zero, Nat.reduceAdd]; rfl) (by (repeat' (first | (with_reducible exact runX_nil) | ((with_reducible apply runX_cons); focus (simp (discharger := omega) only [go_sem, hsi, simprocAttr]; with_reducible rfl))))) ?_
    refine SL_norm (Norm.headP [0, 5] rfl (own := []) (keep := [55, 9, 6, 1, 2, 7, 8, 10, 11, 12, 28, 29, 32, 33, 34, 38, 39]) (by refine ⟨?_, ?_⟩; (simp (discharger := omega) only [go_sem, simprocAttr]; with_reducible rfl); refine ⟨?_, ?_, ?_, ?_⟩ <;> (simp only [go_sem, simprocAttr]; with_reducible rfl))) ?_
    refine SL_callH (g := sf) (cap := [.bptr 0 0]) (obs := [.box [.map 1], .map kk mes]) (ks := []) (obs' := [.box [.map 1], .map kk mes] ++ [.row 3 1 true (iL u)]) (rst := ?zrb) (r := .sref 2) (s3 := ?zub) rfl rfl ?q1b ?q2b ?q3b ?q4b ?q5b ?q6b ?q7b ?q8b ?q9b
    case q5b => exact c3
    case q1b => rfl
    case q2b => rfl
    case q3b => rfl
    case q4b => rfl
    case q6b => rfl
    case q7b => rfl
    case q8b =>
      simp only [go_sem, St.back, List.map_cons, List.map_nil, SV.ren, Ob.ren, renL, pastG, lateG, List.length_cons, List.length_nil, List.take_succ_cons, List.take_zero, List.drop_succ_cons, List.drop_zero, List.getElem?_cons_zero, List.getElem?_cons_succ, List.getElem?_nil, List.cons_append, List.nil_append, simprocAttr]
      rfl
    refine SL_norm (Norm.headP [2, 3, 6, 7, 8] rfl (own := []) (keep := [55, 9, 6, 1, 2, 7, 8, 10, 11, 12, 28, 29, 32, 33, 40]) (by refine ⟨?_, ?_⟩; (simp (discharger := omega) only [go_sem, simprocAttr]; with_reducible rfl); refine ⟨?_, ?_, ?_, ?_⟩ <;> (simp only [go_sem, simprocAttr]; with_reducible rfl))) ?_
    refine SL_callH (g := 62) (cap := [.bptr 0 0, .bptr 1 0]) (obs := [.box [.map 2], .box [.sref 3], .map .str es', .row 35 1 true ms', .row 3 1 true (iL u)]) (ks := []) (obs' := [.box [.map 2], .box [.sref 3], .map .str es2, .row 35 1 true ms2, .hole]) (rst := ?zrc) (r := .t (tNat k)) (s3 := ?zuc) rfl rfl ?q1c ?q2c ?q3c ?q4c ?q5c ?q6c ?q7c ?q8c ?q9c
    case q5c => exact c2
    case q1c => rfl
    case q2c => rfl
    case q3c => rfl
    case q4c => rfl
    case q6c => rfl
    case q7c => rfl
    case q8c =>
      simp only [go_sem, St.back, List.map_cons, List.map_nil, SV.ren, Ob.ren, renL, pastG, lateG, List.length_cons, List.length_nil, List.take_succ_cons, List.take_zero, List.drop_succ_cons, List.drop_zero, List.getElem?_cons_zero, List.getElem?_cons_succ, List.getElem?_nil, simprocAttr]
      rfl
    refine SL_done tt_ok hG htb (by (repeat' (first | (with_reducible exact runX_nil) | ((with_reducible apply runX_cons); focus (simp (discharger := omega) only [go_sem, hrl, simprocAttr]; with_reducible rfl))))) ?_
    repeat' (first | (with_reducible first | refine SW_seq ?_ | refine SW_block ?_ | refine SThen_n ?_ | refine SThen_r ?_ | refine SThen_e ?_ | refine SIn_n ?_ | refine SIn_r ?_ | refine SIn_eq ?_ | refine SW_skip ?_ | refine SW_exit ?_ | refine SW_ret ?_ | refine SPost_r ?_) | ((with_reducible refine SIn_ne ?_ ?_); focus decide) | ((with_reducible refine SW_true ?_ ?_); focus exact rfl) | ((with_reducible refine SW_false ?_ ?_); focus exact rfl) | ((with_reducible apply SW_run tt_ok hG htb); focus ((repeat' (first | (with_reducible exact runX_nil) | ((with_reducible apply runX_cons); focus (simp (discharger := omega) only [go_sem, simprocAttr]; with_reducible rfl)))); done)))
    exact ⟨n - (l + 1), _, by omega, Norm.headS (own := []) (keep := [55, 9, 6, 1, 2, 7, 8, 10, 11, 12, 28, 29]) (by refine ⟨?_, ?_⟩; (simp (discharger := omega) only [go_sem, simprocAttr]; with_reducible rfl); refine ⟨?_, ?_, ?_, ?_⟩ <;> (simp only [go_sem, simprocAttr]; with_reducible rfl)), l + 1, _, _, _, rfl, rfl, by omega, hes2.symm, hms3.symm, by rw [← hstep, List.map_append, ← hrw']; rfl⟩
  · obtain rfl : l = n := by omega
    have hnl : nx.length = i := by
      rw [hnx, List.length_map]
      simp [rowsIn]; omega
    repeat' (first | (with_reducible first | apply w1 | apply w2 | apply w3 | apply w4 | apply w5 | apply w6 | apply w7 | apply w8 | apply w9 | apply wa | apply wb | apply wc) | ((with_reducible apply wd); focus decide) | ((with_reducible apply we); focus exact rfl) | ((with_reducible apply wf); focus exact rfl) | ((first | (with_reducible apply SW_run tt_ok hG htb) | ((with_reducible apply SW_draw rfl tt_ok hG htb); (focus kernel_rfl); focus simp only [List.range, List.range.loop, List.size_toArray, List.length_cons, List.length_nil, Nat.reduceAdd])); focus ((repeat' (first | (with_reducible first | exact wg | exact wh) | ((with_reducible first | apply wi | apply wj); focus (simp (discharger := omega) only [go_sem, hnl, simprocAttr]; with_reducible rfl)))); done)))
    exact ⟨2001 - (i + 1), _, by omega, Norm.headS (own := []) (keep := [55, 9, 6, 1, 2, 7, 8, 10, 11]) (by refine ⟨?_, ?_⟩; (simp (discharger := omega) only [go_sem, simprocAttr]; with_reducible rfl); refine ⟨?_, ?_, ?_, ?_⟩ <;> (simp only [go_sem, simprocAttr]; with_reducible rfl)), i + 1, _, _, _, rfl, rfl, by omega, by rw [hnext]; have := (partS_pre δ P s l).length_le; omega, by rw [hnext]; exact hes', by rw [hnext]; exact hms', by rw [hnext, ← hrows, List.map_append, ← hnx, hrw']; rfl⟩
end
end Go.Proofs.YthcclcbliedodaaDoor
namespace Go.Proofs.YthcclcbliedodaaDoor
open Go.RowKit

section
variable {G : World → Prop} (hG : Lasting G)
include hG
set_option maxHeartbeats 16000000 in
set_option maxRecDepth 100000 in
theorem turned_snd (a : GAuto) : Snd Tryd.prog G 39 [tAuto a] (.tup [tIntss (turnS a), tIntss (turnR a), tErr (turnErr0 a)]) := by
  have c1 := Least_snd hG a
  refine sndH_of_body (κ := Nat × Nat) (n := 77) (tm := [(0, .t (tAuto a))]) (rs := [.tmp 2, .tmp 3, .tmp 4]) ttR_ok Tryd.func39 rfl rfl rfl rfl rfl ?_
  by_cases hf : autoFault a = 0
  rotate_left
  · have he : turnErr0 a = autoFault a := if_pos hf
    have hS : turnS a = [] := if_pos hf
    have hR : turnR a = [] := if_pos hf
    have hl0 : leastOf a = GAuto.zero := if_neg hf
    rw [he, hS, hR]
    rw [hl0] at c1
    generalize autoFault a = e at *
    have htb := Tab.cons c1 Tab.nil
    repeat' (first | (with_reducible first | apply v1 | apply v2 | apply v3 | apply v4 | apply v5 | apply v6 | apply v7 | apply v8 | apply v9 | apply va | apply vb | apply vc) | ((with_reducible apply vd); focus decide) | ((with_reducible apply ve); focus exact rfl) | ((with_reducible apply vf); focus exact rfl) | ((first | (with_reducible apply HW_run ttR_ok hG htb) | ((with_reducible apply HW_draw rfl ttR_ok hG htb); (focus kernel_rfl); focus simp only [List.range, List.range.loop, List.size_toArray, List.length_cons, List.length_nil, Nat.reduceAdd])); focus ((repeat' (first | (with_reducible first | exact wg | exact wh) | ((with_reducible first | apply wi | apply wj); focus (simp (discharger := omega) only [go_sem, tAuto, tErr, hf, simprocAttr]; with_reducible rfl)))); done)))
    exact (by simp (discharger := omega) only [go_sem, tAuto, tErr, hf, simprocAttr])
  have hlA : leastOf a = leastA a := if_pos hf
  have g0 := good_of hf
  obtain ⟨n, hn⟩ : ∃ n, (manyOf a.base a.tracks).toNat = n := ⟨_, rfl⟩
  rw [hn] at g0
  obtain ⟨_, _, gM⟩ := least_again g0
  have hSe : turnS a = growSets (stepT (leastA a).next (leastA a).next.length) n (endsF (leastA a).ends (leastA a).next.length) := by
    have : turnS a = growSets (turnD a) (turnN a) (turnF a) := if_neg fun q => q hf
    rw [this, show turnN a = n from hn]; rfl
  have hRe : turnR a = growRows (stepT (leastA a).next (leastA a).next.length) n (endsF (leastA a).ends (leastA a).next.length) := by
    have : turnR a = growRows (turnD a) (turnN a) (turnF a) := if_neg fun q => q hf
    rw [this, show turnN a = n from hn]; rfl
  have hoke : turnOk a = growOk (stepT (leastA a).next (leastA a).next.length) n (endsF (leastA a).ends (leastA a).next.length) := by
    unfold turnOk; rw [show turnN a = n from hn]; rfl
  have hErr : turnErr0 a = if turnOk a = false then 3 else 0 := by unfold turnErr0; rw [if_neg (fun q => q hf)]
  rw [hoke] at hErr
  rw [hErr, hSe, hRe]
  clear hErr hSe hRe hoke
  obtain ⟨M, hM⟩ : ∃ M, leastA a = M := ⟨_, rfl⟩
  rw [hlA, hf, hM] at c1
  rw [hM] at gM ⊢
  obtain ⟨m, hm⟩ : ∃ m, M.next.length = m := ⟨_, rfl⟩
  rw [hm] at gM ⊢
  have hm80 := gM.m80
  have hn36 := gM.n36
  have hn0 := gM.n0
  have hm0 := gM.m0
  have hmE := gM.ends
  have gMr := gM.rows
  have htb := Tab.cons c1 Tab.nil
  repeat' (first | (with_reducible first | apply v1 | apply v2 | apply v3 | apply v4 | apply v5 | apply v6 | apply v7 | apply v8 | apply v9 | apply va | apply vb | apply vc) | ((with_reducible apply vd); focus decide) | ((with_reducible apply ve); focus exact rfl) | ((with_reducible apply vf); focus exact rfl) | ((first | (with_reducible apply HW_run ttR_ok hG htb) | ((with_reducible apply HW_draw rfl ttR_ok hG htb); (focus kernel_rfl); focus simp only [List.range, List.range.loop, List.size_toArray, List.length_cons, List.length_nil, Nat.reduceAdd])); focus ((repeat' (first | (with_reducible first | exact wg | exact wh) | ((with_reducible first | apply wi | apply wj); focus (simp (discharger := omega) only [go_sem, tErr0, tAuto, simprocAttr]; with_reducible rfl)))); done)))
  clear htb
  have htb : Tab.ok Tryd.prog G [] := Tab.nil
  refine HW_loop (fun mm st g => ∃ (s : Nat) (fs : List T) (es : List (T × T)), mm = m - s ∧ st = ⟨77, [(5, .bptr 0 0), (6, .bptr 1 0), (7, .sref 2), (23, .t (tIntss M.next)), (24, .t (tNat m)), (25, .t (tNat s))], [.box [.t (tInt M.base), .t (tInt M.tracks), .t (tIntss M.next), .t (tBools M.ends)], .box [.map 3], .row 3 1 true fs, .map (.ints 2) es]⟩ ∧ s ≤ m ∧ fs = iL (endsF M.ends s) ∧ MapInv g es m n (fun t l => fromL M.next s ((t : Nat) : Int) l)) m
    ⟨_, Norm.headS (own := [(7, 3, 1, true)]) (keep := [5, 6, 7, 23, 24, 25]) (by refine ⟨?_, ?_⟩; (simp (discharger := omega) only [go_sem, simprocAttr]; with_reducible rfl); refine ⟨?_, ?_, ?_, ?_⟩ <;> (simp only [go_sem, simprocAttr]; with_reducible rfl)), 0, _, _, rfl, by rw [hm]; rfl, Nat.zero_le _, rfl, (MapInv.init m n).congr fun t l _ _ => rfl⟩ ?_
  rintro mm st g ⟨s, fs, es, rfl, rfl, hs, hfs, hinv⟩
  have hfsl : fs.length ≤ 80 := by rw [hfs, iL_length]; exact Nat.le_trans (endsF_len _ _) (by omega)
  by_cases hlt : s < m
  · obtain ⟨b, hb⟩ : ∃ b, M.ends[s]! = b := ⟨_, rfl⟩
    have heb : endOf M.ends ((s : Nat) : Int) = b := by unfold endOf; exact bang_D hb (by rw [hmE]; simpa using hlt)
    obtain ⟨row, hrow⟩ : ∃ row, M.next[s]! = row := ⟨_, rfl⟩
    have hrl := gMr.row row (bang_mem hrow (by omega))
    have hro : rowOf M.next ((s : Nat) : Int) = row := by unfold rowOf; exact bang_D hrow (by simpa [hm] using hlt)
    have hend : endsF M.ends (s + 1) = endsF M.ends s ++ if b = true then [((s : Nat) : Int)] else [] := by
      unfold endsF
      rw [List.range_succ, List.filter_append, List.map_append]
      congr 1
      cases b with
      | false => rw [List.filter_cons_of_neg (by rw [heb]; decide)]; rfl
      | true => rw [List.filter_cons_of_pos (by rw [heb])]; rfl
    obtain ⟨fs2, hfs2⟩ : ∃ fs2, iL (endsF M.ends (s + 1)) = fs2 := ⟨_, rfl⟩
    have hcase : (b = false ∧ fs2 = fs) ∨ (b = true ∧ fs2 = fs ++ [.int .i64 ((s : Nat) : Int)]) := by
      rw [hend] at hfs2
      cases b with
      | false => exact .inl ⟨rfl, by rw [← hfs2, hfs]; simp⟩
      | true => exact .inr ⟨rfl, by rw [← hfs2, hfs]; simp [iL]⟩
    rcases hcase with ⟨hbb, hfe⟩ | ⟨hbb, hfe⟩
    · rw [hbb] at hb
      repeat' (first | (with_reducible first | apply v1 | apply v2 | apply v3 | apply v4 | apply v5 | apply v6 | apply v7 | apply v8 | apply v9 | apply va | apply vb | apply vc) | ((with_reducible apply vd); focus decide) | ((with_reducible apply ve); focus exact rfl) | ((with_reducible apply vf); focus exact rfl) | ((first | (with_reducible apply HW_run ttR_ok hG htb) | ((with_reducible apply HW_draw rfl ttR_ok hG htb); (focus kernel_rfl); focus simp only [List.range, List.range.loop, List.size_toArray, List.length_cons, List.length_nil, Nat.reduceAdd])); focus ((repeat' (first | (with_reducible first | exact wg | exact wh) | ((with_reducible first | apply wi | apply wj); focus (simp (discharger := omega) only [go_sem, hb, hmE, hrow, hrl, simprocAttr]; with_reducible rfl)))); done)))
      refine HW_loop (fun mm st g => ∃ (l : Nat) (es : List (T × T)), mm = n - l ∧ st = ⟨77, [(5, .bptr 0 0), (6, .bptr 1 0), (7, .sref 2), (8, .t (tNat s)), (23, .t (tIntss M.next)), (24, .t (tNat m)), (25, .t (tNat s)), (39, .t (tInts row)), (40, .t (tNat n)), (41, .t (tNat l))], [.box [.t (tInt M.base), .t (tInt M.tracks), .t (tIntss M.next), .t (tBools M.ends)], .box [.map 3], .row 3 1 true fs2, .map (.ints 2) es]⟩ ∧ l ≤ n ∧ MapInv g es m n (contS M.next s l)) n
        ⟨_, Norm.headS (own := []) (keep := [5, 6, 7, 8, 23, 24, 25, 39, 40, 41]) (by refine ⟨?_, ?_⟩; (simp (discharger := omega) only [go_sem, simprocAttr]; with_reducible rfl); refine ⟨?_, ?_, ?_, ?_⟩ <;> (simp only [go_sem, simprocAttr]; with_reducible rfl)), 0, _, rfl, by rw [hfe]; rfl, Nat.zero_le _, hinv.congr fun t l _ _ => contS_zero _ _ _ _⟩ ?_
      clear hinv
      rintro mm st g ⟨l, es, rfl, rfl, hl, hinv⟩
      by_cases hll : l < n
      · obtain ⟨t, ht⟩ : ∃ t, row[l]! = t := ⟨_, rfl⟩
        have htb2 := gMr.ok row (bang_mem hrow (by omega)) t (bang_mem ht (by omega))
        have hnx : nx M.next ((s : Nat) : Int) l = t := by unfold nx; rw [hro]; exact bang_D ht (by omega)
        obtain ⟨t, rfl⟩ := Int.eq_ofNat_of_zero_le htb2.1
        have hcl := contS_len M.next s l t l
        repeat' (first | (with_reducible first | apply v1 | apply v2 | apply v3 | apply v4 | apply v5 | apply v6 | apply v7 | apply v8 | apply v9 | apply va | apply vb | apply vc) | ((with_reducible apply vd); focus decide) | ((with_reducible apply ve); focus exact rfl) | ((with_reducible apply vf); focus exact rfl) | ((first | (with_reducible apply HW_run ttR_ok hG htb) | ((with_reducible apply HW_draw rfl ttR_ok hG htb); (focus kernel_rfl); focus simp only [List.range, List.range.loop, List.size_toArray, List.length_cons, List.length_nil, Nat.reduceAdd])); focus ((repeat' (first | (with_reducible first | exact wg | exact wh) | ((with_reducible first | apply wi | apply wj); focus (simp (discharger := omega) only [go_sem, ht, simprocAttr]; with_reducible rfl)))); done)))
        refine HW_norm (Norm.headS (own := []) (keep := [5, 6, 7, 8, 10, 11, 23, 24, 25, 39, 40, 41]) (by refine ⟨?_, ?_⟩; (simp (discharger := omega) only [go_sem, simprocAttr]; with_reducible rfl); refine ⟨?_, ?_, ?_, ?_⟩ <;> (simp only [go_sem, simprocAttr]; with_reducible rfl))) ?_
        rcases hinv.hdr (t := t) (l := l) (by omega) hll with ⟨hhd, hget⟩ | ⟨ra, rn, rc, hhd, hget⟩
        · unfold keyT at hget
          refine HW_drawH (A := ⟨11, .tmp 54, .tmp 56, .raw none 0 0, [tNat s], (t, l), 3, 1, iL (contS M.next s l t l), g⟩) 12 rfl ttR_ok hG htb ?topon0 (t := 35) (i := ⟨.slice 3, 1, 24, [.t (.raw none 0 0)], false⟩) (ie := ⟨.int .i64, 1, 8, [.t (.int .i64 0)], false⟩) ⟨_, rfl, rfl, rfl⟩ rfl rfl (by show ttR 3 = _; rfl) rfl hhd rfl rfl ?hbn0 ?hmn0 rfl ?runn0
          case topon0 => kernel_rfl
          case hbn0 =>
            simp only [iL_length, List.length_cons, List.length_nil]
            show _ * 8 ≤ _
            omega
          case hmn0 =>
            simp only [iL_length, List.length_cons, List.length_nil]
            unfold maxLen
            omega
          case runn0 =>
            intro c
            have hst := hinv.step (by omega) hll ((s : Nat) : Int) c (cont' := contS M.next s (l + 1)) (contS_at hnx) (fun t' l' hne => contS_other hnx hne)
            refine ⟨?tn0, ?r1n0, ?r2n0⟩
            case r1n0 =>
              (simp only [List.range, List.range.loop, List.size_toArray, List.length_cons, List.length_nil, Nat.reduceAdd]; repeat' (first | (with_reducible exact runA_nil) | ((with_reducible apply runA_cons); focus (first | (apply stepH_q rfl (by simp) (by simp) rfl rfl; (focus (simp (discharger := omega) only [go_sem, hget, simprocAttr]; with_reducible rfl)); (focus (simp only [go_sem, simprocAttr]; with_reducible rfl))) | (apply stepH_a rfl rfl rfl rfl rfl rfl rfl; (focus (simp only [go_sem, simprocAttr]; with_reducible rfl))) | (apply stepH_l rfl (by simp) rfl; (focus (simp (discharger := omega) only [go_sem, hget, simprocAttr]; with_reducible rfl)))))))
            case r2n0 =>
              dsimp only
              repeat' (first | (with_reducible first | apply v1 | apply v2 | apply v3 | apply v4 | apply v5 | apply v6 | apply v7 | apply v8 | apply v9 | apply va | apply vb | apply vc) | ((with_reducible apply vd); focus decide) | ((with_reducible apply ve); focus exact rfl) | ((with_reducible apply vf); focus exact rfl) | ((first | (with_reducible apply HW_run ttR_ok hG htb) | ((with_reducible apply HW_draw rfl ttR_ok hG htb); (focus kernel_rfl); focus simp only [List.range, List.range.loop, List.size_toArray, List.length_cons, List.length_nil, Nat.reduceAdd])); focus ((repeat' (first | (with_reducible first | exact wg | exact wh) | ((with_reducible first | apply wi | apply wj); focus (simp (discharger := omega) only [go_sem, simprocAttr]; with_reducible rfl)))); done)))
              exact ⟨n - (l + 1), _, by omega, Norm.headS (own := []) (keep := [5, 6, 7, 8, 23, 24, 25, 39, 40, 41]) (by refine ⟨?_, ?_⟩; (simp (discharger := omega) only [go_sem, simprocAttr]; with_reducible rfl); refine ⟨?_, ?_, ?_, ?_⟩ <;> (simp only [go_sem, simprocAttr]; with_reducible rfl)), l + 1, _, rfl, rfl, by omega, hst⟩
        · unfold keyT at hget
          refine HW_drawH (A := ⟨11, .tmp 54, .tmp 56, .raw ra rn rc, [tNat s], (t, l), 3, 1, iL (contS M.next s l t l), g⟩) 12 rfl ttR_ok hG htb ?topos0 (t := 35) (i := ⟨.slice 3, 1, 24, [.t (.raw none 0 0)], false⟩) (ie := ⟨.int .i64, 1, 8, [.t (.int .i64 0)], false⟩) ⟨_, rfl, rfl, rfl⟩ rfl rfl (by show ttR 3 = _; rfl) rfl hhd rfl rfl ?hbs0 ?hms0 rfl ?runs0
          case topos0 => kernel_rfl
          case hbs0 =>
            simp only [iL_length, List.length_cons, List.length_nil]
            show _ * 8 ≤ _
            omega
          case hms0 =>
            simp only [iL_length, List.length_cons, List.length_nil]
            unfold maxLen
            omega
          case runs0 =>
            intro c
            have hst := hinv.step (by omega) hll ((s : Nat) : Int) c (cont' := contS M.next s (l + 1)) (contS_at hnx) (fun t' l' hne => contS_other hnx hne)
            refine ⟨?ts0, ?r1s0, ?r2s0⟩
            case r1s0 =>
              (simp only [List.range, List.range.loop, List.size_toArray, List.length_cons, List.length_nil, Nat.reduceAdd]; repeat' (first | (with_reducible exact runA_nil) | ((with_reducible apply runA_cons); focus (first | (apply stepH_q rfl (by simp) (by simp) rfl rfl; (focus (simp (discharger := omega) only [go_sem, hget, simprocAttr]; with_reducible rfl)); (focus (simp only [go_sem, simprocAttr]; with_reducible rfl))) | (apply stepH_a rfl rfl rfl rfl rfl rfl rfl; (focus (simp only [go_sem, simprocAttr]; with_reducible rfl))) | (apply stepH_l rfl (by simp) rfl; (focus (simp (discharger := omega) only [go_sem, hget, simprocAttr]; with_reducible rfl)))))))
            case r2s0 =>
              dsimp only
              repeat' (first | (with_reducible first | apply v1 | apply v2 | apply v3 | apply v4 | apply v5 | apply v6 | apply v7 | apply v8 | apply v9 | apply va | apply vb | apply vc) | ((with_reducible apply vd); focus decide) | ((with_reducible apply ve); focus exact rfl) | ((with_reducible apply vf); focus exact rfl) | ((first | (with_reducible apply HW_run ttR_ok hG htb) | ((with_reducible apply HW_draw rfl ttR_ok hG htb); (focus kernel_rfl); focus simp only [List.range, List.range.loop, List.size_toArray, List.length_cons, List.length_nil, Nat.reduceAdd])); focus ((repeat' (first | (with_reducible first | exact wg | exact wh) | ((with_reducible first | apply wi | apply wj); focus (simp (discharger := omega) only [go_sem, simprocAttr]; with_reducible rfl)))); done)))
              exact ⟨n - (l + 1), _, by omega, Norm.headS (own := []) (keep := [5, 6, 7, 8, 23, 24, 25, 39, 40, 41]) (by refine ⟨?_, ?_⟩; (simp (discharger := omega) only [go_sem, simprocAttr]; with_reducible rfl); refine ⟨?_, ?_, ?_, ?_⟩ <;> (simp only [go_sem, simprocAttr]; with_reducible rfl)), l + 1, _, rfl, rfl, by omega, hst⟩
      · obtain rfl : l = n := by omega
        repeat' (first | (with_reducible first | apply v1 | apply v2 | apply v3 | apply v4 | apply v5 | apply v6 | apply v7 | apply v8 | apply v9 | apply va | apply vb | apply vc) | ((with_reducible apply vd); focus decide) | ((with_reducible apply ve); focus exact rfl) | ((with_reducible apply vf); focus exact rfl) | ((first | (with_reducible apply HW_run ttR_ok hG htb) | ((with_reducible apply HW_draw rfl ttR_ok hG htb); (focus kernel_rfl); focus simp only [List.range, List.range.loop, List.size_toArray, List.length_cons, List.length_nil, Nat.reduceAdd])); focus ((repeat' (first | (with_reducible first | exact wg | exact wh) | ((with_reducible first | apply wi | apply wj); focus (simp (discharger := omega) only [go_sem, simprocAttr]; with_reducible rfl)))); done)))
        exact ⟨m - (s + 1), _, by omega, Norm.headS (own := []) (keep := [5, 6, 7, 23, 24, 25]) (by refine ⟨?_, ?_⟩; (simp (discharger := omega) only [go_sem, simprocAttr]; with_reducible rfl); refine ⟨?_, ?_, ?_, ?_⟩ <;> (simp only [go_sem, simprocAttr]; with_reducible rfl)), s + 1, _, _, rfl, rfl, by omega, hfs2.symm, hinv.congr fun t q _ hq => contS_end M.next s t hq⟩
    · rw [hbb] at hb
      repeat' (first | (with_reducible first | apply v1 | apply v2 | apply v3 | apply v4 | apply v5 | apply v6 | apply v7 | apply v8 | apply v9 | apply va | apply vb | apply vc) | ((with_reducible apply vd); focus decide) | ((with_reducible apply ve); focus exact rfl) | ((with_reducible apply vf); focus exact rfl) | ((first | (with_reducible apply HW_run ttR_ok hG htb) | ((with_reducible apply HW_draw rfl ttR_ok hG htb); (focus kernel_rfl); focus simp only [List.range, List.range.loop, List.size_toArray, List.length_cons, List.length_nil, Nat.reduceAdd])); focus ((repeat' (first | (with_reducible first | exact wg | exact wh) | ((with_reducible first | apply wi | apply wj); focus (simp (discharger := omega) only [go_sem, hb, hmE, hrow, hrl, simprocAttr]; with_reducible rfl)))); done)))
      refine HW_loop (fun mm st g => ∃ (l : Nat) (es : List (T × T)), mm = n - l ∧ st = ⟨77, [(5, .bptr 0 0), (6, .bptr 1 0), (7, .sref 2), (8, .t (tNat s)), (23, .t (tIntss M.next)), (24, .t (tNat m)), (25, .t (tNat s)), (39, .t (tInts row)), (40, .t (tNat n)), (41, .t (tNat l))], [.box [.t (tInt M.base), .t (tInt M.tracks), .t (tIntss M.next), .t (tBools M.ends)], .box [.map 3], .row 3 1 true fs2, .map (.ints 2) es]⟩ ∧ l ≤ n ∧ MapInv g es m n (contS M.next s l)) n
        ⟨_, Norm.headS (own := []) (keep := [5, 6, 7, 8, 23, 24, 25, 39, 40, 41]) (by refine ⟨?_, ?_⟩; (simp (discharger := omega) only [go_sem, simprocAttr]; with_reducible rfl); refine ⟨?_, ?_, ?_, ?_⟩ <;> (simp only [go_sem, simprocAttr]; with_reducible rfl)), 0, _, rfl, by rw [hfe]; rfl, Nat.zero_le _, hinv.congr fun t l _ _ => contS_zero _ _ _ _⟩ ?_
      clear hinv
      rintro mm st g ⟨l, es, rfl, rfl, hl, hinv⟩
      by_cases hll : l < n
      · obtain ⟨t, ht⟩ : ∃ t, row[l]! = t := ⟨_, rfl⟩
        have htb2 := gMr.ok row (bang_mem hrow (by omega)) t (bang_mem ht (by omega))
        have hnx : nx M.next ((s : Nat) : Int) l = t := by unfold nx; rw [hro]; exact bang_D ht (by omega)
        obtain ⟨t, rfl⟩ := Int.eq_ofNat_of_zero_le htb2.1
        have hcl := contS_len M.next s l t l
        repeat' (first | (with_reducible first | apply v1 | apply v2 | apply v3 | apply v4 | apply v5 | apply v6 | apply v7 | apply v8 | apply v9 | apply va | apply vb | apply vc) | ((with_reducible apply vd); focus decide) | ((with_reducible apply ve); focus exact rfl) | ((with_reducible apply vf); focus exact rfl) | ((first | (with_reducible apply HW_run ttR_ok hG htb) | ((with_reducible apply HW_draw rfl ttR_ok hG htb); (focus kernel_rfl); focus simp only [List.range, List.range.loop, List.size_toArray, List.length_cons, List.length_nil, Nat.reduceAdd])); focus ((repeat' (first | (with_reducible first | exact wg | exact wh) | ((with_reducible first | apply wi | apply wj); focus (simp (discharger := omega) only [go_sem, ht, simprocAttr]; with_reducible rfl)))); done)))
        refine HW_norm (Norm.headS (own := []) (keep := [5, 6, 7, 8, 10, 11, 23, 24, 25, 39, 40, 41]) (by refine ⟨?_, ?_⟩; (simp (discharger := omega) only [go_sem, simprocAttr]; with_reducible rfl); refine ⟨?_, ?_, ?_, ?_⟩ <;> (simp only [go_sem, simprocAttr]; with_reducible rfl))) ?_
        rcases hinv.hdr (t := t) (l := l) (by omega) hll with ⟨hhd, hget⟩ | ⟨ra, rn, rc, hhd, hget⟩
        · unfold keyT at hget
          refine HW_drawH (A := ⟨11, .tmp 54, .tmp 56, .raw none 0 0, [tNat s], (t, l), 3, 1, iL (contS M.next s l t l), g⟩) 12 rfl ttR_ok hG htb ?topon1 (t := 35) (i := ⟨.slice 3, 1, 24, [.t (.raw none 0 0)], false⟩) (ie := ⟨.int .i64, 1, 8, [.t (.int .i64 0)], false⟩) ⟨_, rfl, rfl, rfl⟩ rfl rfl (by show ttR 3 = _; rfl) rfl hhd rfl rfl ?hbn1 ?hmn1 rfl ?runn1
          case topon1 => kernel_rfl
          case hbn1 =>
            simp only [iL_length, List.length_cons, List.length_nil]
            show _ * 8 ≤ _
            omega
          case hmn1 =>
            simp only [iL_length, List.length_cons, List.length_nil]
            unfold maxLen
            omega
          case runn1 =>
            intro c
            have hst := hinv.step (by omega) hll ((s : Nat) : Int) c (cont' := contS M.next s (l + 1)) (contS_at hnx) (fun t' l' hne => contS_other hnx hne)
            refine ⟨?tn1, ?r1n1, ?r2n1⟩
            case r1n1 =>
              (simp only [List.range, List.range.loop, List.size_toArray, List.length_cons, List.length_nil, Nat.reduceAdd]; repeat' (first | (with_reducible exact runA_nil) | ((with_reducible apply runA_cons); focus (first | (apply stepH_q rfl (by simp) (by simp) rfl rfl; (focus (simp (discharger := omega) only [go_sem, hget, simprocAttr]; with_reducible rfl)); (focus (simp only [go_sem, simprocAttr]; with_reducible rfl))) | (apply stepH_a rfl rfl rfl rfl rfl rfl rfl; (focus (simp only [go_sem, simprocAttr]; with_reducible rfl))) | (apply stepH_l rfl (by simp) rfl; (focus (simp (discharger := omega) only [go_sem, hget, simprocAttr]; with_reducible rfl)))))))
            case r2n1 =>
              dsimp only
              repeat' (first | (with_reducible first | apply v1 | apply v2 | apply v3 | apply v4 | apply v5 | apply v6 | apply v7 | apply v8 | apply v9 | apply va | apply vb | apply vc) | ((with_reducible apply vd); focus decide) | ((with_reducible apply ve); focus exact rfl) | ((with_reducible apply vf); focus exact rfl) | ((first | (with_reducible apply HW_run ttR_ok hG htb) | ((with_reducible apply HW_draw rfl ttR_ok hG htb); (focus kernel_rfl); focus simp only [List.range, List.range.loop, List.size_toArray, List.length_cons, List.length_nil, Nat.reduceAdd])); focus ((repeat' (first | (with_reducible first | exact wg | exact wh) | ((with_reducible first | apply wi | apply wj); focus (simp (discharger := omega) only [go_sem, simprocAttr]; with_reducible rfl)))); done)))
              exact ⟨n - (l + 1), _, by omega, Norm.headS (own := []) (keep := [5, 6, 7, 8, 23, 24, 25, 39, 40, 41]) (by refine ⟨?_, ?_⟩; (simp (discharger := omega) only [go_sem, simprocAttr]; with_reducible rfl); refine ⟨?_, ?_, ?_, ?_⟩ <;> (simp only [go_sem, simprocAttr]; with_reducible rfl)), l + 1, _, rfl, rfl, by omega, hst⟩
        · unfold keyT at hget
          refine HW_drawH (A := ⟨11, .tmp 54, .tmp 56, .raw ra rn rc, [tNat s], (t, l), 3, 1, iL (contS M.next s l t l), g⟩) 12 rfl ttR_ok hG htb ?topos1 (t := 35) (i := ⟨.slice 3, 1, 24, [.t (.raw none 0 0)], false⟩) (ie := ⟨.int .i64, 1, 8, [.t (.int .i64 0)], false⟩) ⟨_, rfl, rfl, rfl⟩ rfl rfl (by show ttR 3 = _; rfl) rfl hhd rfl rfl ?hbs1 ?hms1 rfl ?runs1
          case topos1 => kernel_rfl
          case hbs1 =>
            simp only [iL_length, List.length_cons, List.length_nil]
            show _ * 8 ≤ _
            omega
          case hms1 =>
            simp only [iL_length, List.length_cons, List.length_nil]
            unfold maxLen
            omega
          case runs1 =>
            intro c
            have hst := hinv.step (by omega) hll ((s : Nat) : Int) c (cont' := contS M.next s (l + 1)) (contS_at hnx) (fun t' l' hne => contS_other hnx hne)
            refine ⟨?ts1, ?r1s1, ?r2s1⟩
            case r1s1 =>
              (simp only [List.range, List.range.loop, List.size_toArray, List.length_cons, List.length_nil, Nat.reduceAdd]; repeat' (first | (with_reducible exact runA_nil) | ((with_reducible apply runA_cons); focus (first | (apply stepH_q rfl (by simp) (by simp) rfl rfl; (focus (simp (discharger := omega) only [go_sem, hget, simprocAttr]; with_reducible rfl)); (focus (simp only [go_sem, simprocAttr]; with_reducible rfl))) | (apply stepH_a rfl rfl rfl rfl rfl rfl rfl; (focus (simp only [go_sem, simprocAttr]; with_reducible rfl))) | (apply stepH_l rfl (by simp) rfl; (focus (simp (discharger := omega) only [go_sem, hget, simprocAttr]; with_reducible rfl)))))))
            case r2s1 =>
              dsimp only
              repeat' (first | (with_reducible first | apply v1 | apply v2 | apply v3 | apply v4 | apply v5 | apply v6 | apply v7 | apply v8 | apply v9 | apply va | apply vb | apply vc) | ((with_reducible apply vd); focus decide) | ((with_reducible apply ve); focus exact rfl) | ((with_reducible apply vf); focus exact rfl) | ((first | (with_reducible apply HW_run ttR_ok hG htb) | ((with_reducible apply HW_draw rfl ttR_ok hG htb); (focus kernel_rfl); focus simp only [List.range, List.range.loop, List.size_toArray, List.length_cons, List.length_nil, Nat.reduceAdd])); focus ((repeat' (first | (with_reducible first | exact wg | exact wh) | ((with_reducible first | apply wi | apply wj); focus (simp (discharger := omega) only [go_sem, simprocAttr]; with_reducible rfl)))); done)))
              exact ⟨n - (l + 1), _, by omega, Norm.headS (own := []) (keep := [5, 6, 7, 8, 23, 24, 25, 39, 40, 41]) (by refine ⟨?_, ?_⟩; (simp (discharger := omega) only [go_sem, simprocAttr]; with_reducible rfl); refine ⟨?_, ?_, ?_, ?_⟩ <;> (simp only [go_sem, simprocAttr]; with_reducible rfl)), l + 1, _, rfl, rfl, by omega, hst⟩
      · obtain rfl : l = n := by omega
        repeat' (first | (with_reducible first | apply v1 | apply v2 | apply v3 | apply v4 | apply v5 | apply v6 | apply v7 | apply v8 | apply v9 | apply va | apply vb | apply vc) | ((with_reducible apply vd); focus decide) | ((with_reducible apply ve); focus exact rfl) | ((with_reducible apply vf); focus exact rfl) | ((first | (with_reducible apply HW_run ttR_ok hG htb) | ((with_reducible apply HW_draw rfl ttR_ok hG htb); (focus kernel_rfl); focus simp only [List.range, List.range.loop, List.size_toArray, List.length_cons, List.length_nil, Nat.reduceAdd])); focus ((repeat' (first | (with_reducible first | exact wg | exact wh) | ((with_reducible first | apply wi | apply wj); focus (simp (discharger := omega) only [go_sem, simprocAttr]; with_reducible rfl)))); done)))
        exact ⟨m - (s + 1), _, by omega, Norm.headS (own := []) (keep := [5, 6, 7, 23, 24, 25]) (by refine ⟨?_, ?_⟩; (simp (discharger := omega) only [go_sem, simprocAttr]; with_reducible rfl); refine ⟨?_, ?_, ?_, ?_⟩ <;> (simp only [go_sem, simprocAttr]; with_reducible rfl)), s + 1, _, _, rfl, rfl, by omega, hfs2.symm, hinv.congr fun t q _ hq => contS_end M.next s t hq⟩
  · obtain rfl : s = m := by omega
    obtain ⟨o1, o2⟩ := hinv.opens
    have hsays := hinv.says
    obtain ⟨mes, hmes⟩ : ∃ mes, openM (fun t l => fromL M.next s ((t : Nat) : Int) l) es = mes := ⟨_, rfl⟩
    rw [hmes] at o1 o2 hsays
    refine HW_seq ?_
    repeat' (first | (with_reducible first | apply v2 | apply v3 | apply v4 | apply v5 | apply v6 | apply v7 | apply v8 | apply v9 | apply va | apply vb | apply vc) | ((with_reducible apply vd); focus decide) | ((with_reducible apply ve); focus exact rfl) | ((with_reducible apply vf); focus exact rfl) | ((first | (with_reducible apply HW_run ttR_ok hG htb) | ((with_reducible apply HW_draw rfl ttR_ok hG htb); (focus kernel_rfl); focus simp only [List.range, List.range.loop, List.size_toArray, List.length_cons, List.length_nil, Nat.reduceAdd])); focus ((repeat' (first | (with_reducible first | exact wg | exact wh) | ((with_reducible first | apply wi | apply wj); focus (simp (discharger := omega) only [go_sem, simprocAttr]; with_reducible rfl)))); done)))
    refine HW_seq ?_
    repeat' (first | (with_reducible first | apply v2 | apply v3 | apply v4 | apply v5 | apply v6 | apply v7 | apply v8 | apply v9 | apply va | apply vb | apply vc) | ((with_reducible apply vd); focus decide) | ((with_reducible apply ve); focus exact rfl) | ((with_reducible apply vf); focus exact rfl) | ((first | (with_reducible apply HW_run ttR_ok hG htb) | ((with_reducible apply HW_draw rfl ttR_ok hG htb); (focus kernel_rfl); focus simp only [List.range, List.range.loop, List.size_toArray, List.length_cons, List.length_nil, Nat.reduceAdd])); focus ((repeat' (first | (with_reducible first | exact wg | exact wh) | ((with_reducible first | apply wi | apply wj); focus (simp (discharger := omega) only [go_sem, simprocAttr]; with_reducible rfl)))); done)))
    refine HW_norm (Norm.headS (own := []) (keep := [5, 6, 7]) (by refine ⟨?_, ?_⟩; (simp (discharger := omega) only [go_sem, simprocAttr]; with_reducible rfl); refine ⟨?_, ?_, ?_, ?_⟩ <;> (simp only [go_sem, simprocAttr]; with_reducible rfl))) ?_
    refine HW_open (κ' := Nat) (by exact GS_openMap (st := ⟨77, [(5, .bptr 0 0), (6, .bptr 1 0), (7, .sref 2)], [.box [.t (tInt M.base), .t (tInt M.tracks), .t (tIntss M.next), .t (tBools M.ends)], .box [.map 3], .row 3 1 true fs, .map (.ints 2) es]⟩) (j := 3) mes rfl o1 o2) ?_
    clear o1 o2 hinv hmes
    obtain ⟨r0, hr0⟩ : ∃ r0, M.next[0]! = r0 := ⟨_, rfl⟩
    have hrl := gMr.row r0 (bang_mem hr0 (by omega))
    have hIm : Inm s (endsF M.ends s) := fun x hx => (endsF_mem.1 hx).1
    have hFl := endsF_len M.ends s
    have c9 := GrowM_snd hG hm80 (endsF M.ends s) n 60 mes (stepT M.next s) hIm (by omega) hn36 (fun q l _ _ => stepT_in) (fun q l hq ha _ => by
      have := inm_len hq ha
      have h2 := stepT_len M.next s q l
      have h3 : q.length * s ≤ 80 * 80 := Nat.mul_le_mul (by omega) (by omega)
      omega) (fun q l hq ha hl => TurnStep_snd hG hm80 hn36 hsays q hq (by have := inm_len hq ha; omega) l hl)
    rw [← hfs] at c9
    obtain ⟨S, hS⟩ : ∃ S, growSets (stepT M.next s) n (endsF M.ends s) = S := ⟨_, rfl⟩
    obtain ⟨D, hD⟩ : ∃ D, growRows (stepT M.next s) n (endsF M.ends s) = D := ⟨_, rfl⟩
    obtain ⟨gk, hgk⟩ : ∃ gk, growOk (stepT M.next s) n (endsF M.ends s) = gk := ⟨_, rfl⟩
    rw [hS, hD, hgk] at c9
    rw [hS, hD, hgk]
    show SW _ _ _ _ ⟨77, [(5, .bptr 0 0), (6, .bptr 1 0), (7, .sref 2)], [.box [.t (tInt M.base), .t (tInt M.tracks), .t (tIntss M.next), .t (tBools M.ends)], .box [.map 3], .row 3 1 true fs, .map (.ints 2) mes]⟩
    refine SW_seq ?_
    refine SW_region ?_
    refine SL_k ttR_ok hG htb 7 (by simp only [List.take_succ_cons, List.take_zero]; rfl) (by simp only [List.drop_succ_cons, List.drop_zero, Nat.reduceAdd]; rfl) (by (repeat' (first | (with_reducible exact runX_nil) | ((with_reducible apply runX_cons); focus (simp (discharger := omega) only [go_sem, hr0, hrl, hm, simprocAttr]; with_reducible rfl))))) ?_
    refine SL_norm (Norm.headP [2, 1, 3] rfl (own := []) (keep := [5, 61, 66, 67]) (by refine ⟨?_, ?_⟩; (simp (discharger := omega) only [go_sem, simprocAttr]; with_reducible rfl); refine ⟨?_, ?_, ?_, ?_⟩ <;> (simp only [go_sem, simprocAttr]; with_reducible rfl))) ?_
    refine SL_callH (g := 46) (cap := []) (obs := [.row 3 1 true fs, .box [.map 2], .map (.ints 2) mes]) (ks := []) (obs' := [.hole, .box [.map 2], .map (.ints 2) mes, .box [.t (tIntss S)]]) (rst := ?zrb) (r := .t (.tup [tIntss S, tIntss D, .bool gk])) (s3 := ?zub) rfl rfl ?q1b ?q2b ?q3b ?q4b ?q5b ?q6b ?q7b ?q8b ?q9b
    case q5b => exact c9
    case q1b => rfl
    case q2b => rfl
    case q3b => rfl
    case q4b => rfl
    case q6b => rfl
    case q7b => rfl
    case q8b =>
      simp only [go_sem, St.back, List.map_cons, List.map_nil, SV.ren, Ob.ren, renL, pastG, lateG, List.length_cons, List.length_nil, List.take_succ_cons, List.take_zero, List.drop_succ_cons, List.drop_zero, List.getElem?_cons_zero, List.getElem?_cons_succ, List.getElem?_nil, List.cons_append, List.nil_append, simprocAttr]
      rfl
    refine SL_done ttR_ok hG htb (by (repeat' (first | (with_reducible exact runX_nil) | ((with_reducible apply runX_cons); focus (simp (discharger := omega) only [go_sem, simprocAttr]; with_reducible rfl))))) ?_
    cases gk with
    | false =>
      have hS0 : S = [] := by rw [← hS]; unfold growSets; rw [if_neg (by rw [hgk]; decide)]
      have hD0 : D = [] := by rw [← hD]; unfold growRows; rw [if_neg (by rw [hgk]; decide)]
      rw [if_pos rfl, hS0, hD0]
      repeat' (first | (with_reducible first | apply w1 | apply w2 | apply w3 | apply w4 | apply w5 | apply w6 | apply w7 | apply w8 | apply w9 | apply wa | apply wb | apply wc) | ((with_reducible apply wd); focus decide) | ((with_reducible apply we); focus exact rfl) | ((with_reducible apply wf); focus exact rfl) | ((first | (with_reducible apply SW_run tt_ok hG htb) | ((with_reducible apply SW_draw rfl tt_ok hG htb); (focus kernel_rfl); focus simp only [List.range, List.range.loop, List.size_toArray, List.length_cons, List.length_nil, Nat.reduceAdd])); focus ((repeat' (first | (with_reducible first | exact wg | exact wh) | ((with_reducible first | apply wi | apply wj); focus (simp (discharger := omega) only [go_sem, simprocAttr]; with_reducible rfl)))); done)))
      exact (by simp (discharger := omega) only [go_sem, tErr, simprocAttr])
    | true =>
      rw [if_neg (by decide)]
      repeat' (first | (with_reducible first | apply w1 | apply w2 | apply w3 | apply w4 | apply w5 | apply w6 | apply w7 | apply w8 | apply w9 | apply wa | apply wb | apply wc) | ((with_reducible apply wd); focus decide) | ((with_reducible apply we); focus exact rfl) | ((with_reducible apply wf); focus exact rfl) | ((first | (with_reducible apply SW_run tt_ok hG htb) | ((with_reducible apply SW_draw rfl tt_ok hG htb); (focus kernel_rfl); focus simp only [List.range, List.range.loop, List.size_toArray, List.length_cons, List.length_nil, Nat.reduceAdd])); focus ((repeat' (first | (with_reducible first | exact wg | exact wh) | ((with_reducible first | apply wi | apply wj); focus (simp (discharger := omega) only [go_sem, simprocAttr]; with_reducible rfl)))); done)))
      exact (by simp (discharger := omega) only [go_sem, tErr, simprocAttr])
end
end Go.Proofs.YthcclcbliedodaaDoor
namespace Go.Proofs.YthcclcbliedodaaDoor
open Go.RowKit

section
variable {G : World → Prop} (hG : Lasting G)
include hG
theorem TurnEnd_snd (x : Int) : Snd Tryd.prog G 42 ([tInt x] ++ []) (.bool (isZ x)) := by
  have htb : Tab.ok Tryd.prog G [] := Tab.nil
  refine snd_of_body (n := 5) (tm := [(0, .t (tInt x))]) (rs := [.tmp 2]) tt_ok Tryd.func42 rfl rfl rfl rfl rfl ?_
  unfold isZ
  repeat' (first | (with_reducible first | apply w1 | apply w2 | apply w3 | apply w4 | apply w5 | apply w6 | apply w7 | apply w8 | apply w9 | apply wa | apply wb | apply wc) | ((with_reducible apply wd); focus decide) | ((with_reducible apply we); focus exact rfl) | ((with_reducible apply wf); focus exact rfl) | ((first | (with_reducible apply SW_run tt_ok hG htb) | ((with_reducible apply SW_draw rfl tt_ok hG htb); (focus kernel_rfl); focus simp only [List.range, List.range.loop, List.size_toArray, List.length_cons, List.length_nil, Nat.reduceAdd])); focus ((repeat' (first | (with_reducible first | exact wg | exact wh) | ((with_reducible first | apply wi | apply wj); focus (simp (discharger := omega) only [go_sem, simprocAttr]; with_reducible rfl)))); done)))
  exact (by simp (discharger := omega) only [go_sem, simprocAttr])
set_option maxHeartbeats 8000000 in
set_option maxRecDepth 100000 in
theorem Turn_snd (a : GAuto) : Snd Tryd.prog G 15 [tAuto a] (.tup [tAuto (turnA a), tErr (turnErr a)]) := by
  have c1 := turned_snd hG a
  refine snd_of_body (n := 35) (tm := [(0, .t (tAuto a))]) (rs := [.cell 2 25, .tmp 3]) tt_ok Tryd.func15 rfl rfl rfl rfl rfl ?_
  by_cases h0 : turnErr0 a = 0
  rotate_left
  · have he : turnErr a = turnErr0 a := if_pos h0
    have hz : turnA a = GAuto.zero := by unfold turnA; rw [he, if_neg h0]
    rw [he, hz]
    generalize turnErr0 a = e at *
    generalize turnS a = S at *
    generalize turnR a = R at *
    have htb := Tab.cons c1 Tab.nil
    repeat' (first | (with_reducible first | apply w1 | apply w2 | apply w3 | apply w4 | apply w5 | apply w6 | apply w7 | apply w8 | apply w9 | apply wa | apply wb | apply wc) | ((with_reducible apply wd); focus decide) | ((with_reducible apply we); focus exact rfl) | ((with_reducible apply wf); focus exact rfl) | ((first | (with_reducible apply SW_run tt_ok hG htb) | ((with_reducible apply SW_draw rfl tt_ok hG htb); (focus kernel_rfl); focus simp only [List.range, List.range.loop, List.size_toArray, List.length_cons, List.length_nil, Nat.reduceAdd])); focus ((repeat' (first | (with_reducible first | exact wg | exact wh) | ((with_reducible first | apply wi | apply wj); focus (simp (discharger := omega) only [go_sem, tAuto, tErr, h0, simprocAttr]; with_reducible rfl)))); done)))
    exact (by simp (discharger := omega) only [go_sem, tAuto, tErr, h0, GAuto.zero, simprocAttr])
  obtain ⟨n, m, L⟩ := turn_is h0
  have hpos := L.pos
  have hfew := L.few
  have hrows := L.rows
  have hsets := L.sets
  have hn36 := L.ok.n36
  have hrl := L.len
  have hRE : turnRE a = leastRE n (turnR a) (turnE a) := by unfold turnRE; rw [L.nE]
  have hsE : turnE a = (turnS a).map fun s => s.any isZ := rfl
  have he0 : turnErr a = if (turnRE a).1.length ≤ 80 then 0 else 3 := by unfold turnErr; rw [if_neg (fun q => q h0)]
  have hz0 : turnA a = if turnErr a = 0 then ⟨a.base, a.tracks, (turnRE a).1, (turnRE a).2⟩ else GAuto.zero := rfl
  rw [hz0, he0, hRE, hsE]
  clear he0 hz0 hRE hsE L
  rw [h0] at c1
  generalize turnS a = S at *
  generalize turnR a = R at *
  have c2 := Ends_snd hG S (by omega) 42 [] isZ (fun s hs x hx => TurnEnd_snd hG x)
  obtain ⟨E, hE⟩ : ∃ E, (S.map fun s => s.any isZ) = E := ⟨_, rfl⟩
  rw [hE] at c2
  have hEl : E.length = S.length := by rw [← hE, List.length_map]
  have c3 := Shrink_snd hG a.base a.tracks hrows hpos (by omega) (ends := E) hEl (by omega)
  rw [hE]
  have htb := Tab.cons c1 Tab.nil
  repeat' (first | (with_reducible first | apply w1 | apply w2 | apply w3 | apply w4 | apply w5 | apply w6 | apply w7 | apply w8 | apply w9 | apply wa | apply wb | apply wc) | ((with_reducible apply wd); focus decide) | ((with_reducible apply we); focus exact rfl) | ((with_reducible apply wf); focus exact rfl) | ((first | (with_reducible apply SW_run tt_ok hG htb) | ((with_reducible apply SW_draw rfl tt_ok hG htb); (focus kernel_rfl); focus simp only [List.range, List.range.loop, List.size_toArray, List.length_cons, List.length_nil, Nat.reduceAdd])); focus ((repeat' (first | (with_reducible first | exact wg | exact wh) | ((with_reducible first | apply wi | apply wj); focus (simp (discharger := omega) only [go_sem, tAuto, tErr0, simprocAttr]; with_reducible rfl)))); done)))
  clear htb
  refine SW_norm (Norm.headS (own := []) (keep := [1, 2, 4, 5]) (by refine ⟨?_, ?_⟩; (simp (discharger := omega) only [go_sem, simprocAttr]; with_reducible rfl); refine ⟨?_, ?_, ?_, ?_⟩ <;> (simp only [go_sem, simprocAttr]; with_reducible rfl))) ?_
  refine SW_norm (Norm.fixBox 0 rfl rfl) ?_
  have htb := Tab.cons c2 (Tab.cons c3 Tab.nil)
  by_cases h80 : (leastRE n R E).1.length ≤ 80
  · have hsh : shrinkT a.base a.tracks n R E = .tup [tAuto ⟨a.base, a.tracks, (leastRE n R E).1, (leastRE n R E).2⟩, .bool true] := if_pos h80
    rw [if_pos h80, if_pos rfl]
    rw [hsh] at htb c3
    generalize leastRE n R E = RE at *
    refine SW_norm (Norm.hole _) ?_
    (with_reducible apply SW_drawA [(11, 2)] rfl tt_ok hG htb)
    · kernel_rfl
    · simp only [List.range, List.range.loop, List.size_toArray, List.length_cons, List.length_nil, Nat.reduceAdd]
      repeat' (first | (with_reducible exact runG_nil) | ((with_reducible apply runG_cons); focus (simp (discharger := omega) only [go_sem, tAuto, simprocAttr]; with_reducible rfl)))
    repeat' (first | (with_reducible first | apply w1 | apply w2 | apply w3 | apply w4 | apply w5 | apply w6 | apply w7 | apply w8 | apply w9 | apply wa | apply wb | apply wc) | ((with_reducible apply wd); focus decide) | ((with_reducible apply we); focus exact rfl) | ((with_reducible apply wf); focus exact rfl) | ((first | (with_reducible apply SW_run tt_ok hG htb) | ((with_reducible apply SW_draw rfl tt_ok hG htb); (focus kernel_rfl); focus simp only [List.range, List.range.loop, List.size_toArray, List.length_cons, List.length_nil, Nat.reduceAdd])); focus ((repeat' (first | (with_reducible first | exact wg | exact wh) | ((with_reducible first | apply wi | apply wj); focus (simp (discharger := omega) only [go_sem, tAuto, tErr0, simprocAttr]; with_reducible rfl)))); done)))
    exact (by simp (discharger := omega) only [go_sem, tAuto, tErr0, simprocAttr])
  · have hsh : shrinkT a.base a.tracks n R E = .tup [tAuto GAuto.zero, .bool false] := if_neg h80
    rw [if_neg h80, if_neg (by decide)]
    rw [hsh] at htb c3
    refine SW_norm (Norm.hole _) ?_
    (with_reducible apply SW_drawA [(11, 2)] rfl tt_ok hG htb)
    · kernel_rfl
    · simp only [List.range, List.range.loop, List.size_toArray, List.length_cons, List.length_nil, Nat.reduceAdd]
      repeat' (first | (with_reducible exact runG_nil) | ((with_reducible apply runG_cons); focus (simp (discharger := omega) only [go_sem, tAuto, simprocAttr]; with_reducible rfl)))
    repeat' (first | (with_reducible first | apply w1 | apply w2 | apply w3 | apply w4 | apply w5 | apply w6 | apply w7 | apply w8 | apply w9 | apply wa | apply wb | apply wc) | ((with_reducible apply wd); focus decide) | ((with_reducible apply we); focus exact rfl) | ((with_reducible apply wf); focus exact rfl) | ((first | (with_reducible apply SW_run tt_ok hG htb) | ((with_reducible apply SW_draw rfl tt_ok hG htb); (focus kernel_rfl); focus simp only [List.range, List.range.loop, List.size_toArray, List.length_cons, List.length_nil, Nat.reduceAdd])); focus ((repeat' (first | (with_reducible first | exact wg | exact wh) | ((with_reducible first | apply wi | apply wj); focus (simp (discharger := omega) only [go_sem, tAuto, simprocAttr]; with_reducible rfl)))); done)))
    exact (by simp (discharger := omega) only [go_sem, tAuto, tErr, GAuto.zero, simprocAttr])
theorem SetsT_snd (a : GAuto) : Snd Tryd.prog G 17 [tAuto a] (.tup [tNat (turnS a).length, tErr (turnErr0 a)]) := by
  have c1 := turned_snd hG a
  refine snd_of_body (n := 16) (tm := [(0, .t (tAuto a))]) (rs := [.tmp 2, .tmp 3]) tt_ok Tryd.func17 rfl rfl rfl rfl rfl ?_
  generalize turnErr0 a = e at *
  generalize turnS a = S at *
  generalize turnR a = R at *
  have htb := Tab.cons c1 Tab.nil
  by_cases h : e = 0
  · subst h
    repeat' (first | (with_reducible first | apply w1 | apply w2 | apply w3 | apply w4 | apply w5 | apply w6 | apply w7 | apply w8 | apply w9 | apply wa | apply wb | apply wc) | ((with_reducible apply wd); focus decide) | ((with_reducible apply we); focus exact rfl) | ((with_reducible apply wf); focus exact rfl) | ((first | (with_reducible apply SW_run tt_ok hG htb) | ((with_reducible apply SW_draw rfl tt_ok hG htb); (focus kernel_rfl); focus simp only [List.range, List.range.loop, List.size_toArray, List.length_cons, List.length_nil, Nat.reduceAdd])); focus ((repeat' (first | (with_reducible first | exact wg | exact wh) | ((with_reducible first | apply wi | apply wj); focus (simp (discharger := omega) only [go_sem, tAuto, tErr0, simprocAttr]; with_reducible rfl)))); done)))
    exact (by simp (discharger := omega) only [go_sem, tErr0, simprocAttr])
  · repeat' (first | (with_reducible first | apply w1 | apply w2 | apply w3 | apply w4 | apply w5 | apply w6 | apply w7 | apply w8 | apply w9 | apply wa | apply wb | apply wc) | ((with_reducible apply wd); focus decide) | ((with_reducible apply we); focus exact rfl) | ((with_reducible apply wf); focus exact rfl) | ((first | (with_reducible apply SW_run tt_ok hG htb) | ((with_reducible apply SW_draw rfl tt_ok hG htb); (focus kernel_rfl); focus simp only [List.range, List.range.loop, List.size_toArray, List.length_cons, List.length_nil, Nat.reduceAdd])); focus ((repeat' (first | (with_reducible first | exact wg | exact wh) | ((with_reducible first | apply wi | apply wj); focus (simp (discharger := omega) only [go_sem, tAuto, tErr, h, simprocAttr]; with_reducible rfl)))); done)))
    exact (by simp (discharger := omega) only [go_sem, tErr, h, simprocAttr])
end
end Go.Proofs.YthcclcbliedodaaDoor
namespace Go.Proofs.YthcclcbliedodaaDoor
open Go.RowKit
theorem repErr_inv {S : Nat → Prop} {w : World} {v : Value} {e : Int} (h : RepT S w (tErr e) v) : v = errV 26 e := by
  unfold tErr at h; unfold errV
  split at h
  · rename_i h0
    rw [if_pos h0]; cases h; rfl
  · rename_i h0
    rw [if_neg h0]
    cases h with
    | iface t x v h => cases h; rfl
theorem errCell_lasting : Lasting errCell := fun _ _ hb h => errCell.below h hb
theorem Error_snd (e f : Int) : Snd Tryd.prog errCell 10 [tErr e, tInt f] (.bool (e == f)) :=
  snd2 Tryd.func10 rfl rfl fun S w v u hg _ h h' => by
    obtain rfl := repErr_inv h; obtain rfl := intInv h'
    exact ⟨_, Error_calls e f w hg, fun S w => .bool _⟩
end Go.Proofs.YthcclcbliedodaaDoor
namespace Go.Proofs.YthcclcbliedodaaDoor
open Go.RowKit

theorem list_same {α : Type} [Inhabited α] {l l' : List α} (hl : l.length = l'.length) (h : ∀ j, j < l.length → l[j]! = l'[j]!) : l = l' := by
  refine List.ext_getElem hl fun i h1 h2 => ?_
  have := h i h1
  rwa [getElem!_pos l i h1, getElem!_pos l' i h2] at this
section
variable {G : World → Prop} (hG : Lasting G)
include hG
set_option maxHeartbeats 4000000 in
theorem SInts_snd (d d' : List Int) : Snd Tryd.prog G 32 [tInts d, tInts d'] (.bool (decide (d = d'))) := by
  have htb : Tab.ok Tryd.prog G [] := Tab.nil
  refine snd_of_body (n := 26) (tm := [(0, .t (tInts d)), (1, .t (tInts d'))]) (rs := [.tmp 4]) tt_ok Tryd.func32 rfl rfl rfl rfl rfl ?_
  refine SW_len (t := 0) (l := _) rfl fun hlen => ?_
  simp only [List.length_map] at hlen
  by_cases hl : d.length = d'.length
  · repeat' (first | (with_reducible first | apply w1 | apply w2 | apply w3 | apply w4 | apply w5 | apply w6 | apply w7 | apply w8 | apply w9 | apply wa | apply wb | apply wc) | ((with_reducible apply wd); focus decide) | ((with_reducible apply we); focus exact rfl) | ((with_reducible apply wf); focus exact rfl) | ((first | (with_reducible apply SW_run tt_ok hG htb) | ((with_reducible apply SW_draw rfl tt_ok hG htb); (focus kernel_rfl); focus simp only [List.range, List.range.loop, List.size_toArray, List.length_cons, List.length_nil, Nat.reduceAdd])); focus ((repeat' (first | (with_reducible first | exact wg | exact wh) | ((with_reducible first | apply wi | apply wj); focus (simp (discharger := omega) only [go_sem, hl, simprocAttr]; with_reducible rfl)))); done)))
    refine SW_loop (fun n s => ∃ k : Nat, n = d.length - k ∧ s = ⟨26, [(0, .t (tInts d)), (1, .t (tInts d')), (5, .t (tInt k))], []⟩ ∧ k ≤ d.length ∧ ∀ j, j < k → d[j]! = d'[j]!) d.length ⟨_, Norm.headS (own := []) (keep := [0, 1, 5]) (by refine ⟨?_, ?_⟩; (simp (discharger := omega) only [go_sem, simprocAttr]; with_reducible rfl); refine ⟨?_, ?_, ?_, ?_⟩ <;> (simp only [go_sem, simprocAttr]; with_reducible rfl)), 0, rfl, rfl, Nat.zero_le _, fun j hj => by omega⟩ ?_
    rintro n s ⟨k, rfl, rfl, hk, hA⟩
    by_cases hlt : k < d.length
    · by_cases h : d[k]! = d'[k]!
      · repeat' (first | (with_reducible first | apply w1 | apply w2 | apply w3 | apply w4 | apply w5 | apply w6 | apply w7 | apply w8 | apply w9 | apply wa | apply wb | apply wc) | ((with_reducible apply wd); focus decide) | ((with_reducible apply we); focus exact rfl) | ((with_reducible apply wf); focus exact rfl) | ((first | (with_reducible apply SW_run tt_ok hG htb) | ((with_reducible apply SW_draw rfl tt_ok hG htb); (focus kernel_rfl); focus simp only [List.range, List.range.loop, List.size_toArray, List.length_cons, List.length_nil, Nat.reduceAdd])); focus ((repeat' (first | (with_reducible first | exact wg | exact wh) | ((with_reducible first | apply wi | apply wj); focus (simp (discharger := omega) only [go_sem, h, simprocAttr]; with_reducible rfl)))); done)))
        exact ⟨d.length - (k + 1), _, by omega, Norm.headS (own := []) (keep := [0, 1, 5]) (by refine ⟨?_, ?_⟩; (simp (discharger := omega) only [go_sem, simprocAttr]; with_reducible rfl); refine ⟨?_, ?_, ?_, ?_⟩ <;> (simp only [go_sem, simprocAttr]; with_reducible rfl)), k + 1, rfl, rfl, by omega, fun j hj => by
          by_cases e : j = k
          · subst e; exact h
          · exact hA j (by omega)⟩
      · rw [decide_eq_false (fun e => h (by rw [e]))]
        repeat' (first | (with_reducible first | apply w1 | apply w2 | apply w3 | apply w4 | apply w5 | apply w6 | apply w7 | apply w8 | apply w9 | apply wa | apply wb | apply wc) | ((with_reducible apply wd); focus decide) | ((with_reducible apply we); focus exact rfl) | ((with_reducible apply wf); focus exact rfl) | ((first | (with_reducible apply SW_run tt_ok hG htb) | ((with_reducible apply SW_draw rfl tt_ok hG htb); (focus kernel_rfl); focus simp only [List.range, List.range.loop, List.size_toArray, List.length_cons, List.length_nil, Nat.reduceAdd])); focus ((repeat' (first | (with_reducible first | exact wg | exact wh) | ((with_reducible first | apply wi | apply wj); focus (simp (discharger := omega) only [go_sem, h, simprocAttr]; with_reducible rfl)))); done)))
        exact (by simp (discharger := omega) only [go_sem, simprocAttr])
    · rw [decide_eq_true (list_same hl fun j hj => hA j (by omega))]
      repeat' (first | (with_reducible first | apply w1 | apply w2 | apply w3 | apply w4 | apply w5 | apply w6 | apply w7 | apply w8 | apply w9 | apply wa | apply wb | apply wc) | ((with_reducible apply wd); focus decide) | ((with_reducible apply we); focus exact rfl) | ((with_reducible apply wf); focus exact rfl) | ((first | (with_reducible apply SW_run tt_ok hG htb) | ((with_reducible apply SW_draw rfl tt_ok hG htb); (focus kernel_rfl); focus simp only [List.range, List.range.loop, List.size_toArray, List.length_cons, List.length_nil, Nat.reduceAdd])); focus ((repeat' (first | (with_reducible first | exact wg | exact wh) | ((with_reducible first | apply wi | apply wj); focus (simp (discharger := omega) only [go_sem, simprocAttr]; with_reducible rfl)))); done)))
      exact (by simp (discharger := omega) only [go_sem, simprocAttr])
  · rw [decide_eq_false (fun e => hl (by rw [e]))]
    repeat' (first | (with_reducible first | apply w1 | apply w2 | apply w3 | apply w4 | apply w5 | apply w6 | apply w7 | apply w8 | apply w9 | apply wa | apply wb | apply wc) | ((with_reducible apply wd); focus decide) | ((with_reducible apply we); focus exact rfl) | ((with_reducible apply wf); focus exact rfl) | ((first | (with_reducible apply SW_run tt_ok hG htb) | ((with_reducible apply SW_draw rfl tt_ok hG htb); (focus kernel_rfl); focus simp only [List.range, List.range.loop, List.size_toArray, List.length_cons, List.length_nil, Nat.reduceAdd])); focus ((repeat' (first | (with_reducible first | exact wg | exact wh) | ((with_reducible first | apply wi | apply wj); focus (simp (discharger := omega) only [go_sem, hl, simprocAttr]; with_reducible rfl)))); done)))
    exact (by simp (discharger := omega) only [go_sem, simprocAttr])
set_option maxHeartbeats 4000000 in
theorem Lists_snd (d d' : List (List Int)) : Snd Tryd.prog G 33 [tIntss d, tIntss d'] (.bool (decide (d = d'))) := by
  have htb : Tab.ok Tryd.prog G [] := Tab.nil
  refine snd_of_body (n := 29) (tm := [(0, .t (tIntss d)), (1, .t (tIntss d'))]) (rs := [.tmp 4]) tt_ok Tryd.func33 rfl rfl rfl rfl rfl ?_
  refine SW_len (t := 0) (l := _) rfl fun hlen => ?_
  simp only [List.length_map] at hlen
  by_cases hl : d.length = d'.length
  · repeat' (first | (with_reducible first | apply w1 | apply w2 | apply w3 | apply w4 | apply w5 | apply w6 | apply w7 | apply w8 | apply w9 | apply wa | apply wb | apply wc) | ((with_reducible apply wd); focus decide) | ((with_reducible apply we); focus exact rfl) | ((with_reducible apply wf); focus exact rfl) | ((first | (with_reducible apply SW_run tt_ok hG htb) | ((with_reducible apply SW_draw rfl tt_ok hG htb); (focus kernel_rfl); focus simp only [List.range, List.range.loop, List.size_toArray, List.length_cons, List.length_nil, Nat.reduceAdd])); focus ((repeat' (first | (with_reducible first | exact wg | exact wh) | ((with_reducible first | apply wi | apply wj); focus (simp (discharger := omega) only [go_sem, hl, simprocAttr]; with_reducible rfl)))); done)))
    refine SW_loop (fun n s => ∃ k : Nat, n = d.length - k ∧ s = ⟨29, [(0, .t (tIntss d)), (1, .t (tIntss d')), (5, .t (tInt k))], []⟩ ∧ k ≤ d.length ∧ ∀ j, j < k → d[j]! = d'[j]!) d.length ⟨_, Norm.headS (own := []) (keep := [0, 1, 5]) (by refine ⟨?_, ?_⟩; (simp (discharger := omega) only [go_sem, simprocAttr]; with_reducible rfl); refine ⟨?_, ?_, ?_, ?_⟩ <;> (simp only [go_sem, simprocAttr]; with_reducible rfl)), 0, rfl, rfl, Nat.zero_le _, fun j hj => by omega⟩ ?_
    rintro n s ⟨k, rfl, rfl, hk, hA⟩
    by_cases hlt : k < d.length
    · have htb := Tab.cons (SInts_snd hG d[k]! d'[k]!) Tab.nil
      by_cases h : d[k]! = d'[k]!
      · rw [decide_eq_true h] at htb
        repeat' (first | (with_reducible first | apply w1 | apply w2 | apply w3 | apply w4 | apply w5 | apply w6 | apply w7 | apply w8 | apply w9 | apply wa | apply wb | apply wc) | ((with_reducible apply wd); focus decide) | ((with_reducible apply we); focus exact rfl) | ((with_reducible apply wf); focus exact rfl) | ((first | (with_reducible apply SW_run tt_ok hG htb) | ((with_reducible apply SW_draw rfl tt_ok hG htb); (focus kernel_rfl); focus simp only [List.range, List.range.loop, List.size_toArray, List.length_cons, List.length_nil, Nat.reduceAdd])); focus ((repeat' (first | (with_reducible first | exact wg | exact wh) | ((with_reducible first | apply wi | apply wj); focus (simp (discharger := omega) only [go_sem, simprocAttr]; with_reducible rfl)))); done)))
        exact ⟨d.length - (k + 1), _, by omega, Norm.headS (own := []) (keep := [0, 1, 5]) (by refine ⟨?_, ?_⟩; (simp (discharger := omega) only [go_sem, simprocAttr]; with_reducible rfl); refine ⟨?_, ?_, ?_, ?_⟩ <;> (simp only [go_sem, simprocAttr]; with_reducible rfl)), k + 1, rfl, rfl, by omega, fun j hj => by
          by_cases e : j = k
          · subst e; exact h
          · exact hA j (by omega)⟩
      · rw [decide_eq_false (fun e => h (by rw [e]))]
        rw [decide_eq_false h] at htb
        repeat' (first | (with_reducible first | apply w1 | apply w2 | apply w3 | apply w4 | apply w5 | apply w6 | apply w7 | apply w8 | apply w9 | apply wa | apply wb | apply wc) | ((with_reducible apply wd); focus decide) | ((with_reducible apply we); focus exact rfl) | ((with_reducible apply wf); focus exact rfl) | ((first | (with_reducible apply SW_run tt_ok hG htb) | ((with_reducible apply SW_draw rfl tt_ok hG htb); (focus kernel_rfl); focus simp only [List.range, List.range.loop, List.size_toArray, List.length_cons, List.length_nil, Nat.reduceAdd])); focus ((repeat' (first | (with_reducible first | exact wg | exact wh) | ((with_reducible first | apply wi | apply wj); focus (simp (discharger := omega) only [go_sem, simprocAttr]; with_reducible rfl)))); done)))
        exact (by simp (discharger := omega) only [go_sem, simprocAttr])
    · rw [decide_eq_true (list_same hl fun j hj => hA j (by omega))]
      repeat' (first | (with_reducible first | apply w1 | apply w2 | apply w3 | apply w4 | apply w5 | apply w6 | apply w7 | apply w8 | apply w9 | apply wa | apply wb | apply wc) | ((with_reducible apply wd); focus decide) | ((with_reducible apply we); focus exact rfl) | ((with_reducible apply wf); focus exact rfl) | ((first | (with_reducible apply SW_run tt_ok hG htb) | ((with_reducible apply SW_draw rfl tt_ok hG htb); (focus kernel_rfl); focus simp only [List.range, List.range.loop, List.size_toArray, List.length_cons, List.length_nil, Nat.reduceAdd])); focus ((repeat' (first | (with_reducible first | exact wg | exact wh) | ((with_reducible first | apply wi | apply wj); focus (simp (discharger := omega) only [go_sem, simprocAttr]; with_reducible rfl)))); done)))
      exact (by simp (discharger := omega) only [go_sem, simprocAttr])
  · rw [decide_eq_false (fun e => hl (by rw [e]))]
    repeat' (first | (with_reducible first | apply w1 | apply w2 | apply w3 | apply w4 | apply w5 | apply w6 | apply w7 | apply w8 | apply w9 | apply wa | apply wb | apply wc) | ((with_reducible apply wd); focus decide) | ((with_reducible apply we); focus exact rfl) | ((with_reducible apply wf); focus exact rfl) | ((first | (with_reducible apply SW_run tt_ok hG htb) | ((with_reducible apply SW_draw rfl tt_ok hG htb); (focus kernel_rfl); focus simp only [List.range, List.range.loop, List.size_toArray, List.length_cons, List.length_nil, Nat.reduceAdd])); focus ((repeat' (first | (with_reducible first | exact wg | exact wh) | ((with_reducible first | apply wi | apply wj); focus (simp (discharger := omega) only [go_sem, hl, simprocAttr]; with_reducible rfl)))); done)))
    exact (by simp (discharger := omega) only [go_sem, simprocAttr])
def autoSame (a b : GAuto) : Bool := decide (a.base = b.base ∧ a.tracks = b.tracks ∧ a.next = b.next ∧ a.ends = b.ends)
omit hG in
theorem autoSame_self (a : GAuto) : autoSame a a = true := by simp [autoSame]
set_option maxHeartbeats 4000000 in
theorem Autos_snd (a b : GAuto) : Snd Tryd.prog G 16 [tAuto a, tAuto b] (.bool (autoSame a b)) := by
  have htb := Tab.cons (Lists_snd hG a.next b.next) Tab.nil
  refine snd_of_body (n := 55) (tm := [(0, .t (tAuto a)), (1, .t (tAuto b))]) (rs := [.tmp 4]) tt_ok Tryd.func16 rfl rfl rfl rfl rfl ?_
  unfold autoSame
  refine SW_lenA (t := 0) (i := 3) (l := a.ends.map T.bool) rfl rfl fun hlen => ?_
  simp only [List.length_map] at hlen
  by_cases h1 : a.base = b.base
  · by_cases h2 : a.tracks = b.tracks
    · by_cases h3 : a.next = b.next
      · rw [decide_eq_true h3] at htb
        by_cases h4 : a.ends.length = b.ends.length
        · repeat' (first | (with_reducible first | apply w1 | apply w2 | apply w3 | apply w4 | apply w5 | apply w6 | apply w7 | apply w8 | apply w9 | apply wa | apply wb | apply wc) | ((with_reducible apply wd); focus decide) | ((with_reducible apply we); focus exact rfl) | ((with_reducible apply wf); focus exact rfl) | ((first | (with_reducible apply SW_run tt_ok hG htb) | ((with_reducible apply SW_draw rfl tt_ok hG htb); (focus kernel_rfl); focus simp only [List.range, List.range.loop, List.size_toArray, List.length_cons, List.length_nil, Nat.reduceAdd])); focus ((repeat' (first | (with_reducible first | exact wg | exact wh) | ((with_reducible first | apply wi | apply wj); focus (simp (discharger := omega) only [go_sem, tAuto, h1, h2, h4, simprocAttr]; with_reducible rfl)))); done)))
          refine SW_loop (fun n s => ∃ k : Nat, n = a.ends.length - k ∧ s = ⟨55, [(2, .bptr 0 0), (3, .bptr 1 0), (6, .t (tInt k))], [.box [.t (tInt a.base), .t (tInt a.tracks), .t (tIntss a.next), .t (tBools a.ends)], .box [.t (tInt b.base), .t (tInt b.tracks), .t (tIntss b.next), .t (tBools b.ends)]]⟩ ∧ k ≤ a.ends.length ∧ ∀ j, j < k → a.ends[j]! = b.ends[j]!) a.ends.length
            ⟨_, Norm.headS (own := []) (keep := [2, 3, 6]) (by refine ⟨?_, ?_⟩; (simp (discharger := omega) only [go_sem, simprocAttr]; with_reducible rfl); refine ⟨?_, ?_, ?_, ?_⟩ <;> (simp only [go_sem, simprocAttr]; with_reducible rfl)), 0, rfl, by rw [← h1, ← h2]; rfl, Nat.zero_le _, fun j hj => by omega⟩ ?_
          rintro n s ⟨k, rfl, rfl, hk, hA⟩
          by_cases hlt : k < a.ends.length
          · by_cases h : a.ends[k]! = b.ends[k]!
            · have hb : (a.ends[k]! == b.ends[k]!) = true := by rw [h]; simp
              repeat' (first | (with_reducible first | apply w1 | apply w2 | apply w3 | apply w4 | apply w5 | apply w6 | apply w7 | apply w8 | apply w9 | apply wa | apply wb | apply wc) | ((with_reducible apply wd); focus decide) | ((with_reducible apply we); focus exact rfl) | ((with_reducible apply wf); focus exact rfl) | ((first | (with_reducible apply SW_run tt_ok hG htb) | ((with_reducible apply SW_draw rfl tt_ok hG htb); (focus kernel_rfl); focus simp only [List.range, List.range.loop, List.size_toArray, List.length_cons, List.length_nil, Nat.reduceAdd])); focus ((repeat' (first | (with_reducible first | exact wg | exact wh) | ((with_reducible first | apply wi | apply wj); focus (simp (discharger := omega) only [go_sem, hb, simprocAttr]; with_reducible rfl)))); done)))
              exact ⟨a.ends.length - (k + 1), _, by omega, Norm.headS (own := []) (keep := [2, 3, 6]) (by refine ⟨?_, ?_⟩; (simp (discharger := omega) only [go_sem, simprocAttr]; with_reducible rfl); refine ⟨?_, ?_, ?_, ?_⟩ <;> (simp only [go_sem, simprocAttr]; with_reducible rfl)), k + 1, rfl, rfl, by omega, fun j hj => by
                by_cases e : j = k
                · subst e; exact h
                · exact hA j (by omega)⟩
            · have hb : (a.ends[k]! == b.ends[k]!) = false := by simpa using h
              rw [decide_eq_false (fun e => h (by rw [e.2.2.2]))]
              repeat' (first | (with_reducible first | apply w1 | apply w2 | apply w3 | apply w4 | apply w5 | apply w6 | apply w7 | apply w8 | apply w9 | apply wa | apply wb | apply wc) | ((with_reducible apply wd); focus decide) | ((with_reducible apply we); focus exact rfl) | ((with_reducible apply wf); focus exact rfl) | ((first | (with_reducible apply SW_run tt_ok hG htb) | ((with_reducible apply SW_draw rfl tt_ok hG htb); (focus kernel_rfl); focus simp only [List.range, List.range.loop, List.size_toArray, List.length_cons, List.length_nil, Nat.reduceAdd])); focus ((repeat' (first | (with_reducible first | exact wg | exact wh) | ((with_reducible first | apply wi | apply wj); focus (simp (discharger := omega) only [go_sem, hb, simprocAttr]; with_reducible rfl)))); done)))
              exact (by simp (discharger := omega) only [go_sem, simprocAttr])
          · rw [decide_eq_true ⟨h1, h2, h3, list_same h4 fun j hj => hA j (by omega)⟩]
            repeat' (first | (with_reducible first | apply w1 | apply w2 | apply w3 | apply w4 | apply w5 | apply w6 | apply w7 | apply w8 | apply w9 | apply wa | apply wb | apply wc) | ((with_reducible apply wd); focus decide) | ((with_reducible apply we); focus exact rfl) | ((with_reducible apply wf); focus exact rfl) | ((first | (with_reducible apply SW_run tt_ok hG htb) | ((with_reducible apply SW_draw rfl tt_ok hG htb); (focus kernel_rfl); focus simp only [List.range, List.range.loop, List.size_toArray, List.length_cons, List.length_nil, Nat.reduceAdd])); focus ((repeat' (first | (with_reducible first | exact wg | exact wh) | ((with_reducible first | apply wi | apply wj); focus (simp (discharger := omega) only [go_sem, simprocAttr]; with_reducible rfl)))); done)))
            exact (by simp (discharger := omega) only [go_sem, simprocAttr])
        · rw [decide_eq_false (fun e => h4 (by rw [e.2.2.2]))]
          repeat' (first | (with_reducible first | apply w1 | apply w2 | apply w3 | apply w4 | apply w5 | apply w6 | apply w7 | apply w8 | apply w9 | apply wa | apply wb | apply wc) | ((with_reducible apply wd); focus decide) | ((with_reducible apply we); focus exact rfl) | ((with_reducible apply wf); focus exact rfl) | ((first | (with_reducible apply SW_run tt_ok hG htb) | ((with_reducible apply SW_draw rfl tt_ok hG htb); (focus kernel_rfl); focus simp only [List.range, List.range.loop, List.size_toArray, List.length_cons, List.length_nil, Nat.reduceAdd])); focus ((repeat' (first | (with_reducible first | exact wg | exact wh) | ((with_reducible first | apply wi | apply wj); focus (simp (discharger := omega) only [go_sem, tAuto, h1, h2, h4, simprocAttr]; with_reducible rfl)))); done)))
          exact (by simp (discharger := omega) only [go_sem, simprocAttr])
      · rw [decide_eq_false h3] at htb
        rw [decide_eq_false (fun e => h3 e.2.2.1)]
        repeat' (first | (with_reducible first | apply w1 | apply w2 | apply w3 | apply w4 | apply w5 | apply w6 | apply w7 | apply w8 | apply w9 | apply wa | apply wb | apply wc) | ((with_reducible apply wd); focus decide) | ((with_reducible apply we); focus exact rfl) | ((with_reducible apply wf); focus exact rfl) | ((first | (with_reducible apply SW_run tt_ok hG htb) | ((with_reducible apply SW_draw rfl tt_ok hG htb); (focus kernel_rfl); focus simp only [List.range, List.range.loop, List.size_toArray, List.length_cons, List.length_nil, Nat.reduceAdd])); focus ((repeat' (first | (with_reducible first | exact wg | exact wh) | ((with_reducible first | apply wi | apply wj); focus (simp (discharger := omega) only [go_sem, tAuto, h1, h2, simprocAttr]; with_reducible rfl)))); done)))
        exact (by simp (discharger := omega) only [go_sem, simprocAttr])
    · rw [decide_eq_false (fun e => h2 e.2.1)]
      repeat' (first | (with_reducible first | apply w1 | apply w2 | apply w3 | apply w4 | apply w5 | apply w6 | apply w7 | apply w8 | apply w9 | apply wa | apply wb | apply wc) | ((with_reducible apply wd); focus decide) | ((with_reducible apply we); focus exact rfl) | ((with_reducible apply wf); focus exact rfl) | ((first | (with_reducible apply SW_run tt_ok hG htb) | ((with_reducible apply SW_draw rfl tt_ok hG htb); (focus kernel_rfl); focus simp only [List.range, List.range.loop, List.size_toArray, List.length_cons, List.length_nil, Nat.reduceAdd])); focus ((repeat' (first | (with_reducible first | exact wg | exact wh) | ((with_reducible first | apply wi | apply wj); focus (simp (discharger := omega) only [go_sem, tAuto, h1, h2, simprocAttr]; with_reducible rfl)))); done)))
      exact (by simp (discharger := omega) only [go_sem, simprocAttr])
  · rw [decide_eq_false (fun e => h1 e.1)]
    repeat' (first | (with_reducible first | apply w1 | apply w2 | apply w3 | apply w4 | apply w5 | apply w6 | apply w7 | apply w8 | apply w9 | apply wa | apply wb | apply wc) | ((with_reducible apply wd); focus decide) | ((with_reducible apply we); focus exact rfl) | ((with_reducible apply wf); focus exact rfl) | ((first | (with_reducible apply SW_run tt_ok hG htb) | ((with_reducible apply SW_draw rfl tt_ok hG htb); (focus kernel_rfl); focus simp only [List.range, List.range.loop, List.size_toArray, List.length_cons, List.length_nil, Nat.reduceAdd])); focus ((repeat' (first | (with_reducible first | exact wg | exact wh) | ((with_reducible first | apply wi | apply wj); focus (simp (discharger := omega) only [go_sem, tAuto, h1, simprocAttr]; with_reducible rfl)))); done)))
    exact (by simp (discharger := omega) only [go_sem, simprocAttr])
end
end Go.Proofs.YthcclcbliedodaaDoor
namespace Go.Proofs.YthcclcbliedodaaDoor
open Go.ChangeShapes Go.WideShapes Go.ChangeAt Go.RowKit Go.Joins Go.Deep

section
variable {H : Type} {enc : TypeId × Value → H} {w : World} {sp : Nat → Bool} {held : Bool}
/-- One cell that reads as a datum. -/
def OpensT (enc : TypeId × Value → H) (w : World) (sp : Nat → Bool) (held : Bool) (T : TypeId) (Q : Go.Proofs.YthcclcbliedodaaDoor.T → Prop) : Prop :=
  ∀ n v y, DataW.trod enc Tryd.prog w 0 sp held n T [v] = some y → v.oneCell' = true ∧ ∃ x, Q x ∧ x.cells = [x] ∧ RepT (· < w.heap.size) w x v
theorem flat_cells : ∀ {l : List Go.Proofs.YthcclcbliedodaaDoor.T}, (∀ x ∈ l, x.cells = [x]) → Go.Proofs.YthcclcbliedodaaDoor.flat l = l
  | [], _ => rfl
  | a :: t, h => by
    have := flat_cells fun x hx => h x (List.mem_cons_of_mem a hx)
    simp only [Go.Proofs.YthcclcbliedodaaDoor.flat, List.flatMap_cons] at this ⊢
    rw [this, h a List.mem_cons_self]; rfl
theorem opensT_int {T : TypeId} (ht : Tryd.prog.underlying T = some (.int .i64)) : OpensT enc w sp held T fun x => ∃ n, x = tInt n ∧ I64 n := by
  intro n v y h
  obtain ⟨a, rfl, h2⟩ := opens_int ht n v y h
  exact ⟨rfl, _, ⟨a, rfl, h2⟩, rfl, .int _ _⟩
theorem opensT_bool {T : TypeId} (ht : Tryd.prog.underlying T = some .bool) : OpensT enc w sp held T fun x => ∃ b, x = .bool b := by
  intro n v y h
  obtain ⟨a, rfl⟩ := opens_bool ht n v y h
  exact ⟨rfl, _, ⟨a, rfl⟩, rfl, .bool _⟩
theorem opensT_slice {T e : TypeId} {Q : Go.Proofs.YthcclcbliedodaaDoor.T → Prop} (ht : Tryd.prog.underlying T = some (.slice e)) (hc : Tryd.prog.cellsOf e = 1) (hE : OpensT enc w sp held e Q) :
    OpensT enc w sp held T fun x => ∃ l, x = .list l ∧ ∀ y ∈ l, Q y := by
  intro n v y h
  rcases open_slice1 ht hc h with ⟨hcs, _⟩ | ⟨a, len, cap, m, n', V, D, Pl, hcs, _, hl, hcap, hm, _, hx⟩
  · obtain rfl : v = .slice none 0 0 := by simpa using hcs
    exact ⟨rfl, _, ⟨[], rfl, fun y hy => by simp at hy⟩, rfl, .list [] none 0 1 (fun _ => undef) (Nat.zero_le _) Nat.one_pos (fun x hx => by simp at hx) (fun h => (h rfl).elim) (fun k hk => by simp at hk) (fun k y hy => by simp [Go.Proofs.YthcclcbliedodaaDoor.flat] at hy) (Nat.le_refl _)⟩
  · obtain rfl : v = .slice (some a) len cap := by simpa using hcs
    have hlm : len ≤ m := by rw [hm]; split <;> omega
    have hall : ∀ i, i < len → (V i).oneCell' = true ∧ ∃ b, Q b ∧ b.cells = [b] ∧ RepT (· < w.heap.size) w b (V i) := fun i hi => hE _ _ _ (hx i (by omega)).2
    have key : ∀ k, k ≤ len → ∃ l : List Go.Proofs.YthcclcbliedodaaDoor.T, l.length = k ∧ ∀ i (hi : i < l.length), Q l[i] ∧ l[i].cells = [l[i]] ∧ RepT (· < w.heap.size) w l[i] (V i) := by
      intro k
      induction k with
      | zero => intro _; exact ⟨[], rfl, fun i hi => absurd hi (by simp)⟩
      | succ k ih =>
        intro hk
        obtain ⟨l, hl1, hl2⟩ := ih (by omega)
        obtain ⟨_, b, hb⟩ := hall k (by omega)
        refine ⟨l ++ [b], by simp [hl1], fun i hi => ?_⟩
        rw [List.getElem_append]
        split
        · exact hl2 i ‹_›
        · obtain rfl : i = k := by simp at hi; omega
          simpa using hb
    obtain ⟨l, hl1, hl2⟩ := key len (Nat.le_refl _)
    subst hl1
    have hcells : ∀ x ∈ l, x.cells = [x] := fun x hx => by obtain ⟨i, hi, rfl⟩ := List.mem_iff_getElem.1 hx; exact (hl2 i hi).2.1
    have hfl := flat_cells hcells
    refine ⟨rfl, _, ⟨l, rfl, fun y hy => by obtain ⟨i, hi, rfl⟩ := List.mem_iff_getElem.1 hy; exact (hl2 i hi).1⟩, rfl, ?_⟩
    refine .list l (some a) cap 1 V (by simp only [maxLen] at hcap ⊢; omega) Nat.one_pos (fun x hx => by rw [hcells x hx]; rfl) (fun hne => ?_) (fun k hk => (hall k (by omega)).1) (fun k y hy => ?_) (by omega)
    · obtain ⟨b, off, spot⟩ := a
      have hpos : 0 < l.length := List.length_pos_iff.2 hne
      have hc1 := (hx 0 (by omega)).1
      have hspot : spot = none := by simpa [Addr.add] using World.cell?_spot hc1
      subst hspot
      have hadd : ∀ i, (⟨b, off, none⟩ : Addr).add i = ⟨b, off + i, none⟩ := fun i => by unfold Addr.add; split <;> simp_all
      refine ⟨b, off, rfl, ?_, fun k hk => ?_⟩
      · rw [hadd] at hc1; exact cell_lt hc1
      · have := (hx k (by omega)).1
        rw [hadd] at this; exact this
    · rw [hfl] at hy
      obtain ⟨hk, rfl⟩ := List.getElem?_eq_some_iff.1 hy
      exact (hl2 k hk).2.2
theorem allMap {α : Type} {f : α → Go.Proofs.YthcclcbliedodaaDoor.T} {Q : α → Prop} : ∀ {l : List Go.Proofs.YthcclcbliedodaaDoor.T}, (∀ y ∈ l, ∃ a, y = f a ∧ Q a) → ∃ q : List α, l = q.map f ∧ ∀ a ∈ q, Q a
  | [], _ => ⟨[], rfl, fun a ha => by simp at ha⟩
  | x :: t, h => by
    obtain ⟨a, rfl, ha⟩ := h x List.mem_cons_self
    obtain ⟨q, rfl, hq⟩ := allMap fun y hy => h y (List.mem_cons_of_mem _ hy)
    exact ⟨a :: q, rfl, fun b hb => by
      rcases List.mem_cons.1 hb with rfl | hb
      · exact ha
      · exact hq b hb⟩
theorem opensT_ints {T : TypeId} (h : OpensT enc w sp held T fun x => ∃ l, x = .list l ∧ ∀ y ∈ l, ∃ n, y = tInt n ∧ I64 n) : OpensT enc w sp held T fun x => ∃ l, x = tInts l ∧ I64s l := fun n v y hy => by
  obtain ⟨h1, x, ⟨l, rfl, hl⟩, h2, h3⟩ := h n v y hy
  obtain ⟨q, rfl, hq⟩ := allMap hl
  exact ⟨h1, _, ⟨q, rfl, hq⟩, rfl, h3⟩
theorem opensIntsT : OpensT enc w sp held 35 fun x => ∃ l, x = tInts l ∧ I64s l := opensT_ints (opensT_slice Tryd.underlying35 (by kernel_rfl) (opensT_int Tryd.underlying3))
theorem opensIntssT : OpensT enc w sp held 22 fun x => ∃ l, x = tIntss l ∧ ∀ r ∈ l, I64s r := fun n v y hy => by
  obtain ⟨h1, x, ⟨l, rfl, hl⟩, h2, h3⟩ := opensT_slice Tryd.underlying22 (by kernel_rfl) opensIntsT n v y hy
  obtain ⟨q, rfl, hq⟩ := allMap hl
  exact ⟨h1, _, ⟨q, rfl, hq⟩, rfl, h3⟩
theorem opensBoolsT : OpensT enc w sp held 23 fun x => ∃ l, x = tBools l := fun n v y hy => by
  obtain ⟨h1, x, ⟨l, rfl, hl⟩, h2, h3⟩ := opensT_slice Tryd.underlying23 (by kernel_rfl) (opensT_bool Tryd.underlying4) n v y hy
  obtain ⟨q, rfl, hq⟩ := allMap (Q := fun _ => True) fun y hy => by obtain ⟨b, hb⟩ := hl y hy; exact ⟨b, hb, trivial⟩
  exact ⟨h1, _, ⟨q, rfl⟩, rfl, h3⟩
def ReadsAuto (w : World) (v : Value) (a : GAuto) : Prop := I64A a ∧ RepT (· < w.heap.size) w (tAuto a) v
set_option maxRecDepth 100000 in
theorem openAutoT {base : Nat} {v : Value} {d : DataW H} {p : List MemPlace} (hv : Value.okWide Tryd.prog w .any base 25 v) (h : DataW.Trod enc Tryd.prog w 0 sp held 25 v d p) :
    ∃ a : GAuto, ReadsAuto w v a := by
  obtain ⟨v0, v1, v2, v3, y0, y1, y2, y3, n, rfl, _, _, h0, h1, h2, h3⟩ := open_agg4 Tryd.underlying25 (by kernel_rfl) (by kernel_rfl) hv h
  obtain ⟨a0, rfl, i0⟩ := opens_int Tryd.underlying3 _ _ _ h0
  obtain ⟨a1, rfl, i1⟩ := opens_int Tryd.underlying3 _ _ _ h1
  obtain ⟨o2, x2, ⟨a2, rfl, i2⟩, _, hn⟩ := opensIntssT _ _ _ h2
  obtain ⟨o3, x3, ⟨a3, rfl⟩, _, he⟩ := opensBoolsT _ _ _ h3
  refine ⟨⟨a0, a1, a2, a3⟩, ⟨i0, i1, i2⟩, .agg _ _ rfl (fun k v hk => ?_) fun k y v hy hk => ?_⟩
  · match k, hk with
    | 0, hk => cases hk; rfl
    | 1, hk => cases hk; rfl
    | 2, hk => cases hk; exact o2
    | 3, hk => cases hk; exact o3
  · match k, hy, hk with
    | 0, hy, hk => cases hy; cases hk; exact .int _ _
    | 1, hy, hk => cases hy; cases hk; exact .int _ _
    | 2, hy, hk => cases hy; cases hk; exact hn
    | 3, hy, hk => cases hy; cases hk; exact he
end
theorem walkN {P : Program} {G : World → Prop} {f : Nat} {xs : List T} {w : World} {vs : Array Value} (h : Snd P G f xs (.bool true)) (hG : G w) (hl : vs.size = xs.length) (hx : ∀ (k : Nat) (y : T) (v : Value), xs[k]? = some y → vs[k]? = some v → RepT (· < w.heap.size) w y v) : Calls P f vs w (Ret (.bool true) w) :=
  (h.calls (· < w.heap.size) w vs hG hl hx).mono fun e w' hq => by obtain ⟨u, h1, h2, h3⟩ := hq; cases h2; exact ⟨h1, h3⟩
end Go.Proofs.YthcclcbliedodaaDoor
namespace Go.Proofs.YthcclcbliedodaaDoor
open Go.RowKit

set_option maxHeartbeats 8000000 in
set_option maxRecDepth 100000 in
theorem TurnIs_snd (a : GAuto) : Snd Tryd.prog errCell 4 [tAuto a] (.bool true) := by
  have hG := errCell_lasting
  have c1 := TurnOf_ref (G := errCell) hG a
  have c2 := Turn_snd (G := errCell) hG a
  have c3 := Error_snd (turnErr a) (turnErr a)
  have c4 := Autos_snd (G := errCell) hG (turnA a) (turnA a)
  rw [beq_self_eq_true] at c3
  rw [autoSame_self] at c4
  have c5 := SetsT_snd (G := errCell) hG a
  have c6 := Error_snd (turnErr0 a) (turnErr0 a)
  rw [beq_self_eq_true] at c6
  refine snd_of_body (n := 50) (tm := [(0, .t (tAuto a))]) (rs := [.tmp 2]) tt_ok Tryd.func4 rfl rfl rfl rfl rfl ?_
  generalize turnA a = b at *
  generalize turnErr a = e at *
  generalize turnErr0 a = f at *
  generalize (turnS a).length = k at *
  have htb := Tab.cons c1 (Tab.cons c2 (Tab.cons c3 (Tab.cons c4 Tab.nil)))
  repeat' (first | (with_reducible first | apply w1 | apply w2 | apply w3 | apply w4 | apply w5 | apply w6 | apply w7 | apply w8 | apply w9 | apply wa | apply wb | apply wc) | ((with_reducible apply wd); focus decide) | ((with_reducible apply we); focus exact rfl) | ((with_reducible apply wf); focus exact rfl) | ((first | (with_reducible apply SW_run tt_ok hG htb) | ((with_reducible apply SW_draw rfl tt_ok hG htb); (focus kernel_rfl); focus simp only [List.range, List.range.loop, List.size_toArray, List.length_cons, List.length_nil, Nat.reduceAdd])); focus ((repeat' (first | (with_reducible first | exact wg | exact wh) | ((with_reducible first | apply wi | apply wj); focus (simp (discharger := omega) only [go_sem, tAuto, simprocAttr]; with_reducible rfl)))); done)))
  clear htb
  have htb := Tab.cons c5 (Tab.cons c6 Tab.nil)
  by_cases h : f = 0
  · subst h
    repeat' (first | (with_reducible first | apply w1 | apply w2 | apply w3 | apply w4 | apply w5 | apply w6 | apply w7 | apply w8 | apply w9 | apply wa | apply wb | apply wc) | ((with_reducible apply wd); focus decide) | ((with_reducible apply we); focus exact rfl) | ((with_reducible apply wf); focus exact rfl) | ((first | (with_reducible apply SW_run tt_ok hG htb) | ((with_reducible apply SW_draw rfl tt_ok hG htb); (focus kernel_rfl); focus simp only [List.range, List.range.loop, List.size_toArray, List.length_cons, List.length_nil, Nat.reduceAdd])); focus ((repeat' (first | (with_reducible first | exact wg | exact wh) | ((with_reducible first | apply wi | apply wj); focus (simp (discharger := omega) only [go_sem, tAuto, tErr0, simprocAttr]; with_reducible rfl)))); done)))
    exact (by simp (discharger := omega) only [go_sem, simprocAttr])
  · repeat' (first | (with_reducible first | apply w1 | apply w2 | apply w3 | apply w4 | apply w5 | apply w6 | apply w7 | apply w8 | apply w9 | apply wa | apply wb | apply wc) | ((with_reducible apply wd); focus decide) | ((with_reducible apply we); focus exact rfl) | ((with_reducible apply wf); focus exact rfl) | ((first | (with_reducible apply SW_run tt_ok hG htb) | ((with_reducible apply SW_draw rfl tt_ok hG htb); (focus kernel_rfl); focus simp only [List.range, List.range.loop, List.size_toArray, List.length_cons, List.length_nil, Nat.reduceAdd])); focus ((repeat' (first | (with_reducible first | exact wg | exact wh) | ((with_reducible first | apply wi | apply wj); focus (simp (discharger := omega) only [go_sem, tAuto, tErr, h, simprocAttr]; with_reducible rfl)))); done)))
    exact (by simp (discharger := omega) only [go_sem, simprocAttr])
theorem TurnIs_walk (v : Value) (a : GAuto) (w : World) (h : ReadsAuto w v a) (hg : errCell w) : Calls Tryd.prog 4 #[v] w (Ret (.bool true) w) :=
  walkN (TurnIs_snd a) hg rfl fun k y z p q => by
    match k, p, q with
    | 0, p, q => cases p; cases q; exact h.2
end Go.Proofs.YthcclcbliedodaaDoor
namespace Go.Proofs.YthcclcbliedodaaDoor.turnIs
open Go.ChangeShapes Go.WideShapes Go.ChangeAt Go.RowKit

set_option maxRecDepth 100000 in
theorem lifted (os : Os) (started : os.Started) (H : Type) (enc : TypeId × Value → H) :
    ReturnsInHanded {} Tryd.checked os 4 .any (fun w args => (Rows.turnIsSpec.pre enc Tryd.prog Tryd.f4 [] false w args ∧ laidMetH Tryd.prog laidL w) ∧ sizedMet enc Tryd.prog Tryd.f4 (OpenSpec.ofChange Rows.turnIsSpec) false w args)
      (Rows.turnIsSpec.post enc Tryd.prog Tryd.f4 false true false false) := by
  refine returnsInHanded_of_change_and (C := Tryd.checked) (X := fun w _ => laidMetH Tryd.prog laidL w) (fun _ _ _ hh h => h.of_heap hh) own started (by kernel_rfl) Tryd.func4
    (ChangeSpec.witness_at (enc := enc) (C := Tryd.checked) (os := os) (X := fun w _ => laidMetH Tryd.prog laidL w) false (laidWorld os) #[.agg #[.int .i64 0, .int .i64 0, .slice none 0 0, .slice none 0 0]] 8 rfl (by kernel_rfl) (by kernel_rfl) (by kernel_rfl) (by kernel_rfl) (by kernel_rfl) (laidWorld_met os _)) ?_
  intro W base args ds gs before hval0 hW _ _ hL _
  have hval : ∀ (j : Nat) t v, Tryd.f4.params[j]? = some t → args[j]? = some v → Value.okWide Tryd.prog W .any base t v := hval0
  have hW' := hW
  obtain ⟨p, q, hA0, hV, rfl, hfz, hnd⟩ := hW
  have hA : DataW.TrodAll enc Tryd.prog W 0 (fun _ => true) true Tryd.f4.params.toList args.toList ds p := hA0
  rw [Tryd.params4] at hA hval
  obtain ⟨v0, vs0, d0, ds0, p0, q0, hargs, rfl, rfl, h0, r0⟩ := trodAll_cons hA
  obtain ⟨rfl, rfl, rfl⟩ := trodAll_nil r0
  obtain rfl : args = #[v0] := by cases args; simp_all
  obtain ⟨rfl, rfl⟩ := trodVars_none hV
  have k0 := h0
  have lt0 : ∀ x ∈ p0, x.block < W.heap.size := by obtain ⟨m, hm⟩ := k0; exact DataW.trod_lt m _ _ _ hm
  obtain ⟨a0, w0⟩ := openAutoT (hval 0 25 v0 rfl rfl) h0
  clear hA0 hval0
  refine (TurnIs_walk _ a0 W w0 (handle_of_laid hL)).mono fun e W' ⟨he, bel⟩ => ?_
  subst he
  exact ⟨_, rfl, _, _, _, [], _, [], hW', trodAll_mk1 (shut_bool Tryd.underlying4 _), (trodAll_cons_mk (Below.trod laidOut (by kernel_rfl) (of_decide_eq_true (by kernel_rfl)) k0 bel lt0) trodAll_mk0), rfl, bel.frame _, fun h => by cases h⟩

theorem over : Rows.turnIsRow.holds Tryd.pinned (OpenSpec.ofChange Rows.turnIsSpec) :=
  OpenClaim.holds_of_wide 4 Tryd.f4 rfl rfl rfl rfl rfl rfl rfl ⟨rfl, rfl, rfl, rfl, rfl⟩ rfl rfl rfl rfl rfl (by kernel_rfl) Tryd.func4 (by kernel_rfl)
    (of_decide_eq_true (by kernel_rfl)) (by unfold Func.isWrapper; first | (rw [if_pos (by decide +kernel)]; kernel_rfl) | (rw [if_neg (by decide +kernel)]; exact ⟨rfl, rfl⟩))
    (fun os started H enc _ => lifted os started H enc)

theorem said : Rows.TurnIsSaid := over
theorem plain (f : FuncId) (fn : Func) (hf : Tryd.pinned.checked.prog.funcNamed "filbert/filbertlaw2.TurnIs" = some f) (hfn : Tryd.pinned.checked.prog.funcs[f]? = some fn) :
    true = Tryd.pinned.checked.prog.looks [] ∧ ∀ (j : Nat) t, fn.params[j]? = some t → Tryd.pinned.checked.prog.wantsStandIn t = false := by
  obtain rfl : f = 4 := Option.some.inj ((show Tryd.prog.funcNamed "filbert/filbertlaw2.TurnIs" = some 4 by kernel_rfl).symm.trans hf) |>.symm
  obtain rfl : fn = Tryd.f4 := (Option.some.inj (Tryd.func4.symm.trans hfn)).symm
  refine ⟨by kernel_rfl, fun j t ht => ?_⟩
  have hall : (Tryd.f4.params.toList.all fun t => !(Tryd.prog.wantsStandIn t)) = true := by kernel_rfl
  have := List.all_eq_true.1 hall t (Array.mem_toList_iff.2 (Array.mem_of_getElem? ht))
  exact (show Tryd.prog.wantsStandIn t = false by simpa using this)

/-- THE STATEMENT: THE CARD. -/
theorem proved : Rows.TurnIsCardSaid :=
  Claim7.holds_tied_plain_at .later [] _ _ _ _ said (fun _ h => by cases h) (by kernel_rfl) (fun _ h => by cases h) turnIs_row_tie rfl ⟨rfl, rfl⟩ (by kernel_rfl) rfl plain (by kernel_rfl)
#print axioms proved
end Go.Proofs.YthcclcbliedodaaDoor.turnIs
