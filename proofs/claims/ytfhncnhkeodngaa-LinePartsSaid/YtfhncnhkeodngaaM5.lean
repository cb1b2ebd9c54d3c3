/- Plain laws, data behind worlds, and contracts of functions, for the last text. No conditions. -/
import Derived.Test.YtfhncnhkeodngaaM4
set_option linter.unusedSimpArgs false
set_option linter.unusedVariables false
set_option linter.unnecessarySimpa false
set_option linter.unusedSectionVars false
namespace Go.Proofs.Ytfhncnhkeodngaa
open Go.RowKit

theorem and64' {s l : Nat} (hs : s < 1000) (hl : l < 1000) : IntKind.i64.wrap ((BitVec.ofInt 64 (s : Int) &&& BitVec.ofInt 64 (l : Int)).toNat : Int) = ((s &&& l : Nat) : Int) := by
  have h1 : (BitVec.ofInt 64 (s : Int) &&& BitVec.ofInt 64 (l : Int)).toNat = s &&& l := by
    rw [BitVec.ofInt_natCast, BitVec.ofInt_natCast, BitVec.toNat_and, BitVec.toNat_ofNat, BitVec.toNat_ofNat, Nat.mod_eq_of_lt (by omega), Nat.mod_eq_of_lt (by omega)]
  rw [h1]
  have : s &&& l ≤ s := Nat.and_le_left
  exact wrap_i64 _ (by omega)
/-- The same, as the walk writes it. -/
theorem and64 {s l : Nat} (hs : s < 1000) (hl : l < 1000) : IntKind.i64.wrap ((@BitVec.toNat 64 (@HAnd.hAnd (BitVec 64) (BitVec 64) (BitVec 64) (@instHAndOfAndOp (BitVec IntKind.i64.bits) (@BitVec.instAndOp IntKind.i64.bits)) (BitVec.ofInt 64 (s : Int)) (BitVec.ofInt 64 (l : Int))) : Nat) : Int) = ((s &&& l : Nat) : Int) := and64' hs hl
section
variable {G : World → Prop} (hG : Lasting G)
include hG
set_option maxHeartbeats 4000000 in
set_option maxRecDepth 100000 in
theorem All_snd (base tracks : Int) : Snd Try.prog G 19 [tInt base, tInt tracks] (.tup [tAuto (allA base tracks), tErr (manyErr base tracks)]) := by
  have c1 := Many_snd hG base tracks
  refine snd_of_body (n := 81) (tm := [(0, .t (tInt base)), (1, .t (tInt tracks))]) (rs := [.cell 4 44, .tmp 5]) tt_ok Try.func19 rfl rfl rfl rfl rfl ?_
  unfold allA
  by_cases h0 : manyErr base tracks = 0
  · obtain ⟨t, n, rfl, hn, ht5, hn0, hn36⟩ := many_nat h0
    rw [h0, hn] at c1
    rw [if_pos h0, h0, hn, Int.toNat_natCast]
    have htb := Tab.cons c1 Tab.nil
    by_cases h1 : base = 1
    · subst h1
      have hS := Shrink_snd (G := G) (ends := rightEnds n) hG 1 t (right_rows n) (by omega) (by omega) (by simp [rightEnds, tabE]) (by omega)
      have hle := (leastRE_spec (ends := rightEnds n) (right_rows n) (by omega)).2
      have hT : shrinkT 1 t n (rightNext n) (rightEnds n) = .tup [tAuto ⟨1, t, (leastRE n (rightNext n) (rightEnds n)).1, (leastRE n (rightNext n) (rightEnds n)).2⟩, .bool true] := by
        unfold shrinkT; rw [if_pos (by omega)]
      rw [hT] at hS
      unfold allRE
      rw [if_pos rfl]
      generalize (⟨1, t, (leastRE n (rightNext n) (rightEnds n)).1, (leastRE n (rightNext n) (rightEnds n)).2⟩ : GAuto) = c at hS
      repeat' (first | (with_reducible first | refine SW_seq ?_ | refine SW_block ?_ | refine SThen_n ?_ | refine SThen_r ?_ | refine SThen_e ?_ | refine SIn_n ?_ | refine SIn_r ?_ | refine SIn_eq ?_ | refine SW_skip ?_ | refine SW_exit ?_ | refine SW_ret ?_ | refine SPost_r ?_) | ((with_reducible refine SIn_ne ?_ ?_); focus decide) | ((with_reducible refine SW_true ?_ ?_); focus exact rfl) | ((with_reducible refine SW_false ?_ ?_); focus exact rfl) | ((first | (with_reducible apply SW_run tt_ok hG htb) | ((with_reducible apply SW_draw rfl tt_ok hG htb); (focus kernel_rfl); (focus (simp only [List.range, List.range.loop, List.size_toArray, List.length_cons, List.length_nil, Nat.reduceAdd])))); focus ((repeat' (first | (with_reducible exact runX_nil) | (with_reducible exact runI_nil) | ((first | (with_reducible apply runX_cons) | (with_reducible apply runI_cons)); focus (simp (discharger := omega) only [go_sem, tErr, ↓reduceIte, reduceIte, Nat.reduceEqDiff, Nat.reduceLT, Nat.reduceLeDiff, Nat.reduceAdd, Nat.reduceSub, Nat.reduceMul, Nat.reduceDiv, Nat.reduceMod, Nat.reduceBEq, Int.reduceEq, Int.reduceLT, Int.reduceLE, Int.reduceNeg, Int.reduceToNat, reduceCtorEq]; with_reducible rfl)))); done)))
      refine SW_loop (fun k s => ∃ (i : Nat) (nt et : List T), k = n + 1 - i ∧ s = ⟨81, [(0, .t (tInt 1)), (1, .t (tInt t)), (4, .bptr 0 0), (6, .t (tInt n)), (8, .sref 1), (9, .sref 2), (35, .t (tInt (n + 1))), (36, .t (tInt i))], [.box [.t (tInt 0), .t (tInt 0), .nil, .nil], .row 24 1 false nt, .row 4 1 false et]⟩ ∧
          nt = ((rightNext n).take i).map tInts ∧ et = ((rightEnds n).take i).map T.bool ∧ i ≤ n + 1) (n + 1)
        ⟨_, Norm.headS (own := [(8, 24, 1, false), (9, 4, 1, false)]) (keep := [0, 1, 4, 6, 8, 9, 35, 36]) (by simp (discharger := omega) only [go_sem, ↓reduceIte, reduceIte, Nat.reduceEqDiff, Nat.reduceLT, Nat.reduceLeDiff, Nat.reduceAdd, Nat.reduceSub, Nat.reduceMul, Nat.reduceDiv, Nat.reduceMod, Nat.reduceBEq, Int.reduceEq, Int.reduceLT, Int.reduceLE, Int.reduceNeg, Int.reduceToNat, reduceCtorEq]; with_reducible rfl) (by simp only [go_sem, ↓reduceIte, reduceIte, Nat.reduceEqDiff, Nat.reduceLT, Nat.reduceLeDiff, Nat.reduceAdd, Nat.reduceSub, Nat.reduceMul, Nat.reduceDiv, Nat.reduceMod, Nat.reduceBEq, Int.reduceEq, Int.reduceLT, Int.reduceLE, Int.reduceNeg, Int.reduceToNat, reduceCtorEq]; with_reducible rfl) (by simp only [go_sem, ↓reduceIte, reduceIte, Nat.reduceEqDiff, Nat.reduceLT, Nat.reduceLeDiff, Nat.reduceAdd, Nat.reduceSub, Nat.reduceMul, Nat.reduceDiv, Nat.reduceMod, Nat.reduceBEq, Int.reduceEq, Int.reduceLT, Int.reduceLE, Int.reduceNeg, Int.reduceToNat, reduceCtorEq]; with_reducible rfl) (by simp only [go_sem, ↓reduceIte, reduceIte, Nat.reduceEqDiff, Nat.reduceLT, Nat.reduceLeDiff, Nat.reduceAdd, Nat.reduceSub, Nat.reduceMul, Nat.reduceDiv, Nat.reduceMod, Nat.reduceBEq, Int.reduceEq, Int.reduceLT, Int.reduceLE, Int.reduceNeg, Int.reduceToNat, reduceCtorEq]; with_reducible rfl) (by simp only [go_sem, ↓reduceIte, reduceIte, Nat.reduceEqDiff, Nat.reduceLT, Nat.reduceLeDiff, Nat.reduceAdd, Nat.reduceSub, Nat.reduceMul, Nat.reduceDiv, Nat.reduceMod, Nat.reduceBEq, Int.reduceEq, Int.reduceLT, Int.reduceLE, Int.reduceNeg, Int.reduceToNat, reduceCtorEq]; with_reducible rfl), 0, _, _, rfl, rfl, rfl, rfl, Nat.zero_le _⟩ ?_
      clear htb
      have htb := Tab.cons hS Tab.nil
      rintro k s ⟨i, nt, et, rfl, rfl, hnt, het, hi⟩
      have hntl : nt.length = i := by rw [hnt]; simp [rightNext, tabN]; omega
      have hetl : et.length = i := by rw [het]; simp [rightEnds, tabE]; omega
      by_cases hlt : i < n + 1
      · repeat' (first | (with_reducible first | refine SW_seq ?_ | refine SW_block ?_ | refine SThen_n ?_ | refine SThen_r ?_ | refine SThen_e ?_ | refine SIn_n ?_ | refine SIn_r ?_ | refine SIn_eq ?_ | refine SW_skip ?_ | refine SW_exit ?_ | refine SW_ret ?_ | refine SPost_r ?_) | ((with_reducible refine SIn_ne ?_ ?_); focus decide) | ((with_reducible refine SW_true ?_ ?_); focus exact rfl) | ((with_reducible refine SW_false ?_ ?_); focus exact rfl) | ((first | (with_reducible apply SW_run tt_ok hG htb) | ((with_reducible apply SW_draw rfl tt_ok hG htb); (focus kernel_rfl); (focus (simp only [List.range, List.range.loop, List.size_toArray, List.length_cons, List.length_nil, Nat.reduceAdd])))); focus ((repeat' (first | (with_reducible exact runX_nil) | (with_reducible exact runI_nil) | ((first | (with_reducible apply runX_cons) | (with_reducible apply runI_cons)); focus (simp (discharger := omega) only [go_sem, ↓reduceIte, reduceIte, Nat.reduceEqDiff, Nat.reduceLT, Nat.reduceLeDiff, Nat.reduceAdd, Nat.reduceSub, Nat.reduceMul, Nat.reduceDiv, Nat.reduceMod, Nat.reduceBEq, Int.reduceEq, Int.reduceLT, Int.reduceLE, Int.reduceNeg, Int.reduceToNat, reduceCtorEq]; with_reducible rfl)))); done)))
        refine SW_loop (fun k s => ∃ (l : Nat) (rt : List T), k = n - l ∧ s = ⟨81, [(0, .t (tInt 1)), (1, .t (tInt t)), (4, .bptr 0 0), (6, .t (tInt n)), (8, .sref 1), (9, .sref 2), (10, .t (tInt i)), (11, .sref 3), (35, .t (tInt (n + 1))), (36, .t (tInt i)), (39, .t (tInt n)), (40, .t (tInt l))], [.box [.t (tInt 0), .t (tInt 0), .nil, .nil], .row 24 1 false nt, .row 4 1 false et, .row 3 1 false rt]⟩ ∧
            rt = (((List.range n).map fun l => (rightD n (fun s l => s &&& l != 0) i l : Int)).take l).map tInt ∧ l ≤ n) n
          ⟨_, Norm.headS (own := [(8, 24, 1, false), (9, 4, 1, false), (11, 3, 1, false)]) (keep := [0, 1, 4, 6, 8, 9, 10, 11, 35, 36, 39, 40]) (by simp (discharger := omega) only [go_sem, ↓reduceIte, reduceIte, Nat.reduceEqDiff, Nat.reduceLT, Nat.reduceLeDiff, Nat.reduceAdd, Nat.reduceSub, Nat.reduceMul, Nat.reduceDiv, Nat.reduceMod, Nat.reduceBEq, Int.reduceEq, Int.reduceLT, Int.reduceLE, Int.reduceNeg, Int.reduceToNat, reduceCtorEq]; with_reducible rfl) (by simp only [go_sem, ↓reduceIte, reduceIte, Nat.reduceEqDiff, Nat.reduceLT, Nat.reduceLeDiff, Nat.reduceAdd, Nat.reduceSub, Nat.reduceMul, Nat.reduceDiv, Nat.reduceMod, Nat.reduceBEq, Int.reduceEq, Int.reduceLT, Int.reduceLE, Int.reduceNeg, Int.reduceToNat, reduceCtorEq]; with_reducible rfl) (by simp only [go_sem, ↓reduceIte, reduceIte, Nat.reduceEqDiff, Nat.reduceLT, Nat.reduceLeDiff, Nat.reduceAdd, Nat.reduceSub, Nat.reduceMul, Nat.reduceDiv, Nat.reduceMod, Nat.reduceBEq, Int.reduceEq, Int.reduceLT, Int.reduceLE, Int.reduceNeg, Int.reduceToNat, reduceCtorEq]; with_reducible rfl) (by simp only [go_sem, ↓reduceIte, reduceIte, Nat.reduceEqDiff, Nat.reduceLT, Nat.reduceLeDiff, Nat.reduceAdd, Nat.reduceSub, Nat.reduceMul, Nat.reduceDiv, Nat.reduceMod, Nat.reduceBEq, Int.reduceEq, Int.reduceLT, Int.reduceLE, Int.reduceNeg, Int.reduceToNat, reduceCtorEq]; with_reducible rfl) (by simp only [go_sem, ↓reduceIte, reduceIte, Nat.reduceEqDiff, Nat.reduceLT, Nat.reduceLeDiff, Nat.reduceAdd, Nat.reduceSub, Nat.reduceMul, Nat.reduceDiv, Nat.reduceMod, Nat.reduceBEq, Int.reduceEq, Int.reduceLT, Int.reduceLE, Int.reduceNeg, Int.reduceToNat, reduceCtorEq]; with_reducible rfl), 0, _, rfl, rfl, rfl, Nat.zero_le _⟩ ?_
        rintro k s ⟨l, rt, rfl, rfl, hrt, hl⟩
        have hrtl : rt.length = l := by rw [hrt]; simp; omega
        by_cases hlt2 : l < n
        · have hand := and64 (s := i) (l := l) (by omega) (by omega)
          have htk := map_range_take (fun l => (rightD n (fun s l => s &&& l != 0) i l : Int)) hlt2
          by_cases hin : i = n
          · have hv : rightD n (fun s l => s &&& l != 0) i l = n := by simp [rightD, hin]
            repeat' (first | (with_reducible first | refine SW_seq ?_ | refine SW_block ?_ | refine SThen_n ?_ | refine SThen_r ?_ | refine SThen_e ?_ | refine SIn_n ?_ | refine SIn_r ?_ | refine SIn_eq ?_ | refine SW_skip ?_ | refine SW_exit ?_ | refine SW_ret ?_ | refine SPost_r ?_) | ((with_reducible refine SIn_ne ?_ ?_); focus decide) | ((with_reducible refine SW_true ?_ ?_); focus exact rfl) | ((with_reducible refine SW_false ?_ ?_); focus exact rfl) | ((first | (with_reducible apply SW_run tt_ok hG htb) | ((with_reducible apply SW_draw rfl tt_ok hG htb); (focus kernel_rfl); (focus (simp only [List.range, List.range.loop, List.size_toArray, List.length_cons, List.length_nil, Nat.reduceAdd])))); focus ((repeat' (first | (with_reducible exact runX_nil) | (with_reducible exact runI_nil) | ((first | (with_reducible apply runX_cons) | (with_reducible apply runI_cons)); focus (simp (discharger := omega) only [go_sem, hand, ↓reduceIte, reduceIte, Nat.reduceEqDiff, Nat.reduceLT, Nat.reduceLeDiff, Nat.reduceAdd, Nat.reduceSub, Nat.reduceMul, Nat.reduceDiv, Nat.reduceMod, Nat.reduceBEq, Int.reduceEq, Int.reduceLT, Int.reduceLE, Int.reduceNeg, Int.reduceToNat, reduceCtorEq]; with_reducible rfl)))); done)))
            exact ⟨n - (l + 1), _, by omega, Norm.headS (own := [(8, 24, 1, false), (9, 4, 1, false), (11, 3, 1, false)]) (keep := [0, 1, 4, 6, 8, 9, 10, 11, 35, 36, 39, 40]) (by simp (discharger := omega) only [go_sem, ↓reduceIte, reduceIte, Nat.reduceEqDiff, Nat.reduceLT, Nat.reduceLeDiff, Nat.reduceAdd, Nat.reduceSub, Nat.reduceMul, Nat.reduceDiv, Nat.reduceMod, Nat.reduceBEq, Int.reduceEq, Int.reduceLT, Int.reduceLE, Int.reduceNeg, Int.reduceToNat, reduceCtorEq]; with_reducible rfl) (by simp only [go_sem, ↓reduceIte, reduceIte, Nat.reduceEqDiff, Nat.reduceLT, Nat.reduceLeDiff, Nat.reduceAdd, Nat.reduceSub, Nat.reduceMul, Nat.reduceDiv, Nat.reduceMod, Nat.reduceBEq, Int.reduceEq, Int.reduceLT, Int.reduceLE, Int.reduceNeg, Int.reduceToNat, reduceCtorEq]; with_reducible rfl) (by simp only [go_sem, ↓reduceIte, reduceIte, Nat.reduceEqDiff, Nat.reduceLT, Nat.reduceLeDiff, Nat.reduceAdd, Nat.reduceSub, Nat.reduceMul, Nat.reduceDiv, Nat.reduceMod, Nat.reduceBEq, Int.reduceEq, Int.reduceLT, Int.reduceLE, Int.reduceNeg, Int.reduceToNat, reduceCtorEq]; with_reducible rfl) (by simp only [go_sem, ↓reduceIte, reduceIte, Nat.reduceEqDiff, Nat.reduceLT, Nat.reduceLeDiff, Nat.reduceAdd, Nat.reduceSub, Nat.reduceMul, Nat.reduceDiv, Nat.reduceMod, Nat.reduceBEq, Int.reduceEq, Int.reduceLT, Int.reduceLE, Int.reduceNeg, Int.reduceToNat, reduceCtorEq]; with_reducible rfl) (by simp only [go_sem, ↓reduceIte, reduceIte, Nat.reduceEqDiff, Nat.reduceLT, Nat.reduceLeDiff, Nat.reduceAdd, Nat.reduceSub, Nat.reduceMul, Nat.reduceDiv, Nat.reduceMod, Nat.reduceBEq, Int.reduceEq, Int.reduceLT, Int.reduceLE, Int.reduceNeg, Int.reduceToNat, reduceCtorEq]; with_reducible rfl), l + 1, _, rfl, rfl, by rw [htk, List.map_append, ← hrt, hv]; rfl, by omega⟩
          · by_cases ha : i &&& l = 0
            · have hv : rightD n (fun s l => s &&& l != 0) i l = l := by simp [rightD, hin, ha]
              replace hand := hand.trans (show ((i &&& l : Nat) : Int) = 0 by rw [ha]; rfl)
              repeat' (first | (with_reducible first | refine SW_seq ?_ | refine SW_block ?_ | refine SThen_n ?_ | refine SThen_r ?_ | refine SThen_e ?_ | refine SIn_n ?_ | refine SIn_r ?_ | refine SIn_eq ?_ | refine SW_skip ?_ | refine SW_exit ?_ | refine SW_ret ?_ | refine SPost_r ?_) | ((with_reducible refine SIn_ne ?_ ?_); focus decide) | ((with_reducible refine SW_true ?_ ?_); focus exact rfl) | ((with_reducible refine SW_false ?_ ?_); focus exact rfl) | ((first | (with_reducible apply SW_run tt_ok hG htb) | ((with_reducible apply SW_draw rfl tt_ok hG htb); (focus kernel_rfl); (focus (simp only [List.range, List.range.loop, List.size_toArray, List.length_cons, List.length_nil, Nat.reduceAdd])))); focus ((repeat' (first | (with_reducible exact runX_nil) | (with_reducible exact runI_nil) | ((first | (with_reducible apply runX_cons) | (with_reducible apply runI_cons)); focus (simp (discharger := omega) only [go_sem, hand, ↓reduceIte, reduceIte, Nat.reduceEqDiff, Nat.reduceLT, Nat.reduceLeDiff, Nat.reduceAdd, Nat.reduceSub, Nat.reduceMul, Nat.reduceDiv, Nat.reduceMod, Nat.reduceBEq, Int.reduceEq, Int.reduceLT, Int.reduceLE, Int.reduceNeg, Int.reduceToNat, reduceCtorEq]; with_reducible rfl)))); done)))
              exact ⟨n - (l + 1), _, by omega, Norm.headS (own := [(8, 24, 1, false), (9, 4, 1, false), (11, 3, 1, false)]) (keep := [0, 1, 4, 6, 8, 9, 10, 11, 35, 36, 39, 40]) (by simp (discharger := omega) only [go_sem, ↓reduceIte, reduceIte, Nat.reduceEqDiff, Nat.reduceLT, Nat.reduceLeDiff, Nat.reduceAdd, Nat.reduceSub, Nat.reduceMul, Nat.reduceDiv, Nat.reduceMod, Nat.reduceBEq, Int.reduceEq, Int.reduceLT, Int.reduceLE, Int.reduceNeg, Int.reduceToNat, reduceCtorEq]; with_reducible rfl) (by simp only [go_sem, ↓reduceIte, reduceIte, Nat.reduceEqDiff, Nat.reduceLT, Nat.reduceLeDiff, Nat.reduceAdd, Nat.reduceSub, Nat.reduceMul, Nat.reduceDiv, Nat.reduceMod, Nat.reduceBEq, Int.reduceEq, Int.reduceLT, Int.reduceLE, Int.reduceNeg, Int.reduceToNat, reduceCtorEq]; with_reducible rfl) (by simp only [go_sem, ↓reduceIte, reduceIte, Nat.reduceEqDiff, Nat.reduceLT, Nat.reduceLeDiff, Nat.reduceAdd, Nat.reduceSub, Nat.reduceMul, Nat.reduceDiv, Nat.reduceMod, Nat.reduceBEq, Int.reduceEq, Int.reduceLT, Int.reduceLE, Int.reduceNeg, Int.reduceToNat, reduceCtorEq]; with_reducible rfl) (by simp only [go_sem, ↓reduceIte, reduceIte, Nat.reduceEqDiff, Nat.reduceLT, Nat.reduceLeDiff, Nat.reduceAdd, Nat.reduceSub, Nat.reduceMul, Nat.reduceDiv, Nat.reduceMod, Nat.reduceBEq, Int.reduceEq, Int.reduceLT, Int.reduceLE, Int.reduceNeg, Int.reduceToNat, reduceCtorEq]; with_reducible rfl) (by simp only [go_sem, ↓reduceIte, reduceIte, Nat.reduceEqDiff, Nat.reduceLT, Nat.reduceLeDiff, Nat.reduceAdd, Nat.reduceSub, Nat.reduceMul, Nat.reduceDiv, Nat.reduceMod, Nat.reduceBEq, Int.reduceEq, Int.reduceLT, Int.reduceLE, Int.reduceNeg, Int.reduceToNat, reduceCtorEq]; with_reducible rfl), l + 1, _, rfl, rfl, by rw [htk, List.map_append, ← hrt, hv]; rfl, by omega⟩
            · have hv : rightD n (fun s l => s &&& l != 0) i l = n := by simp [rightD, ha]
              have ha2 : ¬ (((i &&& l : Nat) : Int) = 0) := by omega
              repeat' (first | (with_reducible first | refine SW_seq ?_ | refine SW_block ?_ | refine SThen_n ?_ | refine SThen_r ?_ | refine SThen_e ?_ | refine SIn_n ?_ | refine SIn_r ?_ | refine SIn_eq ?_ | refine SW_skip ?_ | refine SW_exit ?_ | refine SW_ret ?_ | refine SPost_r ?_) | ((with_reducible refine SIn_ne ?_ ?_); focus decide) | ((with_reducible refine SW_true ?_ ?_); focus exact rfl) | ((with_reducible refine SW_false ?_ ?_); focus exact rfl) | ((first | (with_reducible apply SW_run tt_ok hG htb) | ((with_reducible apply SW_draw rfl tt_ok hG htb); (focus kernel_rfl); (focus (simp only [List.range, List.range.loop, List.size_toArray, List.length_cons, List.length_nil, Nat.reduceAdd])))); focus ((repeat' (first | (with_reducible exact runX_nil) | (with_reducible exact runI_nil) | ((first | (with_reducible apply runX_cons) | (with_reducible apply runI_cons)); focus (simp (discharger := omega) only [go_sem, hand, ha2, ↓reduceIte, reduceIte, Nat.reduceEqDiff, Nat.reduceLT, Nat.reduceLeDiff, Nat.reduceAdd, Nat.reduceSub, Nat.reduceMul, Nat.reduceDiv, Nat.reduceMod, Nat.reduceBEq, Int.reduceEq, Int.reduceLT, Int.reduceLE, Int.reduceNeg, Int.reduceToNat, reduceCtorEq]; with_reducible rfl)))); done)))
              exact ⟨n - (l + 1), _, by omega, Norm.headS (own := [(8, 24, 1, false), (9, 4, 1, false), (11, 3, 1, false)]) (keep := [0, 1, 4, 6, 8, 9, 10, 11, 35, 36, 39, 40]) (by simp (discharger := omega) only [go_sem, ↓reduceIte, reduceIte, Nat.reduceEqDiff, Nat.reduceLT, Nat.reduceLeDiff, Nat.reduceAdd, Nat.reduceSub, Nat.reduceMul, Nat.reduceDiv, Nat.reduceMod, Nat.reduceBEq, Int.reduceEq, Int.reduceLT, Int.reduceLE, Int.reduceNeg, Int.reduceToNat, reduceCtorEq]; with_reducible rfl) (by simp only [go_sem, ↓reduceIte, reduceIte, Nat.reduceEqDiff, Nat.reduceLT, Nat.reduceLeDiff, Nat.reduceAdd, Nat.reduceSub, Nat.reduceMul, Nat.reduceDiv, Nat.reduceMod, Nat.reduceBEq, Int.reduceEq, Int.reduceLT, Int.reduceLE, Int.reduceNeg, Int.reduceToNat, reduceCtorEq]; with_reducible rfl) (by simp only [go_sem, ↓reduceIte, reduceIte, Nat.reduceEqDiff, Nat.reduceLT, Nat.reduceLeDiff, Nat.reduceAdd, Nat.reduceSub, Nat.reduceMul, Nat.reduceDiv, Nat.reduceMod, Nat.reduceBEq, Int.reduceEq, Int.reduceLT, Int.reduceLE, Int.reduceNeg, Int.reduceToNat, reduceCtorEq]; with_reducible rfl) (by simp only [go_sem, ↓reduceIte, reduceIte, Nat.reduceEqDiff, Nat.reduceLT, Nat.reduceLeDiff, Nat.reduceAdd, Nat.reduceSub, Nat.reduceMul, Nat.reduceDiv, Nat.reduceMod, Nat.reduceBEq, Int.reduceEq, Int.reduceLT, Int.reduceLE, Int.reduceNeg, Int.reduceToNat, reduceCtorEq]; with_reducible rfl) (by simp only [go_sem, ↓reduceIte, reduceIte, Nat.reduceEqDiff, Nat.reduceLT, Nat.reduceLeDiff, Nat.reduceAdd, Nat.reduceSub, Nat.reduceMul, Nat.reduceDiv, Nat.reduceMod, Nat.reduceBEq, Int.reduceEq, Int.reduceLT, Int.reduceLE, Int.reduceNeg, Int.reduceToNat, reduceCtorEq]; with_reducible rfl), l + 1, _, rfl, rfl, by rw [htk, List.map_append, ← hrt, hv]; rfl, by omega⟩
        · obtain rfl : l = n := by omega
          rw [List.take_of_length_le (by simp)] at hrt
          have htk := map_range_take (fun s => (List.range l).map fun k => (rightD l (fun s l => s &&& l != 0) s k : Int)) hlt
          have htk2 := map_range_take (fun s => decide (s < l)) hlt
          by_cases hin : i < l
          · repeat' (first | (with_reducible first | refine SW_seq ?_ | refine SW_block ?_ | refine SThen_n ?_ | refine SThen_r ?_ | refine SThen_e ?_ | refine SIn_n ?_ | refine SIn_r ?_ | refine SIn_eq ?_ | refine SW_skip ?_ | refine SW_exit ?_ | refine SW_ret ?_ | refine SPost_r ?_) | ((with_reducible refine SIn_ne ?_ ?_); focus decide) | ((with_reducible refine SW_true ?_ ?_); focus exact rfl) | ((with_reducible refine SW_false ?_ ?_); focus exact rfl) | ((first | (with_reducible apply SW_run tt_ok hG htb) | ((with_reducible apply SW_draw rfl tt_ok hG htb); (focus kernel_rfl); (focus (simp only [List.range, List.range.loop, List.size_toArray, List.length_cons, List.length_nil, Nat.reduceAdd])))); focus ((repeat' (first | (with_reducible exact runX_nil) | (with_reducible exact runI_nil) | ((first | (with_reducible apply runX_cons) | (with_reducible apply runI_cons)); focus (simp (discharger := omega) only [go_sem, ↓reduceIte, reduceIte, Nat.reduceEqDiff, Nat.reduceLT, Nat.reduceLeDiff, Nat.reduceAdd, Nat.reduceSub, Nat.reduceMul, Nat.reduceDiv, Nat.reduceMod, Nat.reduceBEq, Int.reduceEq, Int.reduceLT, Int.reduceLE, Int.reduceNeg, Int.reduceToNat, reduceCtorEq]; with_reducible rfl)))); done)))
            exact ⟨l + 1 - (i + 1), _, by omega, Norm.headS (own := [(8, 24, 1, false), (9, 4, 1, false)]) (keep := [0, 1, 4, 6, 8, 9, 35, 36]) (by simp (discharger := omega) only [go_sem, ↓reduceIte, reduceIte, Nat.reduceEqDiff, Nat.reduceLT, Nat.reduceLeDiff, Nat.reduceAdd, Nat.reduceSub, Nat.reduceMul, Nat.reduceDiv, Nat.reduceMod, Nat.reduceBEq, Int.reduceEq, Int.reduceLT, Int.reduceLE, Int.reduceNeg, Int.reduceToNat, reduceCtorEq]; with_reducible rfl) (by simp only [go_sem, ↓reduceIte, reduceIte, Nat.reduceEqDiff, Nat.reduceLT, Nat.reduceLeDiff, Nat.reduceAdd, Nat.reduceSub, Nat.reduceMul, Nat.reduceDiv, Nat.reduceMod, Nat.reduceBEq, Int.reduceEq, Int.reduceLT, Int.reduceLE, Int.reduceNeg, Int.reduceToNat, reduceCtorEq]; with_reducible rfl) (by simp only [go_sem, ↓reduceIte, reduceIte, Nat.reduceEqDiff, Nat.reduceLT, Nat.reduceLeDiff, Nat.reduceAdd, Nat.reduceSub, Nat.reduceMul, Nat.reduceDiv, Nat.reduceMod, Nat.reduceBEq, Int.reduceEq, Int.reduceLT, Int.reduceLE, Int.reduceNeg, Int.reduceToNat, reduceCtorEq]; with_reducible rfl) (by simp only [go_sem, ↓reduceIte, reduceIte, Nat.reduceEqDiff, Nat.reduceLT, Nat.reduceLeDiff, Nat.reduceAdd, Nat.reduceSub, Nat.reduceMul, Nat.reduceDiv, Nat.reduceMod, Nat.reduceBEq, Int.reduceEq, Int.reduceLT, Int.reduceLE, Int.reduceNeg, Int.reduceToNat, reduceCtorEq]; with_reducible rfl) (by simp only [go_sem, ↓reduceIte, reduceIte, Nat.reduceEqDiff, Nat.reduceLT, Nat.reduceLeDiff, Nat.reduceAdd, Nat.reduceSub, Nat.reduceMul, Nat.reduceDiv, Nat.reduceMod, Nat.reduceBEq, Int.reduceEq, Int.reduceLT, Int.reduceLE, Int.reduceNeg, Int.reduceToNat, reduceCtorEq]; with_reducible rfl), i + 1, _, _, rfl, rfl, by rw [rightNext, tabN, htk, List.map_append, hnt, hrt]; rfl, by rw [rightEnds, tabE, htk2, List.map_append, het, decide_eq_true hin]; rfl, by omega⟩
          · repeat' (first | (with_reducible first | refine SW_seq ?_ | refine SW_block ?_ | refine SThen_n ?_ | refine SThen_r ?_ | refine SThen_e ?_ | refine SIn_n ?_ | refine SIn_r ?_ | refine SIn_eq ?_ | refine SW_skip ?_ | refine SW_exit ?_ | refine SW_ret ?_ | refine SPost_r ?_) | ((with_reducible refine SIn_ne ?_ ?_); focus decide) | ((with_reducible refine SW_true ?_ ?_); focus exact rfl) | ((with_reducible refine SW_false ?_ ?_); focus exact rfl) | ((first | (with_reducible apply SW_run tt_ok hG htb) | ((with_reducible apply SW_draw rfl tt_ok hG htb); (focus kernel_rfl); (focus (simp only [List.range, List.range.loop, List.size_toArray, List.length_cons, List.length_nil, Nat.reduceAdd])))); focus ((repeat' (first | (with_reducible exact runX_nil) | (with_reducible exact runI_nil) | ((first | (with_reducible apply runX_cons) | (with_reducible apply runI_cons)); focus (simp (discharger := omega) only [go_sem, ↓reduceIte, reduceIte, Nat.reduceEqDiff, Nat.reduceLT, Nat.reduceLeDiff, Nat.reduceAdd, Nat.reduceSub, Nat.reduceMul, Nat.reduceDiv, Nat.reduceMod, Nat.reduceBEq, Int.reduceEq, Int.reduceLT, Int.reduceLE, Int.reduceNeg, Int.reduceToNat, reduceCtorEq]; with_reducible rfl)))); done)))
            exact ⟨l + 1 - (i + 1), _, by omega, Norm.headS (own := [(8, 24, 1, false), (9, 4, 1, false)]) (keep := [0, 1, 4, 6, 8, 9, 35, 36]) (by simp (discharger := omega) only [go_sem, ↓reduceIte, reduceIte, Nat.reduceEqDiff, Nat.reduceLT, Nat.reduceLeDiff, Nat.reduceAdd, Nat.reduceSub, Nat.reduceMul, Nat.reduceDiv, Nat.reduceMod, Nat.reduceBEq, Int.reduceEq, Int.reduceLT, Int.reduceLE, Int.reduceNeg, Int.reduceToNat, reduceCtorEq]; with_reducible rfl) (by simp only [go_sem, ↓reduceIte, reduceIte, Nat.reduceEqDiff, Nat.reduceLT, Nat.reduceLeDiff, Nat.reduceAdd, Nat.reduceSub, Nat.reduceMul, Nat.reduceDiv, Nat.reduceMod, Nat.reduceBEq, Int.reduceEq, Int.reduceLT, Int.reduceLE, Int.reduceNeg, Int.reduceToNat, reduceCtorEq]; with_reducible rfl) (by simp only [go_sem, ↓reduceIte, reduceIte, Nat.reduceEqDiff, Nat.reduceLT, Nat.reduceLeDiff, Nat.reduceAdd, Nat.reduceSub, Nat.reduceMul, Nat.reduceDiv, Nat.reduceMod, Nat.reduceBEq, Int.reduceEq, Int.reduceLT, Int.reduceLE, Int.reduceNeg, Int.reduceToNat, reduceCtorEq]; with_reducible rfl) (by simp only [go_sem, ↓reduceIte, reduceIte, Nat.reduceEqDiff, Nat.reduceLT, Nat.reduceLeDiff, Nat.reduceAdd, Nat.reduceSub, Nat.reduceMul, Nat.reduceDiv, Nat.reduceMod, Nat.reduceBEq, Int.reduceEq, Int.reduceLT, Int.reduceLE, Int.reduceNeg, Int.reduceToNat, reduceCtorEq]; with_reducible rfl) (by simp only [go_sem, ↓reduceIte, reduceIte, Nat.reduceEqDiff, Nat.reduceLT, Nat.reduceLeDiff, Nat.reduceAdd, Nat.reduceSub, Nat.reduceMul, Nat.reduceDiv, Nat.reduceMod, Nat.reduceBEq, Int.reduceEq, Int.reduceLT, Int.reduceLE, Int.reduceNeg, Int.reduceToNat, reduceCtorEq]; with_reducible rfl), i + 1, _, _, rfl, rfl, by rw [rightNext, tabN, htk, List.map_append, hnt, hrt]; rfl, by rw [rightEnds, tabE, htk2, List.map_append, het, decide_eq_false hin]; rfl, by omega⟩
      · obtain rfl : i = n + 1 := by omega
        rw [List.take_of_length_le (by simp [rightNext, tabN])] at hnt
        rw [List.take_of_length_le (by simp [rightEnds, tabE])] at het
        subst hnt het
        refine SW_norm (Norm.frz 8 rfl rfl) ?_
        refine SW_norm (Norm.frz 9 rfl rfl) ?_
        repeat' (first | (with_reducible first | refine SW_seq ?_ | refine SW_block ?_ | refine SThen_n ?_ | refine SThen_r ?_ | refine SThen_e ?_ | refine SIn_n ?_ | refine SIn_r ?_ | refine SIn_eq ?_ | refine SW_skip ?_ | refine SW_exit ?_ | refine SW_ret ?_ | refine SPost_r ?_) | ((with_reducible refine SIn_ne ?_ ?_); focus decide) | ((with_reducible refine SW_true ?_ ?_); focus exact rfl) | ((with_reducible refine SW_false ?_ ?_); focus exact rfl) | ((first | (with_reducible apply SW_run tt_ok hG htb) | ((with_reducible apply SW_draw rfl tt_ok hG htb); (focus kernel_rfl); (focus (simp only [List.range, List.range.loop, List.size_toArray, List.length_cons, List.length_nil, Nat.reduceAdd])))); focus ((repeat' (first | (with_reducible exact runX_nil) | (with_reducible exact runI_nil) | ((first | (with_reducible apply runX_cons) | (with_reducible apply runI_cons)); focus (simp (discharger := omega) only [go_sem, tAuto, tErr, ↓reduceIte, reduceIte, Nat.reduceEqDiff, Nat.reduceLT, Nat.reduceLeDiff, Nat.reduceAdd, Nat.reduceSub, Nat.reduceMul, Nat.reduceDiv, Nat.reduceMod, Nat.reduceBEq, Int.reduceEq, Int.reduceLT, Int.reduceLE, Int.reduceNeg, Int.reduceToNat, reduceCtorEq]; with_reducible rfl)))); done)))
        exact (by simp (discharger := omega) only [go_sem, tAuto, tErr, ↓reduceIte, reduceIte, Nat.reduceEqDiff, Nat.reduceLT, Nat.reduceLeDiff, Nat.reduceAdd, Nat.reduceSub, Nat.reduceMul, Nat.reduceDiv, Nat.reduceMod, Nat.reduceBEq, Int.reduceEq, Int.reduceLT, Int.reduceLE, Int.reduceNeg, Int.reduceToNat, reduceCtorEq])
    · unfold allRE
      rw [if_neg h1]
      repeat' (first | (with_reducible first | refine SW_seq ?_ | refine SW_block ?_ | refine SThen_n ?_ | refine SThen_r ?_ | refine SThen_e ?_ | refine SIn_n ?_ | refine SIn_r ?_ | refine SIn_eq ?_ | refine SW_skip ?_ | refine SW_exit ?_ | refine SW_ret ?_ | refine SPost_r ?_) | ((with_reducible refine SIn_ne ?_ ?_); focus decide) | ((with_reducible refine SW_true ?_ ?_); focus exact rfl) | ((with_reducible refine SW_false ?_ ?_); focus exact rfl) | ((first | (with_reducible apply SW_run tt_ok hG htb) | ((with_reducible apply SW_draw rfl tt_ok hG htb); (focus kernel_rfl); (focus (simp only [List.range, List.range.loop, List.size_toArray, List.length_cons, List.length_nil, Nat.reduceAdd])))); focus ((repeat' (first | (with_reducible exact runX_nil) | (with_reducible exact runI_nil) | ((first | (with_reducible apply runX_cons) | (with_reducible apply runI_cons)); focus (simp (discharger := omega) only [go_sem, tErr, h1, ↓reduceIte, reduceIte, Nat.reduceEqDiff, Nat.reduceLT, Nat.reduceLeDiff, Nat.reduceAdd, Nat.reduceSub, Nat.reduceMul, Nat.reduceDiv, Nat.reduceMod, Nat.reduceBEq, Int.reduceEq, Int.reduceLT, Int.reduceLE, Int.reduceNeg, Int.reduceToNat, reduceCtorEq]; with_reducible rfl)))); done)))
      exact (by simp (discharger := omega) only [go_sem, tAuto, tErr, List.map_replicate, ↓reduceIte, reduceIte, Nat.reduceEqDiff, Nat.reduceLT, Nat.reduceLeDiff, Nat.reduceAdd, Nat.reduceSub, Nat.reduceMul, Nat.reduceDiv, Nat.reduceMod, Nat.reduceBEq, Int.reduceEq, Int.reduceLT, Int.reduceLE, Int.reduceNeg, Int.reduceToNat, reduceCtorEq])
  · generalize manyErr base tracks = f at c1 h0
    rw [if_neg h0]
    have htb := Tab.cons c1 Tab.nil
    repeat' (first | (with_reducible first | refine SW_seq ?_ | refine SW_block ?_ | refine SThen_n ?_ | refine SThen_r ?_ | refine SThen_e ?_ | refine SIn_n ?_ | refine SIn_r ?_ | refine SIn_eq ?_ | refine SW_skip ?_ | refine SW_exit ?_ | refine SW_ret ?_ | refine SPost_r ?_) | ((with_reducible refine SIn_ne ?_ ?_); focus decide) | ((with_reducible refine SW_true ?_ ?_); focus exact rfl) | ((with_reducible refine SW_false ?_ ?_); focus exact rfl) | ((first | (with_reducible apply SW_run tt_ok hG htb) | ((with_reducible apply SW_draw rfl tt_ok hG htb); (focus kernel_rfl); (focus (simp only [List.range, List.range.loop, List.size_toArray, List.length_cons, List.length_nil, Nat.reduceAdd])))); focus ((repeat' (first | (with_reducible exact runX_nil) | (with_reducible exact runI_nil) | ((first | (with_reducible apply runX_cons) | (with_reducible apply runI_cons)); focus (simp (discharger := omega) only [go_sem, tErr, h0, ↓reduceIte, reduceIte, Nat.reduceEqDiff, Nat.reduceLT, Nat.reduceLeDiff, Nat.reduceAdd, Nat.reduceSub, Nat.reduceMul, Nat.reduceDiv, Nat.reduceMod, Nat.reduceBEq, Int.reduceEq, Int.reduceLT, Int.reduceLE, Int.reduceNeg, Int.reduceToNat, reduceCtorEq]; with_reducible rfl)))); done)))
    exact (by simp (discharger := omega) only [go_sem, tAuto, tErr, GAuto.zero, h0, ↓reduceIte, reduceIte, Nat.reduceEqDiff, Nat.reduceLT, Nat.reduceLeDiff, Nat.reduceAdd, Nat.reduceSub, Nat.reduceMul, Nat.reduceDiv, Nat.reduceMod, Nat.reduceBEq, Int.reduceEq, Int.reduceLT, Int.reduceLE, Int.reduceNeg, Int.reduceToNat, reduceCtorEq])
end
end Go.Proofs.Ytfhncnhkeodngaa
namespace Go.Proofs.Ytfhncnhkeodngaa
open Go.RowKit

section
variable {G : World → Prop} (hG : Lasting G)
include hG
end
end Go.Proofs.Ytfhncnhkeodngaa
namespace Go.Proofs.Ytfhncnhkeodngaa
open Go.RowKit

section
variable {G : World → Prop} (hG : Lasting G)
include hG
end
end Go.Proofs.Ytfhncnhkeodngaa
namespace Go.Proofs.Ytfhncnhkeodngaa

/-- The least rows and ends of a language. -/
noncomputable def leastL (n : Nat) (L : List Nat → Bool) : List (List Int) × List Bool := open Classical in if h : ∃ p : List (List Int) × List Bool, Least n p.1 p.2 L then Classical.choose h else ([], [])
theorem leastL_eq {n : Nat} {N : List (List Int)} {E : List Bool} {L : List Nat → Bool} (h : Least n N E L) : leastL n L = (N, E) := by
  have hx : ∃ p : List (List Int) × List Bool, Least n p.1 p.2 L := ⟨(N, E), h⟩
  unfold leastL
  rw [dif_pos hx]
  have := (Classical.choose_spec hx).unique h
  exact Prod.ext this.1 this.2
theorem leastL_congr {n : Nat} {L L' : List Nat → Bool} (h : ∀ w, Ltr n w → L w = L' w) : leastL n L = leastL n L' := by
  by_cases hx : ∃ p : List (List Int) × List Bool, Least n p.1 p.2 L
  · obtain ⟨⟨N, E⟩, hp⟩ := hx
    rw [leastL_eq hp, leastL_eq (hp.lang_congr h)]
  · have hy : ¬ ∃ p : List (List Int) × List Bool, Least n p.1 p.2 L' := fun ⟨p, hp⟩ => hx ⟨p, hp.lang_congr fun w hw => (h w hw).symm⟩
    unfold leastL
    rw [dif_neg hx, dif_neg hy]
theorem leastRE_L {n m : Nat} {next : List (List Int)} {ends : List Bool} {L : List Nat → Bool} (hR : Rows0 n m next) (hm : 0 < m) (h : ∀ w, Ltr n w → lang next ends 0 w = L w) : leastRE n next ends = leastL n L :=
  (leastL_eq ((leastRE_spec (ends := ends) hR hm).1.lang_congr h)).symm
noncomputable def errL (n : Nat) (L : List Nat → Bool) : Int := if 80 < (leastL n L).1.length then 3 else 0
noncomputable def autoL (base t : Int) (n : Nat) (L : List Nat → Bool) : GAuto := if errL n L = 0 then ⟨base, t, (leastL n L).1, (leastL n L).2⟩ else GAuto.zero
theorem errL_congr {n : Nat} {L L' : List Nat → Bool} (h : ∀ w, Ltr n w → L w = L' w) : errL n L = errL n L' := by unfold errL; rw [leastL_congr h]
theorem autoL_congr {base t : Int} {n : Nat} {L L' : List Nat → Bool} (h : ∀ w, Ltr n w → L w = L' w) : autoL base t n L = autoL base t n L' := by unfold autoL; rw [errL_congr h, leastL_congr h]
theorem errL_cases (n : Nat) (L : List Nat → Bool) : errL n L = 0 ∨ errL n L = 3 := by unfold errL; split <;> simp
/-- Some table takes this language. -/
def Regular (n : Nat) (L : List Nat → Bool) : Prop := ∃ N E, Least n N E L
theorem Regular.of {n m : Nat} {next : List (List Int)} {ends : List Bool} {L : List Nat → Bool} (hR : Rows0 n m next) (hm : 0 < m) (h : ∀ w, Ltr n w → lang next ends 0 w = L w) : Regular n L :=
  ⟨_, _, (leastRE_spec (ends := ends) hR hm).1.lang_congr h⟩
theorem Regular.least {n : Nat} {L : List Nat → Bool} (h : Regular n L) : Least n (leastL n L).1 (leastL n L).2 L := by
  obtain ⟨N, E, h⟩ := h
  rw [leastL_eq h]; exact h
theorem autoL_isLeast {base t : Int} {n : Nat} {L : List Nat → Bool} (h : Regular n L) (he : errL n L = 0) : IsLeast (autoL base t n L) n base t L ∧ (autoL base t n L).next.length ≤ 80 := by
  unfold autoL
  rw [if_pos he]
  refine ⟨⟨rfl, rfl, h.least⟩, ?_⟩
  unfold errL at he
  show (leastL n L).1.length ≤ 80
  split at he <;> omega
theorem IsLeast.good2 {a : GAuto} {base : Int} {t n : Nat} {L : List Nat → Bool} (h0 : manyErr base t = 0) (hn : manyOf base t = n) (h : IsLeast a n base t L) (h80 : a.next.length ≤ 80) : Good a n a.next.length := by
  obtain ⟨t', n', e, hn', ht5, hn0, hn36⟩ := many_nat h0
  obtain rfl : t = t' := by omega
  exact ⟨by rw [h.base, h.tracks]; exact h0, by rw [h.base, h.tracks]; exact hn, by omega, by omega, h.least.length_pos, h80, h.least.len, h.least.rows⟩
/-- A least automaton has no more states than words have kinds. -/
theorem Least.bound {n : Nat} {N : List (List Int)} {E : List Bool} {L : List Nat → Bool} (h : Least n N E L) (K : Nat) (κ : List Nat → Nat) (hκ : ∀ v, Ltr n v → κ v < K)
    (hres : ∀ v w, Ltr n v → Ltr n w → κ v = κ w → ∀ x, Ltr n x → L (v ++ x) = L (w ++ x)) : N.length ≤ K := by
  have hreach : ∀ k s, s ≤ k → s < N.length → ∃ v, Ltr n v ∧ runN (fun k l => ((N.getD k []).getD l 0).toNat) 0 v = s := by
    intro k
    induction k with
    | zero => intro s hs _; exact ⟨[], fun _ h => by simp at h, by rw [show s = 0 by omega]; rfl⟩
    | succ k ih =>
      intro s hs hlt
      by_cases h0 : s = 0
      · subst h0; exact ⟨[], fun _ h => by simp at h, rfl⟩
      · obtain ⟨q, l, hq, hl, e⟩ := h.canon.reach s (by omega) hlt
        obtain ⟨v, hv, ev⟩ := ih q (by omega) (by omega)
        refine ⟨v ++ [l], fun x hx => ?_, ?_⟩
        · rcases List.mem_append.1 hx with hx | hx
          · exact hv x hx
          · simp at hx; subst hx; exact hl
        · unfold runN at ev ⊢
          rw [List.foldl_append, ev]; exact e
  have hr : ∀ s, ∃ v, s < N.length → Ltr n v ∧ runN (fun k l => ((N.getD k []).getD l 0).toNat) 0 v = s := fun s => by
    by_cases hs : s < N.length
    · obtain ⟨v, hv⟩ := hreach s s (Nat.le_refl _) hs
      exact ⟨v, fun _ => hv⟩
    · exact ⟨[], fun h => (hs h).elim⟩
  obtain ⟨f, hf⟩ := Classical.axiomOfChoice hr
  have := nodup_boundN K ((List.range N.length).map fun s => κ (f s)) (by
    refine List.pairwise_map.2 (List.nodup_range.imp_of_mem fun {s q} hs hq hne e => hne ?_)
    have hs := List.mem_range.1 hs
    have hq := List.mem_range.1 hq
    obtain ⟨h1, h2⟩ := hf s hs
    obtain ⟨h3, h4⟩ := hf q hq
    refine h.canon.red s q hs hq fun x hx => ?_
    have := hres _ _ h1 h3 e x hx
    have app : ∀ v, Ltr n v → Ltr n (v ++ x) := fun v hv y hy => by
      rcases List.mem_append.1 hy with hy | hy
      · exact hv y hy
      · exact hx y hy
    rw [← h.canon.lang _ (app _ h1), ← h.canon.lang _ (app _ h3)] at this
    unfold runN at this h2 h4 ⊢
    rw [List.foldl_append, List.foldl_append, h2, h4] at this
    exact this) fun k hk => by
      obtain ⟨s, hs, rfl⟩ := List.mem_map.1 hk
      exact hκ _ (hf s (List.mem_range.1 hs)).1
  simpa using this

/-- Rows with ends, as an automaton over tracks. -/
def rowsA (base t : Int) (next : List (List Int)) (ends : List Bool) : GAuto := ⟨base, t, next, ends⟩
theorem tk8 (x y : Bool) : tk 8 x y = (x && y) := by cases x <;> cases y <;> decide
section
variable {base : Int} {t n m : Nat} {next : List (List Int)} {ends : List Bool}
theorem rgt_table (h0 : manyErr base t = 0) (hn : manyOf base t = n) (hR : Rows0 n m next) (hm : 0 < m) : Rows0 n (prodPairs (rowsA base t next ends) (allA base t)).length (prodNext (rowsA base t next ends) (allA base t) n) ∧ 0 < (prodPairs (rowsA base t next ends) (allA base t)).length := by
  have g := allA_good h0 hn
  refine ⟨(prod_expl (a := rowsA base t next ends) hR g.rows).table (prod_len _ _ _), ?_⟩
  rw [prodPairs_length]
  have := g.m0
  have hl : (rowsA base t next ends).next.length = m := hR.len
  rw [hl]
  exact Nat.mul_pos hm this
theorem rgt_pend (h0 : manyErr base t = 0) (hn : manyOf base t = n) {w : List Nat} (hw : Ltr n w) :
    pend (rowsA base t next ends) (allA base t) 8 (w.foldl (pst (rowsA base t next ends) (allA base t)) (0, 0)) = (lang next ends 0 w && rightWd base t w) := by
  rw [pend_run, tk8]
  have := (allA_isLeast h0 hn).1.lng hw
  unfold lng at this
  rw [this]
  rfl
theorem rgt_lang (h0 : manyErr base t = 0) (hn : manyOf base t = n) (hR : Rows0 n m next) (hm : 0 < m) {w : List Nat} (hw : Ltr n w) :
    lang (prodNext (rowsA base t next ends) (allA base t) n) (prodEnds (rowsA base t next ends) (allA base t) 8) 0 w = (lang next ends 0 w && rightWd base t w) := by
  have g := allA_good h0 hn
  have hz := prod_zero (a := rowsA base t next ends) (b := allA base t) (by show 0 < next.length; rw [hR.len]; exact hm) g.m0
  rw [(prod_expl (a := rowsA base t next ends) hR g.rows).lang (prod_len _ _ _) hz (prod_ends _ _ 8) hw, rgt_pend h0 hn hw]
end

section
variable {k m : Nat} {next : List (List Int)}
end

section
variable {A B : List (List Int)} {f g : Nat → Nat} {n n1 n2 ma mb : Nat}
end
end Go.Proofs.Ytfhncnhkeodngaa
namespace Go.Proofs.Ytfhncnhkeodngaa

/-- What was read so far counts at, and what it would count a place lower (of Fib); behind one more letter. -/
def lnStep (base : Int) (p : Int × Int) (e : Int) : Int × Int := if base = 1 then (p.1 + p.2 + e, p.1 + e) else (p.1 * base + e, 0)
def lnCap (far : Int) (q : Int × Int) : Int × Int := if far < q.1 then (far + 1, 0) else if q.1 < -far then (-far - 1, 0) else q
def lnCut (far base : Int) (p : Int × Int) (e : Int) : Int × Int := if p = (far + 1, 0) ∨ p = (-far - 1, 0) then p else lnCap far (lnStep base p e)
def lnEnd (less : Bool) (c : Int) (p : Int × Int) : Bool := if less then decide (p.1 + c < 0) else decide (p.1 + c = 0)

/-- Sums over places. -/
def dotN (coefs : List Int) (f : Nat → Int) : Nat → Int
  | 0 => 0
  | i + 1 => dotN coefs f i + coefs.getD i 0 * f i
def posN (coefs : List Int) : Nat → Int := dotN (coefs.map fun c => max c 0) fun _ => 1
def negN (coefs : List Int) : Nat → Int := dotN (coefs.map fun c => max (-c) 0) fun _ => 1
def absN (coefs : List Int) : Nat → Int := dotN (coefs.map fun c => max c (-c)) fun _ => 1
theorem getD_map0 (f : Int → Int) (h0 : f 0 = 0) (l : List Int) (i : Nat) : (l.map f).getD i 0 = f (l.getD i 0) := by
  rw [List.getD_eq_getElem?_getD, List.getElem?_map, List.getD_eq_getElem?_getD]
  cases l[i]? with
  | none => exact h0.symm
  | some x => rfl
theorem posN_succ (coefs : List Int) (i : Nat) : posN coefs (i + 1) = posN coefs i + max (coefs.getD i 0) 0 := by
  show posN coefs i + (coefs.map fun c => max c 0).getD i 0 * 1 = _
  rw [getD_map0 (fun c => max c 0) (by decide), Int.mul_one]
theorem negN_succ (coefs : List Int) (i : Nat) : negN coefs (i + 1) = negN coefs i + max (-(coefs.getD i 0)) 0 := by
  show negN coefs i + (coefs.map fun c => max (-c) 0).getD i 0 * 1 = _
  rw [getD_map0 (fun c => max (-c) 0) (by decide), Int.mul_one]
theorem absN_succ (coefs : List Int) (i : Nat) : absN coefs (i + 1) = absN coefs i + max (coefs.getD i 0) (-(coefs.getD i 0)) := by
  show absN coefs i + (coefs.map fun c => max c (-c)).getD i 0 * 1 = _
  rw [getD_map0 (fun c => max c (-c)) (by decide), Int.mul_one]
theorem posneg (coefs : List Int) : ∀ i, posN coefs i + negN coefs i = absN coefs i ∧ 0 ≤ posN coefs i ∧ 0 ≤ negN coefs i
  | 0 => ⟨rfl, Int.le_refl _, Int.le_refl _⟩
  | i + 1 => by
    have := posneg coefs i
    rw [posN_succ, negN_succ, absN_succ]
    omega
theorem absN_mono (coefs : List Int) : ∀ {i j : Nat}, i ≤ j → absN coefs i ≤ absN coefs j
  | i, 0, h => by rw [show i = 0 by omega]; exact Int.le_refl _
  | i, j + 1, h => by
    by_cases e : i = j + 1
    · rw [e]; exact Int.le_refl _
    · have := absN_mono coefs (show i ≤ j by omega)
      rw [absN_succ]; omega
theorem absN_ge (coefs : List Int) {i j : Nat} (h : i < j) : -(absN coefs j) ≤ coefs.getD i 0 ∧ coefs.getD i 0 ≤ absN coefs j := by
  have h1 := absN_mono coefs (show i + 1 ≤ j from h)
  have h2 := (posneg coefs i).2
  have h3 := (posneg coefs i).1
  rw [absN_succ] at h1
  omega
theorem dotN_bd (coefs : List Int) {f : Nat → Int} {r : Int} : ∀ i, (∀ j, j < i → 0 ≤ f j ∧ f j ≤ r) → -(negN coefs i * r) ≤ dotN coefs f i ∧ dotN coefs f i ≤ posN coefs i * r
  | 0, _ => by simp [dotN, posN, negN]
  | i + 1, h => by
    obtain ⟨h1, h2⟩ := dotN_bd coefs (f := f) (r := r) i fun j hj => h j (by omega)
    obtain ⟨h3, h4⟩ := h i (by omega)
    rw [posN_succ, negN_succ, Int.add_mul, Int.add_mul]
    show -(_ + _) ≤ dotN coefs f i + coefs.getD i 0 * f i ∧ dotN coefs f i + coefs.getD i 0 * f i ≤ _
    generalize coefs.getD i 0 = c
    by_cases hc : 0 ≤ c
    · have e1 : c * f i ≤ c * r := Int.mul_le_mul_of_nonneg_left h4 hc
      have e2 : 0 ≤ c * f i := Int.mul_nonneg hc h3
      rw [show max c 0 = c by omega, show max (-c) 0 = 0 by omega, Int.zero_mul]
      omega
    · have e1 : (-c) * f i ≤ (-c) * r := Int.mul_le_mul_of_nonneg_left h4 (by omega)
      have e2 : 0 ≤ (-c) * f i := Int.mul_nonneg (by omega) h3
      have e3 : (-c) * f i = -(c * f i) := Int.neg_mul _ _
      rw [show max c 0 = 0 by omega, show max (-c) 0 = -c by omega, Int.zero_mul]
      omega

structure LJ (S : Int) (q : Int × Int) : Prop where
  a : ¬ (3 * S < q.1 ∧ q.2 < 0)
  b : ¬ (q.1 < S ∧ 3 * S < q.2)
  c : ¬ (2 * S < q.1 ∧ q.2 < -2 * S)
  d : ¬ (q.1 < -S ∧ 4 * S < q.2)
  a' : ¬ (q.1 < -3 * S ∧ 0 < q.2)
  b' : ¬ (-S < q.1 ∧ q.2 < -3 * S)
  c' : ¬ (q.1 < -2 * S ∧ 2 * S < q.2)
  d' : ¬ (S < q.1 ∧ q.2 < -4 * S)
theorem LJ.zero {S : Int} (hS : 0 ≤ S) : LJ S (0, 0) := by constructor <;> simp only <;> omega
theorem LJ.step {S : Int} {q : Int × Int} {e : Int} (hS : 0 ≤ S) (h : LJ S q) (he : -S ≤ e ∧ e ≤ S) : LJ S (q.1 + q.2 + e, q.1 + e) := by
  obtain ⟨a, b, c, d, a', b', c', d'⟩ := h
  constructor <;> simp only <;> omega
theorem LJ.neg {S : Int} {q : Int × Int} (h : LJ S q) : LJ S (-q.1, -q.2) := by
  obtain ⟨a, b, c, d, a', b', c', d'⟩ := h
  constructor <;> simp only <;> omega
/-- So far above that it stays there. -/
def High (base S k : Int) (q : Int × Int) : Prop := if base = 1 then (3 * S + k < q.1 ∧ 0 ≤ q.2) ∨ (2 * S + k < q.1 ∧ S ≤ q.2) else S + k < q.1
theorem High.gt {base S k : Int} {q : Int × Int} (hS : 0 ≤ S) (h : High base S k q) : k < q.1 := by
  unfold High at h
  split at h <;> omega
theorem lnStep_neg (base : Int) (q : Int × Int) (e : Int) : lnStep base (-q.1, -q.2) (-e) = (-(lnStep base q e).1, -(lnStep base q e).2) := by
  unfold lnStep
  split
  · ext <;> simp only <;> omega
  · ext
    · simp only; rw [Int.neg_mul]; omega
    · simp
/-- What a letter may add. -/
def lnOk (base S e : Int) : Prop := -(S * (radix base - 1)) ≤ e ∧ e ≤ S * (radix base - 1)
theorem lnOk.neg {base S e : Int} (h : lnOk base S e) : lnOk base S (-e) := by unfold lnOk at *; omega
theorem lnOk.fib {S e : Int} (h : lnOk 1 S e) : -S ≤ e ∧ e ≤ S := by
  have h2 : radix 1 - 1 = 1 := rfl
  unfold lnOk at h
  rw [h2] at h; omega
theorem radix_ne {base : Int} (hr : radix base ≠ 0) (h : base ≠ 1) : radix base = base ∧ 2 ≤ base ∧ base ≤ 6 := by
  rcases radix_pos hr with h1 | h1
  · exact (h h1.1).elim
  · exact ⟨h1.2.2, h1.1, h1.2.1⟩
theorem High.step {base S k : Int} {q : Int × Int} {e : Int} (hr : radix base ≠ 0) (hS : 0 ≤ S) (hk : 0 ≤ k) (h : High base S k q) (he : lnOk base S e) : High base S k (lnStep base q e) := by
  unfold High lnStep at *
  by_cases h1 : base = 1
  · subst h1
    have := he.fib
    simp only [if_true] at h ⊢
    omega
  · obtain ⟨e1, e2, e3⟩ := radix_ne hr h1
    unfold lnOk at he
    rw [e1] at he
    simp only [if_neg h1] at h ⊢
    have h2 : 0 ≤ (q.1 - S) * (base - 1) := Int.mul_nonneg (by omega) (by omega)
    rw [Int.sub_mul, Int.mul_sub, Int.mul_one] at h2
    omega
theorem High.enter {base S k far : Int} {q : Int × Int} (hS : 0 ≤ S) (hk : 0 ≤ k) (hfar : 3 * S + k ≤ far) (hJ : base = 1 → LJ S q) (h : far < q.1) : High base S k q := by
  unfold High
  split
  · have := (hJ ‹_›).a
    omega
  · omega
/-- The cut off state, and the one that is not. -/
def LnRel (base far S k : Int) (p q : Int × Int) : Prop :=
  (p = q ∧ -far ≤ q.1 ∧ q.1 ≤ far ∧ (base = 1 → LJ S q)) ∨ (p = (far + 1, 0) ∧ High base S k q) ∨ (p = (-far - 1, 0) ∧ High base S k (-q.1, -q.2))
theorem LnRel.zero {base far S k : Int} (hS : 0 ≤ S) (hf : 0 ≤ far) : LnRel base far S k (0, 0) (0, 0) := .inl ⟨rfl, by simp only; omega, by simp only; omega, fun _ => .zero hS⟩
theorem LnRel.step {base far S k : Int} {p q : Int × Int} {e : Int} (hr : radix base ≠ 0) (hS : 0 ≤ S) (hk : 0 ≤ k) (hfar : 3 * S + k ≤ far) (h : LnRel base far S k p q) (he : lnOk base S e) : LnRel base far S k (lnCut far base p e) (lnStep base q e) := by
  rcases h with ⟨rfl, h1, h2, h3⟩ | ⟨rfl, h1⟩ | ⟨rfl, h1⟩
  · have hn : ¬ (p = (far + 1, 0) ∨ p = (-far - 1, 0)) := by
      rintro (e | e) <;> rw [e] at h1 h2 <;> simp only at h1 h2 <;> omega
    have hJ : base = 1 → LJ S (lnStep base p e) := fun hb => by
      subst hb
      have := (h3 rfl).step hS he.fib
      exact this
    unfold lnCut
    rw [if_neg hn]
    unfold lnCap
    split
    · exact .inr (.inl ⟨rfl, High.enter hS hk hfar hJ ‹_›⟩)
    · split
      · exact .inr (.inr ⟨rfl, High.enter hS hk hfar (fun hb => (hJ hb).neg) (by simp only; omega)⟩)
      · exact .inl ⟨rfl, by omega, by omega, hJ⟩
  · unfold lnCut
    rw [if_pos (.inl rfl)]
    exact .inr (.inl ⟨rfl, h1.step hr hS hk he⟩)
  · unfold lnCut
    rw [if_pos (.inr rfl)]
    refine .inr (.inr ⟨rfl, ?_⟩)
    have := h1.step hr hS hk he.neg
    rwa [lnStep_neg] at this
theorem LnRel.fin {base far S k c : Int} {p q : Int × Int} (hS : 0 ≤ S) (hfar : 3 * S + k ≤ far) (hc : -k ≤ c ∧ c ≤ k) (less : Bool) (h : LnRel base far S k p q) : lnEnd less c p = lnEnd less c q := by
  rcases h with ⟨rfl, _⟩ | ⟨rfl, h1⟩ | ⟨rfl, h1⟩
  · rfl
  · have := h1.gt hS
    unfold lnEnd
    split <;> simp only [decide_eq_decide] <;> omega
  · have := h1.gt hS
    simp only at this
    unfold lnEnd
    split <;> simp only [decide_eq_decide] <;> omega
def lnRun (base : Int) (add : Nat → Int) (w : List Nat) : Int × Int := w.foldl (fun p l => lnStep base p (add l)) (0, 0)
def lnCutRun (far base : Int) (add : Nat → Int) (w : List Nat) : Int × Int := w.foldl (fun p l => lnCut far base p (add l)) (0, 0)
theorem ln_rel {base far S k : Int} {n : Nat} {add : Nat → Int} (hr : radix base ≠ 0) (hS : 0 ≤ S) (hk : 0 ≤ k) (hfar : 3 * S + k ≤ far) (ha : ∀ l, l < n → lnOk base S (add l)) (w : List Nat) (hw : Ltr n w) : LnRel base far S k (lnCutRun far base add w) (lnRun base add w) := by
  unfold lnCutRun lnRun
  have : ∀ (w : List Nat) (p q : Int × Int), Ltr n w → LnRel base far S k p q → LnRel base far S k (w.foldl (fun p l => lnCut far base p (add l)) p) (w.foldl (fun p l => lnStep base p (add l)) q) := by
    intro w
    induction w with
    | nil => exact fun _ _ _ h => h
    | cons l w ih => exact fun p q hw h => ih _ _ (fun x hx => hw x (List.mem_cons_of_mem _ hx)) (h.step hr hS hk hfar (ha l (hw l List.mem_cons_self)))
  exact this w _ _ hw (.zero hS (by omega))
/-- It ends as if it were not cut off. -/
theorem ln_end {base far S k c : Int} {n : Nat} {add : Nat → Int} (hr : radix base ≠ 0) (hS : 0 ≤ S) (hk : 0 ≤ k) (hfar : 3 * S + k ≤ far) (hc : -k ≤ c ∧ c ≤ k) (ha : ∀ l, l < n → lnOk base S (add l)) (less : Bool) {w : List Nat} (hw : Ltr n w) : lnEnd less c (lnCutRun far base add w) = lnEnd less c (lnRun base add w) :=
  (ln_rel hr hS hk hfar ha w hw).fin hS hfar hc less

/-- Where a cut off state lies. -/
structure LnPt (base far S B : Int) (p : Int × Int) : Prop where
  x : -far - 1 ≤ p.1 ∧ p.1 ≤ far + 1
  y : -B ≤ p.2 ∧ p.2 ≤ B
  z : base ≠ 1 → p.2 = 0
  j : p = (far + 1, 0) ∨ p = (-far - 1, 0) ∨ (-far ≤ p.1 ∧ p.1 ≤ far ∧ (base = 1 → LJ S p))
theorem LnPt.zero {base far S B : Int} (hS : 0 ≤ S) (hf : 0 ≤ far) (hB : 0 ≤ B) : LnPt base far S B (0, 0) :=
  ⟨by simp only; omega, by simp only; omega, fun _ => rfl, .inr (.inr ⟨by simp only; omega, by simp only; omega, fun _ => .zero hS⟩)⟩
theorem LnPt.step {base far S B : Int} {p : Int × Int} {e : Int} (hS : 0 ≤ S) (hf : 0 ≤ far) (hB : far + S ≤ B ∨ (far + 1 ≤ B ∧ 4 * S ≤ far)) (h : LnPt base far S B p) (he : lnOk base S e) : LnPt base far S B (lnCut far base p e) := by
  by_cases hn : p = (far + 1, 0) ∨ p = (-far - 1, 0)
  · unfold lnCut; rw [if_pos hn]; exact h
  · obtain ⟨h1, h2, h3⟩ : -far ≤ p.1 ∧ p.1 ≤ far ∧ (base = 1 → LJ S p) := by
      rcases h.j with e | e | e
      · exact (hn (.inl e)).elim
      · exact (hn (.inr e)).elim
      · exact e
    have hJ : base = 1 → LJ S (lnStep base p e) := fun hb => by
      subst hb
      exact (h3 rfl).step hS he.fib
    have hB0 : 0 ≤ B := by omega
    unfold lnCut
    rw [if_neg hn]
    unfold lnCap
    split
    · exact ⟨by simp only; omega, by simp only; omega, fun _ => rfl, .inl rfl⟩
    · split
      · exact ⟨by simp only; omega, by simp only; omega, fun _ => rfl, .inr (.inl rfl)⟩
      · refine ⟨by omega, ?_, fun hb => ?_, .inr (.inr ⟨by omega, by omega, hJ⟩)⟩
        · by_cases hb : base = 1
          · subst hb
            have he := he.fib
            have h4 := h3 rfl
            have ea := h4.a
            have ea' := h4.a'
            rename_i h5 h6
            simp only [lnStep, if_true] at h5 h6 ⊢
            omega
          · simp only [lnStep, if_neg hb]; omega
        · simp only [lnStep, if_neg hb]
/-- Different states are no more than there are places. -/
theorem ln_count {A B : Nat} {l : List (Int × Int)} (hn : l.Nodup) (h : ∀ p ∈ l, (-(A : Int) ≤ p.1 ∧ p.1 ≤ A) ∧ -(B : Int) ≤ p.2 ∧ p.2 ≤ B) : l.length ≤ (2 * A + 1) * (2 * B + 1) := by
  have := pairs_bound (ma := 2 * A + 1) (mb := 2 * B + 1) (l := l.map fun p => (p.1 + A, p.2 + B)) (List.pairwise_map.2 (hn.imp fun {p q} hne e => hne (by
    simp only [Prod.mk.injEq] at e
    exact Prod.ext (by omega) (by omega)))) fun p hp => by
      obtain ⟨q, hq, rfl⟩ := List.mem_map.1 hp
      have := h q hq
      simp only; omega
  simpa using this
end Go.Proofs.Ytfhncnhkeodngaa
namespace Go.Proofs.Ytfhncnhkeodngaa

def lastL (s : Nat) (v : List Nat) : Nat := v.foldl (fun _ l => l) s
theorem walkOk_append {c : Nat → Nat → Bool} : ∀ (v x : List Nat) (s : Nat), walkOk c s (v ++ x) = (walkOk c s v && walkOk c (lastL s v) x)
  | [], x, s => by simp [walkOk, lastL]
  | l :: v, x, s => by
    show (!c s l && walkOk c l (v ++ x)) = ((!c s l && walkOk c l v) && walkOk c (lastL l v) x)
    rw [walkOk_append v x l, Bool.and_assoc]
theorem chain_walk {c : Nat → Nat → Bool} (h : ∀ l, c 0 l = false) (w : List Nat) : chain c w = walkOk c 0 w := by
  cases w with
  | nil => rfl
  | cons l w => show _ = (!c 0 l && walkOk c l w); rw [h l]; rfl
theorem unpack_zero (k : Int) : ∀ t : Nat, ∀ x ∈ unpack k t 0, x = 0
  | 0, x, h => by simp [unpack] at h
  | t + 1, x, h => by
    have ih := unpack_zero k t
    simp only [unpack, Int.zero_ediv, Int.zero_emod] at h
    rcases List.mem_append.1 h with h | h
    · exact ih x h
    · simpa using h
theorem clash_zero (base : Int) (t l : Nat) : clash base t 0 l = false := by
  unfold clash
  rw [Bool.and_eq_false_iff]
  right
  rw [List.any_eq_false]
  intro k _
  have : digitAt (radix base) t ((0 : Nat) : Int) k = 0 := by
    unfold digitAt
    rw [List.getD_eq_getElem?_getD]
    cases h : (unpack (radix base) t ((0 : Nat) : Int))[k]? with
    | none => rfl
    | some x => exact unpack_zero (radix base) t x (List.mem_of_getElem? h)
  rw [this]; simp
theorem rightWd_walk (base : Int) (t : Nat) (w : List Nat) : rightWd base t w = walkOk (clash base t) 0 w := chain_walk (clash_zero base t) w
theorem rightWd_append (base : Int) (t : Nat) (v x : List Nat) : rightWd base t (v ++ x) = (rightWd base t v && walkOk (clash base t) (lastL 0 v) x) := by
  rw [rightWd_walk, rightWd_walk, walkOk_append]
theorem lastL_lt {n : Nat} : ∀ (v : List Nat) (s : Nat), s < n → Ltr n v → lastL s v < n
  | [], s, h, _ => h
  | l :: v, _, _, hv => lastL_lt v l (hv l List.mem_cons_self) fun x hx => hv x (List.mem_cons_of_mem _ hx)

section
variable {n : Nat} {add : Nat → Int} {P N : Int}
/-- Near a line. -/
def Strip (P N : Int) (q : Int × Int) : Prop := -(3 + 56 * N + 35 * P) ≤ 89 * q.2 - 55 * q.1 ∧ 89 * q.2 - 55 * q.1 ≤ 3 + 56 * P + 35 * N
theorem Strip.step {q : Int × Int} {e : Int} (h0 : 0 ≤ P ∧ 0 ≤ N) (h : Strip P N q) (hq : -97 ≤ q.1 ∧ q.1 ≤ 97) (he : -N ≤ e ∧ e ≤ P) : Strip P N (q.1 + q.2 + e, q.1 + e) := by
  unfold Strip at *
  simp only
  omega
def InStrip (P N : Int) (p : Int × Int) : Prop := Strip P N p ∧ -96 ≤ p.1 ∧ p.1 ≤ 96 ∨ p = (97, 0) ∨ p = (-97, 0)
theorem lnCut_96 (p : Int × Int) (e : Int) : lnCut 96 1 p e = if p = (97, 0) ∨ p = (-97, 0) then p else lnCap 96 (p.1 + p.2 + e, p.1 + e) := rfl
theorem InStrip.step {p : Int × Int} {e : Int} (h0 : 0 ≤ P ∧ 0 ≤ N) (h : InStrip P N p) (he : -N ≤ e ∧ e ≤ P) : InStrip P N (lnCut 96 1 p e) := by
  rw [lnCut_96]
  by_cases hn : p = (97, 0) ∨ p = (-97, 0)
  · rw [if_pos hn]; exact .inr hn
  · have hs : Strip P N p ∧ -96 ≤ p.1 ∧ p.1 ≤ 96 := by
      rcases h with h | h
      · exact h
      · exact (hn h).elim
    rw [if_neg hn]
    have := hs.1.step h0 ⟨by omega, by omega⟩ he
    unfold lnCap
    split
    · exact .inr (.inl rfl)
    · split
      · exact .inr (.inr rfl)
      · exact .inl ⟨this, by omega, by omega⟩
theorem ln_strip (h0 : 0 ≤ P ∧ 0 ≤ N) (ha : ∀ l, l < n → -N ≤ add l ∧ add l ≤ P) : ∀ (w : List Nat) (p : Int × Int), Ltr n w → InStrip P N p → InStrip P N (w.foldl (fun p l => lnCut 96 1 p (add l)) p)
  | [], _, _, h => h
  | l :: w, p, hw, h => ln_strip h0 ha w _ (fun x hx => hw x (List.mem_cons_of_mem _ hx)) (h.step h0 (ha l (hw l List.mem_cons_self)))
def runFrom1 (add : Nat → Int) (q : Int × Int) (w : List Nat) : Int × Int := w.foldl (fun p l => lnStep 1 p (add l)) q
theorem high_run {S k : Int} (hS : 0 ≤ S) (hk : 0 ≤ k) (ha : ∀ l, l < n → lnOk 1 S (add l)) : ∀ (x : List Nat) (q : Int × Int), Ltr n x → High 1 S k q → High 1 S k (runFrom1 add q x)
  | [], _, _, h => h
  | l :: x, q, hx, h => high_run hS hk ha x _ (fun y hy => hx y (List.mem_cons_of_mem _ hy)) (h.step (by decide) hS hk (ha l (hx l List.mem_cons_self)))
theorem runFrom1_neg (add : Nat → Int) : ∀ (x : List Nat) (q : Int × Int), runFrom1 (fun l => -(add l)) (-q.1, -q.2) x = (-(runFrom1 add q x).1, -(runFrom1 add q x).2)
  | [], _ => rfl
  | l :: x, q => by
    show runFrom1 (fun l => -(add l)) (lnStep 1 (-q.1, -q.2) (-(add l))) x = _
    rw [lnStep_neg]
    exact runFrom1_neg add x _
/-- Above 72 it stays above 60. -/
theorem above {S : Int} (hS : 0 ≤ S ∧ S ≤ 12) (h0 : 0 ≤ P ∧ 0 ≤ N ∧ P + N = S) (ha : ∀ l, l < n → -N ≤ add l ∧ add l ≤ P) {q : Int × Int} (hq : High 1 S 60 q ∨ (72 < q.1 ∧ Strip P N q)) {x : List Nat} (hx : Ltr n x) : 60 < (runFrom1 add q x).1 := by
  have ha' : ∀ l, l < n → lnOk 1 S (add l) := fun l hl => by
    have := ha l hl
    have h2 : radix 1 - 1 = 1 := rfl
    unfold lnOk; rw [h2]; omega
  rcases hq with hq | ⟨h1, h2⟩
  · exact (high_run hS.1 (by omega) ha' x q hx hq).gt hS.1
  · cases x with
    | nil => show 60 < q.1; omega
    | cons l x =>
      have h3 := ha l (hx l List.mem_cons_self)
      unfold Strip at h2
      have : High 1 S 60 (lnStep 1 q (add l)) := by
        unfold High lnStep
        simp only [if_true]
        right
        omega
      exact (high_run hS.1 (by omega) ha' x _ (fun y hy => hx y (List.mem_cons_of_mem _ hy)) this).gt hS.1
theorem Strip.neg {q : Int × Int} (h : Strip P N q) : Strip N P (-q.1, -q.2) := by unfold Strip at *; simp only; omega
theorem below {S : Int} (hS : 0 ≤ S ∧ S ≤ 12) (h0 : 0 ≤ P ∧ 0 ≤ N ∧ P + N = S) (ha : ∀ l, l < n → -N ≤ add l ∧ add l ≤ P) {q : Int × Int} (hq : High 1 S 60 (-q.1, -q.2) ∨ (q.1 < -72 ∧ Strip P N q)) {x : List Nat} (hx : Ltr n x) : (runFrom1 add q x).1 < -60 := by
  have := above (P := N) (N := P) (add := fun l => -(add l)) (q := (-q.1, -q.2)) hS ⟨h0.2.1, h0.1, by omega⟩ (fun l hl => by have := ha l hl; omega) (by
    rcases hq with h | ⟨h1, h2⟩
    · exact .inl h
    · exact .inr ⟨by simp only; omega, h2.neg⟩) hx
  rw [runFrom1_neg] at this
  simp only at this
  omega
/-- What kind of word. -/
def lnKind (t : Nat) (add : Nat → Int) (P N : Int) (v : List Nat) : Nat :=
  if rightWd 1 t v = false then 0
  else if 72 < (lnCutRun 96 1 add v).1 then 1 + lastL 0 v
  else if (lnCutRun 96 1 add v).1 < -72 then 33 + lastL 0 v
  else 65 + (((lnCutRun 96 1 add v).1 + 72).toNat * 13 + ((lnCutRun 96 1 add v).2 - (55 * (lnCutRun 96 1 add v).1 - (3 + 56 * N + 35 * P) + 88) / 89).toNat) * 32 + lastL 0 v
theorem lnRun_append (add : Nat → Int) (v x : List Nat) : lnRun 1 add (v ++ x) = runFrom1 add (lnRun 1 add v) x := by
  unfold lnRun runFrom1; rw [List.foldl_append]
theorem ln_kinds {t : Nat} {S c : Int} (hS : 0 ≤ S ∧ S ≤ 12) (h0 : 0 ≤ P ∧ 0 ≤ N ∧ P + N = S) (ha : ∀ l, l < n → -N ≤ add l ∧ add l ≤ P) (hc : -60 ≤ c ∧ c ≤ 60) (hn : 0 < n ∧ n ≤ 32) (less : Bool)
    {X : List (List Int)} {E : List Bool} (h : Least n X E fun w => lnEnd less c (lnRun 1 add w) && rightWd 1 t w) : X.length ≤ 65536 := by
  have ha' : ∀ l, l < n → lnOk 1 S (add l) := fun l hl => by
    have := ha l hl
    have h2 : radix 1 - 1 = 1 := rfl
    unfold lnOk; rw [h2]; omega
  have hst : ∀ v, Ltr n v → (Strip P N (lnCutRun 96 1 add v) ∧ -96 ≤ (lnCutRun 96 1 add v).1 ∧ (lnCutRun 96 1 add v).1 ≤ 96 ∨ lnCutRun 96 1 add v = (97, 0) ∨ lnCutRun 96 1 add v = (-97, 0)) := fun v hv =>
    ln_strip ⟨h0.1, h0.2.1⟩ ha v _ hv (.inl ⟨by unfold Strip; simp only; omega, by simp only; omega, by simp only; omega⟩)
  have hrl : ∀ v, Ltr n v → LnRel 1 96 S 60 (lnCutRun 96 1 add v) (lnRun 1 add v) := fun v hv => ln_rel (by decide) hS.1 (by omega) (by omega) ha' v hv
  have hup : ∀ v, Ltr n v → 72 < (lnCutRun 96 1 add v).1 → High 1 S 60 (lnRun 1 add v) ∨ (72 < (lnRun 1 add v).1 ∧ Strip P N (lnRun 1 add v)) := fun v hv h1 => by
    rcases hrl v hv with ⟨e, h2, h3, _⟩ | ⟨e, h2⟩ | ⟨e, h2⟩
    · rw [e] at h1
      have h4 := hst v hv
      rw [e] at h4
      refine .inr ⟨h1, ?_⟩
      rcases h4 with h4 | h4 | h4
      · exact h4.1
      · rw [h4] at h3; simp only at h3; omega
      · rw [h4] at h2; simp only at h2; omega
    · exact .inl h2
    · rw [e] at h1; simp only at h1; omega
  have hdn : ∀ v, Ltr n v → (lnCutRun 96 1 add v).1 < -72 → High 1 S 60 (-(lnRun 1 add v).1, -(lnRun 1 add v).2) ∨ ((lnRun 1 add v).1 < -72 ∧ Strip P N (lnRun 1 add v)) := fun v hv h1 => by
    rcases hrl v hv with ⟨e, h2, h3, _⟩ | ⟨e, h2⟩ | ⟨e, h2⟩
    · rw [e] at h1
      have h4 := hst v hv
      rw [e] at h4
      refine .inr ⟨h1, ?_⟩
      rcases h4 with h4 | h4 | h4
      · exact h4.1
      · rw [h4] at h3; simp only at h3; omega
      · rw [h4] at h2; simp only at h2; omega
    · rw [e] at h1; simp only at h1; omega
    · exact .inl h2
  have hmid : ∀ v, Ltr n v → ¬ 72 < (lnCutRun 96 1 add v).1 → ¬ (lnCutRun 96 1 add v).1 < -72 → lnCutRun 96 1 add v = lnRun 1 add v ∧ Strip P N (lnCutRun 96 1 add v) := fun v hv h1 h2 => by
    refine ⟨?_, ?_⟩
    · rcases hrl v hv with ⟨e, _⟩ | ⟨e, _⟩ | ⟨e, _⟩
      · exact e
      · rw [e] at h1; simp only at h1; omega
      · rw [e] at h2; simp only at h2; omega
    · rcases hst v hv with h | e | e
      · exact h.1
      · rw [e] at h1; simp only at h1; omega
      · rw [e] at h2; simp only at h2; omega
  have hlast : ∀ v, Ltr n v → lastL 0 v < 32 := fun v hv => Nat.lt_of_lt_of_le (lastL_lt v 0 hn.1 hv) hn.2
  refine Nat.le_trans (h.bound 60385 (lnKind t add P N) (fun v hv => ?_) fun v w hv hw e x hx => ?_) (by omega)
  · have hl := hlast v hv
    unfold lnKind
    split
    · omega
    · split
      · omega
      · split
        · omega
        · have h1 := (hmid v hv ‹_› ‹_›).2
          unfold Strip at h1
          omega
  · have hlv := hlast v hv
    have hlw := hlast w hw
    simp only [lnRun_append, rightWd_append]
    have kind : ∀ v, Ltr n v → (rightWd 1 t v = false ∧ lnKind t add P N v = 0) ∨ (rightWd 1 t v = true ∧ 72 < (lnCutRun 96 1 add v).1 ∧ lnKind t add P N v = 1 + lastL 0 v) ∨ (rightWd 1 t v = true ∧ (lnCutRun 96 1 add v).1 < -72 ∧ lnKind t add P N v = 33 + lastL 0 v) ∨
        (rightWd 1 t v = true ∧ ¬ 72 < (lnCutRun 96 1 add v).1 ∧ ¬ (lnCutRun 96 1 add v).1 < -72 ∧ lnKind t add P N v = 65 + (((lnCutRun 96 1 add v).1 + 72).toNat * 13 + ((lnCutRun 96 1 add v).2 - (55 * (lnCutRun 96 1 add v).1 - (3 + 56 * N + 35 * P) + 88) / 89).toNat) * 32 + lastL 0 v) := fun v hv => by
      cases hr : rightWd 1 t v with
      | false => exact .inl ⟨rfl, by unfold lnKind; rw [if_pos hr]⟩
      | true =>
        have hr' : ¬ rightWd 1 t v = false := by rw [hr]; decide
        by_cases h1 : 72 < (lnCutRun 96 1 add v).1
        · exact .inr (.inl ⟨rfl, h1, by unfold lnKind; rw [if_neg hr', if_pos h1]⟩)
        · by_cases h2 : (lnCutRun 96 1 add v).1 < -72
          · exact .inr (.inr (.inl ⟨rfl, h2, by unfold lnKind; rw [if_neg hr', if_neg h1, if_pos h2]⟩))
          · exact .inr (.inr (.inr ⟨rfl, h1, h2, by unfold lnKind; rw [if_neg hr', if_neg h1, if_neg h2]⟩))
    have kv := kind v hv
    have kw := kind w hw
    clear kind
    have fin_up : ∀ q : Int × Int, 60 < q.1 → lnEnd less c q = false := fun q hq => by
      unfold lnEnd
      split <;> simp only [decide_eq_false_iff_not] <;> omega
    have fin_dn : ∀ q : Int × Int, q.1 < -60 → lnEnd less c q = less := fun q hq => by
      unfold lnEnd
      cases less
      · simp only [Bool.false_eq_true, if_false, decide_eq_false_iff_not]; omega
      · simp only [if_true, decide_eq_true_eq]; omega
    rcases kv with ⟨r1, k1⟩ | ⟨r1, a1, k1⟩ | ⟨r1, a1, k1⟩ | ⟨r1, a1, b1, k1⟩ <;> rcases kw with ⟨r2, k2⟩ | ⟨r2, a2, k2⟩ | ⟨r2, a2, k2⟩ | ⟨r2, a2, b2, k2⟩ <;> (try (exfalso; omega))
    · rw [r1, r2]; simp
    · rw [fin_up _ (above hS h0 ha (hup v hv a1) hx), fin_up _ (above hS h0 ha (hup w hw a2) hx)]
      simp
    · rw [fin_dn _ (below hS h0 ha (hdn v hv a1) hx), fin_dn _ (below hS h0 ha (hdn w hw a2) hx), r1, r2, show lastL 0 v = lastL 0 w by omega]
    · obtain ⟨e1, s1⟩ := hmid v hv a1 b1
      obtain ⟨e2, s2⟩ := hmid w hw a2 b2
      unfold Strip at s1 s2
      have hx1 : (lnCutRun 96 1 add v).1 = (lnCutRun 96 1 add w).1 := by omega
      have hl : lastL 0 v = lastL 0 w := by omega
      have hx2 : (lnCutRun 96 1 add v).2 = (lnCutRun 96 1 add w).2 := by
        rw [hx1] at k1 s1
        omega
      rw [← e1, ← e2, r1, r2, hl, Prod.ext hx1 hx2]
end
end Go.Proofs.Ytfhncnhkeodngaa
namespace Go.Proofs.Ytfhncnhkeodngaa

def relet (next : List (List Int)) (to : List Int) : List (List Int) := next.map fun row => to.map fun l => row.getD l.toNat 0
section
variable {n n' m : Nat} {next : List (List Int)} {to : List Int}
theorem relet_rows (h : Rows0 n m next) (ht : to.length = n') (hto : ∀ l ∈ to, 0 ≤ l ∧ l < (n : Int)) : Rows0 n' m (relet next to) := by
  refine ⟨by simp [relet, h.len], fun r hr => ?_, fun r hr x hx => ?_⟩
  · obtain ⟨row, _, rfl⟩ := List.mem_map.1 hr
    simpa using ht
  · obtain ⟨row, hrow, rfl⟩ := List.mem_map.1 hr
    obtain ⟨l, hl, rfl⟩ := List.mem_map.1 hx
    have := hto l hl
    have hlen := h.row row hrow
    rw [getD_lt (by omega)]
    exact h.ok row hrow _ (List.getElem_mem _)
theorem relet_nx (h : Rows0 n m next) (ht : to.length = n') {s : Int} (hs : 0 ≤ s ∧ s < (m : Int)) {l : Nat} (hl : l < n') : nx (relet next to) s l = nx next s (to.getD l 0).toNat := by
  have hlen := h.len
  unfold nx rowOf relet
  rw [getD_lt (show s.toNat < (next.map _).length by simp; omega), getD_lt (show s.toNat < next.length by omega)]
  simp only [List.getElem_map]
  rw [getD_lt (show l < (to.map _).length by simp; omega), getD_lt (show l < to.length by omega)]
  simp only [List.getElem_map]
theorem relet_run (h : Rows0 n m next) (ht : to.length = n') (hto : ∀ l ∈ to, 0 ≤ l ∧ l < (n : Int)) : ∀ (w : List Nat) (s : Int), (0 ≤ s ∧ s < (m : Int)) → Ltr n' w → runS (relet next to) s w = runS next s (w.map fun l => (to.getD l 0).toNat)
  | [], _, _, _ => rfl
  | l :: w, s, hs, hw => by
    have hl := hw l List.mem_cons_self
    show runS _ (nx (relet next to) s l) w = runS next (nx next s (to.getD l 0).toNat) _
    rw [relet_nx h ht hs hl]
    refine relet_run h ht hto w _ (nx_ok h hs ?_) fun x hx => hw x (List.mem_cons_of_mem _ hx)
    rw [getD_lt (by omega)]
    have := hto _ (List.getElem_mem (show l < to.length by omega))
    omega
theorem relet_lang (h : Rows0 n m next) (hm : 0 < m) (ht : to.length = n') (hto : ∀ l ∈ to, 0 ≤ l ∧ l < (n : Int)) (ends : List Bool) {w : List Nat} (hw : Ltr n' w) : lang (relet next to) ends 0 w = lang next ends 0 (w.map fun l => (to.getD l 0).toNat) := by
  unfold lang
  rw [relet_run h ht hto w 0 (by omega) hw]
end
/-- The least automaton over other letters. -/
noncomputable def reletA (a : GAuto) (t : Int) (to : List Int) : GAuto := ⟨a.base, t, (leastRE to.length (relet a.next to) a.ends).1, (leastRE to.length (relet a.next to) a.ends).2⟩
theorem reletA_isLeast {a : GAuto} {n m : Nat} (g : Good a n m) (t : Int) {to : List Int} (hto : ∀ l ∈ to, 0 ≤ l ∧ l < (n : Int)) : IsLeast (reletA a t to) to.length a.base t (fun w => lng a (w.map fun l => (to.getD l 0).toNat)) ∧ (reletA a t to).next.length ≤ m := by
  have h := leastRE_spec (ends := a.ends) (relet_rows g.rows rfl hto) g.m0
  exact ⟨⟨rfl, rfl, h.1.lang_congr fun w hw => relet_lang g.rows g.m0 rfl hto a.ends hw⟩, h.2⟩
theorem reletA_good {a : GAuto} {n m : Nat} (g : Good a n m) {t : Nat} {to : List Int} (hto : ∀ l ∈ to, 0 ≤ l ∧ l < (n : Int)) (h0 : manyErr a.base t = 0) (hn : manyOf a.base t = (to.length : Nat)) : Good (reletA a t to) to.length (reletA a t to).next.length := by
  obtain ⟨h, hm⟩ := reletA_isLeast g t hto
  obtain ⟨r0, _, _, p36, hmo⟩ := many_ok h0
  have hp := powW_pos (radix_two r0).1 (t : Int).toNat
  have := g.m80
  exact ⟨h0, hn, by omega, by omega, h.least.length_pos, by omega, h.least.len, h.least.rows⟩

/-- What a letter of the new tracks is read as. -/
def spreadL (base : Int) (t : Nat) (at' : List Int) (l : Nat) : Int := pack (radix base) (at'.map fun i => digitAt (radix base) t (l : Int) i.toNat)
def spreadTo (base : Int) (t : Nat) (at' : List Int) : List Int := (List.range (manyOf base t).toNat).map (spreadL base t at')
def spreadErr (a : GAuto) (tracks : Int) (at' : List Int) : Int :=
  if autoFault a ≠ 0 then autoFault a else if manyErr a.base tracks ≠ 0 then manyErr a.base tracks else if (at'.length : Int) ≠ a.tracks then 2 else if at'.all (fun i => decide (0 ≤ i ∧ i < tracks)) then 0 else 1
noncomputable def spreadOf (a : GAuto) (tracks : Int) (at' : List Int) : GAuto := if spreadErr a tracks at' = 0 then reletA a tracks (spreadTo a.base tracks.toNat at') else GAuto.zero
theorem digitAt_ok {k : Int} (hk : 2 ≤ k) (t : Nat) (l : Int) (i : Nat) : 0 ≤ digitAt k t l i ∧ digitAt k t l i < k := by
  unfold digitAt
  by_cases h : i < (unpack k t l).length
  · rw [getD_lt h]; exact unpack_ok hk t l _ (List.getElem_mem h)
  · rw [List.getD_eq_getElem?_getD, List.getElem?_eq_none (by omega)]
    simp only [Option.getD_none]; omega
theorem spreadL_bd {base : Int} (hr : radix base ≠ 0) (t : Nat) (at' : List Int) (l : Nat) : 0 ≤ spreadL base t at' l ∧ spreadL base t at' l < powW (radix base) at'.length := by
  have h2 := (radix_two hr).1
  have h := pack_bd h2 (at'.map fun i => digitAt (radix base) t (l : Int) i.toNat) fun x hx => by
    obtain ⟨i, _, rfl⟩ := List.mem_map.1 hx; exact digitAt_ok h2 t l _
  rwa [List.length_map] at h
/-- What is known where nothing is wrong. -/
theorem spread_ok {a : GAuto} {tracks : Int} {at' : List Int} (h : spreadErr a tracks at' = 0) : ∃ n m t n' : Nat, Good a n m ∧ tracks = t ∧ t ≤ 5 ∧ manyErr a.base t = 0 ∧ manyOf a.base t = n' ∧ 0 < n' ∧ n' ≤ 36 ∧ (at'.length : Int) = a.tracks ∧ (∀ i ∈ at', 0 ≤ i ∧ i < (t : Int)) ∧ (∀ l, 0 ≤ spreadL a.base t at' l ∧ spreadL a.base t at' l < (n : Int)) ∧ spreadOf a tracks at' = reletA a t ((List.range n').map (spreadL a.base t at')) ∧ at'.length ≤ 5 ∧ radix a.base ≠ 0 := by
  have h' := h
  unfold spreadErr at h
  split at h
  · omega
  · rename_i h1
    split at h
    · omega
    · rename_i h2
      split at h
      · omega
      · rename_i h3
        split at h
        · rename_i h4
          have g := good_of (Classical.not_not.1 h1)
          have h2 := Classical.not_not.1 h2
          obtain ⟨r0, t0, t5, p36, hm⟩ := many_ok h2
          obtain ⟨t, rfl⟩ := Int.eq_ofNat_of_zero_le t0
          have hp := powW_pos (radix_two r0).1 (t : Int).toNat
          have gm := many_ok g.many
          have h3 : (at'.length : Int) = a.tracks := Classical.not_not.1 h3
          refine ⟨_, _, t, (manyOf a.base t).toNat, g, rfl, by omega, h2, by omega, by omega, by omega, h3, by simpa using h4, fun l => ?_, ?_, by omega, r0⟩
          · have hb := spreadL_bd r0 t at' l
            have e1 : manyOf a.base a.tracks = powW (radix a.base) at'.length := by rw [gm.2.2.2.2, ← h3, Int.toNat_natCast]
            have e2 := g.n_eq
            omega
          · unfold spreadOf; rw [if_pos h']; rfl
        · omega
theorem toNat_range {f : Nat → Int} {n l : Nat} (h : l < n) : ((List.range n).map f).getD l 0 = f l := by
  rw [getD_lt (by simpa using h)]; simp
theorem spread_isLeast {a : GAuto} {t n n' m : Nat} {at' : List Int} (g : Good a n m) (hb : ∀ l, 0 ≤ spreadL a.base t at' l ∧ spreadL a.base t at' l < (n : Int)) : IsLeast (reletA a t ((List.range n').map (spreadL a.base t at'))) n' a.base t (fun w => lng a (w.map fun l => (spreadL a.base t at' l).toNat)) ∧ (reletA a t ((List.range n').map (spreadL a.base t at'))).next.length ≤ m := by
  have h := reletA_isLeast g t (to := (List.range n').map (spreadL a.base t at')) fun l hl => by obtain ⟨j, _, rfl⟩ := List.mem_map.1 hl; exact hb j
  have e : ((List.range n').map (spreadL a.base t at')).length = n' := by simp
  rw [e] at h
  refine ⟨⟨rfl, rfl, h.1.least.lang_congr fun w hw => congrArg (lng a) (List.map_congr_left fun l hl => ?_)⟩, h.2⟩
  rw [toNat_range (hw l hl)]
end Go.Proofs.Ytfhncnhkeodngaa
namespace Go.Proofs.Ytfhncnhkeodngaa

def szAll (coefs : List Int) : Bool := coefs.all fun c => decide (-12 ≤ c ∧ c ≤ 12)
def szW (coefs : List Int) : Int := coefs.foldl (fun s c => IntKind.i64.wrap (s + max c (-c))) 0
def sizeA (coefs : List Int) : Int := absN coefs coefs.length
theorem absN_le {coefs : List Int} (h : szAll coefs = true) : ∀ i, absN coefs i ≤ 12 * (i : Int)
  | 0 => by simp [absN, dotN]
  | i + 1 => by
    have ih := absN_le h i
    rw [absN_succ]
    have : -12 ≤ coefs.getD i 0 ∧ coefs.getD i 0 ≤ 12 := by
      rw [List.getD_eq_getElem?_getD]
      cases hc : coefs[i]? with
      | none => simp
      | some c => simpa using List.all_eq_true.1 h c (List.mem_of_getElem? hc)
    omega
theorem szW_take {coefs : List Int} (h : szAll coefs = true) (hl : coefs.length ≤ 1000) : ∀ i, i ≤ coefs.length → szW (coefs.take i) = absN coefs i
  | 0, _ => rfl
  | i + 1, hi => by
    have ih := szW_take h hl i (by omega)
    have hb := absN_le h (i + 1)
    have h0 := (posneg coefs i).1
    have h1 := (posneg coefs i).2
    rw [List.take_succ_eq_append_getElem (by omega)]
    unfold szW at ih ⊢
    rw [List.foldl_append, ih, absN_succ] at *
    simp only [List.foldl_cons, List.foldl_nil]
    rw [getD_lt (by omega)] at hb ⊢
    exact wrap_i64 _ (by omega)
theorem szW_eq {coefs : List Int} (h : szAll coefs = true) (hl : coefs.length ≤ 1000) : szW coefs = sizeA coefs := by
  have := szW_take h hl coefs.length (Nat.le_refl _)
  rwa [List.take_length] at this
theorem szAll_not {coefs : List Int} (h : szAll coefs = false) : 12 < sizeA coefs := by
  unfold szAll at h
  rw [List.all_eq_false] at h
  obtain ⟨c, hc, h2⟩ := h
  obtain ⟨i, hi, rfl⟩ := List.mem_iff_getElem.1 hc
  have := absN_ge coefs hi
  rw [getD_lt hi] at this
  simp only [decide_eq_true_eq] at h2
  unfold sizeA
  omega
theorem szAll_of {coefs : List Int} (h : sizeA coefs ≤ 12) : szAll coefs = true := by
  cases h2 : szAll coefs with
  | true => rfl
  | false => have := szAll_not h2; omega
def addL (base : Int) (coefs : List Int) (l : Nat) : Int := dotN coefs (fun i => digitAt (radix base) coefs.length (l : Int) i) coefs.length
def lineL (base : Int) (coefs : List Int) (c : Int) (less : Bool) (w : List Nat) : Bool := lnEnd less c (lnRun base (addL base coefs) w) && rightWd base coefs.length w
def lineFault (base : Int) (coefs : List Int) (c : Int) : Int := if manyErr base coefs.length ≠ 0 then manyErr base coefs.length else if 12 < sizeA coefs ∨ c < -60 ∨ 60 < c then 1 else 0
noncomputable def lineErr (base : Int) (coefs : List Int) (c : Int) (less : Bool) : Int := if lineFault base coefs c ≠ 0 then lineFault base coefs c else errL (manyOf base coefs.length).toNat (lineL base coefs c less)
noncomputable def lineOf (base : Int) (coefs : List Int) (c : Int) (less : Bool) : GAuto := if lineFault base coefs c ≠ 0 then .zero else autoL base coefs.length (manyOf base coefs.length).toNat (lineL base coefs c less)
structure LineOk (base : Int) (coefs : List Int) (c : Int) (n : Nat) : Prop where
  many : manyErr base coefs.length = 0
  n_eq : manyOf base coefs.length = n
  r : radix base ≠ 0
  t5 : coefs.length ≤ 5
  n0 : 0 < n
  n36 : n ≤ 36
  sz : 0 ≤ sizeA coefs ∧ sizeA coefs ≤ 12
  c60 : -60 ≤ c ∧ c ≤ 60
theorem line_ok {base : Int} {coefs : List Int} {c : Int} (h : lineFault base coefs c = 0) : LineOk base coefs c (manyOf base coefs.length).toNat := by
  unfold lineFault at h
  split at h
  · omega
  · rename_i h1
    have h1 : manyErr base coefs.length = 0 := Classical.not_not.1 h1
    split at h
    · omega
    · rename_i h2
      obtain ⟨t, n, e, hn, ht5, hn0, hn36⟩ := many_nat h1
      rw [← e] at hn
      have h3 := (posneg coefs coefs.length).1
      have h4 := (posneg coefs coefs.length).2
      refine ⟨h1, by omega, (many_ok h1).1, by omega, by omega, by omega, ⟨?_, by omega⟩, by omega⟩
      unfold sizeA; omega
section
variable {base : Int} {coefs : List Int} {c : Int} {n : Nat}
theorem LineOk.add (g : LineOk base coefs c n) (l : Nat) : -(negN coefs coefs.length * (radix base - 1)) ≤ addL base coefs l ∧ addL base coefs l ≤ posN coefs coefs.length * (radix base - 1) :=
  dotN_bd coefs (r := radix base - 1) _ fun j _ => by
    have := digitAt_ok (radix_two g.r).1 coefs.length (l : Int) j
    omega
theorem LineOk.lnOk (g : LineOk base coefs c n) (l : Nat) : lnOk base (sizeA coefs) (addL base coefs l) := by
  have h := g.add l
  have h1 := (posneg coefs coefs.length).1
  obtain ⟨h2, h3⟩ := (posneg coefs coefs.length).2
  have hr := (radix_two g.r).1
  have h4 : posN coefs coefs.length * (radix base - 1) ≤ sizeA coefs * (radix base - 1) := Int.mul_le_mul_of_nonneg_right (by unfold sizeA; omega) (by omega)
  have h5 : negN coefs coefs.length * (radix base - 1) ≤ sizeA coefs * (radix base - 1) := Int.mul_le_mul_of_nonneg_right (by unfold sizeA; omega) (by omega)
  unfold Go.Proofs.Ytfhncnhkeodngaa.lnOk
  omega
/-- Of base Fib there are not too many kinds of words. -/
theorem LineOk.kinds (g : LineOk base coefs c n) (hb : base = 1) (less : Bool) {X : List (List Int)} {E : List Bool} (h : Least n X E (lineL base coefs c less)) : X.length ≤ 65536 := by
  subst hb
  have h1 := (posneg coefs coefs.length).1
  obtain ⟨h2, h3⟩ := (posneg coefs coefs.length).2
  have hs := g.sz
  unfold sizeA at hs
  have hn32 : n ≤ 32 := by
    obtain ⟨_, _, _, _, hm⟩ := many_ok g.many
    have h2 : radix 1 = 2 := rfl
    rw [h2, powW_two, Int.toNat_natCast, g.n_eq] at hm
    have h5 : n = 2 ^ coefs.length := by omega
    rw [h5]
    exact Nat.pow_le_pow_right (by omega) g.t5
  refine ln_kinds (n := n) (P := posN coefs coefs.length) (N := negN coefs coefs.length) (S := sizeA coefs) (t := coefs.length) (c := c) ⟨hs.1, hs.2⟩ ⟨h2, h3, h1⟩ (fun l hl => ?_) g.c60 ⟨g.n0, hn32⟩ less h
  have := g.add l
  have h2 : radix 1 - 1 = 1 := rfl
  rw [h2] at this
  omega
end
end Go.Proofs.Ytfhncnhkeodngaa
namespace Go.Proofs.Ytfhncnhkeodngaa
open Go.RowKit

theorem shrinkT_L {base tracks : Int} {n m : Nat} {next : List (List Int)} {ends : List Bool} {L : List Nat → Bool} (hR : Rows0 n m next) (hm : 0 < m) (h : ∀ w, Ltr n w → lang next ends 0 w = L w) :
    shrinkT base tracks n next ends = .tup [tAuto (autoL base tracks n L), .bool (decide (errL n L = 0))] := by
  by_cases h80 : 80 < (leastL n L).1.length
  · have e : errL n L = 3 := by unfold errL; rw [if_pos h80]
    unfold shrinkT autoL
    rw [leastRE_L hR hm h, if_neg (by omega), e, if_neg (show ¬ (3 : Int) = 0 by decide)]; rfl
  · have e : errL n L = 0 := by unfold errL; rw [if_neg h80]
    unfold shrinkT autoL
    rw [leastRE_L hR hm h, if_pos (by omega), e, if_pos rfl]; rfl
end Go.Proofs.Ytfhncnhkeodngaa
namespace Go.Proofs.Ytfhncnhkeodngaa
open Go.RowKit

def sizeT (coefs : List Int) : T := if szAll coefs = true then .tup [tInt (szW coefs), .bool (decide (szW coefs ≤ 12))] else .tup [tInt 0, .bool false]
theorem tPair_inj' (p q : Int × Int) (h : tPair p = tPair q) : p = q := tPair_inj h
theorem szW_next {coefs : List Int} {i : Nat} {x : Int} (h : coefs[i]! = x) (hi : i < coefs.length) : szW (coefs.take (i + 1)) = IntKind.i64.wrap (szW (coefs.take i) + max x (-x)) := by
  rw [take_next h hi]
  unfold szW
  rw [List.foldl_append]; rfl
section
variable {G : World → Prop} (hG : Lasting G)
include hG
set_option maxHeartbeats 4000000 in
theorem Size_snd (coefs : List Int) : Snd Try.prog G 45 [tInts coefs] (sizeT coefs) := by
  have htb : Tab.ok Try.prog G [] := Tab.nil
  refine snd_of_body (n := 29) (tm := [(0, .t (tInts coefs))]) (rs := [.tmp 2, .tmp 3]) tt_ok Try.func45 rfl rfl rfl rfl rfl ?_
  refine SW_len (t := 0) (l := _) rfl fun hcl => ?_
  simp only [List.length_map] at hcl
  repeat' (first | (with_reducible first | refine SW_seq ?_ | refine SW_block ?_ | refine SThen_n ?_ | refine SThen_r ?_ | refine SThen_e ?_ | refine SIn_n ?_ | refine SIn_r ?_ | refine SIn_eq ?_ | refine SW_skip ?_ | refine SW_exit ?_ | refine SW_ret ?_ | refine SPost_r ?_) | ((with_reducible refine SIn_ne ?_ ?_); focus decide) | ((with_reducible refine SW_true ?_ ?_); focus exact rfl) | ((with_reducible refine SW_false ?_ ?_); focus exact rfl) | ((first | (with_reducible apply SW_run tt_ok hG htb) | ((with_reducible apply SW_draw rfl tt_ok hG htb); (focus kernel_rfl); (focus (simp only [List.range, List.range.loop, List.size_toArray, List.length_cons, List.length_nil, Nat.reduceAdd])))); focus ((repeat' (first | (with_reducible exact runX_nil) | (with_reducible exact runI_nil) | ((first | (with_reducible apply runX_cons) | (with_reducible apply runI_cons)); focus (simp (discharger := omega) only [go_sem, ↓reduceIte, reduceIte, Nat.reduceEqDiff, Nat.reduceLT, Nat.reduceLeDiff, Nat.reduceAdd, Nat.reduceSub, Nat.reduceMul, Nat.reduceDiv, Nat.reduceMod, Nat.reduceBEq, Int.reduceEq, Int.reduceLT, Int.reduceLE, Int.reduceNeg, Int.reduceToNat, reduceCtorEq]; with_reducible rfl)))); done)))
  refine SW_loop (fun mm s => ∃ (i : Nat) (q : Int), mm = coefs.length - i ∧ s = ⟨29, [(4, .t (tInt q)), (7, .t (tInts coefs)), (8, .t (tInt coefs.length)), (9, .t (tInt i))], []⟩ ∧ i ≤ coefs.length ∧ q = szW (coefs.take i) ∧ ∀ j (hj : j < coefs.length), j < i → -12 ≤ coefs[j] ∧ coefs[j] ≤ 12) (coefs.length)
    ⟨_, Norm.headS (own := []) (keep := [4, 7, 8, 9]) (by simp (discharger := omega) only [go_sem, ↓reduceIte, reduceIte, Nat.reduceEqDiff, Nat.reduceLT, Nat.reduceLeDiff, Nat.reduceAdd, Nat.reduceSub, Nat.reduceMul, Nat.reduceDiv, Nat.reduceMod, Nat.reduceBEq, Int.reduceEq, Int.reduceLT, Int.reduceLE, Int.reduceNeg, Int.reduceToNat, reduceCtorEq]; with_reducible rfl) (by simp only [go_sem, ↓reduceIte, reduceIte, Nat.reduceEqDiff, Nat.reduceLT, Nat.reduceLeDiff, Nat.reduceAdd, Nat.reduceSub, Nat.reduceMul, Nat.reduceDiv, Nat.reduceMod, Nat.reduceBEq, Int.reduceEq, Int.reduceLT, Int.reduceLE, Int.reduceNeg, Int.reduceToNat, reduceCtorEq]; with_reducible rfl) (by simp only [go_sem, ↓reduceIte, reduceIte, Nat.reduceEqDiff, Nat.reduceLT, Nat.reduceLeDiff, Nat.reduceAdd, Nat.reduceSub, Nat.reduceMul, Nat.reduceDiv, Nat.reduceMod, Nat.reduceBEq, Int.reduceEq, Int.reduceLT, Int.reduceLE, Int.reduceNeg, Int.reduceToNat, reduceCtorEq]; with_reducible rfl) (by simp only [go_sem, ↓reduceIte, reduceIte, Nat.reduceEqDiff, Nat.reduceLT, Nat.reduceLeDiff, Nat.reduceAdd, Nat.reduceSub, Nat.reduceMul, Nat.reduceDiv, Nat.reduceMod, Nat.reduceBEq, Int.reduceEq, Int.reduceLT, Int.reduceLE, Int.reduceNeg, Int.reduceToNat, reduceCtorEq]; with_reducible rfl) (by simp only [go_sem, ↓reduceIte, reduceIte, Nat.reduceEqDiff, Nat.reduceLT, Nat.reduceLeDiff, Nat.reduceAdd, Nat.reduceSub, Nat.reduceMul, Nat.reduceDiv, Nat.reduceMod, Nat.reduceBEq, Int.reduceEq, Int.reduceLT, Int.reduceLE, Int.reduceNeg, Int.reduceToNat, reduceCtorEq]; with_reducible rfl), 0, 0, rfl, rfl, Nat.zero_le _, rfl, fun j hj h => by omega⟩ ?_
  rintro mm s ⟨i, q, rfl, rfl, hi, hq, hA⟩
  by_cases hlt : i < coefs.length
  · obtain ⟨x, hx⟩ : ∃ x, coefs[i]! = x := ⟨_, rfl⟩
    have hat := bang_at hx hlt
    have hnx := szW_next hx hlt
    rw [← hq] at hnx
    by_cases hx0 : x < -12
    · have e : sizeT coefs = .tup [tInt 0, .bool false] := by
        unfold sizeT
        rw [if_neg]
        rw [Bool.not_eq_true, szAll, List.all_eq_false]
        exact ⟨x, bang_mem hx hlt, by simp; omega⟩
      rw [e]
      repeat' (first | (with_reducible first | refine SW_seq ?_ | refine SW_block ?_ | refine SThen_n ?_ | refine SThen_r ?_ | refine SThen_e ?_ | refine SIn_n ?_ | refine SIn_r ?_ | refine SIn_eq ?_ | refine SW_skip ?_ | refine SW_exit ?_ | refine SW_ret ?_ | refine SPost_r ?_) | ((with_reducible refine SIn_ne ?_ ?_); focus decide) | ((with_reducible refine SW_true ?_ ?_); focus exact rfl) | ((with_reducible refine SW_false ?_ ?_); focus exact rfl) | ((first | (with_reducible apply SW_run tt_ok hG htb) | ((with_reducible apply SW_draw rfl tt_ok hG htb); (focus kernel_rfl); (focus (simp only [List.range, List.range.loop, List.size_toArray, List.length_cons, List.length_nil, Nat.reduceAdd])))); focus ((repeat' (first | (with_reducible exact runX_nil) | (with_reducible exact runI_nil) | ((first | (with_reducible apply runX_cons) | (with_reducible apply runI_cons)); focus (simp (discharger := omega) only [go_sem, hx, ↓reduceIte, reduceIte, Nat.reduceEqDiff, Nat.reduceLT, Nat.reduceLeDiff, Nat.reduceAdd, Nat.reduceSub, Nat.reduceMul, Nat.reduceDiv, Nat.reduceMod, Nat.reduceBEq, Int.reduceEq, Int.reduceLT, Int.reduceLE, Int.reduceNeg, Int.reduceToNat, reduceCtorEq]; with_reducible rfl)))); done)))
      exact (by simp (discharger := omega) only [go_sem, ↓reduceIte, reduceIte, Nat.reduceEqDiff, Nat.reduceLT, Nat.reduceLeDiff, Nat.reduceAdd, Nat.reduceSub, Nat.reduceMul, Nat.reduceDiv, Nat.reduceMod, Nat.reduceBEq, Int.reduceEq, Int.reduceLT, Int.reduceLE, Int.reduceNeg, Int.reduceToNat, reduceCtorEq])
    · by_cases hx1 : 12 < x
      · have e : sizeT coefs = .tup [tInt 0, .bool false] := by
          unfold sizeT
          rw [if_neg]
          rw [Bool.not_eq_true, szAll, List.all_eq_false]
          exact ⟨x, bang_mem hx hlt, by simp; omega⟩
        rw [e]
        repeat' (first | (with_reducible first | refine SW_seq ?_ | refine SW_block ?_ | refine SThen_n ?_ | refine SThen_r ?_ | refine SThen_e ?_ | refine SIn_n ?_ | refine SIn_r ?_ | refine SIn_eq ?_ | refine SW_skip ?_ | refine SW_exit ?_ | refine SW_ret ?_ | refine SPost_r ?_) | ((with_reducible refine SIn_ne ?_ ?_); focus decide) | ((with_reducible refine SW_true ?_ ?_); focus exact rfl) | ((with_reducible refine SW_false ?_ ?_); focus exact rfl) | ((first | (with_reducible apply SW_run tt_ok hG htb) | ((with_reducible apply SW_draw rfl tt_ok hG htb); (focus kernel_rfl); (focus (simp only [List.range, List.range.loop, List.size_toArray, List.length_cons, List.length_nil, Nat.reduceAdd])))); focus ((repeat' (first | (with_reducible exact runX_nil) | (with_reducible exact runI_nil) | ((first | (with_reducible apply runX_cons) | (with_reducible apply runI_cons)); focus (simp (discharger := omega) only [go_sem, hx, ↓reduceIte, reduceIte, Nat.reduceEqDiff, Nat.reduceLT, Nat.reduceLeDiff, Nat.reduceAdd, Nat.reduceSub, Nat.reduceMul, Nat.reduceDiv, Nat.reduceMod, Nat.reduceBEq, Int.reduceEq, Int.reduceLT, Int.reduceLE, Int.reduceNeg, Int.reduceToNat, reduceCtorEq]; with_reducible rfl)))); done)))
        exact (by simp (discharger := omega) only [go_sem, ↓reduceIte, reduceIte, Nat.reduceEqDiff, Nat.reduceLT, Nat.reduceLeDiff, Nat.reduceAdd, Nat.reduceSub, Nat.reduceMul, Nat.reduceDiv, Nat.reduceMod, Nat.reduceBEq, Int.reduceEq, Int.reduceLT, Int.reduceLE, Int.reduceNeg, Int.reduceToNat, reduceCtorEq])
      · have hng : IntKind.i64.wrap (0 - x) = -x := by rw [wrap_i64 _ (by omega)]; omega
        have hmx : (if -x > x then -x else x) = max x (-x) := by rw [Int.max_def]; split <;> split <;> omega
        repeat' (first | (with_reducible first | refine SW_seq ?_ | refine SW_block ?_ | refine SThen_n ?_ | refine SThen_r ?_ | refine SThen_e ?_ | refine SIn_n ?_ | refine SIn_r ?_ | refine SIn_eq ?_ | refine SW_skip ?_ | refine SW_exit ?_ | refine SW_ret ?_ | refine SPost_r ?_) | ((with_reducible refine SIn_ne ?_ ?_); focus decide) | ((with_reducible refine SW_true ?_ ?_); focus exact rfl) | ((with_reducible refine SW_false ?_ ?_); focus exact rfl) | ((first | (with_reducible apply SW_run tt_ok hG htb) | ((with_reducible apply SW_draw rfl tt_ok hG htb); (focus kernel_rfl); (focus (simp only [List.range, List.range.loop, List.size_toArray, List.length_cons, List.length_nil, Nat.reduceAdd])))); focus ((repeat' (first | (with_reducible exact runX_nil) | (with_reducible exact runI_nil) | ((first | (with_reducible apply runX_cons) | (with_reducible apply runI_cons)); focus (simp (discharger := omega) only [go_sem, hx, hng, hmx, ↓reduceIte, reduceIte, Nat.reduceEqDiff, Nat.reduceLT, Nat.reduceLeDiff, Nat.reduceAdd, Nat.reduceSub, Nat.reduceMul, Nat.reduceDiv, Nat.reduceMod, Nat.reduceBEq, Int.reduceEq, Int.reduceLT, Int.reduceLE, Int.reduceNeg, Int.reduceToNat, reduceCtorEq]; with_reducible rfl)))); done)))
        exact ⟨coefs.length - (i + 1), _, by omega, Norm.headS (own := []) (keep := [4, 7, 8, 9]) (by simp (discharger := omega) only [go_sem, ↓reduceIte, reduceIte, Nat.reduceEqDiff, Nat.reduceLT, Nat.reduceLeDiff, Nat.reduceAdd, Nat.reduceSub, Nat.reduceMul, Nat.reduceDiv, Nat.reduceMod, Nat.reduceBEq, Int.reduceEq, Int.reduceLT, Int.reduceLE, Int.reduceNeg, Int.reduceToNat, reduceCtorEq]; with_reducible rfl) (by simp only [go_sem, ↓reduceIte, reduceIte, Nat.reduceEqDiff, Nat.reduceLT, Nat.reduceLeDiff, Nat.reduceAdd, Nat.reduceSub, Nat.reduceMul, Nat.reduceDiv, Nat.reduceMod, Nat.reduceBEq, Int.reduceEq, Int.reduceLT, Int.reduceLE, Int.reduceNeg, Int.reduceToNat, reduceCtorEq]; with_reducible rfl) (by simp only [go_sem, ↓reduceIte, reduceIte, Nat.reduceEqDiff, Nat.reduceLT, Nat.reduceLeDiff, Nat.reduceAdd, Nat.reduceSub, Nat.reduceMul, Nat.reduceDiv, Nat.reduceMod, Nat.reduceBEq, Int.reduceEq, Int.reduceLT, Int.reduceLE, Int.reduceNeg, Int.reduceToNat, reduceCtorEq]; with_reducible rfl) (by simp only [go_sem, ↓reduceIte, reduceIte, Nat.reduceEqDiff, Nat.reduceLT, Nat.reduceLeDiff, Nat.reduceAdd, Nat.reduceSub, Nat.reduceMul, Nat.reduceDiv, Nat.reduceMod, Nat.reduceBEq, Int.reduceEq, Int.reduceLT, Int.reduceLE, Int.reduceNeg, Int.reduceToNat, reduceCtorEq]; with_reducible rfl) (by simp only [go_sem, ↓reduceIte, reduceIte, Nat.reduceEqDiff, Nat.reduceLT, Nat.reduceLeDiff, Nat.reduceAdd, Nat.reduceSub, Nat.reduceMul, Nat.reduceDiv, Nat.reduceMod, Nat.reduceBEq, Int.reduceEq, Int.reduceLT, Int.reduceLE, Int.reduceNeg, Int.reduceToNat, reduceCtorEq]; with_reducible rfl), i + 1, _, rfl, rfl, by omega, hnx.symm, fun j hj h => by
            by_cases e : j = i
            · subst e; rw [hat]; omega
            · exact hA j hj (by omega)⟩
  · obtain rfl : i = coefs.length := by omega
    rw [List.take_length] at hq
    have hall : szAll coefs = true := List.all_eq_true.2 fun x hx => by
      obtain ⟨j, hj, rfl⟩ := List.mem_iff_getElem.1 hx
      simpa using hA j hj hj
    unfold sizeT
    rw [if_pos hall, ← hq]
    repeat' (first | (with_reducible first | refine SW_seq ?_ | refine SW_block ?_ | refine SThen_n ?_ | refine SThen_r ?_ | refine SThen_e ?_ | refine SIn_n ?_ | refine SIn_r ?_ | refine SIn_eq ?_ | refine SW_skip ?_ | refine SW_exit ?_ | refine SW_ret ?_ | refine SPost_r ?_) | ((with_reducible refine SIn_ne ?_ ?_); focus decide) | ((with_reducible refine SW_true ?_ ?_); focus exact rfl) | ((with_reducible refine SW_false ?_ ?_); focus exact rfl) | ((first | (with_reducible apply SW_run tt_ok hG htb) | ((with_reducible apply SW_draw rfl tt_ok hG htb); (focus kernel_rfl); (focus (simp only [List.range, List.range.loop, List.size_toArray, List.length_cons, List.length_nil, Nat.reduceAdd])))); focus ((repeat' (first | (with_reducible exact runX_nil) | (with_reducible exact runI_nil) | ((first | (with_reducible apply runX_cons) | (with_reducible apply runI_cons)); focus (simp (discharger := omega) only [go_sem, ↓reduceIte, reduceIte, Nat.reduceEqDiff, Nat.reduceLT, Nat.reduceLeDiff, Nat.reduceAdd, Nat.reduceSub, Nat.reduceMul, Nat.reduceDiv, Nat.reduceMod, Nat.reduceBEq, Int.reduceEq, Int.reduceLT, Int.reduceLE, Int.reduceNeg, Int.reduceToNat, reduceCtorEq]; with_reducible rfl)))); done)))
    exact (by simp (discharger := omega) only [go_sem, ↓reduceIte, reduceIte, Nat.reduceEqDiff, Nat.reduceLT, Nat.reduceLeDiff, Nat.reduceAdd, Nat.reduceSub, Nat.reduceMul, Nat.reduceDiv, Nat.reduceMod, Nat.reduceBEq, Int.reduceEq, Int.reduceLT, Int.reduceLE, Int.reduceNeg, Int.reduceToNat, reduceCtorEq])
set_option maxHeartbeats 4000000 in
theorem StepF_snd (base far ov un : Int) (hov : ov = far + 1) (hun : un = -far - 1) (p : Int × Int) (e : Int) (hr : radix base ≠ 0) (hf : 0 ≤ far ∧ far ≤ 97) (he : -60 ≤ e ∧ e ≤ 60) (h1 : -98 ≤ p.1 ∧ p.1 ≤ 98) (h2 : -109 ≤ p.2 ∧ p.2 ≤ 109) :
    Snd Try.prog G 47 [tPair p, tInt e, .ptr [tInt ov, tInt 0], .ptr [tInt un, tInt 0], .ptr [tInt base], .ptr [tInt far]] (tPair (lnCut far base p e)) := by
  have htb : Tab.ok Try.prog G [] := Tab.nil
  obtain ⟨x, y⟩ := p
  simp only at h1 h2
  have hbr := radix_pos hr
  have hb6 : 1 ≤ base ∧ base ≤ 6 := by omega
  have hng : IntKind.i64.wrap (0 - far) = -far := by rw [wrap_i64 _ (by omega)]; omega
  have hxb : -588 ≤ x * base ∧ x * base ≤ 588 := by
    have : base = 1 ∨ base = 2 ∨ base = 3 ∨ base = 4 ∨ base = 5 ∨ base = 6 := by omega
    rcases this with rfl | rfl | rfl | rfl | rfl | rfl <;> omega
  refine snd_of_body (n := 54) (tm := [(0, .t (tPair (x, y))), (1, .t (tInt e)), (2, .t (.ptr [tInt ov, tInt 0])), (3, .t (.ptr [tInt un, tInt 0])), (4, .t (.ptr [tInt base])), (5, .t (.ptr [tInt far]))]) (rs := [.cell 8 92]) tt_ok Try.func47 rfl rfl rfl rfl rfl ?_
  by_cases hc1 : x = ov ∧ y = 0
  · obtain ⟨rfl, rfl⟩ := hc1
    have e1 : lnCut far base (x, 0) e = (x, 0) := by unfold lnCut; rw [if_pos (.inl (by rw [hov]))]
    rw [e1]
    repeat' (first | (with_reducible first | refine SW_seq ?_ | refine SW_block ?_ | refine SThen_n ?_ | refine SThen_r ?_ | refine SThen_e ?_ | refine SIn_n ?_ | refine SIn_r ?_ | refine SIn_eq ?_ | refine SW_skip ?_ | refine SW_exit ?_ | refine SW_ret ?_ | refine SPost_r ?_) | ((with_reducible refine SIn_ne ?_ ?_); focus decide) | ((with_reducible refine SW_true ?_ ?_); focus exact rfl) | ((with_reducible refine SW_false ?_ ?_); focus exact rfl) | ((first | (with_reducible apply SW_run tt_ok hG htb) | ((with_reducible apply SW_draw rfl tt_ok hG htb); (focus kernel_rfl); (focus (simp only [List.range, List.range.loop, List.size_toArray, List.length_cons, List.length_nil, Nat.reduceAdd])))); focus ((repeat' (first | (with_reducible exact runX_nil) | (with_reducible exact runI_nil) | ((first | (with_reducible apply runX_cons) | (with_reducible apply runI_cons)); focus (simp (discharger := omega) only [go_sem, tPair, ↓reduceIte, reduceIte, Nat.reduceEqDiff, Nat.reduceLT, Nat.reduceLeDiff, Nat.reduceAdd, Nat.reduceSub, Nat.reduceMul, Nat.reduceDiv, Nat.reduceMod, Nat.reduceBEq, Int.reduceEq, Int.reduceLT, Int.reduceLE, Int.reduceNeg, Int.reduceToNat, reduceCtorEq]; with_reducible rfl)))); done)))
    exact (by simp (discharger := omega) only [go_sem, tPair, ↓reduceIte, reduceIte, Nat.reduceEqDiff, Nat.reduceLT, Nat.reduceLeDiff, Nat.reduceAdd, Nat.reduceSub, Nat.reduceMul, Nat.reduceDiv, Nat.reduceMod, Nat.reduceBEq, Int.reduceEq, Int.reduceLT, Int.reduceLE, Int.reduceNeg, Int.reduceToNat, reduceCtorEq])
  · by_cases hc2 : x = un ∧ y = 0
    · obtain ⟨rfl, rfl⟩ := hc2
      have hne : ¬ x = ov := by omega
      have e1 : lnCut far base (x, 0) e = (x, 0) := by unfold lnCut; rw [if_pos (.inr (by rw [hun]))]
      rw [e1]
      repeat' (first | (with_reducible first | refine SW_seq ?_ | refine SW_block ?_ | refine SThen_n ?_ | refine SThen_r ?_ | refine SThen_e ?_ | refine SIn_n ?_ | refine SIn_r ?_ | refine SIn_eq ?_ | refine SW_skip ?_ | refine SW_exit ?_ | refine SW_ret ?_ | refine SPost_r ?_) | ((with_reducible refine SIn_ne ?_ ?_); focus decide) | ((with_reducible refine SW_true ?_ ?_); focus exact rfl) | ((with_reducible refine SW_false ?_ ?_); focus exact rfl) | ((first | (with_reducible apply SW_run tt_ok hG htb) | ((with_reducible apply SW_draw rfl tt_ok hG htb); (focus kernel_rfl); (focus (simp only [List.range, List.range.loop, List.size_toArray, List.length_cons, List.length_nil, Nat.reduceAdd])))); focus ((repeat' (first | (with_reducible exact runX_nil) | (with_reducible exact runI_nil) | ((first | (with_reducible apply runX_cons) | (with_reducible apply runI_cons)); focus (simp (discharger := omega) only [go_sem, tPair, hne, ↓reduceIte, reduceIte, Nat.reduceEqDiff, Nat.reduceLT, Nat.reduceLeDiff, Nat.reduceAdd, Nat.reduceSub, Nat.reduceMul, Nat.reduceDiv, Nat.reduceMod, Nat.reduceBEq, Int.reduceEq, Int.reduceLT, Int.reduceLE, Int.reduceNeg, Int.reduceToNat, reduceCtorEq]; with_reducible rfl)))); done)))
      exact (by simp (discharger := omega) only [go_sem, tPair, ↓reduceIte, reduceIte, Nat.reduceEqDiff, Nat.reduceLT, Nat.reduceLeDiff, Nat.reduceAdd, Nat.reduceSub, Nat.reduceMul, Nat.reduceDiv, Nat.reduceMod, Nat.reduceBEq, Int.reduceEq, Int.reduceLT, Int.reduceLE, Int.reduceNeg, Int.reduceToNat, reduceCtorEq])
    · have hcut : lnCut far base (x, y) e = lnCap far (lnStep base (x, y) e) := by
        unfold lnCut
        rw [if_neg]
        simp only [Prod.mk.injEq]
        omega
      have hd1 : (decide (x = ov) && decide (y = 0)) = false := by
        rw [← Bool.decide_and]; exact decide_eq_false hc1
      have hd2 : (decide (x = un) && decide (y = 0)) = false := by
        rw [← Bool.decide_and]; exact decide_eq_false hc2
      rw [hcut]
      by_cases hb : base = 1
      · subst hb
        have e1 : lnStep 1 (x, y) e = (x + y + e, x + e) := rfl
        rw [e1]
        unfold lnCap
        by_cases hg1 : far < x + y + e
        · rw [if_pos hg1, ← hov]
          skip
          repeat' (first | (with_reducible first | refine SW_seq ?_ | refine SW_block ?_ | refine SThen_n ?_ | refine SThen_r ?_ | refine SThen_e ?_ | refine SIn_n ?_ | refine SIn_r ?_ | refine SIn_eq ?_ | refine SW_skip ?_ | refine SW_exit ?_ | refine SW_ret ?_ | refine SPost_r ?_) | ((with_reducible refine SIn_ne ?_ ?_); focus decide) | ((with_reducible refine SW_true ?_ ?_); focus exact rfl) | ((with_reducible refine SW_false ?_ ?_); focus exact rfl) | ((first | (with_reducible apply SW_run tt_ok hG htb) | ((with_reducible apply SW_draw rfl tt_ok hG htb); (focus kernel_rfl); (focus (simp only [List.range, List.range.loop, List.size_toArray, List.length_cons, List.length_nil, Nat.reduceAdd])))); focus ((repeat' (first | (with_reducible exact runX_nil) | (with_reducible exact runI_nil) | ((first | (with_reducible apply runX_cons) | (with_reducible apply runI_cons)); focus (simp (discharger := omega) only [go_sem, tPair, hd1, hd2, hng, ↓reduceIte, reduceIte, Nat.reduceEqDiff, Nat.reduceLT, Nat.reduceLeDiff, Nat.reduceAdd, Nat.reduceSub, Nat.reduceMul, Nat.reduceDiv, Nat.reduceMod, Nat.reduceBEq, Int.reduceEq, Int.reduceLT, Int.reduceLE, Int.reduceNeg, Int.reduceToNat, reduceCtorEq]; with_reducible rfl)))); done)))
          exact (by simp (discharger := omega) only [go_sem, tPair, ↓reduceIte, reduceIte, Nat.reduceEqDiff, Nat.reduceLT, Nat.reduceLeDiff, Nat.reduceAdd, Nat.reduceSub, Nat.reduceMul, Nat.reduceDiv, Nat.reduceMod, Nat.reduceBEq, Int.reduceEq, Int.reduceLT, Int.reduceLE, Int.reduceNeg, Int.reduceToNat, reduceCtorEq])
        · rw [if_neg hg1]
          by_cases hg2 : x + y + e < -far
          · rw [if_pos hg2, ← hun]
            repeat' (first | (with_reducible first | refine SW_seq ?_ | refine SW_block ?_ | refine SThen_n ?_ | refine SThen_r ?_ | refine SThen_e ?_ | refine SIn_n ?_ | refine SIn_r ?_ | refine SIn_eq ?_ | refine SW_skip ?_ | refine SW_exit ?_ | refine SW_ret ?_ | refine SPost_r ?_) | ((with_reducible refine SIn_ne ?_ ?_); focus decide) | ((with_reducible refine SW_true ?_ ?_); focus exact rfl) | ((with_reducible refine SW_false ?_ ?_); focus exact rfl) | ((first | (with_reducible apply SW_run tt_ok hG htb) | ((with_reducible apply SW_draw rfl tt_ok hG htb); (focus kernel_rfl); (focus (simp only [List.range, List.range.loop, List.size_toArray, List.length_cons, List.length_nil, Nat.reduceAdd])))); focus ((repeat' (first | (with_reducible exact runX_nil) | (with_reducible exact runI_nil) | ((first | (with_reducible apply runX_cons) | (with_reducible apply runI_cons)); focus (simp (discharger := omega) only [go_sem, tPair, hd1, hd2, hng, ↓reduceIte, reduceIte, Nat.reduceEqDiff, Nat.reduceLT, Nat.reduceLeDiff, Nat.reduceAdd, Nat.reduceSub, Nat.reduceMul, Nat.reduceDiv, Nat.reduceMod, Nat.reduceBEq, Int.reduceEq, Int.reduceLT, Int.reduceLE, Int.reduceNeg, Int.reduceToNat, reduceCtorEq]; with_reducible rfl)))); done)))
            exact (by simp (discharger := omega) only [go_sem, tPair, ↓reduceIte, reduceIte, Nat.reduceEqDiff, Nat.reduceLT, Nat.reduceLeDiff, Nat.reduceAdd, Nat.reduceSub, Nat.reduceMul, Nat.reduceDiv, Nat.reduceMod, Nat.reduceBEq, Int.reduceEq, Int.reduceLT, Int.reduceLE, Int.reduceNeg, Int.reduceToNat, reduceCtorEq])
          · rw [if_neg hg2]
            repeat' (first | (with_reducible first | refine SW_seq ?_ | refine SW_block ?_ | refine SThen_n ?_ | refine SThen_r ?_ | refine SThen_e ?_ | refine SIn_n ?_ | refine SIn_r ?_ | refine SIn_eq ?_ | refine SW_skip ?_ | refine SW_exit ?_ | refine SW_ret ?_ | refine SPost_r ?_) | ((with_reducible refine SIn_ne ?_ ?_); focus decide) | ((with_reducible refine SW_true ?_ ?_); focus exact rfl) | ((with_reducible refine SW_false ?_ ?_); focus exact rfl) | ((first | (with_reducible apply SW_run tt_ok hG htb) | ((with_reducible apply SW_draw rfl tt_ok hG htb); (focus kernel_rfl); (focus (simp only [List.range, List.range.loop, List.size_toArray, List.length_cons, List.length_nil, Nat.reduceAdd])))); focus ((repeat' (first | (with_reducible exact runX_nil) | (with_reducible exact runI_nil) | ((first | (with_reducible apply runX_cons) | (with_reducible apply runI_cons)); focus (simp (discharger := omega) only [go_sem, tPair, hd1, hd2, hng, ↓reduceIte, reduceIte, Nat.reduceEqDiff, Nat.reduceLT, Nat.reduceLeDiff, Nat.reduceAdd, Nat.reduceSub, Nat.reduceMul, Nat.reduceDiv, Nat.reduceMod, Nat.reduceBEq, Int.reduceEq, Int.reduceLT, Int.reduceLE, Int.reduceNeg, Int.reduceToNat, reduceCtorEq]; with_reducible rfl)))); done)))
            exact (by simp (discharger := omega) only [go_sem, tPair, ↓reduceIte, reduceIte, Nat.reduceEqDiff, Nat.reduceLT, Nat.reduceLeDiff, Nat.reduceAdd, Nat.reduceSub, Nat.reduceMul, Nat.reduceDiv, Nat.reduceMod, Nat.reduceBEq, Int.reduceEq, Int.reduceLT, Int.reduceLE, Int.reduceNeg, Int.reduceToNat, reduceCtorEq])
      · have e1 : lnStep base (x, y) e = (x * base + e, 0) := by unfold lnStep; rw [if_neg hb]
        rw [e1]
        unfold lnCap
        by_cases hg1 : far < x * base + e
        · rw [if_pos hg1, ← hov]
          repeat' (first | (with_reducible first | refine SW_seq ?_ | refine SW_block ?_ | refine SThen_n ?_ | refine SThen_r ?_ | refine SThen_e ?_ | refine SIn_n ?_ | refine SIn_r ?_ | refine SIn_eq ?_ | refine SW_skip ?_ | refine SW_exit ?_ | refine SW_ret ?_ | refine SPost_r ?_) | ((with_reducible refine SIn_ne ?_ ?_); focus decide) | ((with_reducible refine SW_true ?_ ?_); focus exact rfl) | ((with_reducible refine SW_false ?_ ?_); focus exact rfl) | ((first | (with_reducible apply SW_run tt_ok hG htb) | ((with_reducible apply SW_draw rfl tt_ok hG htb); (focus kernel_rfl); (focus (simp only [List.range, List.range.loop, List.size_toArray, List.length_cons, List.length_nil, Nat.reduceAdd])))); focus ((repeat' (first | (with_reducible exact runX_nil) | (with_reducible exact runI_nil) | ((first | (with_reducible apply runX_cons) | (with_reducible apply runI_cons)); focus (simp (discharger := omega) only [go_sem, tPair, hd1, hd2, hng, hb, ↓reduceIte, reduceIte, Nat.reduceEqDiff, Nat.reduceLT, Nat.reduceLeDiff, Nat.reduceAdd, Nat.reduceSub, Nat.reduceMul, Nat.reduceDiv, Nat.reduceMod, Nat.reduceBEq, Int.reduceEq, Int.reduceLT, Int.reduceLE, Int.reduceNeg, Int.reduceToNat, reduceCtorEq]; with_reducible rfl)))); done)))
          exact (by simp (discharger := omega) only [go_sem, tPair, ↓reduceIte, reduceIte, Nat.reduceEqDiff, Nat.reduceLT, Nat.reduceLeDiff, Nat.reduceAdd, Nat.reduceSub, Nat.reduceMul, Nat.reduceDiv, Nat.reduceMod, Nat.reduceBEq, Int.reduceEq, Int.reduceLT, Int.reduceLE, Int.reduceNeg, Int.reduceToNat, reduceCtorEq])
        · rw [if_neg hg1]
          by_cases hg2 : x * base + e < -far
          · rw [if_pos hg2, ← hun]
            repeat' (first | (with_reducible first | refine SW_seq ?_ | refine SW_block ?_ | refine SThen_n ?_ | refine SThen_r ?_ | refine SThen_e ?_ | refine SIn_n ?_ | refine SIn_r ?_ | refine SIn_eq ?_ | refine SW_skip ?_ | refine SW_exit ?_ | refine SW_ret ?_ | refine SPost_r ?_) | ((with_reducible refine SIn_ne ?_ ?_); focus decide) | ((with_reducible refine SW_true ?_ ?_); focus exact rfl) | ((with_reducible refine SW_false ?_ ?_); focus exact rfl) | ((first | (with_reducible apply SW_run tt_ok hG htb) | ((with_reducible apply SW_draw rfl tt_ok hG htb); (focus kernel_rfl); (focus (simp only [List.range, List.range.loop, List.size_toArray, List.length_cons, List.length_nil, Nat.reduceAdd])))); focus ((repeat' (first | (with_reducible exact runX_nil) | (with_reducible exact runI_nil) | ((first | (with_reducible apply runX_cons) | (with_reducible apply runI_cons)); focus (simp (discharger := omega) only [go_sem, tPair, hd1, hd2, hng, hb, ↓reduceIte, reduceIte, Nat.reduceEqDiff, Nat.reduceLT, Nat.reduceLeDiff, Nat.reduceAdd, Nat.reduceSub, Nat.reduceMul, Nat.reduceDiv, Nat.reduceMod, Nat.reduceBEq, Int.reduceEq, Int.reduceLT, Int.reduceLE, Int.reduceNeg, Int.reduceToNat, reduceCtorEq]; with_reducible rfl)))); done)))
            exact (by simp (discharger := omega) only [go_sem, tPair, ↓reduceIte, reduceIte, Nat.reduceEqDiff, Nat.reduceLT, Nat.reduceLeDiff, Nat.reduceAdd, Nat.reduceSub, Nat.reduceMul, Nat.reduceDiv, Nat.reduceMod, Nat.reduceBEq, Int.reduceEq, Int.reduceLT, Int.reduceLE, Int.reduceNeg, Int.reduceToNat, reduceCtorEq])
          · rw [if_neg hg2]
            repeat' (first | (with_reducible first | refine SW_seq ?_ | refine SW_block ?_ | refine SThen_n ?_ | refine SThen_r ?_ | refine SThen_e ?_ | refine SIn_n ?_ | refine SIn_r ?_ | refine SIn_eq ?_ | refine SW_skip ?_ | refine SW_exit ?_ | refine SW_ret ?_ | refine SPost_r ?_) | ((with_reducible refine SIn_ne ?_ ?_); focus decide) | ((with_reducible refine SW_true ?_ ?_); focus exact rfl) | ((with_reducible refine SW_false ?_ ?_); focus exact rfl) | ((first | (with_reducible apply SW_run tt_ok hG htb) | ((with_reducible apply SW_draw rfl tt_ok hG htb); (focus kernel_rfl); (focus (simp only [List.range, List.range.loop, List.size_toArray, List.length_cons, List.length_nil, Nat.reduceAdd])))); focus ((repeat' (first | (with_reducible exact runX_nil) | (with_reducible exact runI_nil) | ((first | (with_reducible apply runX_cons) | (with_reducible apply runI_cons)); focus (simp (discharger := omega) only [go_sem, tPair, hd1, hd2, hng, hb, ↓reduceIte, reduceIte, Nat.reduceEqDiff, Nat.reduceLT, Nat.reduceLeDiff, Nat.reduceAdd, Nat.reduceSub, Nat.reduceMul, Nat.reduceDiv, Nat.reduceMod, Nat.reduceBEq, Int.reduceEq, Int.reduceLT, Int.reduceLE, Int.reduceNeg, Int.reduceToNat, reduceCtorEq]; with_reducible rfl)))); done)))
            exact (by simp (discharger := omega) only [go_sem, tPair, ↓reduceIte, reduceIte, Nat.reduceEqDiff, Nat.reduceLT, Nat.reduceLeDiff, Nat.reduceAdd, Nat.reduceSub, Nat.reduceMul, Nat.reduceDiv, Nat.reduceMod, Nat.reduceBEq, Int.reduceEq, Int.reduceLT, Int.reduceLE, Int.reduceNeg, Int.reduceToNat, reduceCtorEq])
set_option maxHeartbeats 8000000 in
set_option maxRecDepth 100000 in
theorem LBoth_snd (base : Int) {t n ma mr : Nat} {A R : List (List Int)} {E RE : List Bool} (h0 : manyErr base t = 0) (hn : manyOf base t = n) (hA : Rows0 n ma A) (hE : E.length = ma) (hm : 0 < ma ∧ ma ≤ 50000)
    (hall : allA base t = ⟨base, t, R, RE⟩) (hmr : R.length = mr) (hcl : (leastL n fun w => lang A E 0 w && rightWd base t w).1.length ≤ 65536) :
    Snd Try.prog G 48 [tInt base, tInt t, tIntss A, tBools E] (.tup [tAuto (autoL base t n (fun w => lang A E 0 w && rightWd base t w)), tErr (errL n (fun w => lang A E 0 w && rightWd base t w))]) := by
  have c1 := All_snd (G := G) hG base t
  rw [h0, hall] at c1
  have gall := allA_good h0 hn
  have hlall := (allA_isLeast h0 hn).1
  have h37 := (allA_isLeast h0 hn).2
  rw [hall] at gall hlall h37
  have hR : Rows0 n mr R := by have := gall.rows; rw [← hmr]; exact this
  have hRE : RE.length = mr := by have := gall.ends; rw [← hmr]; exact this
  have hm0 : 0 < mr := by rw [← hmr]; exact gall.m0
  have hn36 := gall.n36
  have hn0 := gall.n0
  simp only at h37
  have hla := hA.len
  have hmm : ma * mr ≤ 50000 * 37 := Nat.mul_le_mul hm.2 (by omega)
  have htb := Tab.cons c1 Tab.nil
  refine snd_of_body (n := 135) (tm := [(0, .t (tInt base)), (1, .t (tInt t)), (2, .t (tIntss A)), (3, .t (tBools E))]) (rs := [.cell 8 44, .tmp 9]) tt_ok Try.func48 rfl rfl rfl rfl rfl ?_
  repeat' (first | (with_reducible first | refine SW_seq ?_ | refine SW_block ?_ | refine SThen_n ?_ | refine SThen_r ?_ | refine SThen_e ?_ | refine SIn_n ?_ | refine SIn_r ?_ | refine SIn_eq ?_ | refine SW_skip ?_ | refine SW_exit ?_ | refine SW_ret ?_ | refine SPost_r ?_) | ((with_reducible refine SIn_ne ?_ ?_); focus decide) | ((with_reducible refine SW_true ?_ ?_); focus exact rfl) | ((with_reducible refine SW_false ?_ ?_); focus exact rfl) | ((first | (with_reducible apply SW_run tt_ok hG htb) | ((with_reducible apply SW_draw rfl tt_ok hG htb); (focus kernel_rfl); (focus (simp only [List.range, List.range.loop, List.size_toArray, List.length_cons, List.length_nil, Nat.reduceAdd])))); focus ((repeat' (first | (with_reducible exact runX_nil) | (with_reducible exact runI_nil) | ((first | (with_reducible apply runX_cons) | (with_reducible apply runI_cons)); focus (simp (discharger := omega) only [go_sem, tAuto, tErr, ↓reduceIte, reduceIte, Nat.reduceEqDiff, Nat.reduceLT, Nat.reduceLeDiff, Nat.reduceAdd, Nat.reduceSub, Nat.reduceMul, Nat.reduceDiv, Nat.reduceMod, Nat.reduceBEq, Int.reduceEq, Int.reduceLT, Int.reduceLE, Int.reduceNeg, Int.reduceToNat, reduceCtorEq]; with_reducible rfl)))); done)))
  refine SW_loop (fun mm s => ∃ (i : Nat) (met : List (Int × Int)) (rows : List (List Int)) (es : List (T × T)) (at_ nt et : List T), mm = ma * mr - i ∧ s = ⟨135, [(0, .t (tInt base)), (1, .t (tInt t)), (2, .t (tIntss A)), (3, .t (tBools E)), (8, .bptr 0 0), (10, .bptr 1 0), (12, .map 2), (13, .sref 3), (14, .sref 4), (15, .sref 5), (16, .t (tNat i))], [.box [.t (tInt 0), .t (tInt 0), .nil, .nil], .box [.t (tInt base), .t (tInt t), .t (tIntss R), .t (tBools RE)], .map (.ints 2) es, .row 120 2 false at_, .row 24 1 false nt, .row 4 1 false et]⟩ ∧ es = keyEntries tPair met ∧ at_ = met.map tPair ∧ nt = rows.map tInts ∧ et = (met.take i).map (fun p => T.bool (endOf E p.1 && endOf RE p.2)) ∧ met.Nodup ∧ (∀ p ∈ met, (0 ≤ p.1 ∧ p.1 < (ma : Int)) ∧ 0 ≤ p.2 ∧ p.2 < (mr : Int)) ∧ met[0]? = some (0, 0) ∧ Expl (pst (rowsA base t A E) (rowsA base t R RE)) n met rows ∧ rows.length = i ∧ i ≤ met.length) (ma * mr)
    ⟨_, Norm.headS (own := [(13, 120, 2, false), (14, 24, 1, false), (15, 4, 1, false)]) (keep := [0, 1, 2, 3, 8, 10, 12, 13, 14, 15, 16]) (by simp (discharger := omega) only [go_sem, ↓reduceIte, reduceIte, Nat.reduceEqDiff, Nat.reduceLT, Nat.reduceLeDiff, Nat.reduceAdd, Nat.reduceSub, Nat.reduceMul, Nat.reduceDiv, Nat.reduceMod, Nat.reduceBEq, Int.reduceEq, Int.reduceLT, Int.reduceLE, Int.reduceNeg, Int.reduceToNat, reduceCtorEq]; with_reducible rfl) (by simp only [go_sem, ↓reduceIte, reduceIte, Nat.reduceEqDiff, Nat.reduceLT, Nat.reduceLeDiff, Nat.reduceAdd, Nat.reduceSub, Nat.reduceMul, Nat.reduceDiv, Nat.reduceMod, Nat.reduceBEq, Int.reduceEq, Int.reduceLT, Int.reduceLE, Int.reduceNeg, Int.reduceToNat, reduceCtorEq]; with_reducible rfl) (by simp only [go_sem, ↓reduceIte, reduceIte, Nat.reduceEqDiff, Nat.reduceLT, Nat.reduceLeDiff, Nat.reduceAdd, Nat.reduceSub, Nat.reduceMul, Nat.reduceDiv, Nat.reduceMod, Nat.reduceBEq, Int.reduceEq, Int.reduceLT, Int.reduceLE, Int.reduceNeg, Int.reduceToNat, reduceCtorEq]; with_reducible rfl) (by simp only [go_sem, ↓reduceIte, reduceIte, Nat.reduceEqDiff, Nat.reduceLT, Nat.reduceLeDiff, Nat.reduceAdd, Nat.reduceSub, Nat.reduceMul, Nat.reduceDiv, Nat.reduceMod, Nat.reduceBEq, Int.reduceEq, Int.reduceLT, Int.reduceLE, Int.reduceNeg, Int.reduceToNat, reduceCtorEq]; with_reducible rfl) (by simp only [go_sem, ↓reduceIte, reduceIte, Nat.reduceEqDiff, Nat.reduceLT, Nat.reduceLeDiff, Nat.reduceAdd, Nat.reduceSub, Nat.reduceMul, Nat.reduceDiv, Nat.reduceMod, Nat.reduceBEq, Int.reduceEq, Int.reduceLT, Int.reduceLE, Int.reduceNeg, Int.reduceToNat, reduceCtorEq]; with_reducible rfl), 0, [(0, 0)], [], _, _, _, _, rfl, rfl, rfl, rfl, rfl, rfl, by simp, fun p hp => by simp at hp; subst hp; exact ⟨⟨by simp only; omega, by simp only; omega⟩, by simp only; omega, by simp only; omega⟩, rfl, Expl.nil, rfl, by simp⟩ ?_
  clear htb
  have htb : Tab.ok Try.prog G [] := Tab.nil
  rintro mm s ⟨i, met, rows, es, at_, nt, et, rfl, rfl, hes, rfl, rfl, rfl, hnd, hrg, hz, hex, hrl, hi⟩
  have hml := pairs_bound hnd hrg
  have hetl : ((met.take i).map (fun p => T.bool (endOf E p.1 && endOf RE p.2))).length = i := by simp; omega
  by_cases hlt : i < met.length
  · obtain ⟨⟨x, y⟩, hat⟩ : ∃ p, met[i]! = p := ⟨_, rfl⟩
    have hio : met[i]? = some (x, y) := bang_get hat hlt
    obtain ⟨hxr, hyr⟩ := hrg _ (List.mem_of_getElem? hio)
    simp only at hxr hyr
    obtain ⟨ra, hra⟩ : ∃ r, A[x.toNat]! = r := ⟨_, rfl⟩
    obtain ⟨rb, hrb⟩ : ∃ r, R[y.toNat]! = r := ⟨_, rfl⟩
    have hra2 : rowOf A x = ra := by unfold rowOf; exact bang_D hra (by omega)
    have hrb2 : rowOf R y = rb := by unfold rowOf; exact bang_D hrb (by omega)
    have hram := bang_mem hra (by omega)
    have hrbm := bang_mem hrb (by omega)
    have hran := hA.row _ hram
    have hrbn := hR.row _ hrbm
    repeat' (first | (with_reducible first | refine SW_seq ?_ | refine SW_block ?_ | refine SThen_n ?_ | refine SThen_r ?_ | refine SThen_e ?_ | refine SIn_n ?_ | refine SIn_r ?_ | refine SIn_eq ?_ | refine SW_skip ?_ | refine SW_exit ?_ | refine SW_ret ?_ | refine SPost_r ?_) | ((with_reducible refine SIn_ne ?_ ?_); focus decide) | ((with_reducible refine SW_true ?_ ?_); focus exact rfl) | ((with_reducible refine SW_false ?_ ?_); focus exact rfl) | ((first | (with_reducible apply SW_run tt_ok hG htb) | ((with_reducible apply SW_draw rfl tt_ok hG htb); (focus kernel_rfl); (focus (simp only [List.range, List.range.loop, List.size_toArray, List.length_cons, List.length_nil, Nat.reduceAdd])))); focus ((repeat' (first | (with_reducible exact runX_nil) | (with_reducible exact runI_nil) | ((first | (with_reducible apply runX_cons) | (with_reducible apply runI_cons)); focus (simp (discharger := omega) only [go_sem, tPair, hat, hra, hran, ↓reduceIte, reduceIte, Nat.reduceEqDiff, Nat.reduceLT, Nat.reduceLeDiff, Nat.reduceAdd, Nat.reduceSub, Nat.reduceMul, Nat.reduceDiv, Nat.reduceMod, Nat.reduceBEq, Int.reduceEq, Int.reduceLT, Int.reduceLE, Int.reduceNeg, Int.reduceToNat, reduceCtorEq]; with_reducible rfl)))); done)))
    generalize hetE : (met.take i).map (fun p => T.bool (endOf E p.1 && endOf RE p.2)) = et at hetl
    refine SW_loop (fun mm s => ∃ (l : Nat) (met' : List (Int × Int)) (q : List Nat) (es : List (T × T)) (at_ qt : List T), mm = n - l ∧ s = ⟨135, [(0, .t (tInt base)), (1, .t (tInt t)), (2, .t (tIntss A)), (3, .t (tBools E)), (8, .bptr 0 0), (10, .bptr 1 0), (12, .map 2), (13, .sref 3), (14, .sref 4), (15, .sref 5), (16, .t (tNat i)), (17, .sref 6), (53, .t (tInts ra)), (54, .t (tNat n)), (55, .t (tNat l))], [.box [.t (tInt 0), .t (tInt 0), .nil, .nil], .box [.t (tInt base), .t (tInt t), .t (tIntss R), .t (tBools RE)], .map (.ints 2) es, .row 120 2 false at_, .row 24 1 false (rows.map tInts), .row 4 1 false et, .row 3 1 false qt]⟩ ∧ es = keyEntries tPair met' ∧ at_ = met'.map tPair ∧ qt = q.map tNat ∧ met'.Nodup ∧ (∀ p ∈ met', (0 ≤ p.1 ∧ p.1 < (ma : Int)) ∧ 0 ≤ p.2 ∧ p.2 < (mr : Int)) ∧ Met1 (pst (rowsA base t A E) (rowsA base t R RE)) (x, y) met met' q l ∧ l ≤ n) (n)
      ⟨_, Norm.headS (own := [(13, 120, 2, false), (14, 24, 1, false), (15, 4, 1, false), (17, 3, 1, false)]) (keep := [0, 1, 2, 3, 8, 10, 12, 13, 14, 15, 16, 17, 53, 54, 55]) (by simp (discharger := omega) only [go_sem, ↓reduceIte, reduceIte, Nat.reduceEqDiff, Nat.reduceLT, Nat.reduceLeDiff, Nat.reduceAdd, Nat.reduceSub, Nat.reduceMul, Nat.reduceDiv, Nat.reduceMod, Nat.reduceBEq, Int.reduceEq, Int.reduceLT, Int.reduceLE, Int.reduceNeg, Int.reduceToNat, reduceCtorEq]; with_reducible rfl) (by simp only [go_sem, ↓reduceIte, reduceIte, Nat.reduceEqDiff, Nat.reduceLT, Nat.reduceLeDiff, Nat.reduceAdd, Nat.reduceSub, Nat.reduceMul, Nat.reduceDiv, Nat.reduceMod, Nat.reduceBEq, Int.reduceEq, Int.reduceLT, Int.reduceLE, Int.reduceNeg, Int.reduceToNat, reduceCtorEq]; with_reducible rfl) (by simp only [go_sem, ↓reduceIte, reduceIte, Nat.reduceEqDiff, Nat.reduceLT, Nat.reduceLeDiff, Nat.reduceAdd, Nat.reduceSub, Nat.reduceMul, Nat.reduceDiv, Nat.reduceMod, Nat.reduceBEq, Int.reduceEq, Int.reduceLT, Int.reduceLE, Int.reduceNeg, Int.reduceToNat, reduceCtorEq]; with_reducible rfl) (by simp only [go_sem, ↓reduceIte, reduceIte, Nat.reduceEqDiff, Nat.reduceLT, Nat.reduceLeDiff, Nat.reduceAdd, Nat.reduceSub, Nat.reduceMul, Nat.reduceDiv, Nat.reduceMod, Nat.reduceBEq, Int.reduceEq, Int.reduceLT, Int.reduceLE, Int.reduceNeg, Int.reduceToNat, reduceCtorEq]; with_reducible rfl) (by simp only [go_sem, ↓reduceIte, reduceIte, Nat.reduceEqDiff, Nat.reduceLT, Nat.reduceLeDiff, Nat.reduceAdd, Nat.reduceSub, Nat.reduceMul, Nat.reduceDiv, Nat.reduceMod, Nat.reduceBEq, Int.reduceEq, Int.reduceLT, Int.reduceLE, Int.reduceNeg, Int.reduceToNat, reduceCtorEq]; with_reducible rfl), 0, met, [], _, _, _, rfl, rfl, hes, rfl, rfl, hnd, hrg, .start, Nat.zero_le _⟩ ?_
    clear hes
    rintro mm s ⟨l, met', q, es, at_, qt, rfl, rfl, hes, rfl, rfl, hnd', hrg', hM, hl⟩
    have hml' := pairs_bound hnd' hrg'
    have hel : es.length = met'.length := by rw [hes, keyEntries_length]
    have hql := hM.len
    have hio' := pre_get hM.pre hio
    have hlt' := (List.getElem?_eq_some_iff.1 hio').1
    have hat' : met'[i]! = (x, y) := by rw [getElem!_pos met' i hlt']; exact (List.getElem?_eq_some_iff.1 hio').2
    by_cases hlt2 : l < n
    · obtain ⟨u, hul⟩ : ∃ u, ra[l]! = u := ⟨_, rfl⟩
      obtain ⟨v, hvl⟩ : ∃ v, rb[l]! = v := ⟨_, rfl⟩
      have hu := hA.ok _ hram _ (bang_mem hul (by omega))
      have hv := hR.ok _ hrbm _ (bang_mem hvl (by omega))
      have hps : (pst (rowsA base t A E) (rowsA base t R RE)) (x, y) l = (u, v) := by
        show (nx A x l, nx R y l) = (u, v)
        simp only [nx, hra2, hrb2, bang_D hul (show l < ra.length by omega), bang_D hvl (show l < rb.length by omega)]
      by_cases hx : (u, v) ∈ met'
      · obtain ⟨kk, hk⟩ := List.mem_iff_getElem?.1 hx
        have hget : mapGet es (.agg [.int .i64 u, .int .i64 v]) = some (tNat kk) := by rw [hes]; exact keyEntries_get_some (f := tPair) tPair_inj' hnd' hk
        repeat' (first | (with_reducible first | refine SW_seq ?_ | refine SW_block ?_ | refine SThen_n ?_ | refine SThen_r ?_ | refine SThen_e ?_ | refine SIn_n ?_ | refine SIn_r ?_ | refine SIn_eq ?_ | refine SW_skip ?_ | refine SW_exit ?_ | refine SW_ret ?_ | refine SPost_r ?_) | ((with_reducible refine SIn_ne ?_ ?_); focus decide) | ((with_reducible refine SW_true ?_ ?_); focus exact rfl) | ((with_reducible refine SW_false ?_ ?_); focus exact rfl) | ((first | (with_reducible apply SW_run tt_ok hG htb) | ((with_reducible apply SW_draw rfl tt_ok hG htb); (focus kernel_rfl); (focus (simp only [List.range, List.range.loop, List.size_toArray, List.length_cons, List.length_nil, Nat.reduceAdd])))); focus ((repeat' (first | (with_reducible exact runX_nil) | (with_reducible exact runI_nil) | ((first | (with_reducible apply runX_cons) | (with_reducible apply runI_cons)); focus (simp (discharger := omega) only [go_sem, tPair, hat', hrb, hul, hvl, hget, ↓reduceIte, reduceIte, Nat.reduceEqDiff, Nat.reduceLT, Nat.reduceLeDiff, Nat.reduceAdd, Nat.reduceSub, Nat.reduceMul, Nat.reduceDiv, Nat.reduceMod, Nat.reduceBEq, Int.reduceEq, Int.reduceLT, Int.reduceLE, Int.reduceNeg, Int.reduceToNat, reduceCtorEq]; with_reducible rfl)))); done)))
        exact ⟨n - (l + 1), _, by omega, Norm.headS (own := [(13, 120, 2, false), (14, 24, 1, false), (15, 4, 1, false), (17, 3, 1, false)]) (keep := [0, 1, 2, 3, 8, 10, 12, 13, 14, 15, 16, 17, 53, 54, 55]) (by simp (discharger := omega) only [go_sem, ↓reduceIte, reduceIte, Nat.reduceEqDiff, Nat.reduceLT, Nat.reduceLeDiff, Nat.reduceAdd, Nat.reduceSub, Nat.reduceMul, Nat.reduceDiv, Nat.reduceMod, Nat.reduceBEq, Int.reduceEq, Int.reduceLT, Int.reduceLE, Int.reduceNeg, Int.reduceToNat, reduceCtorEq]; with_reducible rfl) (by simp only [go_sem, ↓reduceIte, reduceIte, Nat.reduceEqDiff, Nat.reduceLT, Nat.reduceLeDiff, Nat.reduceAdd, Nat.reduceSub, Nat.reduceMul, Nat.reduceDiv, Nat.reduceMod, Nat.reduceBEq, Int.reduceEq, Int.reduceLT, Int.reduceLE, Int.reduceNeg, Int.reduceToNat, reduceCtorEq]; with_reducible rfl) (by simp only [go_sem, ↓reduceIte, reduceIte, Nat.reduceEqDiff, Nat.reduceLT, Nat.reduceLeDiff, Nat.reduceAdd, Nat.reduceSub, Nat.reduceMul, Nat.reduceDiv, Nat.reduceMod, Nat.reduceBEq, Int.reduceEq, Int.reduceLT, Int.reduceLE, Int.reduceNeg, Int.reduceToNat, reduceCtorEq]; with_reducible rfl) (by simp only [go_sem, ↓reduceIte, reduceIte, Nat.reduceEqDiff, Nat.reduceLT, Nat.reduceLeDiff, Nat.reduceAdd, Nat.reduceSub, Nat.reduceMul, Nat.reduceDiv, Nat.reduceMod, Nat.reduceBEq, Int.reduceEq, Int.reduceLT, Int.reduceLE, Int.reduceNeg, Int.reduceToNat, reduceCtorEq]; with_reducible rfl) (by simp only [go_sem, ↓reduceIte, reduceIte, Nat.reduceEqDiff, Nat.reduceLT, Nat.reduceLeDiff, Nat.reduceAdd, Nat.reduceSub, Nat.reduceMul, Nat.reduceDiv, Nat.reduceMod, Nat.reduceBEq, Int.reduceEq, Int.reduceLT, Int.reduceLE, Int.reduceNeg, Int.reduceToNat, reduceCtorEq]; with_reducible rfl), l + 1, met', q ++ [kk], _, _, _, rfl, rfl, hes, rfl, by rw [List.map_append]; rfl, hnd', hrg', hM.old (by rw [hps]; exact hk), by omega⟩
      · have hget : mapGet es (.agg [.int .i64 u, .int .i64 v]) = none := by rw [hes]; exact keyEntries_get_none (f := tPair) tPair_inj' hx
        have hset : mapSet es (.agg [.int .i64 u, .int .i64 v]) (.int .i64 (met'.length : Int)) = keyEntries tPair (met' ++ [(u, v)]) := by rw [hes]; exact keyEntries_set (f := tPair) tPair_inj' hx
        repeat' (first | (with_reducible first | refine SW_seq ?_ | refine SW_block ?_ | refine SThen_n ?_ | refine SThen_r ?_ | refine SThen_e ?_ | refine SIn_n ?_ | refine SIn_r ?_ | refine SIn_eq ?_ | refine SW_skip ?_ | refine SW_exit ?_ | refine SW_ret ?_ | refine SPost_r ?_) | ((with_reducible refine SIn_ne ?_ ?_); focus decide) | ((with_reducible refine SW_true ?_ ?_); focus exact rfl) | ((with_reducible refine SW_false ?_ ?_); focus exact rfl) | ((first | (with_reducible apply SW_run tt_ok hG htb) | ((with_reducible apply SW_draw rfl tt_ok hG htb); (focus kernel_rfl); (focus (simp only [List.range, List.range.loop, List.size_toArray, List.length_cons, List.length_nil, Nat.reduceAdd])))); focus ((repeat' (first | (with_reducible exact runX_nil) | (with_reducible exact runI_nil) | ((first | (with_reducible apply runX_cons) | (with_reducible apply runI_cons)); focus (simp (discharger := omega) only [go_sem, tPair, hat', hrb, hul, hvl, hget, ↓reduceIte, reduceIte, Nat.reduceEqDiff, Nat.reduceLT, Nat.reduceLeDiff, Nat.reduceAdd, Nat.reduceSub, Nat.reduceMul, Nat.reduceDiv, Nat.reduceMod, Nat.reduceBEq, Int.reduceEq, Int.reduceLT, Int.reduceLE, Int.reduceNeg, Int.reduceToNat, reduceCtorEq]; with_reducible rfl)))); done)))
        exact ⟨n - (l + 1), _, by omega, Norm.headS (own := [(13, 120, 2, false), (14, 24, 1, false), (15, 4, 1, false), (17, 3, 1, false)]) (keep := [0, 1, 2, 3, 8, 10, 12, 13, 14, 15, 16, 17, 53, 54, 55]) (by simp (discharger := omega) only [go_sem, ↓reduceIte, reduceIte, Nat.reduceEqDiff, Nat.reduceLT, Nat.reduceLeDiff, Nat.reduceAdd, Nat.reduceSub, Nat.reduceMul, Nat.reduceDiv, Nat.reduceMod, Nat.reduceBEq, Int.reduceEq, Int.reduceLT, Int.reduceLE, Int.reduceNeg, Int.reduceToNat, reduceCtorEq]; with_reducible rfl) (by simp only [go_sem, ↓reduceIte, reduceIte, Nat.reduceEqDiff, Nat.reduceLT, Nat.reduceLeDiff, Nat.reduceAdd, Nat.reduceSub, Nat.reduceMul, Nat.reduceDiv, Nat.reduceMod, Nat.reduceBEq, Int.reduceEq, Int.reduceLT, Int.reduceLE, Int.reduceNeg, Int.reduceToNat, reduceCtorEq]; with_reducible rfl) (by simp only [go_sem, ↓reduceIte, reduceIte, Nat.reduceEqDiff, Nat.reduceLT, Nat.reduceLeDiff, Nat.reduceAdd, Nat.reduceSub, Nat.reduceMul, Nat.reduceDiv, Nat.reduceMod, Nat.reduceBEq, Int.reduceEq, Int.reduceLT, Int.reduceLE, Int.reduceNeg, Int.reduceToNat, reduceCtorEq]; with_reducible rfl) (by simp only [go_sem, ↓reduceIte, reduceIte, Nat.reduceEqDiff, Nat.reduceLT, Nat.reduceLeDiff, Nat.reduceAdd, Nat.reduceSub, Nat.reduceMul, Nat.reduceDiv, Nat.reduceMod, Nat.reduceBEq, Int.reduceEq, Int.reduceLT, Int.reduceLE, Int.reduceNeg, Int.reduceToNat, reduceCtorEq]; with_reducible rfl) (by simp only [go_sem, ↓reduceIte, reduceIte, Nat.reduceEqDiff, Nat.reduceLT, Nat.reduceLeDiff, Nat.reduceAdd, Nat.reduceSub, Nat.reduceMul, Nat.reduceDiv, Nat.reduceMod, Nat.reduceBEq, Int.reduceEq, Int.reduceLT, Int.reduceLE, Int.reduceNeg, Int.reduceToNat, reduceCtorEq]; with_reducible rfl), l + 1, met' ++ [(u, v)], q ++ [met'.length], _, _, _, rfl, rfl, hset, by rw [List.map_append]; rfl, by rw [List.map_append]; simp [tNat, hel], nodup_snoc hnd' hx, fun p hp => by
            rcases List.mem_append.1 hp with h | h
            · exact hrg' p h
            · simp at h; subst h; exact ⟨hu, hv⟩, by have := hM.new; rwa [hps] at this, by omega⟩
    · obtain rfl : l = n := by omega
      have htk := hM.take hio
      have hnt : rows.map tInts ++ [T.list (q.map tNat)] = (rows ++ [q.map fun (k : Nat) => (k : Int)]).map tInts := by simp [tInts, tNat, tInt]
      obtain ⟨e1, he1⟩ : ∃ e, E[x.toNat]! = e := ⟨_, rfl⟩
      obtain ⟨e2, he2⟩ : ∃ e, RE[y.toNat]! = e := ⟨_, rfl⟩
      have hE1 : endOf E x = e1 := by unfold endOf; exact bang_D he1 (by omega)
      have hE2 : endOf RE y = e2 := by unfold endOf; exact bang_D he2 (by omega)
      have hfin : ∀ b, b = (e1 && e2) → et ++ [T.bool b] = (met'.take (i + 1)).map (fun p => T.bool (endOf E p.1 && endOf RE p.2)) := fun b hb => by
        rw [htk, List.map_append, hetE, hb]
        simp [hE1, hE2]
      cases e1 with
      | false =>
        repeat' (first | (with_reducible first | refine SW_seq ?_ | refine SW_block ?_ | refine SThen_n ?_ | refine SThen_r ?_ | refine SThen_e ?_ | refine SIn_n ?_ | refine SIn_r ?_ | refine SIn_eq ?_ | refine SW_skip ?_ | refine SW_exit ?_ | refine SW_ret ?_ | refine SPost_r ?_) | ((with_reducible refine SIn_ne ?_ ?_); focus decide) | ((with_reducible refine SW_true ?_ ?_); focus exact rfl) | ((with_reducible refine SW_false ?_ ?_); focus exact rfl) | ((first | (with_reducible apply SW_run tt_ok hG htb) | ((with_reducible apply SW_draw rfl tt_ok hG htb); (focus kernel_rfl); (focus (simp only [List.range, List.range.loop, List.size_toArray, List.length_cons, List.length_nil, Nat.reduceAdd])))); focus ((repeat' (first | (with_reducible exact runX_nil) | (with_reducible exact runI_nil) | ((first | (with_reducible apply runX_cons) | (with_reducible apply runI_cons)); focus (simp (discharger := omega) only [go_sem, tPair, hat', he1, ↓reduceIte, reduceIte, Nat.reduceEqDiff, Nat.reduceLT, Nat.reduceLeDiff, Nat.reduceAdd, Nat.reduceSub, Nat.reduceMul, Nat.reduceDiv, Nat.reduceMod, Nat.reduceBEq, Int.reduceEq, Int.reduceLT, Int.reduceLE, Int.reduceNeg, Int.reduceToNat, reduceCtorEq]; with_reducible rfl)))); done)))
        exact ⟨ma * mr - (i + 1), _, by omega, Norm.headS (own := [(13, 120, 2, false), (14, 24, 1, false), (15, 4, 1, false)]) (keep := [0, 1, 2, 3, 8, 10, 12, 13, 14, 15, 16]) (by simp (discharger := omega) only [go_sem, ↓reduceIte, reduceIte, Nat.reduceEqDiff, Nat.reduceLT, Nat.reduceLeDiff, Nat.reduceAdd, Nat.reduceSub, Nat.reduceMul, Nat.reduceDiv, Nat.reduceMod, Nat.reduceBEq, Int.reduceEq, Int.reduceLT, Int.reduceLE, Int.reduceNeg, Int.reduceToNat, reduceCtorEq]; with_reducible rfl) (by simp only [go_sem, ↓reduceIte, reduceIte, Nat.reduceEqDiff, Nat.reduceLT, Nat.reduceLeDiff, Nat.reduceAdd, Nat.reduceSub, Nat.reduceMul, Nat.reduceDiv, Nat.reduceMod, Nat.reduceBEq, Int.reduceEq, Int.reduceLT, Int.reduceLE, Int.reduceNeg, Int.reduceToNat, reduceCtorEq]; with_reducible rfl) (by simp only [go_sem, ↓reduceIte, reduceIte, Nat.reduceEqDiff, Nat.reduceLT, Nat.reduceLeDiff, Nat.reduceAdd, Nat.reduceSub, Nat.reduceMul, Nat.reduceDiv, Nat.reduceMod, Nat.reduceBEq, Int.reduceEq, Int.reduceLT, Int.reduceLE, Int.reduceNeg, Int.reduceToNat, reduceCtorEq]; with_reducible rfl) (by simp only [go_sem, ↓reduceIte, reduceIte, Nat.reduceEqDiff, Nat.reduceLT, Nat.reduceLeDiff, Nat.reduceAdd, Nat.reduceSub, Nat.reduceMul, Nat.reduceDiv, Nat.reduceMod, Nat.reduceBEq, Int.reduceEq, Int.reduceLT, Int.reduceLE, Int.reduceNeg, Int.reduceToNat, reduceCtorEq]; with_reducible rfl) (by simp only [go_sem, ↓reduceIte, reduceIte, Nat.reduceEqDiff, Nat.reduceLT, Nat.reduceLeDiff, Nat.reduceAdd, Nat.reduceSub, Nat.reduceMul, Nat.reduceDiv, Nat.reduceMod, Nat.reduceBEq, Int.reduceEq, Int.reduceLT, Int.reduceLE, Int.reduceNeg, Int.reduceToNat, reduceCtorEq]; with_reducible rfl), i + 1, met', rows ++ [q.map fun (k : Nat) => (k : Int)], _, _, _, _, rfl, rfl, hes, rfl, hnt, hfin _ rfl, hnd', hrg', pre_get hM.pre hz, hM.fin hex hrl hio, by simp [hrl], by omega⟩
      | true =>
        repeat' (first | (with_reducible first | refine SW_seq ?_ | refine SW_block ?_ | refine SThen_n ?_ | refine SThen_r ?_ | refine SThen_e ?_ | refine SIn_n ?_ | refine SIn_r ?_ | refine SIn_eq ?_ | refine SW_skip ?_ | refine SW_exit ?_ | refine SW_ret ?_ | refine SPost_r ?_) | ((with_reducible refine SIn_ne ?_ ?_); focus decide) | ((with_reducible refine SW_true ?_ ?_); focus exact rfl) | ((with_reducible refine SW_false ?_ ?_); focus exact rfl) | ((first | (with_reducible apply SW_run tt_ok hG htb) | ((with_reducible apply SW_draw rfl tt_ok hG htb); (focus kernel_rfl); (focus (simp only [List.range, List.range.loop, List.size_toArray, List.length_cons, List.length_nil, Nat.reduceAdd])))); focus ((repeat' (first | (with_reducible exact runX_nil) | (with_reducible exact runI_nil) | ((first | (with_reducible apply runX_cons) | (with_reducible apply runI_cons)); focus (simp (discharger := omega) only [go_sem, tPair, hat', he1, he2, ↓reduceIte, reduceIte, Nat.reduceEqDiff, Nat.reduceLT, Nat.reduceLeDiff, Nat.reduceAdd, Nat.reduceSub, Nat.reduceMul, Nat.reduceDiv, Nat.reduceMod, Nat.reduceBEq, Int.reduceEq, Int.reduceLT, Int.reduceLE, Int.reduceNeg, Int.reduceToNat, reduceCtorEq]; with_reducible rfl)))); done)))
        exact ⟨ma * mr - (i + 1), _, by omega, Norm.headS (own := [(13, 120, 2, false), (14, 24, 1, false), (15, 4, 1, false)]) (keep := [0, 1, 2, 3, 8, 10, 12, 13, 14, 15, 16]) (by simp (discharger := omega) only [go_sem, ↓reduceIte, reduceIte, Nat.reduceEqDiff, Nat.reduceLT, Nat.reduceLeDiff, Nat.reduceAdd, Nat.reduceSub, Nat.reduceMul, Nat.reduceDiv, Nat.reduceMod, Nat.reduceBEq, Int.reduceEq, Int.reduceLT, Int.reduceLE, Int.reduceNeg, Int.reduceToNat, reduceCtorEq]; with_reducible rfl) (by simp only [go_sem, ↓reduceIte, reduceIte, Nat.reduceEqDiff, Nat.reduceLT, Nat.reduceLeDiff, Nat.reduceAdd, Nat.reduceSub, Nat.reduceMul, Nat.reduceDiv, Nat.reduceMod, Nat.reduceBEq, Int.reduceEq, Int.reduceLT, Int.reduceLE, Int.reduceNeg, Int.reduceToNat, reduceCtorEq]; with_reducible rfl) (by simp only [go_sem, ↓reduceIte, reduceIte, Nat.reduceEqDiff, Nat.reduceLT, Nat.reduceLeDiff, Nat.reduceAdd, Nat.reduceSub, Nat.reduceMul, Nat.reduceDiv, Nat.reduceMod, Nat.reduceBEq, Int.reduceEq, Int.reduceLT, Int.reduceLE, Int.reduceNeg, Int.reduceToNat, reduceCtorEq]; with_reducible rfl) (by simp only [go_sem, ↓reduceIte, reduceIte, Nat.reduceEqDiff, Nat.reduceLT, Nat.reduceLeDiff, Nat.reduceAdd, Nat.reduceSub, Nat.reduceMul, Nat.reduceDiv, Nat.reduceMod, Nat.reduceBEq, Int.reduceEq, Int.reduceLT, Int.reduceLE, Int.reduceNeg, Int.reduceToNat, reduceCtorEq]; with_reducible rfl) (by simp only [go_sem, ↓reduceIte, reduceIte, Nat.reduceEqDiff, Nat.reduceLT, Nat.reduceLeDiff, Nat.reduceAdd, Nat.reduceSub, Nat.reduceMul, Nat.reduceDiv, Nat.reduceMod, Nat.reduceBEq, Int.reduceEq, Int.reduceLT, Int.reduceLE, Int.reduceNeg, Int.reduceToNat, reduceCtorEq]; with_reducible rfl), i + 1, met', rows ++ [q.map fun (k : Nat) => (k : Int)], _, _, _, _, rfl, rfl, hes, rfl, hnt, hfin _ rfl, hnd', hrg', pre_get hM.pre hz, hM.fin hex hrl hio, by simp [hrl], by omega⟩
  · have hie : i = met.length := by omega
    have hsE : (met.take i).map (fun p => T.bool (endOf E p.1 && endOf RE p.2)) = (met.map fun p => endOf E p.1 && endOf RE p.2).map T.bool := by rw [hie, List.take_length, List.map_map]; rfl
    rw [hsE]
    have hRm : rows.length = met.length := by omega
    have hT := hex.table hRm
    have hm1 : 0 < met.length := (List.getElem?_eq_some_iff.1 hz).1
    have hlang : ∀ w, Ltr n w → lang rows (met.map fun p => endOf E p.1 && endOf RE p.2) 0 w = (lang A E 0 w && rightWd base t w) := fun w hw => by
      rw [hex.lang hRm hz (E := fun p => endOf E p.1 && endOf RE p.2) (fun i s h => by rw [List.getElem?_map, h]; rfl) hw, pst_run]
      have e : endOf RE (runS R 0 w) = rightWd base t w := hlall.lng hw
      show (lang A E 0 w && endOf RE (runS R 0 w)) = _
      rw [e]
    have hS := Shrink_big (G := G) (ends := met.map fun p => endOf E p.1 && endOf RE p.2) hG base (t : Nat) hT hm1 (by omega) (by rw [leastRE_L hT hm1 hlang]; exact hcl) (by simp) (by omega)
    rw [shrinkT_L hT hm1 hlang] at hS
    clear htb
    have htb := Tab.cons hS Tab.nil
    generalize (met.map fun p => endOf E p.1 && endOf RE p.2) = ends at *
    refine SW_norm (Norm.frz 14 rfl rfl) ?_
    refine SW_norm (Norm.frz 15 rfl rfl) ?_
    have hec := errL_cases n fun w => lang A E 0 w && rightWd base t w
    generalize haut : autoL base t n (fun w => lang A E 0 w && rightWd base t w) = au at hS htb ⊢
    by_cases he0 : errL n (fun w => lang A E 0 w && rightWd base t w) = 0
    · rw [he0] at hS htb ⊢
      simp only [decide_true] at htb
      repeat' (first | (with_reducible first | refine SW_seq ?_ | refine SW_block ?_ | refine SThen_n ?_ | refine SThen_r ?_ | refine SThen_e ?_ | refine SIn_n ?_ | refine SIn_r ?_ | refine SIn_eq ?_ | refine SW_skip ?_ | refine SW_exit ?_ | refine SW_ret ?_ | refine SPost_r ?_) | ((with_reducible refine SIn_ne ?_ ?_); focus decide) | ((with_reducible refine SW_true ?_ ?_); focus exact rfl) | ((with_reducible refine SW_false ?_ ?_); focus exact rfl) | ((first | (with_reducible apply SW_run tt_ok hG htb) | ((with_reducible apply SW_draw rfl tt_ok hG htb); (focus kernel_rfl); (focus (simp only [List.range, List.range.loop, List.size_toArray, List.length_cons, List.length_nil, Nat.reduceAdd])))); focus ((repeat' (first | (with_reducible exact runX_nil) | (with_reducible exact runI_nil) | ((first | (with_reducible apply runX_cons) | (with_reducible apply runI_cons)); focus (simp (discharger := omega) only [go_sem, tAuto, tErr, ↓reduceIte, reduceIte, Nat.reduceEqDiff, Nat.reduceLT, Nat.reduceLeDiff, Nat.reduceAdd, Nat.reduceSub, Nat.reduceMul, Nat.reduceDiv, Nat.reduceMod, Nat.reduceBEq, Int.reduceEq, Int.reduceLT, Int.reduceLE, Int.reduceNeg, Int.reduceToNat, reduceCtorEq]; with_reducible rfl)))); done)))
      exact (by simp (discharger := omega) only [go_sem, tAuto, tErr, ↓reduceIte, reduceIte, Nat.reduceEqDiff, Nat.reduceLT, Nat.reduceLeDiff, Nat.reduceAdd, Nat.reduceSub, Nat.reduceMul, Nat.reduceDiv, Nat.reduceMod, Nat.reduceBEq, Int.reduceEq, Int.reduceLT, Int.reduceLE, Int.reduceNeg, Int.reduceToNat, reduceCtorEq])
    · have he3 : errL n (fun w => lang A E 0 w && rightWd base t w) = 3 := by omega
      have hau : au = GAuto.zero := by rw [← haut]; unfold autoL; rw [if_neg he0]
      rw [hau] at hS htb ⊢
      rw [he3] at hS htb ⊢
      simp only [show decide ((3 : Int) = 0) = false by decide] at htb
      repeat' (first | (with_reducible first | refine SW_seq ?_ | refine SW_block ?_ | refine SThen_n ?_ | refine SThen_r ?_ | refine SThen_e ?_ | refine SIn_n ?_ | refine SIn_r ?_ | refine SIn_eq ?_ | refine SW_skip ?_ | refine SW_exit ?_ | refine SW_ret ?_ | refine SPost_r ?_) | ((with_reducible refine SIn_ne ?_ ?_); focus decide) | ((with_reducible refine SW_true ?_ ?_); focus exact rfl) | ((with_reducible refine SW_false ?_ ?_); focus exact rfl) | ((first | (with_reducible apply SW_run tt_ok hG htb) | ((with_reducible apply SW_draw rfl tt_ok hG htb); (focus kernel_rfl); (focus (simp only [List.range, List.range.loop, List.size_toArray, List.length_cons, List.length_nil, Nat.reduceAdd])))); focus ((repeat' (first | (with_reducible exact runX_nil) | (with_reducible exact runI_nil) | ((first | (with_reducible apply runX_cons) | (with_reducible apply runI_cons)); focus (simp (discharger := omega) only [go_sem, tAuto, tErr, GAuto.zero, ↓reduceIte, reduceIte, Nat.reduceEqDiff, Nat.reduceLT, Nat.reduceLeDiff, Nat.reduceAdd, Nat.reduceSub, Nat.reduceMul, Nat.reduceDiv, Nat.reduceMod, Nat.reduceBEq, Int.reduceEq, Int.reduceLT, Int.reduceLE, Int.reduceNeg, Int.reduceToNat, reduceCtorEq]; with_reducible rfl)))); done)))
      exact (by simp (discharger := omega) only [go_sem, tAuto, tErr, GAuto.zero, ↓reduceIte, reduceIte, Nat.reduceEqDiff, Nat.reduceLT, Nat.reduceLeDiff, Nat.reduceAdd, Nat.reduceSub, Nat.reduceMul, Nat.reduceDiv, Nat.reduceMod, Nat.reduceBEq, Int.reduceEq, Int.reduceLT, Int.reduceLE, Int.reduceNeg, Int.reduceToNat, reduceCtorEq])
end
end Go.Proofs.Ytfhncnhkeodngaa
namespace Go.Proofs.Ytfhncnhkeodngaa
open Go.RowKit

section
variable {G : World → Prop} (hG : Lasting G)
include hG
set_option maxHeartbeats 1000000 in
theorem Pack_snd (base : Int) (d : List Int) : Snd Try.prog G 62 [tInt base, tInts d] (.tup [tInt (packOf base d), tErr (packErr base d)]) := by
  have htb := Tab.cons (Radix_snd hG base) (Tab.cons (Many_snd hG base d.length) Tab.nil)
  refine snd_of_body (n := 45) (tm := [(0, .t (tInt base)), (1, .t (tInts d))]) (rs := [.tmp 4, .tmp 5]) tt_ok Try.func62 rfl rfl rfl rfl rfl ?_
  by_cases h0 : manyErr base d.length = 0
  · obtain ⟨h1, _, h5, hp36, _⟩ := many_ok h0
    obtain ⟨r2, r6⟩ := radix_two h1
    have hdig : ∀ {i : Nat} (hi : i < d.length), ¬ (0 ≤ d[i] ∧ d[i] < radix base) → packErr base d = 1 ∧ packOf base d = 0 := fun hi hx => packErr_digit h0 hi hx
    have hok : (∀ x ∈ d, 0 ≤ x ∧ x < radix base) → packErr base d = 0 ∧ packOf base d = pack (radix base) d := packErr_ok h0
    rw [h0] at htb
    generalize manyOf base d.length = mo at htb
    generalize radix base = k at *
    repeat' (first | (with_reducible first | refine SW_seq ?_ | refine SW_block ?_ | refine SThen_n ?_ | refine SThen_r ?_ | refine SThen_e ?_ | refine SIn_n ?_ | refine SIn_r ?_ | refine SIn_eq ?_ | refine SW_skip ?_ | refine SW_exit ?_ | refine SW_ret ?_ | refine SPost_r ?_) | ((with_reducible refine SIn_ne ?_ ?_); focus decide) | ((with_reducible refine SW_true ?_ ?_); focus exact rfl) | ((with_reducible refine SW_false ?_ ?_); focus exact rfl) | ((first | (with_reducible apply SW_run tt_ok hG htb) | ((with_reducible apply SW_draw rfl tt_ok hG htb); (focus kernel_rfl); (focus (simp only [List.range, List.range.loop, List.size_toArray, List.length_cons, List.length_nil, Nat.reduceAdd])))); focus ((repeat' (first | (with_reducible exact runX_nil) | (with_reducible exact runI_nil) | ((first | (with_reducible apply runX_cons) | (with_reducible apply runI_cons)); focus (simp (discharger := omega) only [go_sem, tErr, ↓reduceIte, reduceIte, Nat.reduceEqDiff, Nat.reduceLT, Nat.reduceLeDiff, Nat.reduceAdd, Nat.reduceSub, Nat.reduceMul, Nat.reduceDiv, Nat.reduceMod, Nat.reduceBEq, Int.reduceEq, Int.reduceLT, Int.reduceLE, Int.reduceNeg, Int.reduceToNat, reduceCtorEq]; with_reducible rfl)))); done)))
    refine SW_loop (fun m s => ∃ i : Nat, m = d.length - i ∧ s = ⟨45, [(8, .t (tInt k)), (9, .t (tInt (pack k (d.take i)))), (24, .t (tInts d)), (25, .t (tInt d.length)), (26, .t (tInt i))], []⟩ ∧ i ≤ d.length ∧ ∀ x ∈ d.take i, 0 ≤ x ∧ x < k) d.length ⟨_, Norm.headS (own := []) (keep := [8, 9, 24, 25, 26]) (by simp (discharger := omega) only [go_sem, ↓reduceIte, reduceIte, Nat.reduceEqDiff, Nat.reduceLT, Nat.reduceLeDiff, Nat.reduceAdd, Nat.reduceSub, Nat.reduceMul, Nat.reduceDiv, Nat.reduceMod, Nat.reduceBEq, Int.reduceEq, Int.reduceLT, Int.reduceLE, Int.reduceNeg, Int.reduceToNat, reduceCtorEq]; with_reducible rfl) (by simp only [go_sem, ↓reduceIte, reduceIte, Nat.reduceEqDiff, Nat.reduceLT, Nat.reduceLeDiff, Nat.reduceAdd, Nat.reduceSub, Nat.reduceMul, Nat.reduceDiv, Nat.reduceMod, Nat.reduceBEq, Int.reduceEq, Int.reduceLT, Int.reduceLE, Int.reduceNeg, Int.reduceToNat, reduceCtorEq]; with_reducible rfl) (by simp only [go_sem, ↓reduceIte, reduceIte, Nat.reduceEqDiff, Nat.reduceLT, Nat.reduceLeDiff, Nat.reduceAdd, Nat.reduceSub, Nat.reduceMul, Nat.reduceDiv, Nat.reduceMod, Nat.reduceBEq, Int.reduceEq, Int.reduceLT, Int.reduceLE, Int.reduceNeg, Int.reduceToNat, reduceCtorEq]; with_reducible rfl) (by simp only [go_sem, ↓reduceIte, reduceIte, Nat.reduceEqDiff, Nat.reduceLT, Nat.reduceLeDiff, Nat.reduceAdd, Nat.reduceSub, Nat.reduceMul, Nat.reduceDiv, Nat.reduceMod, Nat.reduceBEq, Int.reduceEq, Int.reduceLT, Int.reduceLE, Int.reduceNeg, Int.reduceToNat, reduceCtorEq]; with_reducible rfl) (by simp only [go_sem, ↓reduceIte, reduceIte, Nat.reduceEqDiff, Nat.reduceLT, Nat.reduceLeDiff, Nat.reduceAdd, Nat.reduceSub, Nat.reduceMul, Nat.reduceDiv, Nat.reduceMod, Nat.reduceBEq, Int.reduceEq, Int.reduceLT, Int.reduceLE, Int.reduceNeg, Int.reduceToNat, reduceCtorEq]; with_reducible rfl), 0, rfl, rfl, Nat.zero_le _, fun x hx => by simp at hx⟩ ?_
    rintro m s ⟨i, rfl, rfl, hi, hA⟩
    have hb := pack_bd r2 _ hA
    have hb2 := powW_bd r2 r6 (j := (d.take i).length) (by simp; omega)
    by_cases hlt : i < d.length
    · obtain ⟨x, hx⟩ : ∃ x, d[i]! = x := ⟨_, rfl⟩
      have htk := take_next hx hlt
      have hat := bang_at hx hlt
      by_cases hx0 : 0 ≤ x
      · by_cases hxk : x < k
        · have hA' : ∀ y ∈ d.take (i + 1), 0 ≤ y ∧ y < k := fun y hy => by
            rw [htk] at hy
            rcases List.mem_append.1 hy with h | h
            · exact hA y h
            · simp at h; subst h; exact ⟨hx0, hxk⟩
          have hpk : pack k (d.take (i + 1)) = pack k (d.take i) * k + x := by rw [htk, pack_snoc]
          have hm1 : 0 ≤ pack k (d.take i) * k := Int.mul_nonneg hb.1 (by omega)
          have hm2 : pack k (d.take i) * k ≤ 7776 * 6 := Int.mul_le_mul (by omega) r6 (by omega) (by omega)
          repeat' (first | (with_reducible first | refine SW_seq ?_ | refine SW_block ?_ | refine SThen_n ?_ | refine SThen_r ?_ | refine SThen_e ?_ | refine SIn_n ?_ | refine SIn_r ?_ | refine SIn_eq ?_ | refine SW_skip ?_ | refine SW_exit ?_ | refine SW_ret ?_ | refine SPost_r ?_) | ((with_reducible refine SIn_ne ?_ ?_); focus decide) | ((with_reducible refine SW_true ?_ ?_); focus exact rfl) | ((with_reducible refine SW_false ?_ ?_); focus exact rfl) | ((first | (with_reducible apply SW_run tt_ok hG htb) | ((with_reducible apply SW_draw rfl tt_ok hG htb); (focus kernel_rfl); (focus (simp only [List.range, List.range.loop, List.size_toArray, List.length_cons, List.length_nil, Nat.reduceAdd])))); focus ((repeat' (first | (with_reducible exact runX_nil) | (with_reducible exact runI_nil) | ((first | (with_reducible apply runX_cons) | (with_reducible apply runI_cons)); focus (simp (discharger := omega) only [go_sem, hx, ↓reduceIte, reduceIte, Nat.reduceEqDiff, Nat.reduceLT, Nat.reduceLeDiff, Nat.reduceAdd, Nat.reduceSub, Nat.reduceMul, Nat.reduceDiv, Nat.reduceMod, Nat.reduceBEq, Int.reduceEq, Int.reduceLT, Int.reduceLE, Int.reduceNeg, Int.reduceToNat, reduceCtorEq]; with_reducible rfl)))); done)))
          exact ⟨d.length - (i + 1), _, by omega, Norm.headS (own := []) (keep := [8, 9, 24, 25, 26]) (by simp (discharger := omega) only [go_sem, ↓reduceIte, reduceIte, Nat.reduceEqDiff, Nat.reduceLT, Nat.reduceLeDiff, Nat.reduceAdd, Nat.reduceSub, Nat.reduceMul, Nat.reduceDiv, Nat.reduceMod, Nat.reduceBEq, Int.reduceEq, Int.reduceLT, Int.reduceLE, Int.reduceNeg, Int.reduceToNat, reduceCtorEq]; with_reducible rfl) (by simp only [go_sem, ↓reduceIte, reduceIte, Nat.reduceEqDiff, Nat.reduceLT, Nat.reduceLeDiff, Nat.reduceAdd, Nat.reduceSub, Nat.reduceMul, Nat.reduceDiv, Nat.reduceMod, Nat.reduceBEq, Int.reduceEq, Int.reduceLT, Int.reduceLE, Int.reduceNeg, Int.reduceToNat, reduceCtorEq]; with_reducible rfl) (by simp only [go_sem, ↓reduceIte, reduceIte, Nat.reduceEqDiff, Nat.reduceLT, Nat.reduceLeDiff, Nat.reduceAdd, Nat.reduceSub, Nat.reduceMul, Nat.reduceDiv, Nat.reduceMod, Nat.reduceBEq, Int.reduceEq, Int.reduceLT, Int.reduceLE, Int.reduceNeg, Int.reduceToNat, reduceCtorEq]; with_reducible rfl) (by simp only [go_sem, ↓reduceIte, reduceIte, Nat.reduceEqDiff, Nat.reduceLT, Nat.reduceLeDiff, Nat.reduceAdd, Nat.reduceSub, Nat.reduceMul, Nat.reduceDiv, Nat.reduceMod, Nat.reduceBEq, Int.reduceEq, Int.reduceLT, Int.reduceLE, Int.reduceNeg, Int.reduceToNat, reduceCtorEq]; with_reducible rfl) (by simp only [go_sem, ↓reduceIte, reduceIte, Nat.reduceEqDiff, Nat.reduceLT, Nat.reduceLeDiff, Nat.reduceAdd, Nat.reduceSub, Nat.reduceMul, Nat.reduceDiv, Nat.reduceMod, Nat.reduceBEq, Int.reduceEq, Int.reduceLT, Int.reduceLE, Int.reduceNeg, Int.reduceToNat, reduceCtorEq]; with_reducible rfl), i + 1, rfl, by rw [hpk]; rfl, by omega, hA'⟩
        · obtain ⟨e1, e2⟩ := hdig hlt (by rw [hat]; omega)
          rw [e1, e2]
          repeat' (first | (with_reducible first | refine SW_seq ?_ | refine SW_block ?_ | refine SThen_n ?_ | refine SThen_r ?_ | refine SThen_e ?_ | refine SIn_n ?_ | refine SIn_r ?_ | refine SIn_eq ?_ | refine SW_skip ?_ | refine SW_exit ?_ | refine SW_ret ?_ | refine SPost_r ?_) | ((with_reducible refine SIn_ne ?_ ?_); focus decide) | ((with_reducible refine SW_true ?_ ?_); focus exact rfl) | ((with_reducible refine SW_false ?_ ?_); focus exact rfl) | ((first | (with_reducible apply SW_run tt_ok hG htb) | ((with_reducible apply SW_draw rfl tt_ok hG htb); (focus kernel_rfl); (focus (simp only [List.range, List.range.loop, List.size_toArray, List.length_cons, List.length_nil, Nat.reduceAdd])))); focus ((repeat' (first | (with_reducible exact runX_nil) | (with_reducible exact runI_nil) | ((first | (with_reducible apply runX_cons) | (with_reducible apply runI_cons)); focus (simp (discharger := omega) only [go_sem, hx, ↓reduceIte, reduceIte, Nat.reduceEqDiff, Nat.reduceLT, Nat.reduceLeDiff, Nat.reduceAdd, Nat.reduceSub, Nat.reduceMul, Nat.reduceDiv, Nat.reduceMod, Nat.reduceBEq, Int.reduceEq, Int.reduceLT, Int.reduceLE, Int.reduceNeg, Int.reduceToNat, reduceCtorEq]; with_reducible rfl)))); done)))
          exact (by simp (discharger := omega) only [go_sem, tErr, ↓reduceIte, reduceIte, Nat.reduceEqDiff, Nat.reduceLT, Nat.reduceLeDiff, Nat.reduceAdd, Nat.reduceSub, Nat.reduceMul, Nat.reduceDiv, Nat.reduceMod, Nat.reduceBEq, Int.reduceEq, Int.reduceLT, Int.reduceLE, Int.reduceNeg, Int.reduceToNat, reduceCtorEq])
      · obtain ⟨e1, e2⟩ := hdig hlt (by rw [hat]; omega)
        rw [e1, e2]
        repeat' (first | (with_reducible first | refine SW_seq ?_ | refine SW_block ?_ | refine SThen_n ?_ | refine SThen_r ?_ | refine SThen_e ?_ | refine SIn_n ?_ | refine SIn_r ?_ | refine SIn_eq ?_ | refine SW_skip ?_ | refine SW_exit ?_ | refine SW_ret ?_ | refine SPost_r ?_) | ((with_reducible refine SIn_ne ?_ ?_); focus decide) | ((with_reducible refine SW_true ?_ ?_); focus exact rfl) | ((with_reducible refine SW_false ?_ ?_); focus exact rfl) | ((first | (with_reducible apply SW_run tt_ok hG htb) | ((with_reducible apply SW_draw rfl tt_ok hG htb); (focus kernel_rfl); (focus (simp only [List.range, List.range.loop, List.size_toArray, List.length_cons, List.length_nil, Nat.reduceAdd])))); focus ((repeat' (first | (with_reducible exact runX_nil) | (with_reducible exact runI_nil) | ((first | (with_reducible apply runX_cons) | (with_reducible apply runI_cons)); focus (simp (discharger := omega) only [go_sem, hx, ↓reduceIte, reduceIte, Nat.reduceEqDiff, Nat.reduceLT, Nat.reduceLeDiff, Nat.reduceAdd, Nat.reduceSub, Nat.reduceMul, Nat.reduceDiv, Nat.reduceMod, Nat.reduceBEq, Int.reduceEq, Int.reduceLT, Int.reduceLE, Int.reduceNeg, Int.reduceToNat, reduceCtorEq]; with_reducible rfl)))); done)))
        exact (by simp (discharger := omega) only [go_sem, tErr, ↓reduceIte, reduceIte, Nat.reduceEqDiff, Nat.reduceLT, Nat.reduceLeDiff, Nat.reduceAdd, Nat.reduceSub, Nat.reduceMul, Nat.reduceDiv, Nat.reduceMod, Nat.reduceBEq, Int.reduceEq, Int.reduceLT, Int.reduceLE, Int.reduceNeg, Int.reduceToNat, reduceCtorEq])
    · obtain rfl : i = d.length := by omega
      rw [List.take_length] at hA hb ⊢
      obtain ⟨e1, e2⟩ := hok hA
      rw [e1, e2]
      repeat' (first | (with_reducible first | refine SW_seq ?_ | refine SW_block ?_ | refine SThen_n ?_ | refine SThen_r ?_ | refine SThen_e ?_ | refine SIn_n ?_ | refine SIn_r ?_ | refine SIn_eq ?_ | refine SW_skip ?_ | refine SW_exit ?_ | refine SW_ret ?_ | refine SPost_r ?_) | ((with_reducible refine SIn_ne ?_ ?_); focus decide) | ((with_reducible refine SW_true ?_ ?_); focus exact rfl) | ((with_reducible refine SW_false ?_ ?_); focus exact rfl) | ((first | (with_reducible apply SW_run tt_ok hG htb) | ((with_reducible apply SW_draw rfl tt_ok hG htb); (focus kernel_rfl); (focus (simp only [List.range, List.range.loop, List.size_toArray, List.length_cons, List.length_nil, Nat.reduceAdd])))); focus ((repeat' (first | (with_reducible exact runX_nil) | (with_reducible exact runI_nil) | ((first | (with_reducible apply runX_cons) | (with_reducible apply runI_cons)); focus (simp (discharger := omega) only [go_sem, ↓reduceIte, reduceIte, Nat.reduceEqDiff, Nat.reduceLT, Nat.reduceLeDiff, Nat.reduceAdd, Nat.reduceSub, Nat.reduceMul, Nat.reduceDiv, Nat.reduceMod, Nat.reduceBEq, Int.reduceEq, Int.reduceLT, Int.reduceLE, Int.reduceNeg, Int.reduceToNat, reduceCtorEq]; with_reducible rfl)))); done)))
      exact (by simp (discharger := omega) only [go_sem, tErr, ↓reduceIte, reduceIte, Nat.reduceEqDiff, Nat.reduceLT, Nat.reduceLeDiff, Nat.reduceAdd, Nat.reduceSub, Nat.reduceMul, Nat.reduceDiv, Nat.reduceMod, Nat.reduceBEq, Int.reduceEq, Int.reduceLT, Int.reduceLE, Int.reduceNeg, Int.reduceToNat, reduceCtorEq])
  · obtain ⟨e1, e2⟩ := packErr_many h0
    rw [e1, e2]
    generalize manyErr base d.length = e at *
    repeat' (first | (with_reducible first | refine SW_seq ?_ | refine SW_block ?_ | refine SThen_n ?_ | refine SThen_r ?_ | refine SThen_e ?_ | refine SIn_n ?_ | refine SIn_r ?_ | refine SIn_eq ?_ | refine SW_skip ?_ | refine SW_exit ?_ | refine SW_ret ?_ | refine SPost_r ?_) | ((with_reducible refine SIn_ne ?_ ?_); focus decide) | ((with_reducible refine SW_true ?_ ?_); focus exact rfl) | ((with_reducible refine SW_false ?_ ?_); focus exact rfl) | ((first | (with_reducible apply SW_run tt_ok hG htb) | ((with_reducible apply SW_draw rfl tt_ok hG htb); (focus kernel_rfl); (focus (simp only [List.range, List.range.loop, List.size_toArray, List.length_cons, List.length_nil, Nat.reduceAdd])))); focus ((repeat' (first | (with_reducible exact runX_nil) | (with_reducible exact runI_nil) | ((first | (with_reducible apply runX_cons) | (with_reducible apply runI_cons)); focus (simp (discharger := omega) only [go_sem, tErr, h0, ↓reduceIte, reduceIte, Nat.reduceEqDiff, Nat.reduceLT, Nat.reduceLeDiff, Nat.reduceAdd, Nat.reduceSub, Nat.reduceMul, Nat.reduceDiv, Nat.reduceMod, Nat.reduceBEq, Int.reduceEq, Int.reduceLT, Int.reduceLE, Int.reduceNeg, Int.reduceToNat, reduceCtorEq]; with_reducible rfl)))); done)))
    exact (by simp (discharger := omega) only [go_sem, tErr, h0, ↓reduceIte, reduceIte, Nat.reduceEqDiff, Nat.reduceLT, Nat.reduceLeDiff, Nat.reduceAdd, Nat.reduceSub, Nat.reduceMul, Nat.reduceDiv, Nat.reduceMod, Nat.reduceBEq, Int.reduceEq, Int.reduceLT, Int.reduceLE, Int.reduceNeg, Int.reduceToNat, reduceCtorEq])
set_option maxHeartbeats 1000000 in
theorem Unpack_snd (base t l : Int) : Snd Try.prog G 46 [tInt base, tInt t, tInt l] (.tup [tInts (unpackOf base t l), tErr (unpackErr base t l)]) := by
  have htb := Tab.cons (Radix_snd hG base) (Tab.cons (Many_snd hG base t) Tab.nil)
  refine snd_of_body (n := 52) (tm := [(0, .t (tInt base)), (1, .t (tInt t)), (2, .t (tInt l))]) (rs := [.tmp 6, .tmp 7]) tt_ok Try.func46 rfl rfl rfl rfl rfl ?_
  by_cases h0 : manyErr base t = 0
  · obtain ⟨h1, h2, h5, hp36, hm⟩ := many_ok h0
    obtain ⟨r2, r6⟩ := radix_two h1
    have hp1 := powW_pos r2 t.toNat
    have hok : ¬ (l < 0 ∨ manyOf base t ≤ l) → unpackErr base t l = 0 ∧ unpackOf base t l = unpack (radix base) t.toNat l := unpackErr_ok h0
    have hno : (l < 0 ∨ manyOf base t ≤ l) → unpackErr base t l = 1 ∧ unpackOf base t l = [] := unpackErr_letter h0
    rw [h0] at htb
    rw [← hm] at hp36 hp1
    generalize manyOf base t = mo at *
    generalize radix base = k at *
    by_cases hl0 : l < 0
    · obtain ⟨e1, e2⟩ := hno (by omega)
      rw [e1, e2]
      repeat' (first | (with_reducible first | refine SW_seq ?_ | refine SW_block ?_ | refine SThen_n ?_ | refine SThen_r ?_ | refine SThen_e ?_ | refine SIn_n ?_ | refine SIn_r ?_ | refine SIn_eq ?_ | refine SW_skip ?_ | refine SW_exit ?_ | refine SW_ret ?_ | refine SPost_r ?_) | ((with_reducible refine SIn_ne ?_ ?_); focus decide) | ((with_reducible refine SW_true ?_ ?_); focus exact rfl) | ((with_reducible refine SW_false ?_ ?_); focus exact rfl) | ((first | (with_reducible apply SW_run tt_ok hG htb) | ((with_reducible apply SW_draw rfl tt_ok hG htb); (focus kernel_rfl); (focus (simp only [List.range, List.range.loop, List.size_toArray, List.length_cons, List.length_nil, Nat.reduceAdd])))); focus ((repeat' (first | (with_reducible exact runX_nil) | (with_reducible exact runI_nil) | ((first | (with_reducible apply runX_cons) | (with_reducible apply runI_cons)); focus (simp (discharger := omega) only [go_sem, tErr, ↓reduceIte, reduceIte, Nat.reduceEqDiff, Nat.reduceLT, Nat.reduceLeDiff, Nat.reduceAdd, Nat.reduceSub, Nat.reduceMul, Nat.reduceDiv, Nat.reduceMod, Nat.reduceBEq, Int.reduceEq, Int.reduceLT, Int.reduceLE, Int.reduceNeg, Int.reduceToNat, reduceCtorEq]; with_reducible rfl)))); done)))
      exact (by simp (discharger := omega) only [go_sem, tErr, ↓reduceIte, reduceIte, Nat.reduceEqDiff, Nat.reduceLT, Nat.reduceLeDiff, Nat.reduceAdd, Nat.reduceSub, Nat.reduceMul, Nat.reduceDiv, Nat.reduceMod, Nat.reduceBEq, Int.reduceEq, Int.reduceLT, Int.reduceLE, Int.reduceNeg, Int.reduceToNat, reduceCtorEq])
    · by_cases hl1 : mo ≤ l
      · obtain ⟨e1, e2⟩ := hno (by omega)
        rw [e1, e2]
        repeat' (first | (with_reducible first | refine SW_seq ?_ | refine SW_block ?_ | refine SThen_n ?_ | refine SThen_r ?_ | refine SThen_e ?_ | refine SIn_n ?_ | refine SIn_r ?_ | refine SIn_eq ?_ | refine SW_skip ?_ | refine SW_exit ?_ | refine SW_ret ?_ | refine SPost_r ?_) | ((with_reducible refine SIn_ne ?_ ?_); focus decide) | ((with_reducible refine SW_true ?_ ?_); focus exact rfl) | ((with_reducible refine SW_false ?_ ?_); focus exact rfl) | ((first | (with_reducible apply SW_run tt_ok hG htb) | ((with_reducible apply SW_draw rfl tt_ok hG htb); (focus kernel_rfl); (focus (simp only [List.range, List.range.loop, List.size_toArray, List.length_cons, List.length_nil, Nat.reduceAdd])))); focus ((repeat' (first | (with_reducible exact runX_nil) | (with_reducible exact runI_nil) | ((first | (with_reducible apply runX_cons) | (with_reducible apply runI_cons)); focus (simp (discharger := omega) only [go_sem, tErr, ↓reduceIte, reduceIte, Nat.reduceEqDiff, Nat.reduceLT, Nat.reduceLeDiff, Nat.reduceAdd, Nat.reduceSub, Nat.reduceMul, Nat.reduceDiv, Nat.reduceMod, Nat.reduceBEq, Int.reduceEq, Int.reduceLT, Int.reduceLE, Int.reduceNeg, Int.reduceToNat, reduceCtorEq]; with_reducible rfl)))); done)))
        exact (by simp (discharger := omega) only [go_sem, tErr, ↓reduceIte, reduceIte, Nat.reduceEqDiff, Nat.reduceLT, Nat.reduceLeDiff, Nat.reduceAdd, Nat.reduceSub, Nat.reduceMul, Nat.reduceDiv, Nat.reduceMod, Nat.reduceBEq, Int.reduceEq, Int.reduceLT, Int.reduceLE, Int.reduceNeg, Int.reduceToNat, reduceCtorEq])
      · obtain ⟨e1, e2⟩ := hok (by omega)
        rw [e1, e2]
        obtain ⟨t, rfl⟩ := Int.eq_ofNat_of_zero_le h2
        rw [Int.toNat_natCast] at *
        repeat' (first | (with_reducible first | refine SW_seq ?_ | refine SW_block ?_ | refine SThen_n ?_ | refine SThen_r ?_ | refine SThen_e ?_ | refine SIn_n ?_ | refine SIn_r ?_ | refine SIn_eq ?_ | refine SW_skip ?_ | refine SW_exit ?_ | refine SW_ret ?_ | refine SPost_r ?_) | ((with_reducible refine SIn_ne ?_ ?_); focus decide) | ((with_reducible refine SW_true ?_ ?_); focus exact rfl) | ((with_reducible refine SW_false ?_ ?_); focus exact rfl) | ((first | (with_reducible apply SW_run tt_ok hG htb) | ((with_reducible apply SW_draw rfl tt_ok hG htb); (focus kernel_rfl); (focus (simp only [List.range, List.range.loop, List.size_toArray, List.length_cons, List.length_nil, Nat.reduceAdd])))); focus ((repeat' (first | (with_reducible exact runX_nil) | (with_reducible exact runI_nil) | ((first | (with_reducible apply runX_cons) | (with_reducible apply runI_cons)); focus (simp (discharger := omega) only [go_sem, tErr, ↓reduceIte, reduceIte, Nat.reduceEqDiff, Nat.reduceLT, Nat.reduceLeDiff, Nat.reduceAdd, Nat.reduceSub, Nat.reduceMul, Nat.reduceDiv, Nat.reduceMod, Nat.reduceBEq, Int.reduceEq, Int.reduceLT, Int.reduceLE, Int.reduceNeg, Int.reduceToNat, reduceCtorEq]; with_reducible rfl)))); done)))
        refine SW_loop (fun m s => ∃ (j : Nat) (q : Int) (u : List Int) (ot : List T), m = t - j ∧ s = ⟨52, [(1, .t (tInt t)), (2, .t (tInt q)), (10, .t (tInt k)), (11, .sref 0), (34, .t (tInt t)), (35, .t (tInt j))], [.row 3 1 true ot]⟩ ∧ ot = (List.replicate (t - j) 0 ++ u).map tInt ∧ j ≤ t ∧ 0 ≤ q ∧ q ≤ 36 ∧ u.length = j ∧ unpack k t l = unpack k (t - j) q ++ u) t
          ⟨_, Norm.headS (own := [(11, 3, 1, true)]) (keep := [1, 2, 10, 11, 34, 35]) (by simp (discharger := omega) only [go_sem, ↓reduceIte, reduceIte, Nat.reduceEqDiff, Nat.reduceLT, Nat.reduceLeDiff, Nat.reduceAdd, Nat.reduceSub, Nat.reduceMul, Nat.reduceDiv, Nat.reduceMod, Nat.reduceBEq, Int.reduceEq, Int.reduceLT, Int.reduceLE, Int.reduceNeg, Int.reduceToNat, reduceCtorEq]; with_reducible rfl) (by simp only [go_sem, ↓reduceIte, reduceIte, Nat.reduceEqDiff, Nat.reduceLT, Nat.reduceLeDiff, Nat.reduceAdd, Nat.reduceSub, Nat.reduceMul, Nat.reduceDiv, Nat.reduceMod, Nat.reduceBEq, Int.reduceEq, Int.reduceLT, Int.reduceLE, Int.reduceNeg, Int.reduceToNat, reduceCtorEq]; with_reducible rfl) (by simp only [go_sem, ↓reduceIte, reduceIte, Nat.reduceEqDiff, Nat.reduceLT, Nat.reduceLeDiff, Nat.reduceAdd, Nat.reduceSub, Nat.reduceMul, Nat.reduceDiv, Nat.reduceMod, Nat.reduceBEq, Int.reduceEq, Int.reduceLT, Int.reduceLE, Int.reduceNeg, Int.reduceToNat, reduceCtorEq]; with_reducible rfl) (by simp only [go_sem, ↓reduceIte, reduceIte, Nat.reduceEqDiff, Nat.reduceLT, Nat.reduceLeDiff, Nat.reduceAdd, Nat.reduceSub, Nat.reduceMul, Nat.reduceDiv, Nat.reduceMod, Nat.reduceBEq, Int.reduceEq, Int.reduceLT, Int.reduceLE, Int.reduceNeg, Int.reduceToNat, reduceCtorEq]; with_reducible rfl) (by simp only [go_sem, ↓reduceIte, reduceIte, Nat.reduceEqDiff, Nat.reduceLT, Nat.reduceLeDiff, Nat.reduceAdd, Nat.reduceSub, Nat.reduceMul, Nat.reduceDiv, Nat.reduceMod, Nat.reduceBEq, Int.reduceEq, Int.reduceLT, Int.reduceLE, Int.reduceNeg, Int.reduceToNat, reduceCtorEq]; with_reducible rfl), 0, l, [], _, rfl, rfl, by simp [tInt], Nat.zero_le _, by omega, by omega, rfl, by simp⟩ ?_
        rintro m s ⟨j, q, u, ot, rfl, rfl, hot, hj, q0, q36, hu, hU⟩
        have hol : ot.length = t := by rw [hot]; simp; omega
        by_cases hlt : j < t
        · have q1 : q.tmod k = q % k := by rw [Int.tmod_eq_emod_of_nonneg q0]
          have q2 : q.tdiv k = q / k := by rw [Int.tdiv_eq_ediv_of_nonneg q0]
          have q3 : 0 ≤ q / k := Int.ediv_nonneg q0 (by omega)
          have q4 : q / k ≤ q := Int.ediv_le_self _ q0
          obtain ⟨r, hr⟩ : ∃ r : Nat, t - j = r + 1 := ⟨t - j - 1, by omega⟩
          have hr' : (t : Int) - 1 - (j : Int) = (r : Nat) := by omega
          repeat' (first | (with_reducible first | refine SW_seq ?_ | refine SW_block ?_ | refine SThen_n ?_ | refine SThen_r ?_ | refine SThen_e ?_ | refine SIn_n ?_ | refine SIn_r ?_ | refine SIn_eq ?_ | refine SW_skip ?_ | refine SW_exit ?_ | refine SW_ret ?_ | refine SPost_r ?_) | ((with_reducible refine SIn_ne ?_ ?_); focus decide) | ((with_reducible refine SW_true ?_ ?_); focus exact rfl) | ((with_reducible refine SW_false ?_ ?_); focus exact rfl) | ((first | (with_reducible apply SW_run tt_ok hG htb) | ((with_reducible apply SW_draw rfl tt_ok hG htb); (focus kernel_rfl); (focus (simp only [List.range, List.range.loop, List.size_toArray, List.length_cons, List.length_nil, Nat.reduceAdd])))); focus ((repeat' (first | (with_reducible exact runX_nil) | (with_reducible exact runI_nil) | ((first | (with_reducible apply runX_cons) | (with_reducible apply runI_cons)); focus (simp (discharger := omega) only [go_sem, q1, q2, hr', ↓reduceIte, reduceIte, Nat.reduceEqDiff, Nat.reduceLT, Nat.reduceLeDiff, Nat.reduceAdd, Nat.reduceSub, Nat.reduceMul, Nat.reduceDiv, Nat.reduceMod, Nat.reduceBEq, Int.reduceEq, Int.reduceLT, Int.reduceLE, Int.reduceNeg, Int.reduceToNat, reduceCtorEq]; with_reducible rfl)))); done)))
          refine ⟨t - (j + 1), _, by omega, Norm.headS (own := [(11, 3, 1, true)]) (keep := [1, 2, 10, 11, 34, 35]) (by simp (discharger := omega) only [go_sem, ↓reduceIte, reduceIte, Nat.reduceEqDiff, Nat.reduceLT, Nat.reduceLeDiff, Nat.reduceAdd, Nat.reduceSub, Nat.reduceMul, Nat.reduceDiv, Nat.reduceMod, Nat.reduceBEq, Int.reduceEq, Int.reduceLT, Int.reduceLE, Int.reduceNeg, Int.reduceToNat, reduceCtorEq]; with_reducible rfl) (by simp only [go_sem, ↓reduceIte, reduceIte, Nat.reduceEqDiff, Nat.reduceLT, Nat.reduceLeDiff, Nat.reduceAdd, Nat.reduceSub, Nat.reduceMul, Nat.reduceDiv, Nat.reduceMod, Nat.reduceBEq, Int.reduceEq, Int.reduceLT, Int.reduceLE, Int.reduceNeg, Int.reduceToNat, reduceCtorEq]; with_reducible rfl) (by simp only [go_sem, ↓reduceIte, reduceIte, Nat.reduceEqDiff, Nat.reduceLT, Nat.reduceLeDiff, Nat.reduceAdd, Nat.reduceSub, Nat.reduceMul, Nat.reduceDiv, Nat.reduceMod, Nat.reduceBEq, Int.reduceEq, Int.reduceLT, Int.reduceLE, Int.reduceNeg, Int.reduceToNat, reduceCtorEq]; with_reducible rfl) (by simp only [go_sem, ↓reduceIte, reduceIte, Nat.reduceEqDiff, Nat.reduceLT, Nat.reduceLeDiff, Nat.reduceAdd, Nat.reduceSub, Nat.reduceMul, Nat.reduceDiv, Nat.reduceMod, Nat.reduceBEq, Int.reduceEq, Int.reduceLT, Int.reduceLE, Int.reduceNeg, Int.reduceToNat, reduceCtorEq]; with_reducible rfl) (by simp only [go_sem, ↓reduceIte, reduceIte, Nat.reduceEqDiff, Nat.reduceLT, Nat.reduceLeDiff, Nat.reduceAdd, Nat.reduceSub, Nat.reduceMul, Nat.reduceDiv, Nat.reduceMod, Nat.reduceBEq, Int.reduceEq, Int.reduceLT, Int.reduceLE, Int.reduceNeg, Int.reduceToNat, reduceCtorEq]; with_reducible rfl), j + 1, q / k, (q % k) :: u, _, rfl, rfl, ?_, by omega, q3, by omega, by simp [hu], ?_⟩
          · have e : t - (j + 1) = r := by omega
            rw [hot, hr, e, List.replicate_succ', List.append_assoc, List.map_append, List.map_append, List.set_append_right _ _ (by simp)]
            simp [tInt]
          · have e : t - (j + 1) = r := by omega
            rw [hU, hr, e, unpack, List.append_assoc]; rfl
        · obtain rfl : j = t := by omega
          have : unpack k j l = u := by rw [hU]; simp [unpack]
          rw [this]
          rw [Nat.sub_self, List.replicate_zero, List.nil_append] at hot
          repeat' (first | (with_reducible first | refine SW_seq ?_ | refine SW_block ?_ | refine SThen_n ?_ | refine SThen_r ?_ | refine SThen_e ?_ | refine SIn_n ?_ | refine SIn_r ?_ | refine SIn_eq ?_ | refine SW_skip ?_ | refine SW_exit ?_ | refine SW_ret ?_ | refine SPost_r ?_) | ((with_reducible refine SIn_ne ?_ ?_); focus decide) | ((with_reducible refine SW_true ?_ ?_); focus exact rfl) | ((with_reducible refine SW_false ?_ ?_); focus exact rfl) | ((first | (with_reducible apply SW_run tt_ok hG htb) | ((with_reducible apply SW_draw rfl tt_ok hG htb); (focus kernel_rfl); (focus (simp only [List.range, List.range.loop, List.size_toArray, List.length_cons, List.length_nil, Nat.reduceAdd])))); focus ((repeat' (first | (with_reducible exact runX_nil) | (with_reducible exact runI_nil) | ((first | (with_reducible apply runX_cons) | (with_reducible apply runI_cons)); focus (simp (discharger := omega) only [go_sem, ↓reduceIte, reduceIte, Nat.reduceEqDiff, Nat.reduceLT, Nat.reduceLeDiff, Nat.reduceAdd, Nat.reduceSub, Nat.reduceMul, Nat.reduceDiv, Nat.reduceMod, Nat.reduceBEq, Int.reduceEq, Int.reduceLT, Int.reduceLE, Int.reduceNeg, Int.reduceToNat, reduceCtorEq]; with_reducible rfl)))); done)))
          exact (by simp (discharger := omega) only [go_sem, tErr, hot, ↓reduceIte, reduceIte, Nat.reduceEqDiff, Nat.reduceLT, Nat.reduceLeDiff, Nat.reduceAdd, Nat.reduceSub, Nat.reduceMul, Nat.reduceDiv, Nat.reduceMod, Nat.reduceBEq, Int.reduceEq, Int.reduceLT, Int.reduceLE, Int.reduceNeg, Int.reduceToNat, reduceCtorEq])
  · obtain ⟨e1, e2⟩ := unpackErr_many (l := l) h0
    rw [e1, e2]
    generalize manyErr base t = e at *
    repeat' (first | (with_reducible first | refine SW_seq ?_ | refine SW_block ?_ | refine SThen_n ?_ | refine SThen_r ?_ | refine SThen_e ?_ | refine SIn_n ?_ | refine SIn_r ?_ | refine SIn_eq ?_ | refine SW_skip ?_ | refine SW_exit ?_ | refine SW_ret ?_ | refine SPost_r ?_) | ((with_reducible refine SIn_ne ?_ ?_); focus decide) | ((with_reducible refine SW_true ?_ ?_); focus exact rfl) | ((with_reducible refine SW_false ?_ ?_); focus exact rfl) | ((first | (with_reducible apply SW_run tt_ok hG htb) | ((with_reducible apply SW_draw rfl tt_ok hG htb); (focus kernel_rfl); (focus (simp only [List.range, List.range.loop, List.size_toArray, List.length_cons, List.length_nil, Nat.reduceAdd])))); focus ((repeat' (first | (with_reducible exact runX_nil) | (with_reducible exact runI_nil) | ((first | (with_reducible apply runX_cons) | (with_reducible apply runI_cons)); focus (simp (discharger := omega) only [go_sem, tErr, h0, ↓reduceIte, reduceIte, Nat.reduceEqDiff, Nat.reduceLT, Nat.reduceLeDiff, Nat.reduceAdd, Nat.reduceSub, Nat.reduceMul, Nat.reduceDiv, Nat.reduceMod, Nat.reduceBEq, Int.reduceEq, Int.reduceLT, Int.reduceLE, Int.reduceNeg, Int.reduceToNat, reduceCtorEq]; with_reducible rfl)))); done)))
    exact (by simp (discharger := omega) only [go_sem, tErr, h0, ↓reduceIte, reduceIte, Nat.reduceEqDiff, Nat.reduceLT, Nat.reduceLeDiff, Nat.reduceAdd, Nat.reduceSub, Nat.reduceMul, Nat.reduceDiv, Nat.reduceMod, Nat.reduceBEq, Int.reduceEq, Int.reduceLT, Int.reduceLE, Int.reduceNeg, Int.reduceToNat, reduceCtorEq])
end
end Go.Proofs.Ytfhncnhkeodngaa
namespace Go.Proofs.Ytfhncnhkeodngaa
open Go.RowKit

/-- What letters add, the first ones. -/
def addP (base : Int) (coefs : List Int) (n l : Nat) : List Int := (List.range n).map fun j => if j < l then addL base coefs j else 0
theorem addP_length (base : Int) (coefs : List Int) (n l : Nat) : (addP base coefs n l).length = n := by simp [addP]
theorem addP_zero (base : Int) (coefs : List Int) (n : Nat) : addP base coefs n 0 = List.replicate n 0 := by
  unfold addP
  apply List.ext_getElem (by simp)
  intro i h1 h2
  simp
theorem addP_set (base : Int) (coefs : List Int) {n l : Nat} (h : l < n) : (addP base coefs n l).set l (addL base coefs l) = addP base coefs n (l + 1) := by
  unfold addP
  apply List.ext_getElem (by simp)
  intro i h1 h2
  simp only [List.length_map, List.length_range] at h2
  rw [List.getElem_set]
  by_cases e : l = i
  · subst e; simp
  · rw [if_neg e]
    simp only [List.getElem_map, List.getElem_range]
    by_cases h3 : i < l
    · rw [if_pos h3, if_pos (by omega)]
    · rw [if_neg h3, if_neg (by omega)]
theorem addP_self (base : Int) (coefs : List Int) {n l : Nat} (h : l < n) : (addP base coefs n l).set l 0 = addP base coefs n l := by
  apply List.ext_getElem (by simp)
  intro i h1 h2
  rw [List.getElem_set]
  by_cases e : l = i
  · subst e
    rw [if_pos rfl]
    simp [addP]
  · rw [if_neg e]
theorem addP_at (base : Int) (coefs : List Int) {n l : Nat} (h : l < n) : (addP base coefs n n)[l]! = addL base coefs l := by
  rw [getElem!_pos _ l (by rw [addP_length]; exact h)]
  simp [addP, h]
theorem gauto_eta' (a : GAuto) (base t : Int) (h1 : a.base = base) (h2 : a.tracks = t) : a = ⟨base, t, a.next, a.ends⟩ := by cases a; simp_all
theorem lineL_cut {base : Int} {coefs : List Int} {c : Int} {n : Nat} (g : LineOk base coefs c n) {far : Int} (hfar : 3 * sizeA coefs + 60 ≤ far ∨ (max c (-c) + 3 * sizeA coefs ≤ far)) (less : Bool) {w : List Nat} (hw : Ltr n w) :
    lnEnd less c (w.foldl (fun p l => lnCut far base p (addL base coefs l)) (0, 0)) = lnEnd less c (lnRun base (addL base coefs) w) := by
  have hc := g.c60
  have hs := g.sz
  rcases hfar with h | h
  · exact ln_end (k := 60) g.r hs.1 (by omega) h (by omega) (fun l _ => g.lnOk l) less hw
  · exact ln_end (k := max c (-c)) g.r hs.1 (by omega) (by omega) (by omega) (fun l _ => g.lnOk l) less hw
/-- Not too many kinds of words, whatever table takes the sum. -/
theorem line_small {base : Int} {coefs : List Int} {c : Int} {n m : Nat} (g : LineOk base coefs c n) (less : Bool) {next : List (List Int)} {ends : List Bool} (hR : Rows0 n m next) (hm : 0 < m) (hm2 : base ≠ 1 → m ≤ 1000)
    (hL : ∀ w, Ltr n w → lang next ends 0 w = lnEnd less c (lnRun base (addL base coefs) w)) : (leastL n fun w => lang next ends 0 w && rightWd base coefs.length w).1.length ≤ 65536 ∧ (leastL n fun w => lang next ends 0 w && rightWd base coefs.length w) = leastL n (lineL base coefs c less) := by
  have h1 : ∀ w, Ltr n w → (lang next ends 0 w && rightWd base coefs.length w) = lineL base coefs c less w := fun w hw => by rw [hL w hw]; rfl
  obtain ⟨t1, t2⟩ := rgt_table (ends := ends) g.many g.n_eq hR hm
  have h2 : ∀ w, Ltr n w → lang (prodNext (rowsA base coefs.length next ends) (allA base coefs.length) n) (prodEnds (rowsA base coefs.length next ends) (allA base coefs.length) 8) 0 w = lineL base coefs c less w := fun w hw => (rgt_lang g.many g.n_eq hR hm hw).trans (h1 w hw)
  have e := leastL_congr h1
  refine ⟨?_, e⟩
  rw [e]
  by_cases hb : base = 1
  · exact g.kinds hb less (Regular.of t1 t2 h2).least
  · have h3 := (leastRE_spec (ends := prodEnds (rowsA base coefs.length next ends) (allA base coefs.length) 8) t1 t2).2
    rw [leastRE_L t1 t2 h2, prodPairs_length] at h3
    have h4 : (rowsA base coefs.length next ends).next.length = m := hR.len
    have h37 := (allA_isLeast g.many g.n_eq).2
    rw [h4] at h3
    have : m * (allA base coefs.length).next.length ≤ 1000 * 37 := Nat.mul_le_mul (hm2 hb) h37
    omega
section
variable {G : World → Prop} (hG : Lasting G)
include hG
set_option maxHeartbeats 8000000 in
set_option maxRecDepth 100000 in
theorem LOf_fine (base : Int) (coefs : List Int) (c : Int) (less : Bool) {n : Nat} (g : LineOk base coefs c n) : Snd Try.prog G 18 [tInt base, tInts coefs, tInt c, .bool less] (.tup [tAuto (autoL base coefs.length n (lineL base coefs c less)), tErr (errL n (lineL base coefs c less))]) := by
  have c1 := Many_snd hG base coefs.length
  rw [g.many, g.n_eq] at c1
  have c2 := Size_snd hG coefs
  have hs := g.sz
  have hz := szAll_of hs.2
  have ht5 := g.t5
  unfold sizeT at c2
  rw [if_pos hz, szW_eq hz (by omega), decide_eq_true hs.2] at c2
  have hn0 := g.n0
  have hn36 := g.n36
  have hc60 := g.c60
  have hbr := radix_pos g.r
  have hlnok := fun l => g.lnOk l
  have hadd := fun l => g.add l
  obtain ⟨sz, hsz⟩ : ∃ sz, sizeA coefs = sz := ⟨_, rfl⟩
  rw [hsz] at c2 hs hlnok
  have habs : ∀ i, i < coefs.length → -12 ≤ coefs.getD i 0 ∧ coefs.getD i 0 ≤ 12 := fun i hi => by
    have := absN_ge coefs hi
    unfold sizeA at hsz
    omega
  refine snd_of_body (n := 196) (tm := [(0, .t (tInt base)), (1, .t (tInts coefs)), (2, .t (tInt c)), (3, .t (.bool less))]) (rs := [.cell 8 44, .tmp 9]) tt_ok Try.func18 rfl rfl rfl rfl rfl ?_
  have htb := Tab.cons c1 (Tab.cons c2 Tab.nil)
  repeat' (first | (with_reducible first | refine SW_seq ?_ | refine SW_block ?_ | refine SThen_n ?_ | refine SThen_r ?_ | refine SThen_e ?_ | refine SIn_n ?_ | refine SIn_r ?_ | refine SIn_eq ?_ | refine SW_skip ?_ | refine SW_exit ?_ | refine SW_ret ?_ | refine SPost_r ?_) | ((with_reducible refine SIn_ne ?_ ?_); focus decide) | ((with_reducible refine SW_true ?_ ?_); focus exact rfl) | ((with_reducible refine SW_false ?_ ?_); focus exact rfl) | ((first | (with_reducible apply SW_run tt_ok hG htb) | ((with_reducible apply SW_draw rfl tt_ok hG htb); (focus kernel_rfl); (focus (simp only [List.range, List.range.loop, List.size_toArray, List.length_cons, List.length_nil, Nat.reduceAdd])))); focus ((repeat' (first | (with_reducible exact runX_nil) | (with_reducible exact runI_nil) | ((first | (with_reducible apply runX_cons) | (with_reducible apply runI_cons)); focus (simp (discharger := omega) only [go_sem, tErr, ↓reduceIte, reduceIte, Nat.reduceEqDiff, Nat.reduceLT, Nat.reduceLeDiff, Nat.reduceAdd, Nat.reduceSub, Nat.reduceMul, Nat.reduceDiv, Nat.reduceMod, Nat.reduceBEq, Int.reduceEq, Int.reduceLT, Int.reduceLE, Int.reduceNeg, Int.reduceToNat, reduceCtorEq]; with_reducible rfl)))); done)))
  refine SW_loop (fun mm s => ∃ (l : Nat) (at_ : List T), mm = n - l ∧ s = ⟨196, [(1, .t (tInts coefs)), (2, .t (tInt c)), (3, .t (.bool less)), (4, .bptr 0 0), (8, .bptr 1 0), (10, .t (tNat n)), (12, .t (tInt sz)), (14, .sref 2), (66, .t (tNat n)), (67, .t (tNat l))], [.box [.t (tInt base)], .box [.t (tInt 0), .t (tInt 0), .nil, .nil], .row 3 1 true at_]⟩ ∧ at_ = (addP base coefs n l).map tInt ∧ l ≤ n) (n)
    ⟨_, Norm.headS (own := [(14, 3, 1, true)]) (keep := [1, 2, 3, 4, 8, 10, 12, 14, 66, 67]) (by simp (discharger := omega) only [go_sem, ↓reduceIte, reduceIte, Nat.reduceEqDiff, Nat.reduceLT, Nat.reduceLeDiff, Nat.reduceAdd, Nat.reduceSub, Nat.reduceMul, Nat.reduceDiv, Nat.reduceMod, Nat.reduceBEq, Int.reduceEq, Int.reduceLT, Int.reduceLE, Int.reduceNeg, Int.reduceToNat, reduceCtorEq]; with_reducible rfl) (by simp only [go_sem, ↓reduceIte, reduceIte, Nat.reduceEqDiff, Nat.reduceLT, Nat.reduceLeDiff, Nat.reduceAdd, Nat.reduceSub, Nat.reduceMul, Nat.reduceDiv, Nat.reduceMod, Nat.reduceBEq, Int.reduceEq, Int.reduceLT, Int.reduceLE, Int.reduceNeg, Int.reduceToNat, reduceCtorEq]; with_reducible rfl) (by simp only [go_sem, ↓reduceIte, reduceIte, Nat.reduceEqDiff, Nat.reduceLT, Nat.reduceLeDiff, Nat.reduceAdd, Nat.reduceSub, Nat.reduceMul, Nat.reduceDiv, Nat.reduceMod, Nat.reduceBEq, Int.reduceEq, Int.reduceLT, Int.reduceLE, Int.reduceNeg, Int.reduceToNat, reduceCtorEq]; with_reducible rfl) (by simp only [go_sem, ↓reduceIte, reduceIte, Nat.reduceEqDiff, Nat.reduceLT, Nat.reduceLeDiff, Nat.reduceAdd, Nat.reduceSub, Nat.reduceMul, Nat.reduceDiv, Nat.reduceMod, Nat.reduceBEq, Int.reduceEq, Int.reduceLT, Int.reduceLE, Int.reduceNeg, Int.reduceToNat, reduceCtorEq]; with_reducible rfl) (by simp only [go_sem, ↓reduceIte, reduceIte, Nat.reduceEqDiff, Nat.reduceLT, Nat.reduceLeDiff, Nat.reduceAdd, Nat.reduceSub, Nat.reduceMul, Nat.reduceDiv, Nat.reduceMod, Nat.reduceBEq, Int.reduceEq, Int.reduceLT, Int.reduceLE, Int.reduceNeg, Int.reduceToNat, reduceCtorEq]; with_reducible rfl), 0, _, rfl, rfl, by rw [addP_zero]; simp [tInt], Nat.zero_le _⟩ ?_
  clear htb
  rintro mm s ⟨l, at_, rfl, rfl, hat, hl⟩
  have hal : at_.length = n := by rw [hat, List.length_map, addP_length]
  by_cases hlt : l < n
  · have c3 := Unpack_snd hG base coefs.length (l : Nat)
    have hue : unpackErr base coefs.length (l : Nat) = 0 := by unfold unpackErr; rw [if_neg (by rw [g.many]; simp), if_neg (by rw [g.n_eq]; omega)]
    have huo : unpackOf base coefs.length (l : Nat) = unpack (radix base) coefs.length (l : Nat) := by unfold unpackOf; rw [if_pos hue]; rfl
    rw [hue, huo] at c3
    have hdl := unpack_length (radix base) coefs.length ((l : Nat) : Int)
    have hdo := unpack_ok (radix_two g.r).1 coefs.length ((l : Nat) : Int)
    have hr6 := radix_two g.r
    have hdd : addL base coefs l = dotN coefs (fun j => (unpack (radix base) coefs.length (l : Nat)).getD j 0) coefs.length := rfl
    generalize unpack (radix base) coefs.length ((l : Nat) : Int) = d at *
    have htb := Tab.cons c3 Tab.nil
    repeat' (first | (with_reducible first | refine SW_seq ?_ | refine SW_block ?_ | refine SThen_n ?_ | refine SThen_r ?_ | refine SThen_e ?_ | refine SIn_n ?_ | refine SIn_r ?_ | refine SIn_eq ?_ | refine SW_skip ?_ | refine SW_exit ?_ | refine SW_ret ?_ | refine SPost_r ?_) | ((with_reducible refine SIn_ne ?_ ?_); focus decide) | ((with_reducible refine SW_true ?_ ?_); focus exact rfl) | ((with_reducible refine SW_false ?_ ?_); focus exact rfl) | ((first | (with_reducible apply SW_run tt_ok hG htb) | ((with_reducible apply SW_draw rfl tt_ok hG htb); (focus kernel_rfl); (focus (simp only [List.range, List.range.loop, List.size_toArray, List.length_cons, List.length_nil, Nat.reduceAdd])))); focus ((repeat' (first | (with_reducible exact runX_nil) | (with_reducible exact runI_nil) | ((first | (with_reducible apply runX_cons) | (with_reducible apply runI_cons)); focus (simp (discharger := omega) only [go_sem, hdl, ↓reduceIte, reduceIte, Nat.reduceEqDiff, Nat.reduceLT, Nat.reduceLeDiff, Nat.reduceAdd, Nat.reduceSub, Nat.reduceMul, Nat.reduceDiv, Nat.reduceMod, Nat.reduceBEq, Int.reduceEq, Int.reduceLT, Int.reduceLE, Int.reduceNeg, Int.reduceToNat, reduceCtorEq]; with_reducible rfl)))); done)))
    refine SW_loop (fun mm s => ∃ (i : Nat) (at_ : List T), mm = coefs.length - i ∧ s = ⟨196, [(1, .t (tInts coefs)), (2, .t (tInt c)), (3, .t (.bool less)), (4, .bptr 0 0), (8, .bptr 1 0), (10, .t (tNat n)), (12, .t (tInt sz)), (14, .sref 2), (15, .t (tNat l)), (66, .t (tNat n)), (67, .t (tNat l)), (78, .t (tInts d)), (79, .t (tInt coefs.length)), (80, .t (tInt i))], [.box [.t (tInt base)], .box [.t (tInt 0), .t (tInt 0), .nil, .nil], .row 3 1 true at_]⟩ ∧ at_ = ((addP base coefs n l).set l (dotN coefs (fun j => d.getD j 0) i)).map tInt ∧ i ≤ coefs.length) (coefs.length)
      ⟨_, Norm.headS (own := [(14, 3, 1, true)]) (keep := [1, 2, 3, 4, 8, 10, 12, 14, 15, 66, 67, 78, 79, 80]) (by simp (discharger := omega) only [go_sem, ↓reduceIte, reduceIte, Nat.reduceEqDiff, Nat.reduceLT, Nat.reduceLeDiff, Nat.reduceAdd, Nat.reduceSub, Nat.reduceMul, Nat.reduceDiv, Nat.reduceMod, Nat.reduceBEq, Int.reduceEq, Int.reduceLT, Int.reduceLE, Int.reduceNeg, Int.reduceToNat, reduceCtorEq]; with_reducible rfl) (by simp only [go_sem, ↓reduceIte, reduceIte, Nat.reduceEqDiff, Nat.reduceLT, Nat.reduceLeDiff, Nat.reduceAdd, Nat.reduceSub, Nat.reduceMul, Nat.reduceDiv, Nat.reduceMod, Nat.reduceBEq, Int.reduceEq, Int.reduceLT, Int.reduceLE, Int.reduceNeg, Int.reduceToNat, reduceCtorEq]; with_reducible rfl) (by simp only [go_sem, ↓reduceIte, reduceIte, Nat.reduceEqDiff, Nat.reduceLT, Nat.reduceLeDiff, Nat.reduceAdd, Nat.reduceSub, Nat.reduceMul, Nat.reduceDiv, Nat.reduceMod, Nat.reduceBEq, Int.reduceEq, Int.reduceLT, Int.reduceLE, Int.reduceNeg, Int.reduceToNat, reduceCtorEq]; with_reducible rfl) (by simp only [go_sem, ↓reduceIte, reduceIte, Nat.reduceEqDiff, Nat.reduceLT, Nat.reduceLeDiff, Nat.reduceAdd, Nat.reduceSub, Nat.reduceMul, Nat.reduceDiv, Nat.reduceMod, Nat.reduceBEq, Int.reduceEq, Int.reduceLT, Int.reduceLE, Int.reduceNeg, Int.reduceToNat, reduceCtorEq]; with_reducible rfl) (by simp only [go_sem, ↓reduceIte, reduceIte, Nat.reduceEqDiff, Nat.reduceLT, Nat.reduceLeDiff, Nat.reduceAdd, Nat.reduceSub, Nat.reduceMul, Nat.reduceDiv, Nat.reduceMod, Nat.reduceBEq, Int.reduceEq, Int.reduceLT, Int.reduceLE, Int.reduceNeg, Int.reduceToNat, reduceCtorEq]; with_reducible rfl), 0, _, rfl, rfl, by show _ = ((addP base coefs n l).set l 0).map tInt; rw [addP_self base coefs hlt, hat], Nat.zero_le _⟩ ?_
    rintro mm s ⟨i, at_, rfl, rfl, hat, hi⟩
    have hal : at_.length = n := by rw [hat, List.length_map, List.length_set, addP_length]
    by_cases hlt2 : i < coefs.length
    · obtain ⟨x, hx⟩ : ∃ x, d[i]! = x := ⟨_, rfl⟩
      obtain ⟨y, hy⟩ : ∃ y, coefs[i]! = y := ⟨_, rfl⟩
      have hxb := hdo x (bang_mem hx (by omega))
      have hyD : coefs.getD i 0 = y := bang_D hy hlt2
      have hyb := habs i hlt2
      rw [hyD] at hyb
      have hdb := dotN_bd coefs (f := fun j => d.getD j 0) (r := 5) i fun j hj => by
        by_cases hjd : j < d.length
        · rw [getD_lt hjd]
          have := hdo _ (List.getElem_mem hjd)
          omega
        · rw [List.getD_eq_getElem?_getD, List.getElem?_eq_none (by omega)]; simp
      have hdb : -60 ≤ dotN coefs (fun j => d.getD j 0) i ∧ dotN coefs (fun j => d.getD j 0) i ≤ 60 := by
        have h1 := (posneg coefs i).1
        have h2 := (posneg coefs i).2
        have h3 := absN_mono coefs hi
        unfold sizeA at hsz
        omega
      have hcur : at_[l]! = tInt (dotN coefs (fun j => d.getD j 0) i) := by
        rw [getElem!_pos _ l (by omega)]
        simp [hat, List.getElem_set]
      have hyx : -60 ≤ y * x ∧ y * x ≤ 60 := by
        have m1 : y * x ≤ 12 * x := Int.mul_le_mul_of_nonneg_right (by omega) (by omega)
        have m2 : (-12) * x ≤ y * x := Int.mul_le_mul_of_nonneg_right (by omega) (by omega)
        omega
      have hnx : dotN coefs (fun j => d.getD j 0) (i + 1) = dotN coefs (fun j => d.getD j 0) i + y * x := by
        show _ + coefs.getD i 0 * d.getD i 0 = _
        rw [hyD, bang_D hx (by omega)]
      obtain ⟨dv, hdv⟩ : ∃ v, dotN coefs (fun j => d.getD j 0) i = v := ⟨_, rfl⟩
      rw [hdv] at hcur hdb hnx hat
      simp only [tInt] at hcur
      repeat' (first | (with_reducible first | refine SW_seq ?_ | refine SW_block ?_ | refine SThen_n ?_ | refine SThen_r ?_ | refine SThen_e ?_ | refine SIn_n ?_ | refine SIn_r ?_ | refine SIn_eq ?_ | refine SW_skip ?_ | refine SW_exit ?_ | refine SW_ret ?_ | refine SPost_r ?_) | ((with_reducible refine SIn_ne ?_ ?_); focus decide) | ((with_reducible refine SW_true ?_ ?_); focus exact rfl) | ((with_reducible refine SW_false ?_ ?_); focus exact rfl) | ((first | (with_reducible apply SW_run tt_ok hG htb) | ((with_reducible apply SW_draw rfl tt_ok hG htb); (focus kernel_rfl); (focus (simp only [List.range, List.range.loop, List.size_toArray, List.length_cons, List.length_nil, Nat.reduceAdd])))); focus ((repeat' (first | (with_reducible exact runX_nil) | (with_reducible exact runI_nil) | ((first | (with_reducible apply runX_cons) | (with_reducible apply runI_cons)); focus (simp (discharger := omega) only [go_sem, hx, hy, hcur, ↓reduceIte, reduceIte, Nat.reduceEqDiff, Nat.reduceLT, Nat.reduceLeDiff, Nat.reduceAdd, Nat.reduceSub, Nat.reduceMul, Nat.reduceDiv, Nat.reduceMod, Nat.reduceBEq, Int.reduceEq, Int.reduceLT, Int.reduceLE, Int.reduceNeg, Int.reduceToNat, reduceCtorEq]; with_reducible rfl)))); done)))
      exact ⟨coefs.length - (i + 1), _, by omega, Norm.headS (own := [(14, 3, 1, true)]) (keep := [1, 2, 3, 4, 8, 10, 12, 14, 15, 66, 67, 78, 79, 80]) (by simp (discharger := omega) only [go_sem, ↓reduceIte, reduceIte, Nat.reduceEqDiff, Nat.reduceLT, Nat.reduceLeDiff, Nat.reduceAdd, Nat.reduceSub, Nat.reduceMul, Nat.reduceDiv, Nat.reduceMod, Nat.reduceBEq, Int.reduceEq, Int.reduceLT, Int.reduceLE, Int.reduceNeg, Int.reduceToNat, reduceCtorEq]; with_reducible rfl) (by simp only [go_sem, ↓reduceIte, reduceIte, Nat.reduceEqDiff, Nat.reduceLT, Nat.reduceLeDiff, Nat.reduceAdd, Nat.reduceSub, Nat.reduceMul, Nat.reduceDiv, Nat.reduceMod, Nat.reduceBEq, Int.reduceEq, Int.reduceLT, Int.reduceLE, Int.reduceNeg, Int.reduceToNat, reduceCtorEq]; with_reducible rfl) (by simp only [go_sem, ↓reduceIte, reduceIte, Nat.reduceEqDiff, Nat.reduceLT, Nat.reduceLeDiff, Nat.reduceAdd, Nat.reduceSub, Nat.reduceMul, Nat.reduceDiv, Nat.reduceMod, Nat.reduceBEq, Int.reduceEq, Int.reduceLT, Int.reduceLE, Int.reduceNeg, Int.reduceToNat, reduceCtorEq]; with_reducible rfl) (by simp only [go_sem, ↓reduceIte, reduceIte, Nat.reduceEqDiff, Nat.reduceLT, Nat.reduceLeDiff, Nat.reduceAdd, Nat.reduceSub, Nat.reduceMul, Nat.reduceDiv, Nat.reduceMod, Nat.reduceBEq, Int.reduceEq, Int.reduceLT, Int.reduceLE, Int.reduceNeg, Int.reduceToNat, reduceCtorEq]; with_reducible rfl) (by simp only [go_sem, ↓reduceIte, reduceIte, Nat.reduceEqDiff, Nat.reduceLT, Nat.reduceLeDiff, Nat.reduceAdd, Nat.reduceSub, Nat.reduceMul, Nat.reduceDiv, Nat.reduceMod, Nat.reduceBEq, Int.reduceEq, Int.reduceLT, Int.reduceLE, Int.reduceNeg, Int.reduceToNat, reduceCtorEq]; with_reducible rfl), i + 1, _, rfl, rfl, by rw [hnx, hat]; simp [List.map_set, List.set_set, tInt], by omega⟩
    · obtain rfl : i = coefs.length := by omega
      rw [← hdd, addP_set base coefs hlt] at hat
      repeat' (first | (with_reducible first | refine SW_seq ?_ | refine SW_block ?_ | refine SThen_n ?_ | refine SThen_r ?_ | refine SThen_e ?_ | refine SIn_n ?_ | refine SIn_r ?_ | refine SIn_eq ?_ | refine SW_skip ?_ | refine SW_exit ?_ | refine SW_ret ?_ | refine SPost_r ?_) | ((with_reducible refine SIn_ne ?_ ?_); focus decide) | ((with_reducible refine SW_true ?_ ?_); focus exact rfl) | ((with_reducible refine SW_false ?_ ?_); focus exact rfl) | ((first | (with_reducible apply SW_run tt_ok hG htb) | ((with_reducible apply SW_draw rfl tt_ok hG htb); (focus kernel_rfl); (focus (simp only [List.range, List.range.loop, List.size_toArray, List.length_cons, List.length_nil, Nat.reduceAdd])))); focus ((repeat' (first | (with_reducible exact runX_nil) | (with_reducible exact runI_nil) | ((first | (with_reducible apply runX_cons) | (with_reducible apply runI_cons)); focus (simp (discharger := omega) only [go_sem, ↓reduceIte, reduceIte, Nat.reduceEqDiff, Nat.reduceLT, Nat.reduceLeDiff, Nat.reduceAdd, Nat.reduceSub, Nat.reduceMul, Nat.reduceDiv, Nat.reduceMod, Nat.reduceBEq, Int.reduceEq, Int.reduceLT, Int.reduceLE, Int.reduceNeg, Int.reduceToNat, reduceCtorEq]; with_reducible rfl)))); done)))
      exact ⟨n - (l + 1), _, by omega, Norm.headS (own := [(14, 3, 1, true)]) (keep := [1, 2, 3, 4, 8, 10, 12, 14, 66, 67]) (by simp (discharger := omega) only [go_sem, ↓reduceIte, reduceIte, Nat.reduceEqDiff, Nat.reduceLT, Nat.reduceLeDiff, Nat.reduceAdd, Nat.reduceSub, Nat.reduceMul, Nat.reduceDiv, Nat.reduceMod, Nat.reduceBEq, Int.reduceEq, Int.reduceLT, Int.reduceLE, Int.reduceNeg, Int.reduceToNat, reduceCtorEq]; with_reducible rfl) (by simp only [go_sem, ↓reduceIte, reduceIte, Nat.reduceEqDiff, Nat.reduceLT, Nat.reduceLeDiff, Nat.reduceAdd, Nat.reduceSub, Nat.reduceMul, Nat.reduceDiv, Nat.reduceMod, Nat.reduceBEq, Int.reduceEq, Int.reduceLT, Int.reduceLE, Int.reduceNeg, Int.reduceToNat, reduceCtorEq]; with_reducible rfl) (by simp only [go_sem, ↓reduceIte, reduceIte, Nat.reduceEqDiff, Nat.reduceLT, Nat.reduceLeDiff, Nat.reduceAdd, Nat.reduceSub, Nat.reduceMul, Nat.reduceDiv, Nat.reduceMod, Nat.reduceBEq, Int.reduceEq, Int.reduceLT, Int.reduceLE, Int.reduceNeg, Int.reduceToNat, reduceCtorEq]; with_reducible rfl) (by simp only [go_sem, ↓reduceIte, reduceIte, Nat.reduceEqDiff, Nat.reduceLT, Nat.reduceLeDiff, Nat.reduceAdd, Nat.reduceSub, Nat.reduceMul, Nat.reduceDiv, Nat.reduceMod, Nat.reduceBEq, Int.reduceEq, Int.reduceLT, Int.reduceLE, Int.reduceNeg, Int.reduceToNat, reduceCtorEq]; with_reducible rfl) (by simp only [go_sem, ↓reduceIte, reduceIte, Nat.reduceEqDiff, Nat.reduceLT, Nat.reduceLeDiff, Nat.reduceAdd, Nat.reduceSub, Nat.reduceMul, Nat.reduceDiv, Nat.reduceMod, Nat.reduceBEq, Int.reduceEq, Int.reduceLT, Int.reduceLE, Int.reduceNeg, Int.reduceToNat, reduceCtorEq]; with_reducible rfl), l + 1, _, rfl, rfl, hat, by omega⟩
  · obtain rfl : n = l := by omega
    clear hlt hl
    have htb : Tab.ok Try.prog G [] := Tab.nil
    have hng : IntKind.i64.wrap (0 - c) = -c := by rw [wrap_i64 _ (by omega)]; omega
    obtain ⟨far, hfar⟩ : ∃ far, max c (-c) + 3 * sz + 1 = far := ⟨_, rfl⟩
    have hf97 : 0 ≤ far ∧ far ≤ 97 := by omega
    have hfw : IntKind.i64.wrap (IntKind.i64.wrap (max c (-c) + IntKind.i64.wrap (3 * sz)) + 1) = far := by
      rw [wrap_i64 (3 * sz) (by omega), wrap_i64 (max c (-c) + 3 * sz) (by omega), wrap_i64 _ (by omega), hfar]
    have hmx : (if -c > c then -c else c) = max c (-c) := by rw [Int.max_def]; split <;> split <;> omega
    repeat' (first | (with_reducible first | refine SW_seq ?_ | refine SW_block ?_ | refine SThen_n ?_ | refine SThen_r ?_ | refine SThen_e ?_ | refine SIn_n ?_ | refine SIn_r ?_ | refine SIn_eq ?_ | refine SW_skip ?_ | refine SW_exit ?_ | refine SW_ret ?_ | refine SPost_r ?_) | ((with_reducible refine SIn_ne ?_ ?_); focus decide) | ((with_reducible refine SW_true ?_ ?_); focus exact rfl) | ((with_reducible refine SW_false ?_ ?_); focus exact rfl) | ((with_reducible apply SW_run tt_ok hG htb); focus ((repeat' (first | (with_reducible exact runX_nil) | ((with_reducible apply runX_cons); focus (simp (discharger := omega) only [go_sem, hng, hmx, hfar, ↓reduceIte, reduceIte, Nat.reduceEqDiff, Nat.reduceLT, Nat.reduceLeDiff, Nat.reduceAdd, Nat.reduceSub, Nat.reduceMul, Nat.reduceDiv, Nat.reduceMod, Nat.reduceBEq, Int.reduceEq, Int.reduceLT, Int.reduceLE, Int.reduceNeg, Int.reduceToNat, reduceCtorEq]; with_reducible rfl)))); done)))
    have hngf : IntKind.i64.wrap (0 - far) = -far := by rw [wrap_i64 _ (by omega)]; omega
    obtain ⟨ov, hov⟩ : ∃ ov, far + 1 = ov := ⟨_, rfl⟩
    obtain ⟨un, hun⟩ : ∃ un, -far - 1 = un := ⟨_, rfl⟩
    have hun2 : 0 - far - 1 = un := by omega
    refine SW_norm (Norm.fixBox 0 rfl rfl) ?_
    refine SW_norm (Norm.fixBox 3 rfl rfl) ?_
    refine SW_norm ((Norm.hole _).trans (Norm.hole _)) ?_
    (with_reducible apply SW_drawF [0, 3] [(7, 4), (8, 5)] rfl tt_ok hG htb)
    · kernel_rfl
    · simp only [List.range, List.range.loop, List.size_toArray, List.length_cons, List.length_nil, Nat.reduceAdd]
      repeat' (first | (with_reducible exact runG_nil) | ((with_reducible apply runF_of); (focus rfl); focus (simp (discharger := omega) only [go_sem, hov, hngf, hun, hun2, ↓reduceIte, reduceIte, Nat.reduceEqDiff, Nat.reduceLT, Nat.reduceLeDiff, Nat.reduceAdd, Nat.reduceSub, Nat.reduceMul, Nat.reduceDiv, Nat.reduceMod, Nat.reduceBEq, Int.reduceEq, Int.reduceLT, Int.reduceLE, Int.reduceNeg, Int.reduceToNat, reduceCtorEq]; with_reducible rfl)) | ((apply runF_fix rfl rfl rfl rfl); focus (simp (discharger := omega) only [go_sem, hov, hngf, hun, hun2, ↓reduceIte, reduceIte, Nat.reduceEqDiff, Nat.reduceLT, Nat.reduceLeDiff, Nat.reduceAdd, Nat.reduceSub, Nat.reduceMul, Nat.reduceDiv, Nat.reduceMod, Nat.reduceBEq, Int.reduceEq, Int.reduceLT, Int.reduceLE, Int.reduceNeg, Int.reduceToNat, reduceCtorEq]; with_reducible rfl)))
    refine SW_norm (Norm.fixBox 4 rfl rfl) ?_
    refine SW_norm (Norm.fixBox 5 rfl rfl) ?_
    generalize hadE : addP base coefs n n = add at hat
    have hadl : add.length = n := by rw [← hadE, addP_length]
    subst hat
    repeat' (first | (with_reducible first | refine SW_seq ?_ | refine SW_block ?_ | refine SThen_n ?_ | refine SThen_r ?_ | refine SThen_e ?_ | refine SIn_n ?_ | refine SIn_r ?_ | refine SIn_eq ?_ | refine SW_skip ?_ | refine SW_exit ?_ | refine SW_ret ?_ | refine SPost_r ?_) | ((with_reducible refine SIn_ne ?_ ?_); focus decide) | ((with_reducible refine SW_true ?_ ?_); focus exact rfl) | ((with_reducible refine SW_false ?_ ?_); focus exact rfl) | ((first | (with_reducible apply SW_run tt_ok hG htb) | ((with_reducible apply SW_draw rfl tt_ok hG htb); (focus kernel_rfl); (focus (simp only [List.range, List.range.loop, List.size_toArray, List.length_cons, List.length_nil, Nat.reduceAdd])))); focus ((repeat' (first | (with_reducible exact runX_nil) | (with_reducible exact runI_nil) | ((first | (with_reducible apply runX_cons) | (with_reducible apply runI_cons)); focus (simp (discharger := omega) only [go_sem, ↓reduceIte, reduceIte, Nat.reduceEqDiff, Nat.reduceLT, Nat.reduceLeDiff, Nat.reduceAdd, Nat.reduceSub, Nat.reduceMul, Nat.reduceDiv, Nat.reduceMod, Nat.reduceBEq, Int.reduceEq, Int.reduceLT, Int.reduceLE, Int.reduceNeg, Int.reduceToNat, reduceCtorEq]; with_reducible rfl)))); done)))
    refine SW_norm (Norm.tr 23 (y := .fn 47 [.ptr [tInt ov, tInt 0], .ptr [tInt un, tInt 0], .ptr [tInt base], .ptr [tInt far]]) rfl rfl) ?_
    refine SW_loop (fun mm s => ∃ (i : Nat) (met : List (Int × Int)) (rows : List (List Int)) (es : List (T × T)) (at_ nt et : List T), mm = 43143 - i ∧ s = ⟨196, [(1, .t (tInts coefs)), (2, .t (tInt c)), (3, .t (.bool less)), (4, .bptr 0 0), (8, .bptr 1 0), (14, .sref 2), (23, .t (.fn 47 [.ptr [tInt ov, tInt 0], .ptr [tInt un, tInt 0], .ptr [tInt base], .ptr [tInt far]])), (24, .map 3), (25, .sref 4), (26, .sref 5), (27, .sref 6), (28, .t (tNat i))], [.fbox [tInt base], .box [.t (tInt 0), .t (tInt 0), .nil, .nil], .row 3 1 true (add.map tInt), .map (.ints 2) es, .row 92 2 false at_, .row 24 1 false nt, .row 4 1 false et]⟩ ∧ es = keyEntries tPair met ∧ at_ = met.map tPair ∧ nt = rows.map tInts ∧ et = (met.take i).map (fun p => T.bool (lnEnd less c p)) ∧ met.Nodup ∧ (∀ p ∈ met, LnPt base far sz (far + sz) p) ∧ met[0]? = some (0, 0) ∧ Expl (fun p l => lnCut far base p (addL base coefs l)) n met rows ∧ rows.length = i ∧ i ≤ met.length) (43143)
      ⟨_, Norm.headS (own := [(14, 3, 1, true), (25, 92, 2, false), (26, 24, 1, false), (27, 4, 1, false)]) (keep := [1, 2, 3, 4, 8, 14, 23, 24, 25, 26, 27, 28]) (by simp (discharger := omega) only [go_sem, ↓reduceIte, reduceIte, Nat.reduceEqDiff, Nat.reduceLT, Nat.reduceLeDiff, Nat.reduceAdd, Nat.reduceSub, Nat.reduceMul, Nat.reduceDiv, Nat.reduceMod, Nat.reduceBEq, Int.reduceEq, Int.reduceLT, Int.reduceLE, Int.reduceNeg, Int.reduceToNat, reduceCtorEq]; with_reducible rfl) (by simp only [go_sem, ↓reduceIte, reduceIte, Nat.reduceEqDiff, Nat.reduceLT, Nat.reduceLeDiff, Nat.reduceAdd, Nat.reduceSub, Nat.reduceMul, Nat.reduceDiv, Nat.reduceMod, Nat.reduceBEq, Int.reduceEq, Int.reduceLT, Int.reduceLE, Int.reduceNeg, Int.reduceToNat, reduceCtorEq]; with_reducible rfl) (by simp only [go_sem, ↓reduceIte, reduceIte, Nat.reduceEqDiff, Nat.reduceLT, Nat.reduceLeDiff, Nat.reduceAdd, Nat.reduceSub, Nat.reduceMul, Nat.reduceDiv, Nat.reduceMod, Nat.reduceBEq, Int.reduceEq, Int.reduceLT, Int.reduceLE, Int.reduceNeg, Int.reduceToNat, reduceCtorEq]; with_reducible rfl) (by simp only [go_sem, ↓reduceIte, reduceIte, Nat.reduceEqDiff, Nat.reduceLT, Nat.reduceLeDiff, Nat.reduceAdd, Nat.reduceSub, Nat.reduceMul, Nat.reduceDiv, Nat.reduceMod, Nat.reduceBEq, Int.reduceEq, Int.reduceLT, Int.reduceLE, Int.reduceNeg, Int.reduceToNat, reduceCtorEq]; with_reducible rfl) (by simp only [go_sem, ↓reduceIte, reduceIte, Nat.reduceEqDiff, Nat.reduceLT, Nat.reduceLeDiff, Nat.reduceAdd, Nat.reduceSub, Nat.reduceMul, Nat.reduceDiv, Nat.reduceMod, Nat.reduceBEq, Int.reduceEq, Int.reduceLT, Int.reduceLE, Int.reduceNeg, Int.reduceToNat, reduceCtorEq]; with_reducible rfl), 0, [(0, 0)], [], _, _, _, _, rfl, rfl, rfl, rfl, rfl, rfl, by simp, fun p hp => by simp at hp; subst hp; exact LnPt.zero hs.1 hf97.1 (by omega), rfl, Expl.nil, rfl, by simp⟩ ?_
    rintro mm s ⟨i, met, rows, es, at_, nt, et, rfl, rfl, hes, rfl, rfl, rfl, hnd, hrg, hz0, hex, hrl, hi⟩
    have hml : met.length ≤ 43143 := by
      have := ln_count (A := 98) (B := 109) hnd fun p hp => by
        have := hrg p hp
        have h1 := this.x
        have h2 := this.y
        omega
      omega
    have hetl : ((met.take i).map (fun p => T.bool (lnEnd less c p))).length = i := by simp; omega
    by_cases hlt : i < met.length
    · obtain ⟨⟨x, y⟩, hatp⟩ : ∃ p, met[i]! = p := ⟨_, rfl⟩
      have hio : met[i]? = some (x, y) := bang_get hatp hlt
      have hpt := hrg _ (List.mem_of_getElem? hio)
      have hpx := hpt.x
      have hpy := hpt.y
      simp only at hpx hpy
      clear htb
      have htb : Tab.ok Try.prog G [] := Tab.nil
      repeat' (first | (with_reducible first | refine SW_seq ?_ | refine SW_block ?_ | refine SThen_n ?_ | refine SThen_r ?_ | refine SThen_e ?_ | refine SIn_n ?_ | refine SIn_r ?_ | refine SIn_eq ?_ | refine SW_skip ?_ | refine SW_exit ?_ | refine SW_ret ?_ | refine SPost_r ?_) | ((with_reducible refine SIn_ne ?_ ?_); focus decide) | ((with_reducible refine SW_true ?_ ?_); focus exact rfl) | ((with_reducible refine SW_false ?_ ?_); focus exact rfl) | ((first | (with_reducible apply SW_run tt_ok hG htb) | ((with_reducible apply SW_draw rfl tt_ok hG htb); (focus kernel_rfl); (focus (simp only [List.range, List.range.loop, List.size_toArray, List.length_cons, List.length_nil, Nat.reduceAdd])))); focus ((repeat' (first | (with_reducible exact runX_nil) | (with_reducible exact runI_nil) | ((first | (with_reducible apply runX_cons) | (with_reducible apply runI_cons)); focus (simp (discharger := omega) only [go_sem, hadl, ↓reduceIte, reduceIte, Nat.reduceEqDiff, Nat.reduceLT, Nat.reduceLeDiff, Nat.reduceAdd, Nat.reduceSub, Nat.reduceMul, Nat.reduceDiv, Nat.reduceMod, Nat.reduceBEq, Int.reduceEq, Int.reduceLT, Int.reduceLE, Int.reduceNeg, Int.reduceToNat, reduceCtorEq]; with_reducible rfl)))); done)))
      generalize hetE : (met.take i).map (fun p => T.bool (lnEnd less c p)) = et at hetl
      refine SW_loop (fun mm s => ∃ (l : Nat) (met' : List (Int × Int)) (q : List Nat) (es : List (T × T)) (at_ qt : List T), mm = n - l ∧ s = ⟨196, [(1, .t (tInts coefs)), (2, .t (tInt c)), (3, .t (.bool less)), (4, .bptr 0 0), (8, .bptr 1 0), (14, .sref 2), (23, .t (.fn 47 [.ptr [tInt ov, tInt 0], .ptr [tInt un, tInt 0], .ptr [tInt base], .ptr [tInt far]])), (24, .map 3), (25, .sref 4), (26, .sref 5), (27, .sref 6), (28, .t (tNat i)), (29, .sref 7), (126, .sref 2), (127, .t (tNat n)), (128, .t (tNat l))], [.fbox [tInt base], .box [.t (tInt 0), .t (tInt 0), .nil, .nil], .row 3 1 true (add.map tInt), .map (.ints 2) es, .row 92 2 false at_, .row 24 1 false (rows.map tInts), .row 4 1 false et, .row 3 1 false qt]⟩ ∧ es = keyEntries tPair met' ∧ at_ = met'.map tPair ∧ qt = q.map tNat ∧ met'.Nodup ∧ (∀ p ∈ met', LnPt base far sz (far + sz) p) ∧ Met1 (fun p l => lnCut far base p (addL base coefs l)) (x, y) met met' q l ∧ l ≤ n) (n)
        ⟨_, Norm.headS (own := [(14, 3, 1, true), (25, 92, 2, false), (26, 24, 1, false), (27, 4, 1, false), (29, 3, 1, false)]) (keep := [1, 2, 3, 4, 8, 14, 23, 24, 25, 26, 27, 28, 29, 126, 127, 128]) (by simp (discharger := omega) only [go_sem, ↓reduceIte, reduceIte, Nat.reduceEqDiff, Nat.reduceLT, Nat.reduceLeDiff, Nat.reduceAdd, Nat.reduceSub, Nat.reduceMul, Nat.reduceDiv, Nat.reduceMod, Nat.reduceBEq, Int.reduceEq, Int.reduceLT, Int.reduceLE, Int.reduceNeg, Int.reduceToNat, reduceCtorEq]; with_reducible rfl) (by simp only [go_sem, ↓reduceIte, reduceIte, Nat.reduceEqDiff, Nat.reduceLT, Nat.reduceLeDiff, Nat.reduceAdd, Nat.reduceSub, Nat.reduceMul, Nat.reduceDiv, Nat.reduceMod, Nat.reduceBEq, Int.reduceEq, Int.reduceLT, Int.reduceLE, Int.reduceNeg, Int.reduceToNat, reduceCtorEq]; with_reducible rfl) (by simp only [go_sem, ↓reduceIte, reduceIte, Nat.reduceEqDiff, Nat.reduceLT, Nat.reduceLeDiff, Nat.reduceAdd, Nat.reduceSub, Nat.reduceMul, Nat.reduceDiv, Nat.reduceMod, Nat.reduceBEq, Int.reduceEq, Int.reduceLT, Int.reduceLE, Int.reduceNeg, Int.reduceToNat, reduceCtorEq]; with_reducible rfl) (by simp only [go_sem, ↓reduceIte, reduceIte, Nat.reduceEqDiff, Nat.reduceLT, Nat.reduceLeDiff, Nat.reduceAdd, Nat.reduceSub, Nat.reduceMul, Nat.reduceDiv, Nat.reduceMod, Nat.reduceBEq, Int.reduceEq, Int.reduceLT, Int.reduceLE, Int.reduceNeg, Int.reduceToNat, reduceCtorEq]; with_reducible rfl) (by simp only [go_sem, ↓reduceIte, reduceIte, Nat.reduceEqDiff, Nat.reduceLT, Nat.reduceLeDiff, Nat.reduceAdd, Nat.reduceSub, Nat.reduceMul, Nat.reduceDiv, Nat.reduceMod, Nat.reduceBEq, Int.reduceEq, Int.reduceLT, Int.reduceLE, Int.reduceNeg, Int.reduceToNat, reduceCtorEq]; with_reducible rfl), 0, met, [], _, _, _, rfl, rfl, hes, rfl, rfl, hnd, hrg, .start, Nat.zero_le _⟩ ?_
      clear hes
      rintro mm s ⟨l, met', q, es, at_, qt, rfl, rfl, hes, rfl, rfl, hnd', hrg', hM, hl⟩
      have hml' : met'.length ≤ 43143 := by
        have := ln_count (A := 98) (B := 109) hnd' fun p hp => by
          have := hrg' p hp
          have h1 := this.x
          have h2 := this.y
          omega
        omega
      have hel : es.length = met'.length := by rw [hes, keyEntries_length]
      have hql := hM.len
      have hio' := pre_get hM.pre hio
      have hlt' := (List.getElem?_eq_some_iff.1 hio').1
      have hat' : met'[i]! = (x, y) := by rw [getElem!_pos met' i hlt']; exact (List.getElem?_eq_some_iff.1 hio').2
      by_cases hlt2 : l < n
      · obtain ⟨e, hel2⟩ : ∃ e, add[l]! = e := ⟨_, rfl⟩
        have hee : e = addL base coefs l := by rw [← hel2, ← hadE]; exact addP_at base coefs hlt2
        have heok := hlnok l
        rw [← hee] at heok
        have heb : -60 ≤ e ∧ e ≤ 60 := by
          have hr6 := radix_two g.r
          have h1 : sz * (radix base - 1) ≤ 12 * (radix base - 1) := Int.mul_le_mul_of_nonneg_right hs.2 (by omega)
          unfold lnOk at heok
          omega
        have hstep := hpt.step hs.1 hf97.1 (.inl (Int.le_refl _)) heok
        have c3 := StepF_snd hG base far ov un hov.symm hun.symm (x, y) e g.r hf97 heb ⟨by simp only; omega, by simp only; omega⟩ ⟨by simp only; omega, by simp only; omega⟩
        have hps : lnCut far base (x, y) (addL base coefs l) = lnCut far base (x, y) e := by rw [hee]
        obtain ⟨⟨u, v⟩, huv⟩ : ∃ p, lnCut far base (x, y) e = p := ⟨_, rfl⟩
        rw [huv] at c3 hstep hps
        have hux := hstep.x
        have huy := hstep.y
        simp only at hux huy
        clear htb
        have htb := Tab.cons c3 Tab.nil
        by_cases hx : (u, v) ∈ met'
        · obtain ⟨kk, hk⟩ := List.mem_iff_getElem?.1 hx
          have hget : mapGet es (.agg [.int .i64 u, .int .i64 v]) = some (tNat kk) := by rw [hes]; exact keyEntries_get_some (f := tPair) tPair_inj' hnd' hk
          repeat' (first | (with_reducible first | refine SW_seq ?_ | refine SW_block ?_ | refine SThen_n ?_ | refine SThen_r ?_ | refine SThen_e ?_ | refine SIn_n ?_ | refine SIn_r ?_ | refine SIn_eq ?_ | refine SW_skip ?_ | refine SW_exit ?_ | refine SW_ret ?_ | refine SPost_r ?_) | ((with_reducible refine SIn_ne ?_ ?_); focus decide) | ((with_reducible refine SW_true ?_ ?_); focus exact rfl) | ((with_reducible refine SW_false ?_ ?_); focus exact rfl) | ((first | (with_reducible apply SW_run tt_ok hG htb) | ((with_reducible apply SW_draw rfl tt_ok hG htb); (focus kernel_rfl); (focus (simp only [List.range, List.range.loop, List.size_toArray, List.length_cons, List.length_nil, Nat.reduceAdd])))); focus ((repeat' (first | (with_reducible exact runX_nil) | (with_reducible exact runI_nil) | ((first | (with_reducible apply runX_cons) | (with_reducible apply runI_cons)); focus (simp (discharger := omega) only [go_sem, tPair, hat', hel2, hget, ↓reduceIte, reduceIte, Nat.reduceEqDiff, Nat.reduceLT, Nat.reduceLeDiff, Nat.reduceAdd, Nat.reduceSub, Nat.reduceMul, Nat.reduceDiv, Nat.reduceMod, Nat.reduceBEq, Int.reduceEq, Int.reduceLT, Int.reduceLE, Int.reduceNeg, Int.reduceToNat, reduceCtorEq]; with_reducible rfl)))); done)))
          exact ⟨n - (l + 1), _, by omega, Norm.headS (own := [(14, 3, 1, true), (25, 92, 2, false), (26, 24, 1, false), (27, 4, 1, false), (29, 3, 1, false)]) (keep := [1, 2, 3, 4, 8, 14, 23, 24, 25, 26, 27, 28, 29, 126, 127, 128]) (by simp (discharger := omega) only [go_sem, ↓reduceIte, reduceIte, Nat.reduceEqDiff, Nat.reduceLT, Nat.reduceLeDiff, Nat.reduceAdd, Nat.reduceSub, Nat.reduceMul, Nat.reduceDiv, Nat.reduceMod, Nat.reduceBEq, Int.reduceEq, Int.reduceLT, Int.reduceLE, Int.reduceNeg, Int.reduceToNat, reduceCtorEq]; with_reducible rfl) (by simp only [go_sem, ↓reduceIte, reduceIte, Nat.reduceEqDiff, Nat.reduceLT, Nat.reduceLeDiff, Nat.reduceAdd, Nat.reduceSub, Nat.reduceMul, Nat.reduceDiv, Nat.reduceMod, Nat.reduceBEq, Int.reduceEq, Int.reduceLT, Int.reduceLE, Int.reduceNeg, Int.reduceToNat, reduceCtorEq]; with_reducible rfl) (by simp only [go_sem, ↓reduceIte, reduceIte, Nat.reduceEqDiff, Nat.reduceLT, Nat.reduceLeDiff, Nat.reduceAdd, Nat.reduceSub, Nat.reduceMul, Nat.reduceDiv, Nat.reduceMod, Nat.reduceBEq, Int.reduceEq, Int.reduceLT, Int.reduceLE, Int.reduceNeg, Int.reduceToNat, reduceCtorEq]; with_reducible rfl) (by simp only [go_sem, ↓reduceIte, reduceIte, Nat.reduceEqDiff, Nat.reduceLT, Nat.reduceLeDiff, Nat.reduceAdd, Nat.reduceSub, Nat.reduceMul, Nat.reduceDiv, Nat.reduceMod, Nat.reduceBEq, Int.reduceEq, Int.reduceLT, Int.reduceLE, Int.reduceNeg, Int.reduceToNat, reduceCtorEq]; with_reducible rfl) (by simp only [go_sem, ↓reduceIte, reduceIte, Nat.reduceEqDiff, Nat.reduceLT, Nat.reduceLeDiff, Nat.reduceAdd, Nat.reduceSub, Nat.reduceMul, Nat.reduceDiv, Nat.reduceMod, Nat.reduceBEq, Int.reduceEq, Int.reduceLT, Int.reduceLE, Int.reduceNeg, Int.reduceToNat, reduceCtorEq]; with_reducible rfl), l + 1, met', q ++ [kk], _, _, _, rfl, rfl, hes, rfl, by rw [List.map_append]; rfl, hnd', hrg', hM.old (by rw [hps]; exact hk), by omega⟩
        · have hget : mapGet es (.agg [.int .i64 u, .int .i64 v]) = none := by rw [hes]; exact keyEntries_get_none (f := tPair) tPair_inj' hx
          have hset : mapSet es (.agg [.int .i64 u, .int .i64 v]) (.int .i64 (met'.length : Int)) = keyEntries tPair (met' ++ [(u, v)]) := by rw [hes]; exact keyEntries_set (f := tPair) tPair_inj' hx
          repeat' (first | (with_reducible first | refine SW_seq ?_ | refine SW_block ?_ | refine SThen_n ?_ | refine SThen_r ?_ | refine SThen_e ?_ | refine SIn_n ?_ | refine SIn_r ?_ | refine SIn_eq ?_ | refine SW_skip ?_ | refine SW_exit ?_ | refine SW_ret ?_ | refine SPost_r ?_) | ((with_reducible refine SIn_ne ?_ ?_); focus decide) | ((with_reducible refine SW_true ?_ ?_); focus exact rfl) | ((with_reducible refine SW_false ?_ ?_); focus exact rfl) | ((first | (with_reducible apply SW_run tt_ok hG htb) | ((with_reducible apply SW_draw rfl tt_ok hG htb); (focus kernel_rfl); (focus (simp only [List.range, List.range.loop, List.size_toArray, List.length_cons, List.length_nil, Nat.reduceAdd])))); focus ((repeat' (first | (with_reducible exact runX_nil) | (with_reducible exact runI_nil) | ((first | (with_reducible apply runX_cons) | (with_reducible apply runI_cons)); focus (simp (discharger := omega) only [go_sem, tPair, hat', hel2, hget, ↓reduceIte, reduceIte, Nat.reduceEqDiff, Nat.reduceLT, Nat.reduceLeDiff, Nat.reduceAdd, Nat.reduceSub, Nat.reduceMul, Nat.reduceDiv, Nat.reduceMod, Nat.reduceBEq, Int.reduceEq, Int.reduceLT, Int.reduceLE, Int.reduceNeg, Int.reduceToNat, reduceCtorEq]; with_reducible rfl)))); done)))
          exact ⟨n - (l + 1), _, by omega, Norm.headS (own := [(14, 3, 1, true), (25, 92, 2, false), (26, 24, 1, false), (27, 4, 1, false), (29, 3, 1, false)]) (keep := [1, 2, 3, 4, 8, 14, 23, 24, 25, 26, 27, 28, 29, 126, 127, 128]) (by simp (discharger := omega) only [go_sem, ↓reduceIte, reduceIte, Nat.reduceEqDiff, Nat.reduceLT, Nat.reduceLeDiff, Nat.reduceAdd, Nat.reduceSub, Nat.reduceMul, Nat.reduceDiv, Nat.reduceMod, Nat.reduceBEq, Int.reduceEq, Int.reduceLT, Int.reduceLE, Int.reduceNeg, Int.reduceToNat, reduceCtorEq]; with_reducible rfl) (by simp only [go_sem, ↓reduceIte, reduceIte, Nat.reduceEqDiff, Nat.reduceLT, Nat.reduceLeDiff, Nat.reduceAdd, Nat.reduceSub, Nat.reduceMul, Nat.reduceDiv, Nat.reduceMod, Nat.reduceBEq, Int.reduceEq, Int.reduceLT, Int.reduceLE, Int.reduceNeg, Int.reduceToNat, reduceCtorEq]; with_reducible rfl) (by simp only [go_sem, ↓reduceIte, reduceIte, Nat.reduceEqDiff, Nat.reduceLT, Nat.reduceLeDiff, Nat.reduceAdd, Nat.reduceSub, Nat.reduceMul, Nat.reduceDiv, Nat.reduceMod, Nat.reduceBEq, Int.reduceEq, Int.reduceLT, Int.reduceLE, Int.reduceNeg, Int.reduceToNat, reduceCtorEq]; with_reducible rfl) (by simp only [go_sem, ↓reduceIte, reduceIte, Nat.reduceEqDiff, Nat.reduceLT, Nat.reduceLeDiff, Nat.reduceAdd, Nat.reduceSub, Nat.reduceMul, Nat.reduceDiv, Nat.reduceMod, Nat.reduceBEq, Int.reduceEq, Int.reduceLT, Int.reduceLE, Int.reduceNeg, Int.reduceToNat, reduceCtorEq]; with_reducible rfl) (by simp only [go_sem, ↓reduceIte, reduceIte, Nat.reduceEqDiff, Nat.reduceLT, Nat.reduceLeDiff, Nat.reduceAdd, Nat.reduceSub, Nat.reduceMul, Nat.reduceDiv, Nat.reduceMod, Nat.reduceBEq, Int.reduceEq, Int.reduceLT, Int.reduceLE, Int.reduceNeg, Int.reduceToNat, reduceCtorEq]; with_reducible rfl), l + 1, met' ++ [(u, v)], q ++ [met'.length], _, _, _, rfl, rfl, hset, by rw [List.map_append]; rfl, by rw [List.map_append]; simp [tNat, hel], nodup_snoc hnd' hx, fun p hp => by
              rcases List.mem_append.1 hp with h | h
              · exact hrg' p h
              · simp at h; subst h; exact hstep, by have := hM.new; rwa [hps] at this, by omega⟩
      · obtain rfl : l = n := by omega
        have htk := hM.take hio
        have hnt : rows.map tInts ++ [T.list (q.map tNat)] = (rows ++ [q.map fun (k : Nat) => (k : Int)]).map tInts := by simp [tInts, tNat, tInt]
        have hfin : ∀ b, b = lnEnd less c (x, y) → et ++ [T.bool b] = (met'.take (i + 1)).map (fun p => T.bool (lnEnd less c p)) := fun b hb => by
          rw [htk, List.map_append, hetE, hb]; rfl
        cases less with
        | true =>
          by_cases hv : x + c < 0
          · have hb : true = lnEnd true c (x, y) := by simp [lnEnd, hv]
            repeat' (first | (with_reducible first | refine SW_seq ?_ | refine SW_block ?_ | refine SThen_n ?_ | refine SThen_r ?_ | refine SThen_e ?_ | refine SIn_n ?_ | refine SIn_r ?_ | refine SIn_eq ?_ | refine SW_skip ?_ | refine SW_exit ?_ | refine SW_ret ?_ | refine SPost_r ?_) | ((with_reducible refine SIn_ne ?_ ?_); focus decide) | ((with_reducible refine SW_true ?_ ?_); focus exact rfl) | ((with_reducible refine SW_false ?_ ?_); focus exact rfl) | ((first | (with_reducible apply SW_run tt_ok hG htb) | ((with_reducible apply SW_draw rfl tt_ok hG htb); (focus kernel_rfl); (focus (simp only [List.range, List.range.loop, List.size_toArray, List.length_cons, List.length_nil, Nat.reduceAdd])))); focus ((repeat' (first | (with_reducible exact runX_nil) | (with_reducible exact runI_nil) | ((first | (with_reducible apply runX_cons) | (with_reducible apply runI_cons)); focus (simp (discharger := omega) only [go_sem, tPair, hat', ↓reduceIte, reduceIte, Nat.reduceEqDiff, Nat.reduceLT, Nat.reduceLeDiff, Nat.reduceAdd, Nat.reduceSub, Nat.reduceMul, Nat.reduceDiv, Nat.reduceMod, Nat.reduceBEq, Int.reduceEq, Int.reduceLT, Int.reduceLE, Int.reduceNeg, Int.reduceToNat, reduceCtorEq]; with_reducible rfl)))); done)))
            exact ⟨43143 - (i + 1), _, by omega, Norm.headS (own := [(14, 3, 1, true), (25, 92, 2, false), (26, 24, 1, false), (27, 4, 1, false)]) (keep := [1, 2, 3, 4, 8, 14, 23, 24, 25, 26, 27, 28]) (by simp (discharger := omega) only [go_sem, ↓reduceIte, reduceIte, Nat.reduceEqDiff, Nat.reduceLT, Nat.reduceLeDiff, Nat.reduceAdd, Nat.reduceSub, Nat.reduceMul, Nat.reduceDiv, Nat.reduceMod, Nat.reduceBEq, Int.reduceEq, Int.reduceLT, Int.reduceLE, Int.reduceNeg, Int.reduceToNat, reduceCtorEq]; with_reducible rfl) (by simp only [go_sem, ↓reduceIte, reduceIte, Nat.reduceEqDiff, Nat.reduceLT, Nat.reduceLeDiff, Nat.reduceAdd, Nat.reduceSub, Nat.reduceMul, Nat.reduceDiv, Nat.reduceMod, Nat.reduceBEq, Int.reduceEq, Int.reduceLT, Int.reduceLE, Int.reduceNeg, Int.reduceToNat, reduceCtorEq]; with_reducible rfl) (by simp only [go_sem, ↓reduceIte, reduceIte, Nat.reduceEqDiff, Nat.reduceLT, Nat.reduceLeDiff, Nat.reduceAdd, Nat.reduceSub, Nat.reduceMul, Nat.reduceDiv, Nat.reduceMod, Nat.reduceBEq, Int.reduceEq, Int.reduceLT, Int.reduceLE, Int.reduceNeg, Int.reduceToNat, reduceCtorEq]; with_reducible rfl) (by simp only [go_sem, ↓reduceIte, reduceIte, Nat.reduceEqDiff, Nat.reduceLT, Nat.reduceLeDiff, Nat.reduceAdd, Nat.reduceSub, Nat.reduceMul, Nat.reduceDiv, Nat.reduceMod, Nat.reduceBEq, Int.reduceEq, Int.reduceLT, Int.reduceLE, Int.reduceNeg, Int.reduceToNat, reduceCtorEq]; with_reducible rfl) (by simp only [go_sem, ↓reduceIte, reduceIte, Nat.reduceEqDiff, Nat.reduceLT, Nat.reduceLeDiff, Nat.reduceAdd, Nat.reduceSub, Nat.reduceMul, Nat.reduceDiv, Nat.reduceMod, Nat.reduceBEq, Int.reduceEq, Int.reduceLT, Int.reduceLE, Int.reduceNeg, Int.reduceToNat, reduceCtorEq]; with_reducible rfl), i + 1, met', rows ++ [q.map fun (k : Nat) => (k : Int)], _, _, _, _, rfl, rfl, hes, rfl, hnt, hfin _ hb, hnd', hrg', pre_get hM.pre hz0, hM.fin hex hrl hio, by simp [hrl], by omega⟩
          · have hb : false = lnEnd true c (x, y) := by simp [lnEnd, hv]
            repeat' (first | (with_reducible first | refine SW_seq ?_ | refine SW_block ?_ | refine SThen_n ?_ | refine SThen_r ?_ | refine SThen_e ?_ | refine SIn_n ?_ | refine SIn_r ?_ | refine SIn_eq ?_ | refine SW_skip ?_ | refine SW_exit ?_ | refine SW_ret ?_ | refine SPost_r ?_) | ((with_reducible refine SIn_ne ?_ ?_); focus decide) | ((with_reducible refine SW_true ?_ ?_); focus exact rfl) | ((with_reducible refine SW_false ?_ ?_); focus exact rfl) | ((first | (with_reducible apply SW_run tt_ok hG htb) | ((with_reducible apply SW_draw rfl tt_ok hG htb); (focus kernel_rfl); (focus (simp only [List.range, List.range.loop, List.size_toArray, List.length_cons, List.length_nil, Nat.reduceAdd])))); focus ((repeat' (first | (with_reducible exact runX_nil) | (with_reducible exact runI_nil) | ((first | (with_reducible apply runX_cons) | (with_reducible apply runI_cons)); focus (simp (discharger := omega) only [go_sem, tPair, hat', ↓reduceIte, reduceIte, Nat.reduceEqDiff, Nat.reduceLT, Nat.reduceLeDiff, Nat.reduceAdd, Nat.reduceSub, Nat.reduceMul, Nat.reduceDiv, Nat.reduceMod, Nat.reduceBEq, Int.reduceEq, Int.reduceLT, Int.reduceLE, Int.reduceNeg, Int.reduceToNat, reduceCtorEq]; with_reducible rfl)))); done)))
            exact ⟨43143 - (i + 1), _, by omega, Norm.headS (own := [(14, 3, 1, true), (25, 92, 2, false), (26, 24, 1, false), (27, 4, 1, false)]) (keep := [1, 2, 3, 4, 8, 14, 23, 24, 25, 26, 27, 28]) (by simp (discharger := omega) only [go_sem, ↓reduceIte, reduceIte, Nat.reduceEqDiff, Nat.reduceLT, Nat.reduceLeDiff, Nat.reduceAdd, Nat.reduceSub, Nat.reduceMul, Nat.reduceDiv, Nat.reduceMod, Nat.reduceBEq, Int.reduceEq, Int.reduceLT, Int.reduceLE, Int.reduceNeg, Int.reduceToNat, reduceCtorEq]; with_reducible rfl) (by simp only [go_sem, ↓reduceIte, reduceIte, Nat.reduceEqDiff, Nat.reduceLT, Nat.reduceLeDiff, Nat.reduceAdd, Nat.reduceSub, Nat.reduceMul, Nat.reduceDiv, Nat.reduceMod, Nat.reduceBEq, Int.reduceEq, Int.reduceLT, Int.reduceLE, Int.reduceNeg, Int.reduceToNat, reduceCtorEq]; with_reducible rfl) (by simp only [go_sem, ↓reduceIte, reduceIte, Nat.reduceEqDiff, Nat.reduceLT, Nat.reduceLeDiff, Nat.reduceAdd, Nat.reduceSub, Nat.reduceMul, Nat.reduceDiv, Nat.reduceMod, Nat.reduceBEq, Int.reduceEq, Int.reduceLT, Int.reduceLE, Int.reduceNeg, Int.reduceToNat, reduceCtorEq]; with_reducible rfl) (by simp only [go_sem, ↓reduceIte, reduceIte, Nat.reduceEqDiff, Nat.reduceLT, Nat.reduceLeDiff, Nat.reduceAdd, Nat.reduceSub, Nat.reduceMul, Nat.reduceDiv, Nat.reduceMod, Nat.reduceBEq, Int.reduceEq, Int.reduceLT, Int.reduceLE, Int.reduceNeg, Int.reduceToNat, reduceCtorEq]; with_reducible rfl) (by simp only [go_sem, ↓reduceIte, reduceIte, Nat.reduceEqDiff, Nat.reduceLT, Nat.reduceLeDiff, Nat.reduceAdd, Nat.reduceSub, Nat.reduceMul, Nat.reduceDiv, Nat.reduceMod, Nat.reduceBEq, Int.reduceEq, Int.reduceLT, Int.reduceLE, Int.reduceNeg, Int.reduceToNat, reduceCtorEq]; with_reducible rfl), i + 1, met', rows ++ [q.map fun (k : Nat) => (k : Int)], _, _, _, _, rfl, rfl, hes, rfl, hnt, hfin _ hb, hnd', hrg', pre_get hM.pre hz0, hM.fin hex hrl hio, by simp [hrl], by omega⟩
        | false =>
          by_cases hv : x + c = 0
          · have hb : true = lnEnd false c (x, y) := by simp [lnEnd, hv]
            repeat' (first | (with_reducible first | refine SW_seq ?_ | refine SW_block ?_ | refine SThen_n ?_ | refine SThen_r ?_ | refine SThen_e ?_ | refine SIn_n ?_ | refine SIn_r ?_ | refine SIn_eq ?_ | refine SW_skip ?_ | refine SW_exit ?_ | refine SW_ret ?_ | refine SPost_r ?_) | ((with_reducible refine SIn_ne ?_ ?_); focus decide) | ((with_reducible refine SW_true ?_ ?_); focus exact rfl) | ((with_reducible refine SW_false ?_ ?_); focus exact rfl) | ((first | (with_reducible apply SW_run tt_ok hG htb) | ((with_reducible apply SW_draw rfl tt_ok hG htb); (focus kernel_rfl); (focus (simp only [List.range, List.range.loop, List.size_toArray, List.length_cons, List.length_nil, Nat.reduceAdd])))); focus ((repeat' (first | (with_reducible exact runX_nil) | (with_reducible exact runI_nil) | ((first | (with_reducible apply runX_cons) | (with_reducible apply runI_cons)); focus (simp (discharger := omega) only [go_sem, tPair, hat', hv, ↓reduceIte, reduceIte, Nat.reduceEqDiff, Nat.reduceLT, Nat.reduceLeDiff, Nat.reduceAdd, Nat.reduceSub, Nat.reduceMul, Nat.reduceDiv, Nat.reduceMod, Nat.reduceBEq, Int.reduceEq, Int.reduceLT, Int.reduceLE, Int.reduceNeg, Int.reduceToNat, reduceCtorEq]; with_reducible rfl)))); done)))
            exact ⟨43143 - (i + 1), _, by omega, Norm.headS (own := [(14, 3, 1, true), (25, 92, 2, false), (26, 24, 1, false), (27, 4, 1, false)]) (keep := [1, 2, 3, 4, 8, 14, 23, 24, 25, 26, 27, 28]) (by simp (discharger := omega) only [go_sem, ↓reduceIte, reduceIte, Nat.reduceEqDiff, Nat.reduceLT, Nat.reduceLeDiff, Nat.reduceAdd, Nat.reduceSub, Nat.reduceMul, Nat.reduceDiv, Nat.reduceMod, Nat.reduceBEq, Int.reduceEq, Int.reduceLT, Int.reduceLE, Int.reduceNeg, Int.reduceToNat, reduceCtorEq]; with_reducible rfl) (by simp only [go_sem, ↓reduceIte, reduceIte, Nat.reduceEqDiff, Nat.reduceLT, Nat.reduceLeDiff, Nat.reduceAdd, Nat.reduceSub, Nat.reduceMul, Nat.reduceDiv, Nat.reduceMod, Nat.reduceBEq, Int.reduceEq, Int.reduceLT, Int.reduceLE, Int.reduceNeg, Int.reduceToNat, reduceCtorEq]; with_reducible rfl) (by simp only [go_sem, ↓reduceIte, reduceIte, Nat.reduceEqDiff, Nat.reduceLT, Nat.reduceLeDiff, Nat.reduceAdd, Nat.reduceSub, Nat.reduceMul, Nat.reduceDiv, Nat.reduceMod, Nat.reduceBEq, Int.reduceEq, Int.reduceLT, Int.reduceLE, Int.reduceNeg, Int.reduceToNat, reduceCtorEq]; with_reducible rfl) (by simp only [go_sem, ↓reduceIte, reduceIte, Nat.reduceEqDiff, Nat.reduceLT, Nat.reduceLeDiff, Nat.reduceAdd, Nat.reduceSub, Nat.reduceMul, Nat.reduceDiv, Nat.reduceMod, Nat.reduceBEq, Int.reduceEq, Int.reduceLT, Int.reduceLE, Int.reduceNeg, Int.reduceToNat, reduceCtorEq]; with_reducible rfl) (by simp only [go_sem, ↓reduceIte, reduceIte, Nat.reduceEqDiff, Nat.reduceLT, Nat.reduceLeDiff, Nat.reduceAdd, Nat.reduceSub, Nat.reduceMul, Nat.reduceDiv, Nat.reduceMod, Nat.reduceBEq, Int.reduceEq, Int.reduceLT, Int.reduceLE, Int.reduceNeg, Int.reduceToNat, reduceCtorEq]; with_reducible rfl), i + 1, met', rows ++ [q.map fun (k : Nat) => (k : Int)], _, _, _, _, rfl, rfl, hes, rfl, hnt, hfin _ hb, hnd', hrg', pre_get hM.pre hz0, hM.fin hex hrl hio, by simp [hrl], by omega⟩
          · have hb : false = lnEnd false c (x, y) := by simp [lnEnd, hv]
            repeat' (first | (with_reducible first | refine SW_seq ?_ | refine SW_block ?_ | refine SThen_n ?_ | refine SThen_r ?_ | refine SThen_e ?_ | refine SIn_n ?_ | refine SIn_r ?_ | refine SIn_eq ?_ | refine SW_skip ?_ | refine SW_exit ?_ | refine SW_ret ?_ | refine SPost_r ?_) | ((with_reducible refine SIn_ne ?_ ?_); focus decide) | ((with_reducible refine SW_true ?_ ?_); focus exact rfl) | ((with_reducible refine SW_false ?_ ?_); focus exact rfl) | ((first | (with_reducible apply SW_run tt_ok hG htb) | ((with_reducible apply SW_draw rfl tt_ok hG htb); (focus kernel_rfl); (focus (simp only [List.range, List.range.loop, List.size_toArray, List.length_cons, List.length_nil, Nat.reduceAdd])))); focus ((repeat' (first | (with_reducible exact runX_nil) | (with_reducible exact runI_nil) | ((first | (with_reducible apply runX_cons) | (with_reducible apply runI_cons)); focus (simp (discharger := omega) only [go_sem, tPair, hat', hv, ↓reduceIte, reduceIte, Nat.reduceEqDiff, Nat.reduceLT, Nat.reduceLeDiff, Nat.reduceAdd, Nat.reduceSub, Nat.reduceMul, Nat.reduceDiv, Nat.reduceMod, Nat.reduceBEq, Int.reduceEq, Int.reduceLT, Int.reduceLE, Int.reduceNeg, Int.reduceToNat, reduceCtorEq]; with_reducible rfl)))); done)))
            exact ⟨43143 - (i + 1), _, by omega, Norm.headS (own := [(14, 3, 1, true), (25, 92, 2, false), (26, 24, 1, false), (27, 4, 1, false)]) (keep := [1, 2, 3, 4, 8, 14, 23, 24, 25, 26, 27, 28]) (by simp (discharger := omega) only [go_sem, ↓reduceIte, reduceIte, Nat.reduceEqDiff, Nat.reduceLT, Nat.reduceLeDiff, Nat.reduceAdd, Nat.reduceSub, Nat.reduceMul, Nat.reduceDiv, Nat.reduceMod, Nat.reduceBEq, Int.reduceEq, Int.reduceLT, Int.reduceLE, Int.reduceNeg, Int.reduceToNat, reduceCtorEq]; with_reducible rfl) (by simp only [go_sem, ↓reduceIte, reduceIte, Nat.reduceEqDiff, Nat.reduceLT, Nat.reduceLeDiff, Nat.reduceAdd, Nat.reduceSub, Nat.reduceMul, Nat.reduceDiv, Nat.reduceMod, Nat.reduceBEq, Int.reduceEq, Int.reduceLT, Int.reduceLE, Int.reduceNeg, Int.reduceToNat, reduceCtorEq]; with_reducible rfl) (by simp only [go_sem, ↓reduceIte, reduceIte, Nat.reduceEqDiff, Nat.reduceLT, Nat.reduceLeDiff, Nat.reduceAdd, Nat.reduceSub, Nat.reduceMul, Nat.reduceDiv, Nat.reduceMod, Nat.reduceBEq, Int.reduceEq, Int.reduceLT, Int.reduceLE, Int.reduceNeg, Int.reduceToNat, reduceCtorEq]; with_reducible rfl) (by simp only [go_sem, ↓reduceIte, reduceIte, Nat.reduceEqDiff, Nat.reduceLT, Nat.reduceLeDiff, Nat.reduceAdd, Nat.reduceSub, Nat.reduceMul, Nat.reduceDiv, Nat.reduceMod, Nat.reduceBEq, Int.reduceEq, Int.reduceLT, Int.reduceLE, Int.reduceNeg, Int.reduceToNat, reduceCtorEq]; with_reducible rfl) (by simp only [go_sem, ↓reduceIte, reduceIte, Nat.reduceEqDiff, Nat.reduceLT, Nat.reduceLeDiff, Nat.reduceAdd, Nat.reduceSub, Nat.reduceMul, Nat.reduceDiv, Nat.reduceMod, Nat.reduceBEq, Int.reduceEq, Int.reduceLT, Int.reduceLE, Int.reduceNeg, Int.reduceToNat, reduceCtorEq]; with_reducible rfl), i + 1, met', rows ++ [q.map fun (k : Nat) => (k : Int)], _, _, _, _, rfl, rfl, hes, rfl, hnt, hfin _ hb, hnd', hrg', pre_get hM.pre hz0, hM.fin hex hrl hio, by simp [hrl], by omega⟩
    · have hie : i = met.length := by omega
      have hsE : (met.take i).map (fun p => T.bool (lnEnd less c p)) = (met.map (lnEnd less c)).map T.bool := by rw [hie, List.take_length, List.map_map]; rfl
      rw [hsE]
      have hRm : rows.length = met.length := by omega
      have hT := hex.table hRm
      have hm1 : 0 < met.length := (List.getElem?_eq_some_iff.1 hz0).1
      have hlang : ∀ w, Ltr n w → lang rows (met.map (lnEnd less c)) 0 w = lnEnd less c (lnRun base (addL base coefs) w) := fun w hw => by
        rw [hex.lang hRm hz0 (E := lnEnd less c) (fun i s h => by rw [List.getElem?_map, h]; rfl) hw]
        exact lineL_cut g (.inr (by rw [hsz]; omega)) less hw
      have hm2 : base ≠ 1 → met.length ≤ 1000 := fun hb => by
        have := ln_count (A := 98) (B := 0) hnd fun p hp => by
          have := hrg p hp
          have h1 := this.x
          have h2 := this.z hb
          omega
        omega
      obtain ⟨s1, s2⟩ := line_small g less hT hm1 hm2 hlang
      have hlall := (allA_isLeast g.many g.n_eq).1
      have c4 := LBoth_snd hG base g.many g.n_eq hT (by simp) ⟨hm1, by omega⟩ (gauto_eta' _ _ _ hlall.base hlall.tracks) rfl s1
      have ee : errL n (fun w => lang rows (met.map (lnEnd less c)) 0 w && rightWd base coefs.length w) = errL n (lineL base coefs c less) := by unfold errL; rw [s2]
      have ea : autoL base coefs.length n (fun w => lang rows (met.map (lnEnd less c)) 0 w && rightWd base coefs.length w) = autoL base coefs.length n (lineL base coefs c less) := by unfold autoL; rw [ee, s2]
      rw [ea, ee] at c4
      generalize autoL base coefs.length n (lineL base coefs c less) = au at *
      generalize errL n (lineL base coefs c less) = er at *
      generalize met.map (lnEnd less c) = ends at *
      clear htb
      have htb := Tab.cons c4 Tab.nil
      refine SW_norm (Norm.frz 26 rfl rfl) ?_
      refine SW_norm (Norm.frz 27 rfl rfl) ?_
      repeat' (first | (with_reducible first | refine SW_seq ?_ | refine SW_block ?_ | refine SThen_n ?_ | refine SThen_r ?_ | refine SThen_e ?_ | refine SIn_n ?_ | refine SIn_r ?_ | refine SIn_eq ?_ | refine SW_skip ?_ | refine SW_exit ?_ | refine SW_ret ?_ | refine SPost_r ?_) | ((with_reducible refine SIn_ne ?_ ?_); focus decide) | ((with_reducible refine SW_true ?_ ?_); focus exact rfl) | ((with_reducible refine SW_false ?_ ?_); focus exact rfl) | ((first | (with_reducible apply SW_run tt_ok hG htb) | ((with_reducible apply SW_draw rfl tt_ok hG htb); (focus kernel_rfl); (focus (simp only [List.range, List.range.loop, List.size_toArray, List.length_cons, List.length_nil, Nat.reduceAdd])))); focus ((repeat' (first | (with_reducible exact runX_nil) | (with_reducible exact runI_nil) | ((first | (with_reducible apply runX_cons) | (with_reducible apply runI_cons)); focus (simp (discharger := omega) only [go_sem, tAuto, ↓reduceIte, reduceIte, Nat.reduceEqDiff, Nat.reduceLT, Nat.reduceLeDiff, Nat.reduceAdd, Nat.reduceSub, Nat.reduceMul, Nat.reduceDiv, Nat.reduceMod, Nat.reduceBEq, Int.reduceEq, Int.reduceLT, Int.reduceLE, Int.reduceNeg, Int.reduceToNat, reduceCtorEq]; with_reducible rfl)))); done)))
      exact (by simp (discharger := omega) only [go_sem, tAuto, ↓reduceIte, reduceIte, Nat.reduceEqDiff, Nat.reduceLT, Nat.reduceLeDiff, Nat.reduceAdd, Nat.reduceSub, Nat.reduceMul, Nat.reduceDiv, Nat.reduceMod, Nat.reduceBEq, Int.reduceEq, Int.reduceLT, Int.reduceLE, Int.reduceNeg, Int.reduceToNat, reduceCtorEq])
theorem LOf_snd (base : Int) (coefs : List Int) (c : Int) (less : Bool) : Snd Try.prog G 18 [tInt base, tInts coefs, tInt c, .bool less] (.tup [tAuto (lineOf base coefs c less), tErr (lineErr base coefs c less)]) := by
  by_cases h : lineFault base coefs c = 0
  · have e1 : lineErr base coefs c less = errL (manyOf base coefs.length).toNat (lineL base coefs c less) := by unfold lineErr; rw [if_neg (by omega)]
    have e2 : lineOf base coefs c less = autoL base coefs.length (manyOf base coefs.length).toNat (lineL base coefs c less) := by unfold lineOf; rw [if_neg (by omega)]
    rw [e1, e2]
    exact LOf_fine hG base coefs c less (line_ok h)
  · have e1 : lineErr base coefs c less = lineFault base coefs c := by unfold lineErr; rw [if_pos h]
    have e2 : lineOf base coefs c less = .zero := by unfold lineOf; rw [if_pos h]
    rw [e1, e2]
    have c1 := Many_snd hG base coefs.length
    have c2 := Size_snd hG coefs
    refine snd_of_body (n := 196) (tm := [(0, .t (tInt base)), (1, .t (tInts coefs)), (2, .t (tInt c)), (3, .t (.bool less))]) (rs := [.cell 8 44, .tmp 9]) tt_ok Try.func18 rfl rfl rfl rfl rfl ?_
    unfold lineFault at h ⊢
    by_cases h1 : manyErr base coefs.length = 0
    · rw [if_neg (by omega)] at h ⊢
      rw [h1] at c1
      obtain ⟨t, n, e, hn, ht5, hn0, hn36⟩ := many_nat h1
      have h2 : 12 < sizeA coefs ∨ c < -60 ∨ 60 < c := Classical.byContradiction fun h2 => h (by rw [if_neg h2])
      rw [if_pos h2]
      unfold sizeT at c2
      cases hz : szAll coefs with
      | true =>
        rw [if_pos hz, szW_eq hz (by omega)] at c2
        generalize sizeA coefs = sz at *
        have htb := Tab.cons c1 (Tab.cons c2 Tab.nil)
        by_cases h3 : 12 < sz
        · repeat' (first | (with_reducible first | refine SW_seq ?_ | refine SW_block ?_ | refine SThen_n ?_ | refine SThen_r ?_ | refine SThen_e ?_ | refine SIn_n ?_ | refine SIn_r ?_ | refine SIn_eq ?_ | refine SW_skip ?_ | refine SW_exit ?_ | refine SW_ret ?_ | refine SPost_r ?_) | ((with_reducible refine SIn_ne ?_ ?_); focus decide) | ((with_reducible refine SW_true ?_ ?_); focus exact rfl) | ((with_reducible refine SW_false ?_ ?_); focus exact rfl) | ((first | (with_reducible apply SW_run tt_ok hG htb) | ((with_reducible apply SW_draw rfl tt_ok hG htb); (focus kernel_rfl); (focus (simp only [List.range, List.range.loop, List.size_toArray, List.length_cons, List.length_nil, Nat.reduceAdd])))); focus ((repeat' (first | (with_reducible exact runX_nil) | (with_reducible exact runI_nil) | ((first | (with_reducible apply runX_cons) | (with_reducible apply runI_cons)); focus (simp (discharger := omega) only [go_sem, tErr, ↓reduceIte, reduceIte, Nat.reduceEqDiff, Nat.reduceLT, Nat.reduceLeDiff, Nat.reduceAdd, Nat.reduceSub, Nat.reduceMul, Nat.reduceDiv, Nat.reduceMod, Nat.reduceBEq, Int.reduceEq, Int.reduceLT, Int.reduceLE, Int.reduceNeg, Int.reduceToNat, reduceCtorEq]; with_reducible rfl)))); done)))
          exact (by simp (discharger := omega) only [go_sem, tAuto, GAuto.zero, tErr, ↓reduceIte, reduceIte, Nat.reduceEqDiff, Nat.reduceLT, Nat.reduceLeDiff, Nat.reduceAdd, Nat.reduceSub, Nat.reduceMul, Nat.reduceDiv, Nat.reduceMod, Nat.reduceBEq, Int.reduceEq, Int.reduceLT, Int.reduceLE, Int.reduceNeg, Int.reduceToNat, reduceCtorEq])
        · by_cases h4 : c < -60
          · repeat' (first | (with_reducible first | refine SW_seq ?_ | refine SW_block ?_ | refine SThen_n ?_ | refine SThen_r ?_ | refine SThen_e ?_ | refine SIn_n ?_ | refine SIn_r ?_ | refine SIn_eq ?_ | refine SW_skip ?_ | refine SW_exit ?_ | refine SW_ret ?_ | refine SPost_r ?_) | ((with_reducible refine SIn_ne ?_ ?_); focus decide) | ((with_reducible refine SW_true ?_ ?_); focus exact rfl) | ((with_reducible refine SW_false ?_ ?_); focus exact rfl) | ((first | (with_reducible apply SW_run tt_ok hG htb) | ((with_reducible apply SW_draw rfl tt_ok hG htb); (focus kernel_rfl); (focus (simp only [List.range, List.range.loop, List.size_toArray, List.length_cons, List.length_nil, Nat.reduceAdd])))); focus ((repeat' (first | (with_reducible exact runX_nil) | (with_reducible exact runI_nil) | ((first | (with_reducible apply runX_cons) | (with_reducible apply runI_cons)); focus (simp (discharger := omega) only [go_sem, tErr, ↓reduceIte, reduceIte, Nat.reduceEqDiff, Nat.reduceLT, Nat.reduceLeDiff, Nat.reduceAdd, Nat.reduceSub, Nat.reduceMul, Nat.reduceDiv, Nat.reduceMod, Nat.reduceBEq, Int.reduceEq, Int.reduceLT, Int.reduceLE, Int.reduceNeg, Int.reduceToNat, reduceCtorEq]; with_reducible rfl)))); done)))
            exact (by simp (discharger := omega) only [go_sem, tAuto, GAuto.zero, tErr, ↓reduceIte, reduceIte, Nat.reduceEqDiff, Nat.reduceLT, Nat.reduceLeDiff, Nat.reduceAdd, Nat.reduceSub, Nat.reduceMul, Nat.reduceDiv, Nat.reduceMod, Nat.reduceBEq, Int.reduceEq, Int.reduceLT, Int.reduceLE, Int.reduceNeg, Int.reduceToNat, reduceCtorEq])
          · have h5 : 60 < c := by omega
            repeat' (first | (with_reducible first | refine SW_seq ?_ | refine SW_block ?_ | refine SThen_n ?_ | refine SThen_r ?_ | refine SThen_e ?_ | refine SIn_n ?_ | refine SIn_r ?_ | refine SIn_eq ?_ | refine SW_skip ?_ | refine SW_exit ?_ | refine SW_ret ?_ | refine SPost_r ?_) | ((with_reducible refine SIn_ne ?_ ?_); focus decide) | ((with_reducible refine SW_true ?_ ?_); focus exact rfl) | ((with_reducible refine SW_false ?_ ?_); focus exact rfl) | ((first | (with_reducible apply SW_run tt_ok hG htb) | ((with_reducible apply SW_draw rfl tt_ok hG htb); (focus kernel_rfl); (focus (simp only [List.range, List.range.loop, List.size_toArray, List.length_cons, List.length_nil, Nat.reduceAdd])))); focus ((repeat' (first | (with_reducible exact runX_nil) | (with_reducible exact runI_nil) | ((first | (with_reducible apply runX_cons) | (with_reducible apply runI_cons)); focus (simp (discharger := omega) only [go_sem, tErr, ↓reduceIte, reduceIte, Nat.reduceEqDiff, Nat.reduceLT, Nat.reduceLeDiff, Nat.reduceAdd, Nat.reduceSub, Nat.reduceMul, Nat.reduceDiv, Nat.reduceMod, Nat.reduceBEq, Int.reduceEq, Int.reduceLT, Int.reduceLE, Int.reduceNeg, Int.reduceToNat, reduceCtorEq]; with_reducible rfl)))); done)))
            exact (by simp (discharger := omega) only [go_sem, tAuto, GAuto.zero, tErr, ↓reduceIte, reduceIte, Nat.reduceEqDiff, Nat.reduceLT, Nat.reduceLeDiff, Nat.reduceAdd, Nat.reduceSub, Nat.reduceMul, Nat.reduceDiv, Nat.reduceMod, Nat.reduceBEq, Int.reduceEq, Int.reduceLT, Int.reduceLE, Int.reduceNeg, Int.reduceToNat, reduceCtorEq])
      | false =>
        rw [if_neg (by rw [hz]; decide)] at c2
        have htb := Tab.cons c1 (Tab.cons c2 Tab.nil)
        repeat' (first | (with_reducible first | refine SW_seq ?_ | refine SW_block ?_ | refine SThen_n ?_ | refine SThen_r ?_ | refine SThen_e ?_ | refine SIn_n ?_ | refine SIn_r ?_ | refine SIn_eq ?_ | refine SW_skip ?_ | refine SW_exit ?_ | refine SW_ret ?_ | refine SPost_r ?_) | ((with_reducible refine SIn_ne ?_ ?_); focus decide) | ((with_reducible refine SW_true ?_ ?_); focus exact rfl) | ((with_reducible refine SW_false ?_ ?_); focus exact rfl) | ((first | (with_reducible apply SW_run tt_ok hG htb) | ((with_reducible apply SW_draw rfl tt_ok hG htb); (focus kernel_rfl); (focus (simp only [List.range, List.range.loop, List.size_toArray, List.length_cons, List.length_nil, Nat.reduceAdd])))); focus ((repeat' (first | (with_reducible exact runX_nil) | (with_reducible exact runI_nil) | ((first | (with_reducible apply runX_cons) | (with_reducible apply runI_cons)); focus (simp (discharger := omega) only [go_sem, tErr, ↓reduceIte, reduceIte, Nat.reduceEqDiff, Nat.reduceLT, Nat.reduceLeDiff, Nat.reduceAdd, Nat.reduceSub, Nat.reduceMul, Nat.reduceDiv, Nat.reduceMod, Nat.reduceBEq, Int.reduceEq, Int.reduceLT, Int.reduceLE, Int.reduceNeg, Int.reduceToNat, reduceCtorEq]; with_reducible rfl)))); done)))
        exact (by simp (discharger := omega) only [go_sem, tAuto, GAuto.zero, tErr, ↓reduceIte, reduceIte, Nat.reduceEqDiff, Nat.reduceLT, Nat.reduceLeDiff, Nat.reduceAdd, Nat.reduceSub, Nat.reduceMul, Nat.reduceDiv, Nat.reduceMod, Nat.reduceBEq, Int.reduceEq, Int.reduceLT, Int.reduceLE, Int.reduceNeg, Int.reduceToNat, reduceCtorEq])
    · rw [if_pos h1] at h ⊢
      generalize manyErr base coefs.length = f at *
      have htb := Tab.cons c1 Tab.nil
      repeat' (first | (with_reducible first | refine SW_seq ?_ | refine SW_block ?_ | refine SThen_n ?_ | refine SThen_r ?_ | refine SThen_e ?_ | refine SIn_n ?_ | refine SIn_r ?_ | refine SIn_eq ?_ | refine SW_skip ?_ | refine SW_exit ?_ | refine SW_ret ?_ | refine SPost_r ?_) | ((with_reducible refine SIn_ne ?_ ?_); focus decide) | ((with_reducible refine SW_true ?_ ?_); focus exact rfl) | ((with_reducible refine SW_false ?_ ?_); focus exact rfl) | ((first | (with_reducible apply SW_run tt_ok hG htb) | ((with_reducible apply SW_draw rfl tt_ok hG htb); (focus kernel_rfl); (focus (simp only [List.range, List.range.loop, List.size_toArray, List.length_cons, List.length_nil, Nat.reduceAdd])))); focus ((repeat' (first | (with_reducible exact runX_nil) | (with_reducible exact runI_nil) | ((first | (with_reducible apply runX_cons) | (with_reducible apply runI_cons)); focus (simp (discharger := omega) only [go_sem, tErr, h1, ↓reduceIte, reduceIte, Nat.reduceEqDiff, Nat.reduceLT, Nat.reduceLeDiff, Nat.reduceAdd, Nat.reduceSub, Nat.reduceMul, Nat.reduceDiv, Nat.reduceMod, Nat.reduceBEq, Int.reduceEq, Int.reduceLT, Int.reduceLE, Int.reduceNeg, Int.reduceToNat, reduceCtorEq]; with_reducible rfl)))); done)))
      exact (by simp (discharger := omega) only [go_sem, tAuto, GAuto.zero, tErr, h1, ↓reduceIte, reduceIte, Nat.reduceEqDiff, Nat.reduceLT, Nat.reduceLeDiff, Nat.reduceAdd, Nat.reduceSub, Nat.reduceMul, Nat.reduceDiv, Nat.reduceMod, Nat.reduceBEq, Int.reduceEq, Int.reduceLT, Int.reduceLE, Int.reduceNeg, Int.reduceToNat, reduceCtorEq])
end
end Go.Proofs.Ytfhncnhkeodngaa
namespace Go.Proofs.Ytfhncnhkeodngaa

/-- Digits of which no two that stand side by side are both 1, in base Fib. -/
def okAdj (base : Int) (d : List Int) : Bool := base != 1 || (List.range (d.length - 1)).all fun i => !(d.getD (i + 1) 0 == 1 && d.getD i 0 == 1)
def tracksOk (base : Int) (t : Nat) (w : List Int) : Bool := (List.range t).all fun k => okAdj base (w.map fun l => digitAt (radix base) t l k)
theorem getD_map {α β : Type} (f : α → β) (l : List α) (i : Nat) (d : α) (e : β) (h : i < l.length) : (l.map f).getD i e = f (l.getD i d) := by
  rw [getD_lt (by simpa using h), getD_lt h]; simp
theorem tracks_right {base : Int} {t : Nat} {w : List Int} (hw : ∀ l ∈ w, 0 ≤ l) : tracksOk base t w = rightWd base t (w.map Int.toNat) := by
  by_cases h1 : base = 1
  · subst h1
    have key : tracksOk 1 t w = true ↔ rightWd 1 t (w.map Int.toNat) = true := by
      unfold rightWd
      rw [chain_iff]
      have hc : ∀ i, i < w.length → ((((w.map Int.toNat).getD i 0 : Nat)) : Int) = w.getD i 0 := fun i hi => by
        rw [getD_map Int.toNat w i 0 0 hi, getD_lt hi]
        have := hw _ (List.getElem_mem hi); omega
      have hl : (w.map Int.toNat).length = w.length := by simp
      rw [hl]
      constructor
      · intro h i hi
        unfold clash
        rw [hc i (by omega), hc (i + 1) hi]
        simp only [beq_self_eq_true, Bool.true_and]
        rw [List.any_eq_false]
        intro k hk
        unfold tracksOk okAdj at h
        rw [List.all_eq_true] at h
        have h2 := h k hk
        simp only [bne_self_eq_false, Bool.false_or, List.all_eq_true, List.length_map] at h2
        have h3 := h2 i (List.mem_range.2 (by omega))
        rw [getD_map (fun l => digitAt (radix 1) t l k) w i 0 0 (by omega), getD_map (fun l => digitAt (radix 1) t l k) w (i + 1) 0 0 hi] at h3
        simp only [Bool.not_eq_true', Bool.and_eq_false_iff] at h3
        simp only [Bool.and_eq_true, not_and, Bool.not_eq_true]
        intro h4
        rcases h3 with h3 | h3
        · exact h3
        · rw [h4] at h3; simp at h3
      · intro h
        unfold tracksOk okAdj
        rw [List.all_eq_true]
        intro k hk
        simp only [bne_self_eq_false, Bool.false_or, List.all_eq_true, List.length_map]
        intro i hi
        have hi2 := List.mem_range.1 hi
        have h2 := h i (by omega)
        unfold clash at h2
        rw [hc i (by omega), hc (i + 1) (by omega)] at h2
        simp only [beq_self_eq_true, Bool.true_and] at h2
        rw [List.any_eq_false] at h2
        have h3 := h2 k hk
        rw [getD_map (fun l => digitAt (radix 1) t l k) w i 0 0 (by omega), getD_map (fun l => digitAt (radix 1) t l k) w (i + 1) 0 0 (by omega)]
        simp only [Bool.and_eq_true, not_and, Bool.not_eq_true] at h3
        simp only [Bool.not_eq_true', Bool.and_eq_false_iff]
        cases h4 : digitAt (radix 1) t (w.getD i 0) k == 1 with
        | false => exact .inr rfl
        | true => exact .inl (h3 h4)
    cases h : tracksOk 1 t w with
    | true => exact (key.1 h).symm
    | false =>
      cases h' : rightWd 1 t (w.map Int.toNat) with
      | false => rfl
      | true => rw [key.2 h'] at h; exact h.symm
  · have e1 : tracksOk base t w = true := by
      unfold tracksOk okAdj
      rw [List.all_eq_true]
      intro k _
      simp [h1]
    rw [e1]
    exact (chain_free (clash_other h1 t) _).symm
end Go.Proofs.Ytfhncnhkeodngaa
namespace Go.Proofs.Ytfhncnhkeodngaa

theorem spread_digit {base : Int} (hr : radix base ≠ 0) {t : Nat} {at' : List Int} (hl : at'.length = t) (t' l : Nat) {j : Nat} (hj : j < t) : digitAt (radix base) t (spreadL base t' at' l) j = digitAt (radix base) t' (l : Int) (at'.getD j 0).toNat := by
  have h2 := (radix_two hr).1
  have h := unpack_pack h2 (at'.map fun i => digitAt (radix base) t' (l : Int) i.toNat) fun x hx => by
    obtain ⟨i, _, rfl⟩ := List.mem_map.1 hx; exact digitAt_ok h2 t' l _
  rw [List.length_map, hl] at h
  show (unpack (radix base) t (spreadL base t' at' l)).getD j 0 = _
  unfold spreadL
  rw [h, getD_lt (by simp; omega), getD_lt (by omega)]
  simp
theorem spreadErr_ok {a : GAuto} {n m : Nat} (g : Good a n m) {t : Nat} (h0 : manyErr a.base t = 0) {at' : List Int} (hl : (at'.length : Int) = a.tracks) (hr : ∀ i ∈ at', 0 ≤ i ∧ i < (t : Int)) : spreadErr a t at' = 0 := by
  unfold spreadErr
  rw [if_neg (by have := g.fault; omega), if_neg (by omega), if_neg (by omega), if_pos (by rw [List.all_eq_true]; intro x hx; simpa using hr x hx)]
/-- What is spread: its language, and that it is right. -/
theorem spread_of {a : GAuto} {n m : Nat} (g : Good a n m) {t n' : Nat} (h0 : manyErr a.base t = 0) (hn : manyOf a.base t = n') {at' : List Int} (hl : (at'.length : Int) = a.tracks) (hr : ∀ i ∈ at', 0 ≤ i ∧ i < (t : Int)) :
    IsLeast (spreadOf a t at') n' a.base t (fun w => lng a (w.map fun l => (spreadL a.base t at' l).toNat)) ∧ Good (spreadOf a t at') n' (spreadOf a t at').next.length := by
  obtain ⟨n1, m1, t1, n1', g1, e1, _, _, q2, q3, _, _, _, q7, q8, _, _⟩ := spread_ok (spreadErr_ok g h0 hl hr)
  obtain rfl : t1 = t := by omega
  obtain rfl : n1' = n' := by omega
  rw [q8]
  have h := (spread_isLeast (n' := n1') g1 q7).1
  exact ⟨h, by
    have := reletA_good g1 (t := t1) (to := (List.range n1').map (spreadL a.base t1 at')) (fun l hl => by obtain ⟨j, _, rfl⟩ := List.mem_map.1 hl; exact q7 j) h0 (by simpa using hn)
    simpa using this⟩
end Go.Proofs.Ytfhncnhkeodngaa
namespace Go.Proofs.Ytfhncnhkeodngaa

theorem snoc_ind {α : Type} {P : List α → Prop} (h0 : P []) (h1 : ∀ w x, P w → P (w ++ [x])) (w : List α) : P w := by
  have : ∀ r : List α, P r.reverse := fun r => by
    induction r with
    | nil => exact h0
    | cons x r ih => rw [List.reverse_cons]; exact h1 _ _ ih
  have h := this w.reverse
  rwa [List.reverse_reverse] at h
theorem dotN_ext (coefs : List Int) {f g : Nat → Int} : ∀ i, (∀ j, j < i → f j = g j) → dotN coefs f i = dotN coefs g i
  | 0, _ => rfl
  | i + 1, h => by
    show dotN coefs f i + _ = dotN coefs g i + _
    rw [dotN_ext coefs i fun j hj => h j (by omega), h i (by omega)]
theorem dotN_zero (coefs : List Int) : ∀ i, dotN coefs (fun _ => 0) i = 0
  | 0 => rfl
  | i + 1 => by
    show dotN coefs _ i + coefs.getD i 0 * 0 = 0
    rw [dotN_zero coefs i, Int.mul_zero]; rfl
theorem dotN_add (coefs : List Int) (f g : Nat → Int) : ∀ i, dotN coefs (fun j => f j + g j) i = dotN coefs f i + dotN coefs g i
  | 0 => rfl
  | i + 1 => by
    show dotN coefs _ i + coefs.getD i 0 * (f i + g i) = (dotN coefs f i + coefs.getD i 0 * f i) + (dotN coefs g i + coefs.getD i 0 * g i)
    rw [dotN_add coefs f g i, Int.mul_add]; omega
theorem dotN_mul (coefs : List Int) (f : Nat → Int) (k : Int) : ∀ i, dotN coefs (fun j => f j * k) i = dotN coefs f i * k
  | 0 => by simp [dotN]
  | i + 1 => by
    show dotN coefs _ i + coefs.getD i 0 * (f i * k) = (dotN coefs f i + coefs.getD i 0 * f i) * k
    rw [dotN_mul coefs f k i, Int.add_mul, Int.mul_assoc]
theorem all_congr' {α : Type} {p q : α → Bool} : ∀ {l : List α}, (∀ x ∈ l, p x = q x) → l.all p = l.all q
  | [], _ => rfl
  | x :: l, h => by rw [List.all_cons, List.all_cons, h x List.mem_cons_self, all_congr' fun y hy => h y (List.mem_cons_of_mem x hy)]
/-- The digits on a track. -/
def trk (base : Int) (t : Nat) (w : List Nat) (i : Nat) : List Int := w.map fun (l : Nat) => digitAt (radix base) t (l : Int) i
theorem lnRun_val (base : Int) (coefs : List Int) (w : List Nat) : lnRun base (addL base coefs) w = (dotN coefs (fun i => (valFold base (trk base coefs.length w i)).1) coefs.length, if base = 1 then dotN coefs (fun i => (valFold base (trk base coefs.length w i)).2) coefs.length else 0) := by
  refine snoc_ind (P := fun w => lnRun base (addL base coefs) w = (dotN coefs (fun i => (valFold base (trk base coefs.length w i)).1) coefs.length, if base = 1 then dotN coefs (fun i => (valFold base (trk base coefs.length w i)).2) coefs.length else 0)) ?_ (fun w l ih => ?_) w
  · have h0 := dotN_zero coefs coefs.length
    have h1 : ∀ i, valFold base (trk base coefs.length [] i) = (0, 0) := fun _ => rfl
    simp only [h1, h0, ite_self]
    rfl
  · have hs : lnRun base (addL base coefs) (w ++ [l]) = lnStep base (lnRun base (addL base coefs) w) (addL base coefs l) := by simp [lnRun, List.foldl_append]
    have ht : ∀ i, trk base coefs.length (w ++ [l]) i = trk base coefs.length w i ++ [digitAt (radix base) coefs.length (l : Int) i] := fun i => by simp [trk]
    rw [hs, ih]
    simp only [ht, valFold_snoc]
    unfold lnStep valStep addL
    by_cases hb : base = 1
    · simp only [if_pos hb, dotN_add]
    · simp only [if_neg hb, dotN_add, dotN_mul]
theorem lnRun_nums (base : Int) (coefs : List Int) (w : List Nat) : (lnRun base (addL base coefs) w).1 = dotN coefs (fun i => wv base (trk base coefs.length w i)) coefs.length := by
  rw [lnRun_val]
  simp only [valFold_eq]
theorem okAdj_right {base : Int} (d : List Int) : okAdj base d = rightOf base d := by
  unfold okAdj rightOf
  by_cases hb : base = 1
  · subst hb
    simp only [bne_self_eq_false, Bool.false_or, decide_true, Bool.not_true]
    have key : ((List.range (d.length - 1)).all fun i => !(d.getD (i + 1) 0 == 1 && d.getD i 0 == 1)) = true ↔ noTwo d = true := by
      rw [noTwo_iff, List.all_eq_true]
      constructor
      · intro h j hj
        have hl := (List.getElem?_eq_some_iff.1 hj.2).1
        have := h j (List.mem_range.2 (by omega))
        rw [List.getD_eq_getElem?_getD, List.getD_eq_getElem?_getD, hj.1, hj.2] at this
        simp at this
      · intro h i hi
        have hi := List.mem_range.1 hi
        have := h i
        rw [List.getElem?_eq_getElem (show i < d.length by omega), List.getElem?_eq_getElem (show i + 1 < d.length by omega)] at this
        rw [getD_lt (show i < d.length by omega), getD_lt (show i + 1 < d.length by omega)]
        simp only [Option.some.injEq] at this
        simp only [Bool.not_eq_true', Bool.and_eq_false_iff, beq_eq_false_iff_ne, ne_eq]
        by_cases e : d[i + 1] = 1
        · exact .inr fun e2 => this ⟨e2, e⟩
        · exact .inl e
    cases h1 : ((List.range (d.length - 1)).all fun i => !(d.getD (i + 1) 0 == 1 && d.getD i 0 == 1)) with
    | true => rw [key.1 h1]
    | false =>
      cases h2 : noTwo d with
      | false => rfl
      | true => rw [key.2 h2] at h1; cases h1
  · have e1 : (base != 1) = true := by simpa using hb
    have e2 : decide (base = 1) = false := by simpa using hb
    rw [e1, e2]; rfl
end Go.Proofs.Ytfhncnhkeodngaa
namespace Go.Proofs.Ytfhncnhkeodngaa

def eqN : List (List Int) := [[0, 1, 1, 2], [1, 1, 1, 1], [0, 1, 1, 1]]
def eqE : List Bool := [true, false, true]
def eqW (w : List Nat) : Bool := w.all fun l => decide (l = 0 ∨ l = 3)
theorem eq_dead : ∀ (w : List Nat), Ltr 4 w → lang eqN eqE 1 w = false
  | [], _ => by decide +kernel
  | l :: w, hw => by
    have hl := hw l List.mem_cons_self
    have e : nx eqN 1 l = 1 := by
      have : ∀ l, l < 4 → nx eqN 1 l = 1 := by decide +kernel
      exact this l hl
    show lang eqN eqE (nx eqN 1 l) w = false
    rw [e]
    exact eq_dead w fun x hx => hw x (List.mem_cons_of_mem _ hx)
theorem eq_run : ∀ (w : List Nat), Ltr 4 w → lang eqN eqE 0 w = (eqW w && walkOk (clash 1 2) 0 w) ∧ lang eqN eqE 2 w = (eqW w && walkOk (clash 1 2) 3 w)
  | [], _ => ⟨by decide +kernel, by decide +kernel⟩
  | l :: w, hw => by
    have hl := hw l List.mem_cons_self
    have hw' : Ltr 4 w := fun x hx => hw x (List.mem_cons_of_mem _ hx)
    obtain ⟨i1, i2⟩ := eq_run w hw'
    have i3 := eq_dead w hw'
    have d0 : lang eqN eqE 0 (l :: w) = lang eqN eqE (nx eqN 0 l) w := rfl
    have d2 : lang eqN eqE 2 (l :: w) = lang eqN eqE (nx eqN 2 l) w := rfl
    have e0 : eqW (l :: w) = (decide (l = 0 ∨ l = 3) && eqW w) := rfl
    have w0 : ∀ s, walkOk (clash 1 2) s (l :: w) = (!clash 1 2 s l && walkOk (clash 1 2) l w) := fun s => rfl
    rw [d0, d2, e0, w0, w0]
    have : l = 0 ∨ l = 1 ∨ l = 2 ∨ l = 3 := by omega
    rcases this with rfl | rfl | rfl | rfl
    · rw [show nx eqN 0 0 = 0 by decide +kernel, show nx eqN 2 0 = 0 by decide +kernel, show clash 1 2 0 0 = false by decide +kernel, show clash 1 2 3 0 = false by decide +kernel, i1]
      simp
    · rw [show nx eqN 0 1 = 1 by decide +kernel, show nx eqN 2 1 = 1 by decide +kernel, i3]
      simp
    · rw [show nx eqN 0 2 = 1 by decide +kernel, show nx eqN 2 2 = 1 by decide +kernel, i3]
      simp
    · rw [show nx eqN 0 3 = 2 by decide +kernel, show nx eqN 2 3 = 1 by decide +kernel, show clash 1 2 0 3 = false by decide +kernel, show clash 1 2 3 3 = true by decide +kernel, i2, i3]
      simp
theorem trk_ok {base : Int} (hr : radix base ≠ 0) (t : Nat) (w : List Nat) (i : Nat) : okDigits base (trk base t w i) := fun x hx => by
  obtain ⟨l, _, rfl⟩ := List.mem_map.1 hx
  exact digitAt_ok (radix_two hr).1 t l i
theorem trk_right {base : Int} {t : Nat} {w : List Nat} (h : rightWd base t w = true) {i : Nat} (hi : i < t) : rightOf base (trk base t w i) = true := by
  have hm : (w.map fun (l : Nat) => (l : Int)).map Int.toNat = w := by
    rw [List.map_map]
    conv => rhs; rw [← List.map_id w]
    exact List.map_congr_left fun l _ => by simp
  have h1 := tracks_right (base := base) (t := t) (w := w.map fun (l : Nat) => (l : Int)) fun l hl => by
    obtain ⟨x, _, rfl⟩ := List.mem_map.1 hl; omega
  rw [hm, h] at h1
  unfold tracksOk at h1
  rw [List.all_eq_true] at h1
  have h2 := h1 i (List.mem_range.2 hi)
  rw [okAdj_right] at h2
  have e : (w.map fun (l : Nat) => (l : Int)).map (fun l => digitAt (radix base) t l i) = trk base t w i := by
    rw [List.map_map]; rfl
  rw [e] at h2
  exact h2
theorem eq_digits : ∀ l, l < 4 → (digitAt (radix 1) 2 (l : Nat) 0 = digitAt (radix 1) 2 (l : Nat) 1 ↔ l = 0 ∨ l = 3) := by decide +kernel
theorem eq_lang {w : List Nat} (hw : Ltr 4 w) : lang eqN eqE 0 w = lineL 1 [1, -1] 0 false w := by
  rw [(eq_run w hw).1]
  unfold lineL
  rw [show (([1, -1] : List Int).length) = 2 from rfl, rightWd_walk]
  cases hr : walkOk (clash 1 2) 0 w with
  | false => simp
  | true =>
    rw [Bool.and_true, Bool.and_true]
    have hr' : rightWd 1 2 w = true := by rw [rightWd_walk]; exact hr
    have r0 := trk_right hr' (i := 0) (by omega)
    have r1 := trk_right hr' (i := 1) (by omega)
    have o0 := trk_ok (base := 1) (by decide) 2 w 0
    have o1 := trk_ok (base := 1) (by decide) 2 w 1
    have hv : (lnRun 1 (addL 1 [1, -1]) w).1 = wv 1 (trk 1 2 w 0) - wv 1 (trk 1 2 w 1) := by
      rw [lnRun_nums]
      show 0 + (1 : Int) * wv 1 (trk 1 2 w 0) + (-1) * wv 1 (trk 1 2 w 1) = _
      omega
    show eqW w = decide ((lnRun 1 (addL 1 [1, -1]) w).1 + 0 = 0)
    rw [hv, Int.add_zero]
    have key : eqW w = true ↔ trk 1 2 w 0 = trk 1 2 w 1 := by
      unfold eqW trk
      rw [List.all_eq_true]
      constructor
      · intro h
        refine List.map_congr_left fun l hl => ?_
        exact (eq_digits l (hw l hl)).2 (by simpa using h l hl)
      · intro h l hl
        rw [decide_eq_true_eq]
        obtain ⟨i, hi, rfl⟩ := List.mem_iff_getElem.1 hl
        refine (eq_digits _ (hw _ hl)).1 ?_
        have := congrArg (fun q => q[i]?) h
        simpa [hi] using this
    by_cases h : trk 1 2 w 0 = trk 1 2 w 1
    · rw [key.2 h, h]; simp
    · have h2 : ¬ (wv 1 (trk 1 2 w 0) - wv 1 (trk 1 2 w 1) = 0) := fun e => h (wv_inj (by decide) (by simp [trk]) o0 o1 r0 r1 (by omega))
      rw [decide_eq_false h2]
      cases h3 : eqW w with
      | false => rfl
      | true => exact (h (key.1 h3)).elim
theorem eq_least : leastL 4 (lineL 1 [1, -1] 0 false) = (eqN, eqE) :=
  leastL_eq ((least_chk [[], [3]] (by decide +kernel)).lang_congr fun w hw => eq_lang hw)
theorem eq_of : lineErr 1 [1, -1] 0 false = 0 ∧ lineOf 1 [1, -1] 0 false = ⟨1, 2, eqN, eqE⟩ := by
  have hf : lineFault 1 [1, -1] 0 = 0 := by decide +kernel
  have hn : (manyOf 1 (([1, -1] : List Int).length : Nat)).toNat = 4 := by decide +kernel
  have he : errL 4 (lineL 1 [1, -1] 0 false) = 0 := by unfold errL; rw [eq_least]; decide
  have ha : autoL 1 (([1, -1] : List Int).length : Nat) 4 (lineL 1 [1, -1] 0 false) = ⟨1, 2, eqN, eqE⟩ := by unfold autoL; rw [if_pos he, eq_least]; rfl
  unfold lineErr lineOf
  rw [if_neg (by rw [hf]; decide), if_neg (by rw [hf]; decide), hn]
  exact ⟨he, ha⟩
end Go.Proofs.Ytfhncnhkeodngaa
namespace Go.Proofs.Ytfhncnhkeodngaa

section
variable {σ : Type} {P : σ → Prop} {δ : σ → Nat → σ} {s0 : σ} {code : σ → Nat} {dec : Nat → σ} {m n : Nat}
theorem numd_run (hd : ∀ p, P p → dec (code p) = p) (hs : ∀ p l, P p → l < n → P (δ p l)) : ∀ (w : List Nat) (p : σ), P p → Ltr n w → runN (fun s l => code (δ (dec s) l)) (code p) w = code (w.foldl δ p) ∧ P (w.foldl δ p)
  | [], _, hp, _ => ⟨rfl, hp⟩
  | l :: w, p, hp, hw => by
    have h1 := hs p l hp (hw l List.mem_cons_self)
    have h2 := numd_run hd hs w (δ p l) h1 fun x hx => hw x (List.mem_cons_of_mem _ hx)
    show runN _ (code (δ (dec (code p)) l)) w = _ ∧ _
    rw [hd p hp]
    exact h2
theorem numd_lang (h0 : code s0 = 0) (hP0 : P s0) (hm : ∀ p, code p < m) (hd : ∀ p, P p → dec (code p) = p) (hs : ∀ p l, P p → l < n → P (δ p l)) (E : σ → Bool) {w : List Nat} (hw : Ltr n w) :
    lang (tabN m n fun s l => code (δ (dec s) l)) (tabE m fun s => E (dec s)) 0 w = E (w.foldl δ s0) := by
  have h := tab_lang (d := fun s l => code (δ (dec s) l)) (e := fun s => E (dec s)) (fun s l _ _ => hm _) (s := 0) (by have := hm s0; omega) hw
  obtain ⟨h1, h2⟩ := numd_run hd hs w s0 hP0 hw
  rw [h0] at h1
  rw [h1, hd _ h2] at h
  exact h
end
def codeP (p : Int × Int) : Nat := if p = (0, 0) then 0 else if (-98 ≤ p.1 ∧ p.1 ≤ 98) ∧ -109 ≤ p.2 ∧ p.2 ≤ 109 then 1 + ((p.1 + 98) * 219 + (p.2 + 109)).toNat else 0
def decP (k : Nat) : Int × Int := if k = 0 then (0, 0) else ((((k - 1) / 219 : Nat) : Int) - 98, (((k - 1) % 219 : Nat) : Int) - 109)
theorem codeP_lt (p : Int × Int) : codeP p < 43144 := by
  unfold codeP
  split
  · omega
  · split <;> omega
theorem decP_code {p : Int × Int} (h1 : -98 ≤ p.1 ∧ p.1 ≤ 98) (h2 : -109 ≤ p.2 ∧ p.2 ≤ 109) : decP (codeP p) = p := by
  unfold codeP
  by_cases h0 : p = (0, 0)
  · rw [if_pos h0, h0]; rfl
  · rw [if_neg h0, if_pos ⟨h1, h2⟩]
    unfold decP
    rw [if_neg (by omega)]
    refine Prod.ext ?_ ?_
    · simp only; omega
    · simp only; omega
section
variable {base : Int} {coefs : List Int} {c : Int} {n : Nat}
theorem LineOk.regular (g : LineOk base coefs c n) (less : Bool) : Regular n (lineL base coefs c less) := by
  have hs := g.sz
  have hc := g.c60
  have hstep : ∀ (p : Int × Int) (l : Nat), LnPt base 97 (sizeA coefs) 109 p → l < n → LnPt base 97 (sizeA coefs) 109 (lnCut 97 base p (addL base coefs l)) := fun p l hp _ => hp.step hs.1 (by omega) (.inl (by omega)) (g.lnOk l)
  have hlang : ∀ w, Ltr n w → lang (tabN 43144 n fun s l => codeP (lnCut 97 base (decP s) (addL base coefs l))) (tabE 43144 fun s => lnEnd less c (decP s)) 0 w = lnEnd less c (lnRun base (addL base coefs) w) := fun w hw => by
    refine (numd_lang (P := LnPt base 97 (sizeA coefs) 109) (δ := fun p l => lnCut 97 base p (addL base coefs l)) (s0 := (0, 0)) (code := codeP) (dec := decP) (by unfold codeP; rw [if_pos rfl]) (.zero hs.1 (by omega) (by omega)) codeP_lt (fun p hp => decP_code (by have := hp.x; omega) hp.y) hstep (lnEnd less c) hw).trans ?_
    exact ln_end (k := 60) g.r hs.1 (by omega) (by omega) (by omega) (fun l _ => g.lnOk l) less hw
  have hR : Rows0 n 43144 (tabN 43144 n fun s l => codeP (lnCut 97 base (decP s) (addL base coefs l))) := tab_rows fun s l _ _ => codeP_lt _
  obtain ⟨t1, t2⟩ := rgt_table (ends := tabE 43144 fun s => lnEnd less c (decP s)) g.many g.n_eq hR (by omega)
  exact Regular.of t1 t2 fun w hw => by
    rw [rgt_lang g.many g.n_eq hR (by omega) hw, hlang w hw]; rfl
end
/-- What a sum's automaton is, if there is one. -/
theorem lineOf_ok {base : Int} {coefs : List Int} {c : Int} {less : Bool} (h : lineErr base coefs c less = 0) : ∃ n, LineOk base coefs c n ∧ n = (manyOf base coefs.length).toNat ∧ errL n (lineL base coefs c less) = 0 ∧ lineOf base coefs c less = autoL base coefs.length n (lineL base coefs c less) ∧
    IsLeast (lineOf base coefs c less) n base coefs.length (lineL base coefs c less) ∧ (lineOf base coefs c less).next.length ≤ 80 ∧ Good (lineOf base coefs c less) n (lineOf base coefs c less).next.length := by
  unfold lineErr at h
  split at h
  · omega
  · rename_i h1
    have h1 : lineFault base coefs c = 0 := Classical.not_not.1 h1
    have g := line_ok h1
    have e : lineOf base coefs c less = autoL base coefs.length (manyOf base coefs.length).toNat (lineL base coefs c less) := by unfold lineOf; rw [if_neg (by omega)]
    obtain ⟨h2, h3⟩ := autoL_isLeast (base := base) (t := coefs.length) (g.regular less) h
    refine ⟨_, g, rfl, h, e, ?_, ?_, ?_⟩
    · rw [e]; exact h2
    · rw [e]; exact h3
    · rw [e]; exact h2.good2 g.many g.n_eq h3
end Go.Proofs.Ytfhncnhkeodngaa
