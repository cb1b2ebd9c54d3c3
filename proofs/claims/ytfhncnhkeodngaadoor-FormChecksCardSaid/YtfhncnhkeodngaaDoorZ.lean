/- The law FormChecks returns true at every input and leaves its arguments as they read; the card ties the variable that errors.As reads. No conditions. -/
import Derived.Test.YtfhncnhkeodngaaDoorM6
set_option linter.unusedSimpArgs false
set_option linter.unusedVariables false
set_option linter.unnecessarySimpa false
set_option linter.unusedSectionVars false
namespace Go.Proofs.YtfhncnhkeodngaaDoor
open Go.RowKit

theorem list_same {α : Type} [Inhabited α] {l l' : List α} (hl : l.length = l'.length) (h : ∀ j, j < l.length → l[j]! = l'[j]!) : l = l' := by
  refine List.ext_getElem hl fun i h1 h2 => ?_
  have := h i h1
  rwa [getElem!_pos l i h1, getElem!_pos l' i h2] at this
section
variable {G : World → Prop} (hG : Lasting G)
include hG
set_option maxHeartbeats 4000000 in
theorem SInts_snd (d d' : List Int) : Snd Tryd.prog G 30 [tInts d, tInts d'] (.bool (decide (d = d'))) := by
  have htb : Tab.ok Tryd.prog G [] := Tab.nil
  refine snd_of_body (n := 26) (tm := [(0, .t (tInts d)), (1, .t (tInts d'))]) (rs := [.tmp 4]) tt_ok Tryd.func30 rfl rfl rfl rfl rfl ?_
  refine SW_len (t := 0) (l := _) rfl fun hlen => ?_
  simp only [List.length_map] at hlen
  by_cases hl : d.length = d'.length
  · repeat' (first | (with_reducible first | refine SW_seq ?_ | refine SW_block ?_ | refine SThen_n ?_ | refine SThen_r ?_ | refine SThen_e ?_ | refine SIn_n ?_ | refine SIn_r ?_ | refine SIn_eq ?_ | refine SW_skip ?_ | refine SW_exit ?_ | refine SW_ret ?_ | refine SPost_r ?_) | ((with_reducible refine SIn_ne ?_ ?_); focus decide) | ((with_reducible refine SW_true ?_ ?_); focus exact rfl) | ((with_reducible refine SW_false ?_ ?_); focus exact rfl) | ((first | (with_reducible apply SW_run tt_ok hG htb) | ((with_reducible apply SW_draw rfl tt_ok hG htb); (focus kernel_rfl); (focus (simp only [List.range, List.range.loop, List.size_toArray, List.length_cons, List.length_nil, Nat.reduceAdd])))); focus ((repeat' (first | (with_reducible exact runX_nil) | (with_reducible exact runI_nil) | ((first | (with_reducible apply runX_cons) | (with_reducible apply runI_cons)); focus (simp (discharger := omega) only [go_sem, hl, simprocAttr]; with_reducible rfl)))); done)))
    refine SW_loop (fun n s => ∃ k : Nat, n = d.length - k ∧ s = ⟨26, [(0, .t (tInts d)), (1, .t (tInts d')), (5, .t (tInt k))], []⟩ ∧ k ≤ d.length ∧ ∀ j, j < k → d[j]! = d'[j]!) d.length ⟨_, Norm.headS (own := []) (keep := [0, 1, 5]) (by refine ⟨?_, ?_⟩; (simp (discharger := omega) only [go_sem, simprocAttr]; with_reducible rfl); refine ⟨?_, ?_, ?_, ?_⟩ <;> (simp only [go_sem, simprocAttr]; with_reducible rfl)), 0, rfl, rfl, Nat.zero_le _, fun j hj => by omega⟩ ?_
    rintro n s ⟨k, rfl, rfl, hk, hA⟩
    by_cases hlt : k < d.length
    · by_cases h : d[k]! = d'[k]!
      · repeat' (first | (with_reducible first | refine SW_seq ?_ | refine SW_block ?_ | refine SThen_n ?_ | refine SThen_r ?_ | refine SThen_e ?_ | refine SIn_n ?_ | refine SIn_r ?_ | refine SIn_eq ?_ | refine SW_skip ?_ | refine SW_exit ?_ | refine SW_ret ?_ | refine SPost_r ?_) | ((with_reducible refine SIn_ne ?_ ?_); focus decide) | ((with_reducible refine SW_true ?_ ?_); focus exact rfl) | ((with_reducible refine SW_false ?_ ?_); focus exact rfl) | ((first | (with_reducible apply SW_run tt_ok hG htb) | ((with_reducible apply SW_draw rfl tt_ok hG htb); (focus kernel_rfl); (focus (simp only [List.range, List.range.loop, List.size_toArray, List.length_cons, List.length_nil, Nat.reduceAdd])))); focus ((repeat' (first | (with_reducible exact runX_nil) | (with_reducible exact runI_nil) | ((first | (with_reducible apply runX_cons) | (with_reducible apply runI_cons)); focus (simp (discharger := omega) only [go_sem, h, simprocAttr]; with_reducible rfl)))); done)))
        exact ⟨d.length - (k + 1), _, by omega, Norm.headS (own := []) (keep := [0, 1, 5]) (by refine ⟨?_, ?_⟩; (simp (discharger := omega) only [go_sem, simprocAttr]; with_reducible rfl); refine ⟨?_, ?_, ?_, ?_⟩ <;> (simp only [go_sem, simprocAttr]; with_reducible rfl)), k + 1, rfl, rfl, by omega, fun j hj => by
          by_cases e : j = k
          · subst e; exact h
          · exact hA j (by omega)⟩
      · rw [decide_eq_false (fun e => h (by rw [e]))]
        repeat' (first | (with_reducible first | refine SW_seq ?_ | refine SW_block ?_ | refine SThen_n ?_ | refine SThen_r ?_ | refine SThen_e ?_ | refine SIn_n ?_ | refine SIn_r ?_ | refine SIn_eq ?_ | refine SW_skip ?_ | refine SW_exit ?_ | refine SW_ret ?_ | refine SPost_r ?_) | ((with_reducible refine SIn_ne ?_ ?_); focus decide) | ((with_reducible refine SW_true ?_ ?_); focus exact rfl) | ((with_reducible refine SW_false ?_ ?_); focus exact rfl) | ((first | (with_reducible apply SW_run tt_ok hG htb) | ((with_reducible apply SW_draw rfl tt_ok hG htb); (focus kernel_rfl); (focus (simp only [List.range, List.range.loop, List.size_toArray, List.length_cons, List.length_nil, Nat.reduceAdd])))); focus ((repeat' (first | (with_reducible exact runX_nil) | (with_reducible exact runI_nil) | ((first | (with_reducible apply runX_cons) | (with_reducible apply runI_cons)); focus (simp (discharger := omega) only [go_sem, h, simprocAttr]; with_reducible rfl)))); done)))
        exact (by simp (discharger := omega) only [go_sem, simprocAttr])
    · rw [decide_eq_true (list_same hl fun j hj => hA j (by omega))]
      repeat' (first | (with_reducible first | refine SW_seq ?_ | refine SW_block ?_ | refine SThen_n ?_ | refine SThen_r ?_ | refine SThen_e ?_ | refine SIn_n ?_ | refine SIn_r ?_ | refine SIn_eq ?_ | refine SW_skip ?_ | refine SW_exit ?_ | refine SW_ret ?_ | refine SPost_r ?_) | ((with_reducible refine SIn_ne ?_ ?_); focus decide) | ((with_reducible refine SW_true ?_ ?_); focus exact rfl) | ((with_reducible refine SW_false ?_ ?_); focus exact rfl) | ((first | (with_reducible apply SW_run tt_ok hG htb) | ((with_reducible apply SW_draw rfl tt_ok hG htb); (focus kernel_rfl); (focus (simp only [List.range, List.range.loop, List.size_toArray, List.length_cons, List.length_nil, Nat.reduceAdd])))); focus ((repeat' (first | (with_reducible exact runX_nil) | (with_reducible exact runI_nil) | ((first | (with_reducible apply runX_cons) | (with_reducible apply runI_cons)); focus (simp (discharger := omega) only [go_sem, simprocAttr]; with_reducible rfl)))); done)))
      exact (by simp (discharger := omega) only [go_sem, simprocAttr])
  · rw [decide_eq_false (fun e => hl (by rw [e]))]
    repeat' (first | (with_reducible first | refine SW_seq ?_ | refine SW_block ?_ | refine SThen_n ?_ | refine SThen_r ?_ | refine SThen_e ?_ | refine SIn_n ?_ | refine SIn_r ?_ | refine SIn_eq ?_ | refine SW_skip ?_ | refine SW_exit ?_ | refine SW_ret ?_ | refine SPost_r ?_) | ((with_reducible refine SIn_ne ?_ ?_); focus decide) | ((with_reducible refine SW_true ?_ ?_); focus exact rfl) | ((with_reducible refine SW_false ?_ ?_); focus exact rfl) | ((first | (with_reducible apply SW_run tt_ok hG htb) | ((with_reducible apply SW_draw rfl tt_ok hG htb); (focus kernel_rfl); (focus (simp only [List.range, List.range.loop, List.size_toArray, List.length_cons, List.length_nil, Nat.reduceAdd])))); focus ((repeat' (first | (with_reducible exact runX_nil) | (with_reducible exact runI_nil) | ((first | (with_reducible apply runX_cons) | (with_reducible apply runI_cons)); focus (simp (discharger := omega) only [go_sem, hl, simprocAttr]; with_reducible rfl)))); done)))
    exact (by simp (discharger := omega) only [go_sem, simprocAttr])
end
end Go.Proofs.YtfhncnhkeodngaaDoor
namespace Go.Proofs.YtfhncnhkeodngaaDoor
open Go.RowKit

def tZN : T := .agg [.int .i64 0, .int .i64 0, .int .i64 0, .int .i64 0, .int .i64 0, .int .i64 0, .list []]
theorem list_five {l : List Int} (h : l.length = 5) : l = [l.getD 0 0, l.getD 1 0, l.getD 2 0, l.getD 3 0, l.getD 4 0] := by
  match l, h with
  | [a, b, c, d, e], _ => rfl
theorem set_next {α : Type} {A : List α} {k n : Nat} {z y : α} (h : A.length = n) (hk : 0 < k) : (A ++ List.replicate k z).set n y = (A ++ [y]) ++ List.replicate (k - 1) z := by
  obtain ⟨q, rfl⟩ : ∃ q, k = q + 1 := ⟨k - 1, by omega⟩
  subst h
  rw [List.set_append_right _ _ (Nat.le_refl _), Nat.sub_self, List.replicate_succ, List.set_cons_zero, List.append_assoc]
  rfl
theorem node_var {n : GNode} (h : nodeErr n = 0) : (n.op = 3 ∨ n.op = 4 ∨ n.op = 8 ∨ n.op = 9 → 0 ≤ n.var ∧ n.var < 5) ∧ (n.op = 4 → 0 ≤ n.other ∧ n.other < 5) ∧ (¬ (n.op = 3 ∨ n.op = 4 ∨ n.op = 8 ∨ n.op = 9) → n.var = 0) ∧ (¬ n.op = 4 → n.other = 0) := by
  obtain ⟨h1, h2, h3, h4⟩ := node_ok h
  unfold nodeMore at h4
  simp only [Bool.or_eq_false_iff, decide_eq_false_iff_not, ne_eq, Classical.not_not] at h4
  obtain ⟨⟨⟨⟨⟨m1, m2⟩, _⟩, _⟩, _⟩, _⟩ := h4
  unfold nodeOk at h3
  unfold usedN at m1 m2
  refine ⟨fun e => ?_, fun e => ?_, fun e => ?_, fun e => ?_⟩
  · rw [if_neg (by omega)] at h3
    by_cases e3 : n.op = 3
    · rw [if_pos e3] at h3
      simp only [Bool.and_eq_true] at h3
      exact isVar_bd h3.1.1.1.1
    · rw [if_neg e3] at h3
      by_cases e4 : n.op = 4
      · rw [if_pos e4] at h3
        simp only [Bool.and_eq_true] at h3
        exact isVar_bd h3.1.1.1.1.1
      · rw [if_neg e4, if_pos (by omega)] at h3
        exact isVar_bd h3
  · rw [if_neg (by omega), if_neg (by omega), if_pos e] at h3
    simp only [Bool.and_eq_true] at h3
    exact isVar_bd h3.1.1.1.1.2
  · rw [m1]
    split
    · rfl
    · rw [if_neg (by omega), if_neg (by omega), if_neg (by omega)]
  · rw [m2]
    by_cases a1 : n.op = 1 ∨ n.op = 2
    · rw [if_pos a1]
    · rw [if_neg a1]
      by_cases a3 : n.op = 3
      · rw [if_pos a3]
      · rw [if_neg a3, if_neg e]
        by_cases a8 : n.op = 8 ∨ n.op = 9
        · rw [if_pos a8]
        · rw [if_neg a8]
theorem toGo_step {to : List Int} {i : Nat} (hi : i < 5) : toGo to (5 - i) i = if toAt to i ≠ 0 then toAt to i else toGo to (5 - (i + 1)) (i + 1) := by
  rw [show 5 - i = 5 - (i + 1) + 1 by omega, toGo]
section
variable {G : World → Prop} (hG : Lasting G)
include hG
set_option maxHeartbeats 4000000 in
set_option maxRecDepth 100000 in
theorem Nodes_snd (a : List GNode) : Snd Tryd.prog G 33 [tForm a, tForm a] (.bool true) := by
  refine snd_of_body (n := 77) (tm := [(0, .t (tForm a)), (1, .t (tForm a))]) (rs := [.tmp 4]) tt_ok Tryd.func33 rfl rfl rfl rfl rfl ?_
  have htb : Tab.ok Tryd.prog G [] := Tab.nil
  unfold tForm
  refine SW_len (t := 0) rfl fun hcl => ?_
  rw [List.length_map] at hcl
  repeat' (first | (with_reducible first | refine SW_seq ?_ | refine SW_block ?_ | refine SThen_n ?_ | refine SThen_r ?_ | refine SThen_e ?_ | refine SIn_n ?_ | refine SIn_r ?_ | refine SIn_eq ?_ | refine SW_skip ?_ | refine SW_exit ?_ | refine SW_ret ?_ | refine SPost_r ?_) | ((with_reducible refine SIn_ne ?_ ?_); focus decide) | ((with_reducible refine SW_true ?_ ?_); focus exact rfl) | ((with_reducible refine SW_false ?_ ?_); focus exact rfl) | ((first | (with_reducible apply SW_run tt_ok hG htb) | ((with_reducible apply SW_draw rfl tt_ok hG htb); (focus kernel_rfl); (focus (simp only [List.range, List.range.loop, List.size_toArray, List.length_cons, List.length_nil, Nat.reduceAdd])))); focus ((repeat' (first | (with_reducible exact runX_nil) | (with_reducible exact runI_nil) | ((first | (with_reducible apply runX_cons) | (with_reducible apply runI_cons)); focus (simp (discharger := omega) only [go_sem, simprocAttr]; with_reducible rfl)))); done)))
  refine SW_loop (fun mm s => ∃ (i : Nat), mm = a.length - i ∧ s = ⟨77, [(0, .t (.list (a.map tNode))), (1, .t (.list (a.map tNode))), (5, .t (tNat i))], []⟩ ∧ i ≤ a.length) a.length
    ⟨_, Norm.headS (own := []) (keep := [0, 1, 5]) (by refine ⟨?_, ?_⟩; (simp (discharger := omega) only [go_sem, simprocAttr]; with_reducible rfl); refine ⟨?_, ?_, ?_, ?_⟩ <;> (simp only [go_sem, simprocAttr]; with_reducible rfl)), 0, rfl, rfl, Nat.zero_le _⟩ ?_
  rintro mm s ⟨i, rfl, rfl, hi⟩
  by_cases hlt : i < a.length
  · obtain ⟨n, hn⟩ : ∃ n, a[i]! = n := ⟨_, rfl⟩
    obtain ⟨op, var, other, word, word2, num, coefs⟩ := n
    have c1 := SInts_snd (G := G) hG coefs coefs
    rw [decide_eq_true rfl] at c1
    clear htb
    have htb := Tab.cons c1 Tab.nil
    repeat' (first | (with_reducible first | refine SW_seq ?_ | refine SW_block ?_ | refine SThen_n ?_ | refine SThen_r ?_ | refine SThen_e ?_ | refine SIn_n ?_ | refine SIn_r ?_ | refine SIn_eq ?_ | refine SW_skip ?_ | refine SW_exit ?_ | refine SW_ret ?_ | refine SPost_r ?_) | ((with_reducible refine SIn_ne ?_ ?_); focus decide) | ((with_reducible refine SW_true ?_ ?_); focus exact rfl) | ((with_reducible refine SW_false ?_ ?_); focus exact rfl) | ((first | (with_reducible apply SW_run tt_ok hG htb) | ((with_reducible apply SW_draw rfl tt_ok hG htb); (focus kernel_rfl); (focus (simp only [List.range, List.range.loop, List.size_toArray, List.length_cons, List.length_nil, Nat.reduceAdd])))); focus ((repeat' (first | (with_reducible exact runX_nil) | (with_reducible exact runI_nil) | ((first | (with_reducible apply runX_cons) | (with_reducible apply runI_cons)); focus (simp (discharger := omega) only [go_sem, hn, tNode, simprocAttr]; with_reducible rfl)))); done)))
    exact ⟨a.length - (i + 1), _, by omega, Norm.headS (own := []) (keep := [0, 1, 5]) (by refine ⟨?_, ?_⟩; (simp (discharger := omega) only [go_sem, simprocAttr]; with_reducible rfl); refine ⟨?_, ?_, ?_, ?_⟩ <;> (simp only [go_sem, simprocAttr]; with_reducible rfl)), i + 1, rfl, rfl, by omega⟩
  · obtain rfl : i = a.length := by omega
    repeat' (first | (with_reducible first | refine SW_seq ?_ | refine SW_block ?_ | refine SThen_n ?_ | refine SThen_r ?_ | refine SThen_e ?_ | refine SIn_n ?_ | refine SIn_r ?_ | refine SIn_eq ?_ | refine SW_skip ?_ | refine SW_exit ?_ | refine SW_ret ?_ | refine SPost_r ?_) | ((with_reducible refine SIn_ne ?_ ?_); focus decide) | ((with_reducible refine SW_true ?_ ?_); focus exact rfl) | ((with_reducible refine SW_false ?_ ?_); focus exact rfl) | ((first | (with_reducible apply SW_run tt_ok hG htb) | ((with_reducible apply SW_draw rfl tt_ok hG htb); (focus kernel_rfl); (focus (simp only [List.range, List.range.loop, List.size_toArray, List.length_cons, List.length_nil, Nat.reduceAdd])))); focus ((repeat' (first | (with_reducible exact runX_nil) | (with_reducible exact runI_nil) | ((first | (with_reducible apply runX_cons) | (with_reducible apply runI_cons)); focus (simp (discharger := omega) only [go_sem, simprocAttr]; with_reducible rfl)))); done)))
    exact (by simp (discharger := omega) only [go_sem, simprocAttr])
set_option maxHeartbeats 16000000 in
set_option maxRecDepth 100000 in
theorem Rename_snd (f : List GNode) (to : List Int) : Snd Tryd.prog G 32 [tForm f, tInts to] (.tup [tForm (renF f to), tErr (renErr f to)]) := by
  have c1 := Check_form_snd hG f
  refine snd_of_body (n := 135) (tm := [(0, .t (tForm f)), (1, .t (tInts to))]) (rs := [.tmp 4, .tmp 5]) tt_ok Tryd.func32 rfl rfl rfl rfl rfl ?_
  have bad : ∀ e, renErr f to = e → e ≠ 0 → tForm (renF f to) = .list [] := fun e h1 h2 => by unfold renF; rw [if_neg (by omega)]; rfl
  refine SW_len (t := 1) rfl fun hcl => ?_
  rw [List.length_map] at hcl
  by_cases h : (formErr f).2 = 0
  · obtain ⟨h0, hl, hne, hp, e1⟩ := form_ok h
    rw [h, e1] at c1
    have htb := Tab.cons c1 Tab.nil
    by_cases h5 : to.length = 5
    · have hre : renErr f to = toGo to 5 0 := by unfold renErr; rw [if_neg (by omega), if_neg (by omega)]
      repeat' (first | (with_reducible first | refine SW_seq ?_ | refine SW_block ?_ | refine SThen_n ?_ | refine SThen_r ?_ | refine SThen_e ?_ | refine SIn_n ?_ | refine SIn_r ?_ | refine SIn_eq ?_ | refine SW_skip ?_ | refine SW_exit ?_ | refine SW_ret ?_ | refine SPost_r ?_) | ((with_reducible refine SIn_ne ?_ ?_); focus decide) | ((with_reducible refine SW_true ?_ ?_); focus exact rfl) | ((with_reducible refine SW_false ?_ ?_); focus exact rfl) | ((first | (with_reducible apply SW_run tt_ok hG htb) | ((with_reducible apply SW_draw rfl tt_ok hG htb); (focus kernel_rfl); (focus (simp only [List.range, List.range.loop, List.size_toArray, List.length_cons, List.length_nil, Nat.reduceAdd])))); focus ((repeat' (first | (with_reducible exact runX_nil) | (with_reducible exact runI_nil) | ((first | (with_reducible apply runX_cons) | (with_reducible apply runI_cons)); focus (simp (discharger := omega) only [go_sem, tErr0, h5, simprocAttr]; with_reducible rfl)))); done)))
      clear htb c1
      refine SW_loop (fun mm s => ∃ (i : Nat) (g : Nat → Bool), mm = 5 - i ∧ s = ⟨135, [(0, .t (tForm f)), (1, .t (tInts to)), (8, .bptr 0 0), (31, .t (tInts to)), (32, .t (tInt 5)), (33, .t (tNat i))], [.box [.t (.bool (g 0)), .t (.bool (g 1)), .t (.bool (g 2)), .t (.bool (g 3)), .t (.bool (g 4))]]⟩ ∧ i ≤ 5 ∧ renErr f to = toGo to (5 - i) i ∧ ∀ k : Nat, k < 5 → g k = (to.take i).contains (k : Int)) 5
        ⟨_, Norm.headS (own := []) (keep := [0, 1, 8, 31, 32, 33]) (by refine ⟨?_, ?_⟩; (simp (discharger := omega) only [go_sem, simprocAttr]; with_reducible rfl); refine ⟨?_, ?_, ?_, ?_⟩ <;> (simp only [go_sem, simprocAttr]; with_reducible rfl)), 0, fun _ => false, rfl, rfl, by omega, hre, fun k _ => by simp⟩ ?_
      clear hre
      rintro mm s ⟨i, g, rfl, rfl, hi, hre, hg⟩
      by_cases hlt : i < 5
      · obtain ⟨x, hx⟩ : ∃ x, to[i]! = x := ⟨_, rfl⟩
        have hxD : to.getD i 0 = x := bang_D hx (by omega)
        have cV := variable_snd hG x
        rw [toGo_step hlt] at hre
        have hta : toAt to i = if isVar x = false then 1 else if (to.take i).contains x = true then 6 else 0 := by unfold toAt; rw [hxD]
        cases hv : isVar x with
        | false =>
          rw [hv] at cV
          rw [hta, if_pos hv, if_pos (by decide)] at hre
          rw [hre, bad 1 hre (by decide)]
          have htb := Tab.cons cV Tab.nil
          repeat' (first | (with_reducible first | refine SW_seq ?_ | refine SW_block ?_ | refine SThen_n ?_ | refine SThen_r ?_ | refine SThen_e ?_ | refine SIn_n ?_ | refine SIn_r ?_ | refine SIn_eq ?_ | refine SW_skip ?_ | refine SW_exit ?_ | refine SW_ret ?_ | refine SPost_r ?_) | ((with_reducible refine SIn_ne ?_ ?_); focus decide) | ((with_reducible refine SW_true ?_ ?_); focus exact rfl) | ((with_reducible refine SW_false ?_ ?_); focus exact rfl) | ((first | (with_reducible apply SW_run tt_ok hG htb) | ((with_reducible apply SW_draw rfl tt_ok hG htb); (focus kernel_rfl); (focus (simp only [List.range, List.range.loop, List.size_toArray, List.length_cons, List.length_nil, Nat.reduceAdd])))); focus ((repeat' (first | (with_reducible exact runX_nil) | (with_reducible exact runI_nil) | ((first | (with_reducible apply runX_cons) | (with_reducible apply runI_cons)); focus (simp (discharger := omega) only [go_sem, hx, simprocAttr]; with_reducible rfl)))); done)))
          exact (by simp (discharger := omega) only [go_sem, tErr, simprocAttr])
        | true =>
          rw [hv] at cV
          rw [if_neg (by rw [hv]; decide)] at hta
          have hxb := isVar_bd hv
          have htk := take_next hx (by omega)
          have hg' : ∀ k : Nat, k < 5 → (to.take (i + 1)).contains (k : Int) = (decide (x = (k : Int)) || g k) := fun k hk => by
            rw [htk, List.contains_eq_any_beq, List.any_append, hg k hk, List.contains_eq_any_beq, Bool.or_comm]
            congr 1
            simp only [List.any_cons, List.any_nil, Bool.or_false]
            by_cases e : x = (k : Int)
            · rw [e]; simp
            · rw [decide_eq_false e]; simpa using fun e2 => e e2.symm
          have htb := Tab.cons cV Tab.nil
          have hx5 : x = 0 ∨ x = 1 ∨ x = 2 ∨ x = 3 ∨ x = 4 := by omega
          clear hv
          rcases hx5 with rfl | rfl | rfl | rfl | rfl
          · have hgc := hg 0 (by omega)
            cases hgv : g 0 with
            | true =>
              rw [if_pos (by rw [← hgv]; exact hgc.symm)] at hta
              rw [hta, if_pos (by decide)] at hre
              rw [hre, bad 6 hre (by decide)]
              repeat' (first | (with_reducible first | refine SW_seq ?_ | refine SW_block ?_ | refine SThen_n ?_ | refine SThen_r ?_ | refine SThen_e ?_ | refine SIn_n ?_ | refine SIn_r ?_ | refine SIn_eq ?_ | refine SW_skip ?_ | refine SW_exit ?_ | refine SW_ret ?_ | refine SPost_r ?_) | ((with_reducible refine SIn_ne ?_ ?_); focus decide) | ((with_reducible refine SW_true ?_ ?_); focus exact rfl) | ((with_reducible refine SW_false ?_ ?_); focus exact rfl) | ((first | (with_reducible apply SW_run tt_ok hG htb) | ((with_reducible apply SW_draw rfl tt_ok hG htb); (focus kernel_rfl); (focus (simp only [List.range, List.range.loop, List.size_toArray, List.length_cons, List.length_nil, Nat.reduceAdd])))); focus ((repeat' (first | (with_reducible exact runX_nil) | (with_reducible exact runI_nil) | ((first | (with_reducible apply runX_cons) | (with_reducible apply runI_cons)); focus (simp (discharger := omega) only [go_sem, hx, hgv, simprocAttr]; with_reducible rfl)))); done)))
              exact (by simp (discharger := omega) only [go_sem, tErr, simprocAttr])
            | false =>
              rw [if_neg (by rw [show (to.take i).contains (0 : Int) = false from by rw [← hgv]; exact hgc.symm]; decide)] at hta
              rw [hta, if_neg (by decide)] at hre
              repeat' (first | (with_reducible first | refine SW_seq ?_ | refine SW_block ?_ | refine SThen_n ?_ | refine SThen_r ?_ | refine SThen_e ?_ | refine SIn_n ?_ | refine SIn_r ?_ | refine SIn_eq ?_ | refine SW_skip ?_ | refine SW_exit ?_ | refine SW_ret ?_ | refine SPost_r ?_) | ((with_reducible refine SIn_ne ?_ ?_); focus decide) | ((with_reducible refine SW_true ?_ ?_); focus exact rfl) | ((with_reducible refine SW_false ?_ ?_); focus exact rfl) | ((first | (with_reducible apply SW_run tt_ok hG htb) | ((with_reducible apply SW_draw rfl tt_ok hG htb); (focus kernel_rfl); (focus (simp only [List.range, List.range.loop, List.size_toArray, List.length_cons, List.length_nil, Nat.reduceAdd])))); focus ((repeat' (first | (with_reducible exact runX_nil) | (with_reducible exact runI_nil) | ((first | (with_reducible apply runX_cons) | (with_reducible apply runI_cons)); focus (simp (discharger := omega) only [go_sem, hx, hgv, simprocAttr]; with_reducible rfl)))); done)))
              exact ⟨5 - (i + 1), _, by omega, Norm.headS (own := []) (keep := [0, 1, 8, 31, 32, 33]) (by refine ⟨?_, ?_⟩; (simp (discharger := omega) only [go_sem, simprocAttr]; with_reducible rfl); refine ⟨?_, ?_, ?_, ?_⟩ <;> (simp only [go_sem, simprocAttr]; with_reducible rfl)), i + 1, fun k => if k = 0 then true else g k, rfl, rfl, by omega, hre, fun k hk => by
                rw [hg' k hk]
                dsimp only
                by_cases e : k = 0
                · subst e; simp
                · rw [if_neg e, decide_eq_false (by omega), Bool.false_or]⟩
          · have hgc := hg 1 (by omega)
            cases hgv : g 1 with
            | true =>
              rw [if_pos (by rw [← hgv]; exact hgc.symm)] at hta
              rw [hta, if_pos (by decide)] at hre
              rw [hre, bad 6 hre (by decide)]
              repeat' (first | (with_reducible first | refine SW_seq ?_ | refine SW_block ?_ | refine SThen_n ?_ | refine SThen_r ?_ | refine SThen_e ?_ | refine SIn_n ?_ | refine SIn_r ?_ | refine SIn_eq ?_ | refine SW_skip ?_ | refine SW_exit ?_ | refine SW_ret ?_ | refine SPost_r ?_) | ((with_reducible refine SIn_ne ?_ ?_); focus decide) | ((with_reducible refine SW_true ?_ ?_); focus exact rfl) | ((with_reducible refine SW_false ?_ ?_); focus exact rfl) | ((first | (with_reducible apply SW_run tt_ok hG htb) | ((with_reducible apply SW_draw rfl tt_ok hG htb); (focus kernel_rfl); (focus (simp only [List.range, List.range.loop, List.size_toArray, List.length_cons, List.length_nil, Nat.reduceAdd])))); focus ((repeat' (first | (with_reducible exact runX_nil) | (with_reducible exact runI_nil) | ((first | (with_reducible apply runX_cons) | (with_reducible apply runI_cons)); focus (simp (discharger := omega) only [go_sem, hx, hgv, simprocAttr]; with_reducible rfl)))); done)))
              exact (by simp (discharger := omega) only [go_sem, tErr, simprocAttr])
            | false =>
              rw [if_neg (by rw [show (to.take i).contains (1 : Int) = false from by rw [← hgv]; exact hgc.symm]; decide)] at hta
              rw [hta, if_neg (by decide)] at hre
              repeat' (first | (with_reducible first | refine SW_seq ?_ | refine SW_block ?_ | refine SThen_n ?_ | refine SThen_r ?_ | refine SThen_e ?_ | refine SIn_n ?_ | refine SIn_r ?_ | refine SIn_eq ?_ | refine SW_skip ?_ | refine SW_exit ?_ | refine SW_ret ?_ | refine SPost_r ?_) | ((with_reducible refine SIn_ne ?_ ?_); focus decide) | ((with_reducible refine SW_true ?_ ?_); focus exact rfl) | ((with_reducible refine SW_false ?_ ?_); focus exact rfl) | ((first | (with_reducible apply SW_run tt_ok hG htb) | ((with_reducible apply SW_draw rfl tt_ok hG htb); (focus kernel_rfl); (focus (simp only [List.range, List.range.loop, List.size_toArray, List.length_cons, List.length_nil, Nat.reduceAdd])))); focus ((repeat' (first | (with_reducible exact runX_nil) | (with_reducible exact runI_nil) | ((first | (with_reducible apply runX_cons) | (with_reducible apply runI_cons)); focus (simp (discharger := omega) only [go_sem, hx, hgv, simprocAttr]; with_reducible rfl)))); done)))
              exact ⟨5 - (i + 1), _, by omega, Norm.headS (own := []) (keep := [0, 1, 8, 31, 32, 33]) (by refine ⟨?_, ?_⟩; (simp (discharger := omega) only [go_sem, simprocAttr]; with_reducible rfl); refine ⟨?_, ?_, ?_, ?_⟩ <;> (simp only [go_sem, simprocAttr]; with_reducible rfl)), i + 1, fun k => if k = 1 then true else g k, rfl, rfl, by omega, hre, fun k hk => by
                rw [hg' k hk]
                dsimp only
                by_cases e : k = 1
                · subst e; simp
                · rw [if_neg e, decide_eq_false (by omega), Bool.false_or]⟩
          · have hgc := hg 2 (by omega)
            cases hgv : g 2 with
            | true =>
              rw [if_pos (by rw [← hgv]; exact hgc.symm)] at hta
              rw [hta, if_pos (by decide)] at hre
              rw [hre, bad 6 hre (by decide)]
              repeat' (first | (with_reducible first | refine SW_seq ?_ | refine SW_block ?_ | refine SThen_n ?_ | refine SThen_r ?_ | refine SThen_e ?_ | refine SIn_n ?_ | refine SIn_r ?_ | refine SIn_eq ?_ | refine SW_skip ?_ | refine SW_exit ?_ | refine SW_ret ?_ | refine SPost_r ?_) | ((with_reducible refine SIn_ne ?_ ?_); focus decide) | ((with_reducible refine SW_true ?_ ?_); focus exact rfl) | ((with_reducible refine SW_false ?_ ?_); focus exact rfl) | ((first | (with_reducible apply SW_run tt_ok hG htb) | ((with_reducible apply SW_draw rfl tt_ok hG htb); (focus kernel_rfl); (focus (simp only [List.range, List.range.loop, List.size_toArray, List.length_cons, List.length_nil, Nat.reduceAdd])))); focus ((repeat' (first | (with_reducible exact runX_nil) | (with_reducible exact runI_nil) | ((first | (with_reducible apply runX_cons) | (with_reducible apply runI_cons)); focus (simp (discharger := omega) only [go_sem, hx, hgv, simprocAttr]; with_reducible rfl)))); done)))
              exact (by simp (discharger := omega) only [go_sem, tErr, simprocAttr])
            | false =>
              rw [if_neg (by rw [show (to.take i).contains (2 : Int) = false from by rw [← hgv]; exact hgc.symm]; decide)] at hta
              rw [hta, if_neg (by decide)] at hre
              repeat' (first | (with_reducible first | refine SW_seq ?_ | refine SW_block ?_ | refine SThen_n ?_ | refine SThen_r ?_ | refine SThen_e ?_ | refine SIn_n ?_ | refine SIn_r ?_ | refine SIn_eq ?_ | refine SW_skip ?_ | refine SW_exit ?_ | refine SW_ret ?_ | refine SPost_r ?_) | ((with_reducible refine SIn_ne ?_ ?_); focus decide) | ((with_reducible refine SW_true ?_ ?_); focus exact rfl) | ((with_reducible refine SW_false ?_ ?_); focus exact rfl) | ((first | (with_reducible apply SW_run tt_ok hG htb) | ((with_reducible apply SW_draw rfl tt_ok hG htb); (focus kernel_rfl); (focus (simp only [List.range, List.range.loop, List.size_toArray, List.length_cons, List.length_nil, Nat.reduceAdd])))); focus ((repeat' (first | (with_reducible exact runX_nil) | (with_reducible exact runI_nil) | ((first | (with_reducible apply runX_cons) | (with_reducible apply runI_cons)); focus (simp (discharger := omega) only [go_sem, hx, hgv, simprocAttr]; with_reducible rfl)))); done)))
              exact ⟨5 - (i + 1), _, by omega, Norm.headS (own := []) (keep := [0, 1, 8, 31, 32, 33]) (by refine ⟨?_, ?_⟩; (simp (discharger := omega) only [go_sem, simprocAttr]; with_reducible rfl); refine ⟨?_, ?_, ?_, ?_⟩ <;> (simp only [go_sem, simprocAttr]; with_reducible rfl)), i + 1, fun k => if k = 2 then true else g k, rfl, rfl, by omega, hre, fun k hk => by
                rw [hg' k hk]
                dsimp only
                by_cases e : k = 2
                · subst e; simp
                · rw [if_neg e, decide_eq_false (by omega), Bool.false_or]⟩
          · have hgc := hg 3 (by omega)
            cases hgv : g 3 with
            | true =>
              rw [if_pos (by rw [← hgv]; exact hgc.symm)] at hta
              rw [hta, if_pos (by decide)] at hre
              rw [hre, bad 6 hre (by decide)]
              repeat' (first | (with_reducible first | refine SW_seq ?_ | refine SW_block ?_ | refine SThen_n ?_ | refine SThen_r ?_ | refine SThen_e ?_ | refine SIn_n ?_ | refine SIn_r ?_ | refine SIn_eq ?_ | refine SW_skip ?_ | refine SW_exit ?_ | refine SW_ret ?_ | refine SPost_r ?_) | ((with_reducible refine SIn_ne ?_ ?_); focus decide) | ((with_reducible refine SW_true ?_ ?_); focus exact rfl) | ((with_reducible refine SW_false ?_ ?_); focus exact rfl) | ((first | (with_reducible apply SW_run tt_ok hG htb) | ((with_reducible apply SW_draw rfl tt_ok hG htb); (focus kernel_rfl); (focus (simp only [List.range, List.range.loop, List.size_toArray, List.length_cons, List.length_nil, Nat.reduceAdd])))); focus ((repeat' (first | (with_reducible exact runX_nil) | (with_reducible exact runI_nil) | ((first | (with_reducible apply runX_cons) | (with_reducible apply runI_cons)); focus (simp (discharger := omega) only [go_sem, hx, hgv, simprocAttr]; with_reducible rfl)))); done)))
              exact (by simp (discharger := omega) only [go_sem, tErr, simprocAttr])
            | false =>
              rw [if_neg (by rw [show (to.take i).contains (3 : Int) = false from by rw [← hgv]; exact hgc.symm]; decide)] at hta
              rw [hta, if_neg (by decide)] at hre
              repeat' (first | (with_reducible first | refine SW_seq ?_ | refine SW_block ?_ | refine SThen_n ?_ | refine SThen_r ?_ | refine SThen_e ?_ | refine SIn_n ?_ | refine SIn_r ?_ | refine SIn_eq ?_ | refine SW_skip ?_ | refine SW_exit ?_ | refine SW_ret ?_ | refine SPost_r ?_) | ((with_reducible refine SIn_ne ?_ ?_); focus decide) | ((with_reducible refine SW_true ?_ ?_); focus exact rfl) | ((with_reducible refine SW_false ?_ ?_); focus exact rfl) | ((first | (with_reducible apply SW_run tt_ok hG htb) | ((with_reducible apply SW_draw rfl tt_ok hG htb); (focus kernel_rfl); (focus (simp only [List.range, List.range.loop, List.size_toArray, List.length_cons, List.length_nil, Nat.reduceAdd])))); focus ((repeat' (first | (with_reducible exact runX_nil) | (with_reducible exact runI_nil) | ((first | (with_reducible apply runX_cons) | (with_reducible apply runI_cons)); focus (simp (discharger := omega) only [go_sem, hx, hgv, simprocAttr]; with_reducible rfl)))); done)))
              exact ⟨5 - (i + 1), _, by omega, Norm.headS (own := []) (keep := [0, 1, 8, 31, 32, 33]) (by refine ⟨?_, ?_⟩; (simp (discharger := omega) only [go_sem, simprocAttr]; with_reducible rfl); refine ⟨?_, ?_, ?_, ?_⟩ <;> (simp only [go_sem, simprocAttr]; with_reducible rfl)), i + 1, fun k => if k = 3 then true else g k, rfl, rfl, by omega, hre, fun k hk => by
                rw [hg' k hk]
                dsimp only
                by_cases e : k = 3
                · subst e; simp
                · rw [if_neg e, decide_eq_false (by omega), Bool.false_or]⟩
          · have hgc := hg 4 (by omega)
            cases hgv : g 4 with
            | true =>
              rw [if_pos (by rw [← hgv]; exact hgc.symm)] at hta
              rw [hta, if_pos (by decide)] at hre
              rw [hre, bad 6 hre (by decide)]
              repeat' (first | (with_reducible first | refine SW_seq ?_ | refine SW_block ?_ | refine SThen_n ?_ | refine SThen_r ?_ | refine SThen_e ?_ | refine SIn_n ?_ | refine SIn_r ?_ | refine SIn_eq ?_ | refine SW_skip ?_ | refine SW_exit ?_ | refine SW_ret ?_ | refine SPost_r ?_) | ((with_reducible refine SIn_ne ?_ ?_); focus decide) | ((with_reducible refine SW_true ?_ ?_); focus exact rfl) | ((with_reducible refine SW_false ?_ ?_); focus exact rfl) | ((first | (with_reducible apply SW_run tt_ok hG htb) | ((with_reducible apply SW_draw rfl tt_ok hG htb); (focus kernel_rfl); (focus (simp only [List.range, List.range.loop, List.size_toArray, List.length_cons, List.length_nil, Nat.reduceAdd])))); focus ((repeat' (first | (with_reducible exact runX_nil) | (with_reducible exact runI_nil) | ((first | (with_reducible apply runX_cons) | (with_reducible apply runI_cons)); focus (simp (discharger := omega) only [go_sem, hx, hgv, simprocAttr]; with_reducible rfl)))); done)))
              exact (by simp (discharger := omega) only [go_sem, tErr, simprocAttr])
            | false =>
              rw [if_neg (by rw [show (to.take i).contains (4 : Int) = false from by rw [← hgv]; exact hgc.symm]; decide)] at hta
              rw [hta, if_neg (by decide)] at hre
              repeat' (first | (with_reducible first | refine SW_seq ?_ | refine SW_block ?_ | refine SThen_n ?_ | refine SThen_r ?_ | refine SThen_e ?_ | refine SIn_n ?_ | refine SIn_r ?_ | refine SIn_eq ?_ | refine SW_skip ?_ | refine SW_exit ?_ | refine SW_ret ?_ | refine SPost_r ?_) | ((with_reducible refine SIn_ne ?_ ?_); focus decide) | ((with_reducible refine SW_true ?_ ?_); focus exact rfl) | ((with_reducible refine SW_false ?_ ?_); focus exact rfl) | ((first | (with_reducible apply SW_run tt_ok hG htb) | ((with_reducible apply SW_draw rfl tt_ok hG htb); (focus kernel_rfl); (focus (simp only [List.range, List.range.loop, List.size_toArray, List.length_cons, List.length_nil, Nat.reduceAdd])))); focus ((repeat' (first | (with_reducible exact runX_nil) | (with_reducible exact runI_nil) | ((first | (with_reducible apply runX_cons) | (with_reducible apply runI_cons)); focus (simp (discharger := omega) only [go_sem, hx, hgv, simprocAttr]; with_reducible rfl)))); done)))
              exact ⟨5 - (i + 1), _, by omega, Norm.headS (own := []) (keep := [0, 1, 8, 31, 32, 33]) (by refine ⟨?_, ?_⟩; (simp (discharger := omega) only [go_sem, simprocAttr]; with_reducible rfl); refine ⟨?_, ?_, ?_, ?_⟩ <;> (simp only [go_sem, simprocAttr]; with_reducible rfl)), i + 1, fun k => if k = 4 then true else g k, rfl, rfl, by omega, hre, fun k hk => by
                rw [hg' k hk]
                dsimp only
                by_cases e : k = 4
                · subst e; simp
                · rw [if_neg e, decide_eq_false (by omega), Bool.false_or]⟩
      · obtain rfl : i = 5 := by omega
        have hre : renErr f to = 0 := hre
        have hto : ToOk to := to_ok h5 (by unfold renErr at hre; rw [if_neg (by omega), if_neg (by omega)] at hre; exact hre)
        have hrf : tForm (renF f to) = .list ((f.map (renN to)).map tNode) := by unfold renF; rw [if_pos hre]; rfl
        rw [hre, hrf]
        clear bad hrf hre hg hlt hi
        have htb : Tab.ok Tryd.prog G [] := Tab.nil
        repeat' (first | (with_reducible first | refine SW_seq ?_ | refine SW_block ?_ | refine SThen_n ?_ | refine SThen_r ?_ | refine SThen_e ?_ | refine SIn_n ?_ | refine SIn_r ?_ | refine SIn_eq ?_ | refine SW_skip ?_ | refine SW_exit ?_ | refine SW_ret ?_ | refine SPost_r ?_) | ((with_reducible refine SIn_ne ?_ ?_); focus decide) | ((with_reducible refine SW_true ?_ ?_); focus exact rfl) | ((with_reducible refine SW_false ?_ ?_); focus exact rfl) | ((first | (with_reducible apply SW_run tt_ok hG htb) | ((with_reducible apply SW_draw rfl tt_ok hG htb); (focus kernel_rfl); (focus (simp only [List.range, List.range.loop, List.size_toArray, List.length_cons, List.length_nil, Nat.reduceAdd])))); focus ((repeat' (first | (with_reducible exact runX_nil) | (with_reducible exact runI_nil) | ((first | (with_reducible apply runX_cons) | (with_reducible apply runI_cons)); focus (simp (discharger := omega) only [go_sem, tForm, simprocAttr]; with_reducible rfl)))); done)))
        refine SW_loop (fun mm s => ∃ (i : Nat) (rt : List T), mm = f.length - i ∧ s = ⟨135, [(1, .t (tInts to)), (11, .sref 0), (51, .t (tForm f)), (52, .t (tInt f.length)), (53, .t (tNat i))], [.row 111 7 true rt]⟩ ∧ i ≤ f.length ∧ rt = ((f.take i).map (renN to)).map tNode ++ List.replicate (f.length - i) tZN) f.length
          ⟨_, Norm.headS (own := [(11, 111, 7, true)]) (keep := [1, 11, 51, 52, 53]) (by refine ⟨?_, ?_⟩; (simp (discharger := omega) only [go_sem, simprocAttr]; with_reducible rfl); refine ⟨?_, ?_, ?_, ?_⟩ <;> (simp only [go_sem, simprocAttr]; with_reducible rfl)), 0, _, rfl, rfl, Nat.zero_le _, by simp [tZN]⟩ ?_
        rintro mm s ⟨i, rt, rfl, rfl, hi, hrt⟩
        have hrl : rt.length = f.length := by rw [hrt]; simp; omega
        by_cases hlt : i < f.length
        · obtain ⟨n, hn⟩ : ∃ n, f[i]! = n := ⟨_, rfl⟩
          have hnm := bang_mem hn hlt
          have hnk := hne n hnm
          have htk := take_next hn hlt
          obtain ⟨hv1, hv2, hv3, hv4⟩ := node_var hnk
          have hc5 := node_coefs hnk
          obtain ⟨ho1, ho9, _, _⟩ := node_ok hnk
          have hnext : ∀ y, y = tNode (renN to n) → rt.set i y = ((f.take (i + 1)).map (renN to)).map tNode ++ List.replicate (f.length - (i + 1)) tZN := fun y hy => by
            rw [hrt, set_next (by simp; omega) (by omega), htk, hy, show f.length - i - 1 = f.length - (i + 1) by omega]
            simp
          clear hnk hnm hrt htk
          obtain ⟨op, var, other, word, word2, num, coefs⟩ := n
          simp only at hv1 hv2 hv3 hv4 hc5 ho1 ho9
          obtain ⟨nv, hnv⟩ : ∃ x, (if op = 3 ∨ op = 4 ∨ op = 8 ∨ op = 9 then to.getD var.toNat 0 else 0) = x := ⟨_, rfl⟩
          obtain ⟨nu, hnu⟩ : ∃ x, (if op = 4 then to.getD other.toNat 0 else 0) = x := ⟨_, rfl⟩
          have hren : renN to ⟨op, var, other, word, word2, num, coefs⟩ = ⟨op, nv, nu, word, word2, num, renC coefs to⟩ := by unfold renN; rw [← hnv, ← hnu]
          rw [hren] at hnext
          clear hren
          repeat' (first | (with_reducible first | refine SW_seq ?_ | refine SW_block ?_ | refine SThen_n ?_ | refine SThen_r ?_ | refine SThen_e ?_ | refine SIn_n ?_ | refine SIn_r ?_ | refine SIn_eq ?_ | refine SW_skip ?_ | refine SW_exit ?_ | refine SW_ret ?_ | refine SPost_r ?_) | ((with_reducible refine SIn_ne ?_ ?_); focus decide) | ((with_reducible refine SW_true ?_ ?_); focus exact rfl) | ((with_reducible refine SW_false ?_ ?_); focus exact rfl) | ((first | (with_reducible apply SW_run tt_ok hG htb) | ((with_reducible apply SW_draw rfl tt_ok hG htb); (focus kernel_rfl); (focus (simp only [List.range, List.range.loop, List.size_toArray, List.length_cons, List.length_nil, Nat.reduceAdd])))); focus ((repeat' (first | (with_reducible exact runX_nil) | (with_reducible exact runI_nil) | ((first | (with_reducible apply runX_cons) | (with_reducible apply runI_cons)); focus (simp (discharger := omega) only [go_sem, tForm, hn, tNode, simprocAttr]; with_reducible rfl)))); done)))
          refine SW_meet2 ⟨135, [(1, .t (tInts to)), (11, .sref 0), (12, .t (tNat i)), (13, .bptr 1 0), (14, .bptr 2 0), (51, .t (tForm f)), (52, .t (tInt f.length)), (53, .t (tNat i))], [.row 111 7 true rt, .box [.t (tInt op), .t (tInt var), .t (tInt other), .t (tInt word), .t (tInt word2), .t (tInt num), .t (tInts coefs)], .box [.t (tInt op), .t (tInt nv), .t (tInt other), .t (tInt word), .t (tInt word2), .t (tInt num), .nil]]⟩ Weak.sw ?_ ?_
          · clear hnext hnu hv2 hv4
            by_cases hq : op = 3 ∨ op = 4 ∨ op = 8 ∨ op = 9
            · rw [if_pos hq] at hnv
              obtain ⟨vn, rfl⟩ := Int.eq_ofNat_of_zero_le (hv1 hq).1
              have hvn : vn < 5 := by have := (hv1 hq).2; omega
              have htv : to[vn]! = nv := by rw [getElem!_pos to vn (by omega), ← hnv, Int.toNat_natCast, getD_lt (by omega)]
              clear hv1 hv3 hnv
              rcases hq with rfl | rfl | rfl | rfl
              · repeat' (first | (with_reducible first | refine SW_seq ?_ | refine SW_block ?_ | refine SThen_n ?_ | refine SThen_r ?_ | refine SThen_e ?_ | refine SIn_n ?_ | refine SIn_r ?_ | refine SIn_eq ?_ | refine SW_skip ?_ | refine SW_exit ?_ | refine SW_ret ?_ | refine SPost_r ?_) | ((with_reducible refine SIn_ne ?_ ?_); focus decide) | ((with_reducible refine SW_true ?_ ?_); focus exact rfl) | ((with_reducible refine SW_false ?_ ?_); focus exact rfl) | ((first | (with_reducible apply SW_run tt_ok hG htb) | ((with_reducible apply SW_draw rfl tt_ok hG htb); (focus kernel_rfl); (focus (simp only [List.range, List.range.loop, List.size_toArray, List.length_cons, List.length_nil, Nat.reduceAdd])))); focus ((repeat' (first | (with_reducible exact runX_nil) | (with_reducible exact runI_nil) | ((first | (with_reducible apply runX_cons) | (with_reducible apply runI_cons)); focus (simp (discharger := omega) only [go_sem, tForm, htv, simprocAttr]; with_reducible rfl)))); done)))
                exact Meet.h ⟨_, Norm.headS (own := [(11, 111, 7, true)]) (keep := [1, 11, 12, 13, 14, 51, 52, 53]) (by refine ⟨?_, ?_⟩; (simp (discharger := omega) only [go_sem, simprocAttr]; with_reducible rfl); refine ⟨?_, ?_, ?_, ?_⟩ <;> (simp only [go_sem, simprocAttr]; with_reducible rfl)), rfl⟩
              · repeat' (first | (with_reducible first | refine SW_seq ?_ | refine SW_block ?_ | refine SThen_n ?_ | refine SThen_r ?_ | refine SThen_e ?_ | refine SIn_n ?_ | refine SIn_r ?_ | refine SIn_eq ?_ | refine SW_skip ?_ | refine SW_exit ?_ | refine SW_ret ?_ | refine SPost_r ?_) | ((with_reducible refine SIn_ne ?_ ?_); focus decide) | ((with_reducible refine SW_true ?_ ?_); focus exact rfl) | ((with_reducible refine SW_false ?_ ?_); focus exact rfl) | ((first | (with_reducible apply SW_run tt_ok hG htb) | ((with_reducible apply SW_draw rfl tt_ok hG htb); (focus kernel_rfl); (focus (simp only [List.range, List.range.loop, List.size_toArray, List.length_cons, List.length_nil, Nat.reduceAdd])))); focus ((repeat' (first | (with_reducible exact runX_nil) | (with_reducible exact runI_nil) | ((first | (with_reducible apply runX_cons) | (with_reducible apply runI_cons)); focus (simp (discharger := omega) only [go_sem, tForm, htv, simprocAttr]; with_reducible rfl)))); done)))
                exact Meet.h ⟨_, Norm.headS (own := [(11, 111, 7, true)]) (keep := [1, 11, 12, 13, 14, 51, 52, 53]) (by refine ⟨?_, ?_⟩; (simp (discharger := omega) only [go_sem, simprocAttr]; with_reducible rfl); refine ⟨?_, ?_, ?_, ?_⟩ <;> (simp only [go_sem, simprocAttr]; with_reducible rfl)), rfl⟩
              · repeat' (first | (with_reducible first | refine SW_seq ?_ | refine SW_block ?_ | refine SThen_n ?_ | refine SThen_r ?_ | refine SThen_e ?_ | refine SIn_n ?_ | refine SIn_r ?_ | refine SIn_eq ?_ | refine SW_skip ?_ | refine SW_exit ?_ | refine SW_ret ?_ | refine SPost_r ?_) | ((with_reducible refine SIn_ne ?_ ?_); focus decide) | ((with_reducible refine SW_true ?_ ?_); focus exact rfl) | ((with_reducible refine SW_false ?_ ?_); focus exact rfl) | ((first | (with_reducible apply SW_run tt_ok hG htb) | ((with_reducible apply SW_draw rfl tt_ok hG htb); (focus kernel_rfl); (focus (simp only [List.range, List.range.loop, List.size_toArray, List.length_cons, List.length_nil, Nat.reduceAdd])))); focus ((repeat' (first | (with_reducible exact runX_nil) | (with_reducible exact runI_nil) | ((first | (with_reducible apply runX_cons) | (with_reducible apply runI_cons)); focus (simp (discharger := omega) only [go_sem, tForm, htv, simprocAttr]; with_reducible rfl)))); done)))
                exact Meet.h ⟨_, Norm.headS (own := [(11, 111, 7, true)]) (keep := [1, 11, 12, 13, 14, 51, 52, 53]) (by refine ⟨?_, ?_⟩; (simp (discharger := omega) only [go_sem, simprocAttr]; with_reducible rfl); refine ⟨?_, ?_, ?_, ?_⟩ <;> (simp only [go_sem, simprocAttr]; with_reducible rfl)), rfl⟩
              · repeat' (first | (with_reducible first | refine SW_seq ?_ | refine SW_block ?_ | refine SThen_n ?_ | refine SThen_r ?_ | refine SThen_e ?_ | refine SIn_n ?_ | refine SIn_r ?_ | refine SIn_eq ?_ | refine SW_skip ?_ | refine SW_exit ?_ | refine SW_ret ?_ | refine SPost_r ?_) | ((with_reducible refine SIn_ne ?_ ?_); focus decide) | ((with_reducible refine SW_true ?_ ?_); focus exact rfl) | ((with_reducible refine SW_false ?_ ?_); focus exact rfl) | ((first | (with_reducible apply SW_run tt_ok hG htb) | ((with_reducible apply SW_draw rfl tt_ok hG htb); (focus kernel_rfl); (focus (simp only [List.range, List.range.loop, List.size_toArray, List.length_cons, List.length_nil, Nat.reduceAdd])))); focus ((repeat' (first | (with_reducible exact runX_nil) | (with_reducible exact runI_nil) | ((first | (with_reducible apply runX_cons) | (with_reducible apply runI_cons)); focus (simp (discharger := omega) only [go_sem, tForm, htv, simprocAttr]; with_reducible rfl)))); done)))
                exact Meet.h ⟨_, Norm.headS (own := [(11, 111, 7, true)]) (keep := [1, 11, 12, 13, 14, 51, 52, 53]) (by refine ⟨?_, ?_⟩; (simp (discharger := omega) only [go_sem, simprocAttr]; with_reducible rfl); refine ⟨?_, ?_, ?_, ?_⟩ <;> (simp only [go_sem, simprocAttr]; with_reducible rfl)), rfl⟩
            · rw [if_neg hq] at hnv
              obtain rfl : var = 0 := hv3 hq
              subst hnv
              have n3 : ¬ op = 3 := by omega
              have n4 : ¬ op = 4 := by omega
              have n8 : ¬ op = 8 := by omega
              have n9 : ¬ op = 9 := by omega
              clear hv1 hv3
              repeat' (first | (with_reducible first | refine SW_seq ?_ | refine SW_block ?_ | refine SThen_n ?_ | refine SThen_r ?_ | refine SThen_e ?_ | refine SIn_n ?_ | refine SIn_r ?_ | refine SIn_eq ?_ | refine SW_skip ?_ | refine SW_exit ?_ | refine SW_ret ?_ | refine SPost_r ?_) | ((with_reducible refine SIn_ne ?_ ?_); focus decide) | ((with_reducible refine SW_true ?_ ?_); focus exact rfl) | ((with_reducible refine SW_false ?_ ?_); focus exact rfl) | ((first | (with_reducible apply SW_run tt_ok hG htb) | ((with_reducible apply SW_draw rfl tt_ok hG htb); (focus kernel_rfl); (focus (simp only [List.range, List.range.loop, List.size_toArray, List.length_cons, List.length_nil, Nat.reduceAdd])))); focus ((repeat' (first | (with_reducible exact runX_nil) | (with_reducible exact runI_nil) | ((first | (with_reducible apply runX_cons) | (with_reducible apply runI_cons)); focus (simp (discharger := omega) only [go_sem, tForm, n3, n4, n8, n9, simprocAttr]; with_reducible rfl)))); done)))
              exact Meet.h ⟨_, Norm.headS (own := [(11, 111, 7, true)]) (keep := [1, 11, 12, 13, 14, 51, 52, 53]) (by refine ⟨?_, ?_⟩; (simp (discharger := omega) only [go_sem, simprocAttr]; with_reducible rfl); refine ⟨?_, ?_, ?_, ?_⟩ <;> (simp only [go_sem, simprocAttr]; with_reducible rfl)), rfl⟩
          · clear hv1 hv3 hnv
            repeat' (first | (with_reducible first | refine SW_seq ?_ | refine SW_block ?_ | refine SThen_n ?_ | refine SThen_r ?_ | refine SThen_e ?_ | refine SIn_n ?_ | refine SIn_r ?_ | refine SIn_eq ?_ | refine SW_skip ?_ | refine SW_exit ?_ | refine SW_ret ?_ | refine SPost_r ?_) | ((with_reducible refine SIn_ne ?_ ?_); focus decide) | ((with_reducible refine SW_true ?_ ?_); focus exact rfl) | ((with_reducible refine SW_false ?_ ?_); focus exact rfl) | ((first | (with_reducible apply SW_run tt_ok hG htb) | ((with_reducible apply SW_draw rfl tt_ok hG htb); (focus kernel_rfl); (focus (simp only [List.range, List.range.loop, List.size_toArray, List.length_cons, List.length_nil, Nat.reduceAdd])))); focus ((repeat' (first | (with_reducible exact runX_nil) | (with_reducible exact runI_nil) | ((first | (with_reducible apply runX_cons) | (with_reducible apply runI_cons)); focus (simp (discharger := omega) only [go_sem, simprocAttr]; with_reducible rfl)))); done)))
            refine SW_meetG ⟨135, [(1, .t (tInts to)), (11, .sref 0), (12, .t (tNat i)), (13, .bptr 1 0), (14, .bptr 2 0), (51, .t (tForm f)), (52, .t (tInt f.length)), (53, .t (tNat i))], [.row 111 7 true rt, .box [.t (tInt op), .t (tInt var), .t (tInt other), .t (tInt word), .t (tInt word2), .t (tInt num), .t (tInts coefs)], .box [.t (tInt op), .t (tInt nv), .t (tInt nu), .t (tInt word), .t (tInt word2), .t (tInt num), .nil]]⟩ Weak.sw (SW_if rfl (fun hq => ?_) (fun hq => ?_)) ?_
            · rw [if_pos hq] at hnu
              obtain ⟨un, rfl⟩ := Int.eq_ofNat_of_zero_le (hv2 hq).1
              have hun : un < 5 := by have := (hv2 hq).2; omega
              have htu : to[un]! = nu := by rw [getElem!_pos to un (by omega), ← hnu, Int.toNat_natCast, getD_lt (by omega)]
              clear hv2 hv4 hnu hnext
              repeat' (first | (with_reducible first | refine SW_seq ?_ | refine SW_block ?_ | refine SThen_n ?_ | refine SThen_r ?_ | refine SThen_e ?_ | refine SIn_n ?_ | refine SIn_r ?_ | refine SIn_eq ?_ | refine SW_skip ?_ | refine SW_exit ?_ | refine SW_ret ?_ | refine SPost_r ?_) | ((with_reducible refine SIn_ne ?_ ?_); focus decide) | ((with_reducible refine SW_true ?_ ?_); focus exact rfl) | ((with_reducible refine SW_false ?_ ?_); focus exact rfl) | ((first | (with_reducible apply SW_run tt_ok hG htb) | ((with_reducible apply SW_draw rfl tt_ok hG htb); (focus kernel_rfl); (focus (simp only [List.range, List.range.loop, List.size_toArray, List.length_cons, List.length_nil, Nat.reduceAdd])))); focus ((repeat' (first | (with_reducible exact runX_nil) | (with_reducible exact runI_nil) | ((first | (with_reducible apply runX_cons) | (with_reducible apply runI_cons)); focus (simp (discharger := omega) only [go_sem, tForm, htu, simprocAttr]; with_reducible rfl)))); done)))
              exact Meet.h ⟨_, Norm.headS (own := [(11, 111, 7, true)]) (keep := [1, 11, 12, 13, 14, 51, 52, 53]) (by refine ⟨?_, ?_⟩; (simp (discharger := omega) only [go_sem, simprocAttr]; with_reducible rfl); refine ⟨?_, ?_, ?_, ?_⟩ <;> (simp only [go_sem, simprocAttr]; with_reducible rfl)), rfl⟩
            · rw [if_neg hq] at hnu
              obtain rfl : other = 0 := hv4 hq
              subst hnu
              clear hv2 hv4 hnext
              repeat' (first | (with_reducible first | refine SW_seq ?_ | refine SW_block ?_ | refine SThen_n ?_ | refine SThen_r ?_ | refine SThen_e ?_ | refine SIn_n ?_ | refine SIn_r ?_ | refine SIn_eq ?_ | refine SW_skip ?_ | refine SW_exit ?_ | refine SW_ret ?_ | refine SPost_r ?_) | ((with_reducible refine SIn_ne ?_ ?_); focus decide) | ((with_reducible refine SW_true ?_ ?_); focus exact rfl) | ((with_reducible refine SW_false ?_ ?_); focus exact rfl) | ((first | (with_reducible apply SW_run tt_ok hG htb) | ((with_reducible apply SW_draw rfl tt_ok hG htb); (focus kernel_rfl); (focus (simp only [List.range, List.range.loop, List.size_toArray, List.length_cons, List.length_nil, Nat.reduceAdd])))); focus ((repeat' (first | (with_reducible exact runX_nil) | (with_reducible exact runI_nil) | ((first | (with_reducible apply runX_cons) | (with_reducible apply runI_cons)); focus (simp (discharger := omega) only [go_sem, tForm, simprocAttr]; with_reducible rfl)))); done)))
              exact Meet.h ⟨_, Norm.headS (own := [(11, 111, 7, true)]) (keep := [1, 11, 12, 13, 14, 51, 52, 53]) (by refine ⟨?_, ?_⟩; (simp (discharger := omega) only [go_sem, simprocAttr]; with_reducible rfl); refine ⟨?_, ?_, ?_, ?_⟩ <;> (simp only [go_sem, simprocAttr]; with_reducible rfl)), rfl⟩
            · clear hv2 hv4 hnu
              by_cases hc0 : coefs.length = 0
              · obtain rfl : coefs = [] := List.length_eq_zero_iff.1 hc0
                repeat' (first | (with_reducible first | refine SW_seq ?_ | refine SW_block ?_ | refine SThen_n ?_ | refine SThen_r ?_ | refine SThen_e ?_ | refine SIn_n ?_ | refine SIn_r ?_ | refine SIn_eq ?_ | refine SW_skip ?_ | refine SW_exit ?_ | refine SW_ret ?_ | refine SPost_r ?_) | ((with_reducible refine SIn_ne ?_ ?_); focus decide) | ((with_reducible refine SW_true ?_ ?_); focus exact rfl) | ((with_reducible refine SW_false ?_ ?_); focus exact rfl) | ((first | (with_reducible apply SW_run tt_ok hG htb) | ((with_reducible apply SW_draw rfl tt_ok hG htb); (focus kernel_rfl); (focus (simp only [List.range, List.range.loop, List.size_toArray, List.length_cons, List.length_nil, Nat.reduceAdd])))); focus ((repeat' (first | (with_reducible exact runX_nil) | (with_reducible exact runI_nil) | ((first | (with_reducible apply runX_cons) | (with_reducible apply runI_cons)); focus (simp (discharger := omega) only [go_sem, hc0, simprocAttr]; with_reducible rfl)))); done)))
                exact ⟨f.length - (i + 1), _, by omega, Norm.headS (own := [(11, 111, 7, true)]) (keep := [1, 11, 51, 52, 53]) (by refine ⟨?_, ?_⟩; (simp (discharger := omega) only [go_sem, simprocAttr]; with_reducible rfl); refine ⟨?_, ?_, ?_, ?_⟩ <;> (simp only [go_sem, simprocAttr]; with_reducible rfl)), i + 1, _, rfl, rfl, by omega, hnext _ rfl⟩
              · have hc1 : 0 < coefs.length := by omega
                repeat' (first | (with_reducible first | refine SW_seq ?_ | refine SW_block ?_ | refine SThen_n ?_ | refine SThen_r ?_ | refine SThen_e ?_ | refine SIn_n ?_ | refine SIn_r ?_ | refine SIn_eq ?_ | refine SW_skip ?_ | refine SW_exit ?_ | refine SW_ret ?_ | refine SPost_r ?_) | ((with_reducible refine SIn_ne ?_ ?_); focus decide) | ((with_reducible refine SW_true ?_ ?_); focus exact rfl) | ((with_reducible refine SW_false ?_ ?_); focus exact rfl) | ((first | (with_reducible apply SW_run tt_ok hG htb) | ((with_reducible apply SW_draw rfl tt_ok hG htb); (focus kernel_rfl); (focus (simp only [List.range, List.range.loop, List.size_toArray, List.length_cons, List.length_nil, Nat.reduceAdd])))); focus ((repeat' (first | (with_reducible exact runX_nil) | (with_reducible exact runI_nil) | ((first | (with_reducible apply runX_cons) | (with_reducible apply runI_cons)); focus (simp (discharger := omega) only [go_sem, hc1, simprocAttr]; with_reducible rfl)))); done)))
                refine SW_loop (fun mm s => ∃ (m : Nat) (r : Nat → Int), mm = coefs.length - m ∧ s = ⟨135, [(1, .t (tInts to)), (11, .sref 0), (12, .t (tNat i)), (13, .bptr 1 0), (14, .bptr 2 0), (15, .bptr 3 0), (51, .t (tForm f)), (52, .t (tInt f.length)), (53, .t (tNat i)), (98, .t (tInts coefs)), (99, .t (tInt coefs.length)), (100, .t (tNat m))], [.row 111 7 true rt, .box [.t (tInt op), .t (tInt var), .t (tInt other), .t (tInt word), .t (tInt word2), .t (tInt num), .t (tInts coefs)], .box [.t (tInt op), .t (tInt nv), .t (tInt nu), .t (tInt word), .t (tInt word2), .t (tInt num), .nil], .box [.t (tInt (r 0)), .t (tInt (r 1)), .t (tInt (r 2)), .t (tInt (r 3)), .t (tInt (r 4))]]⟩ ∧ m ≤ coefs.length ∧ ∀ k : Nat, k < 5 → r k = (rowP coefs to m).getD k 0) coefs.length
                  ⟨_, Norm.headS (own := [(11, 111, 7, true)]) (keep := [1, 11, 12, 13, 14, 15, 51, 52, 53, 98, 99, 100]) (by refine ⟨?_, ?_⟩; (simp (discharger := omega) only [go_sem, simprocAttr]; with_reducible rfl); refine ⟨?_, ?_, ?_, ?_⟩ <;> (simp only [go_sem, simprocAttr]; with_reducible rfl)), 0, fun _ => 0, rfl, rfl, Nat.zero_le _, fun k hk => by
                    have : k = 0 ∨ k = 1 ∨ k = 2 ∨ k = 3 ∨ k = 4 := by omega
                    rcases this with rfl | rfl | rfl | rfl | rfl <;> rfl⟩ ?_
                rintro mm s ⟨m, r, rfl, rfl, hm, hr⟩
                by_cases hmlt : m < coefs.length
                · obtain ⟨c, hc⟩ : ∃ c, coefs[m]! = c := ⟨_, rfl⟩
                  obtain ⟨t, ht⟩ : ∃ t, to[m]! = t := ⟨_, rfl⟩
                  have htD : to.getD m 0 = t := bang_D ht (by omega)
                  have hcD : coefs.getD m 0 = c := bang_D hc hmlt
                  have htb5 := hto.rg m (by omega)
                  rw [htD] at htb5
                  have hrl5 := (row_inv (coefs := coefs) hto m (by omega)).len
                  have hr' : ∀ k : Nat, k < 5 → (rowP coefs to (m + 1)).getD k 0 = if t.toNat = k then c else r k := fun k hk => by
                    rw [rowP, htD, hcD, set_getD (by omega), hr k hk]
                  have ht5 : t = 0 ∨ t = 1 ∨ t = 2 ∨ t = 3 ∨ t = 4 := by omega
                  rcases ht5 with rfl | rfl | rfl | rfl | rfl
                  · repeat' (first | (with_reducible first | refine SW_seq ?_ | refine SW_block ?_ | refine SThen_n ?_ | refine SThen_r ?_ | refine SThen_e ?_ | refine SIn_n ?_ | refine SIn_r ?_ | refine SIn_eq ?_ | refine SW_skip ?_ | refine SW_exit ?_ | refine SW_ret ?_ | refine SPost_r ?_) | ((with_reducible refine SIn_ne ?_ ?_); focus decide) | ((with_reducible refine SW_true ?_ ?_); focus exact rfl) | ((with_reducible refine SW_false ?_ ?_); focus exact rfl) | ((first | (with_reducible apply SW_run tt_ok hG htb) | ((with_reducible apply SW_draw rfl tt_ok hG htb); (focus kernel_rfl); (focus (simp only [List.range, List.range.loop, List.size_toArray, List.length_cons, List.length_nil, Nat.reduceAdd])))); focus ((repeat' (first | (with_reducible exact runX_nil) | (with_reducible exact runI_nil) | ((first | (with_reducible apply runX_cons) | (with_reducible apply runI_cons)); focus (simp (discharger := omega) only [go_sem, ht, hc, simprocAttr]; with_reducible rfl)))); done)))
                    exact ⟨coefs.length - (m + 1), _, by omega, Norm.headS (own := [(11, 111, 7, true)]) (keep := [1, 11, 12, 13, 14, 15, 51, 52, 53, 98, 99, 100]) (by refine ⟨?_, ?_⟩; (simp (discharger := omega) only [go_sem, simprocAttr]; with_reducible rfl); refine ⟨?_, ?_, ?_, ?_⟩ <;> (simp only [go_sem, simprocAttr]; with_reducible rfl)), m + 1, fun k => if k = 0 then c else r k, rfl, rfl, by omega, fun k hk => by
                      rw [hr' k hk]
                      dsimp only
                      by_cases e : k = 0
                      · subst e; rfl
                      · rw [if_neg e, if_neg (by omega)]⟩
                  · repeat' (first | (with_reducible first | refine SW_seq ?_ | refine SW_block ?_ | refine SThen_n ?_ | refine SThen_r ?_ | refine SThen_e ?_ | refine SIn_n ?_ | refine SIn_r ?_ | refine SIn_eq ?_ | refine SW_skip ?_ | refine SW_exit ?_ | refine SW_ret ?_ | refine SPost_r ?_) | ((with_reducible refine SIn_ne ?_ ?_); focus decide) | ((with_reducible refine SW_true ?_ ?_); focus exact rfl) | ((with_reducible refine SW_false ?_ ?_); focus exact rfl) | ((first | (with_reducible apply SW_run tt_ok hG htb) | ((with_reducible apply SW_draw rfl tt_ok hG htb); (focus kernel_rfl); (focus (simp only [List.range, List.range.loop, List.size_toArray, List.length_cons, List.length_nil, Nat.reduceAdd])))); focus ((repeat' (first | (with_reducible exact runX_nil) | (with_reducible exact runI_nil) | ((first | (with_reducible apply runX_cons) | (with_reducible apply runI_cons)); focus (simp (discharger := omega) only [go_sem, ht, hc, simprocAttr]; with_reducible rfl)))); done)))
                    exact ⟨coefs.length - (m + 1), _, by omega, Norm.headS (own := [(11, 111, 7, true)]) (keep := [1, 11, 12, 13, 14, 15, 51, 52, 53, 98, 99, 100]) (by refine ⟨?_, ?_⟩; (simp (discharger := omega) only [go_sem, simprocAttr]; with_reducible rfl); refine ⟨?_, ?_, ?_, ?_⟩ <;> (simp only [go_sem, simprocAttr]; with_reducible rfl)), m + 1, fun k => if k = 1 then c else r k, rfl, rfl, by omega, fun k hk => by
                      rw [hr' k hk]
                      dsimp only
                      by_cases e : k = 1
                      · subst e; rfl
                      · rw [if_neg e, if_neg (by omega)]⟩
                  · repeat' (first | (with_reducible first | refine SW_seq ?_ | refine SW_block ?_ | refine SThen_n ?_ | refine SThen_r ?_ | refine SThen_e ?_ | refine SIn_n ?_ | refine SIn_r ?_ | refine SIn_eq ?_ | refine SW_skip ?_ | refine SW_exit ?_ | refine SW_ret ?_ | refine SPost_r ?_) | ((with_reducible refine SIn_ne ?_ ?_); focus decide) | ((with_reducible refine SW_true ?_ ?_); focus exact rfl) | ((with_reducible refine SW_false ?_ ?_); focus exact rfl) | ((first | (with_reducible apply SW_run tt_ok hG htb) | ((with_reducible apply SW_draw rfl tt_ok hG htb); (focus kernel_rfl); (focus (simp only [List.range, List.range.loop, List.size_toArray, List.length_cons, List.length_nil, Nat.reduceAdd])))); focus ((repeat' (first | (with_reducible exact runX_nil) | (with_reducible exact runI_nil) | ((first | (with_reducible apply runX_cons) | (with_reducible apply runI_cons)); focus (simp (discharger := omega) only [go_sem, ht, hc, simprocAttr]; with_reducible rfl)))); done)))
                    exact ⟨coefs.length - (m + 1), _, by omega, Norm.headS (own := [(11, 111, 7, true)]) (keep := [1, 11, 12, 13, 14, 15, 51, 52, 53, 98, 99, 100]) (by refine ⟨?_, ?_⟩; (simp (discharger := omega) only [go_sem, simprocAttr]; with_reducible rfl); refine ⟨?_, ?_, ?_, ?_⟩ <;> (simp only [go_sem, simprocAttr]; with_reducible rfl)), m + 1, fun k => if k = 2 then c else r k, rfl, rfl, by omega, fun k hk => by
                      rw [hr' k hk]
                      dsimp only
                      by_cases e : k = 2
                      · subst e; rfl
                      · rw [if_neg e, if_neg (by omega)]⟩
                  · repeat' (first | (with_reducible first | refine SW_seq ?_ | refine SW_block ?_ | refine SThen_n ?_ | refine SThen_r ?_ | refine SThen_e ?_ | refine SIn_n ?_ | refine SIn_r ?_ | refine SIn_eq ?_ | refine SW_skip ?_ | refine SW_exit ?_ | refine SW_ret ?_ | refine SPost_r ?_) | ((with_reducible refine SIn_ne ?_ ?_); focus decide) | ((with_reducible refine SW_true ?_ ?_); focus exact rfl) | ((with_reducible refine SW_false ?_ ?_); focus exact rfl) | ((first | (with_reducible apply SW_run tt_ok hG htb) | ((with_reducible apply SW_draw rfl tt_ok hG htb); (focus kernel_rfl); (focus (simp only [List.range, List.range.loop, List.size_toArray, List.length_cons, List.length_nil, Nat.reduceAdd])))); focus ((repeat' (first | (with_reducible exact runX_nil) | (with_reducible exact runI_nil) | ((first | (with_reducible apply runX_cons) | (with_reducible apply runI_cons)); focus (simp (discharger := omega) only [go_sem, ht, hc, simprocAttr]; with_reducible rfl)))); done)))
                    exact ⟨coefs.length - (m + 1), _, by omega, Norm.headS (own := [(11, 111, 7, true)]) (keep := [1, 11, 12, 13, 14, 15, 51, 52, 53, 98, 99, 100]) (by refine ⟨?_, ?_⟩; (simp (discharger := omega) only [go_sem, simprocAttr]; with_reducible rfl); refine ⟨?_, ?_, ?_, ?_⟩ <;> (simp only [go_sem, simprocAttr]; with_reducible rfl)), m + 1, fun k => if k = 3 then c else r k, rfl, rfl, by omega, fun k hk => by
                      rw [hr' k hk]
                      dsimp only
                      by_cases e : k = 3
                      · subst e; rfl
                      · rw [if_neg e, if_neg (by omega)]⟩
                  · repeat' (first | (with_reducible first | refine SW_seq ?_ | refine SW_block ?_ | refine SThen_n ?_ | refine SThen_r ?_ | refine SThen_e ?_ | refine SIn_n ?_ | refine SIn_r ?_ | refine SIn_eq ?_ | refine SW_skip ?_ | refine SW_exit ?_ | refine SW_ret ?_ | refine SPost_r ?_) | ((with_reducible refine SIn_ne ?_ ?_); focus decide) | ((with_reducible refine SW_true ?_ ?_); focus exact rfl) | ((with_reducible refine SW_false ?_ ?_); focus exact rfl) | ((first | (with_reducible apply SW_run tt_ok hG htb) | ((with_reducible apply SW_draw rfl tt_ok hG htb); (focus kernel_rfl); (focus (simp only [List.range, List.range.loop, List.size_toArray, List.length_cons, List.length_nil, Nat.reduceAdd])))); focus ((repeat' (first | (with_reducible exact runX_nil) | (with_reducible exact runI_nil) | ((first | (with_reducible apply runX_cons) | (with_reducible apply runI_cons)); focus (simp (discharger := omega) only [go_sem, ht, hc, simprocAttr]; with_reducible rfl)))); done)))
                    exact ⟨coefs.length - (m + 1), _, by omega, Norm.headS (own := [(11, 111, 7, true)]) (keep := [1, 11, 12, 13, 14, 15, 51, 52, 53, 98, 99, 100]) (by refine ⟨?_, ?_⟩; (simp (discharger := omega) only [go_sem, simprocAttr]; with_reducible rfl); refine ⟨?_, ?_, ?_, ?_⟩ <;> (simp only [go_sem, simprocAttr]; with_reducible rfl)), m + 1, fun k => if k = 4 then c else r k, rfl, rfl, by omega, fun k hk => by
                      rw [hr' k hk]
                      dsimp only
                      by_cases e : k = 4
                      · subst e; rfl
                      · rw [if_neg e, if_neg (by omega)]⟩
                · obtain rfl : m = coefs.length := by omega
                  have htr := trim_last hto hc5
                  have hrl5 := (row_inv (coefs := coefs) hto coefs.length hc5).len
                  have hR : rowP coefs to coefs.length = [r 0, r 1, r 2, r 3, r 4] := by
                    rw [list_five hrl5, ← hr 0 (by omega), ← hr 1 (by omega), ← hr 2 (by omega), ← hr 3 (by omega), ← hr 4 (by omega)]
                  have hrc : ∀ L, trimN [r 0, r 1, r 2, r 3, r 4] 5 = L → renC coefs to = ([r 0, r 1, r 2, r 3, r 4] : List Int).take L := fun L hL => by
                    unfold renC
                    rw [← htr, hR, hL]
                  clear htr hrl5 hR hr hmlt hm
                  repeat' (first | (with_reducible first | refine SW_seq ?_ | refine SW_block ?_ | refine SThen_n ?_ | refine SThen_r ?_ | refine SThen_e ?_ | refine SIn_n ?_ | refine SIn_r ?_ | refine SIn_eq ?_ | refine SW_skip ?_ | refine SW_exit ?_ | refine SW_ret ?_ | refine SPost_r ?_) | ((with_reducible refine SIn_ne ?_ ?_); focus decide) | ((with_reducible refine SW_true ?_ ?_); focus exact rfl) | ((with_reducible refine SW_false ?_ ?_); focus exact rfl) | ((first | (with_reducible apply SW_run tt_ok hG htb) | ((with_reducible apply SW_draw rfl tt_ok hG htb); (focus kernel_rfl); (focus (simp only [List.range, List.range.loop, List.size_toArray, List.length_cons, List.length_nil, Nat.reduceAdd])))); focus ((repeat' (first | (with_reducible exact runX_nil) | (with_reducible exact runI_nil) | ((first | (with_reducible apply runX_cons) | (with_reducible apply runI_cons)); focus (simp (discharger := omega) only [go_sem, simprocAttr]; with_reducible rfl)))); done)))
                  refine SW_loop (fun mm s => ∃ (k : Nat), mm = k ∧ s = ⟨135, [(1, .t (tInts to)), (11, .sref 0), (12, .t (tNat i)), (13, .bptr 1 0), (14, .bptr 2 0), (15, .bptr 3 0), (51, .t (tForm f)), (52, .t (tInt f.length)), (53, .t (tNat i)), (18, .t (tNat k))], [.row 111 7 true rt, .box [.t (tInt op), .t (tInt var), .t (tInt other), .t (tInt word), .t (tInt word2), .t (tInt num), .t (tInts coefs)], .box [.t (tInt op), .t (tInt nv), .t (tInt nu), .t (tInt word), .t (tInt word2), .t (tInt num), .nil], .box [.t (tInt (r 0)), .t (tInt (r 1)), .t (tInt (r 2)), .t (tInt (r 3)), .t (tInt (r 4))]]⟩ ∧ k ≤ 5 ∧ trimN [r 0, r 1, r 2, r 3, r 4] 5 = trimN [r 0, r 1, r 2, r 3, r 4] k) 5
                    ⟨_, Norm.headS (own := [(11, 111, 7, true)]) (keep := [1, 11, 12, 13, 14, 15, 51, 52, 53, 18]) (by refine ⟨?_, ?_⟩; (simp (discharger := omega) only [go_sem, simprocAttr]; with_reducible rfl); refine ⟨?_, ?_, ?_, ?_⟩ <;> (simp only [go_sem, simprocAttr]; with_reducible rfl)), 5, rfl, rfl, by omega, rfl⟩ ?_
                  rintro mm s ⟨k, rfl, rfl, hk, htk⟩
                  have hkc : mm = 0 ∨ mm = 1 ∨ mm = 2 ∨ mm = 3 ∨ mm = 4 ∨ mm = 5 := by omega
                  rcases hkc with rfl | rfl | rfl | rfl | rfl | rfl
                  · repeat' (first | (with_reducible first | refine SW_seq ?_ | refine SW_block ?_ | refine SThen_n ?_ | refine SThen_r ?_ | refine SThen_e ?_ | refine SIn_n ?_ | refine SIn_r ?_ | refine SIn_eq ?_ | refine SW_skip ?_ | refine SW_exit ?_ | refine SW_ret ?_ | refine SPost_r ?_) | ((with_reducible refine SIn_ne ?_ ?_); focus decide) | ((with_reducible refine SW_true ?_ ?_); focus exact rfl) | ((with_reducible refine SW_false ?_ ?_); focus exact rfl) | ((first | (with_reducible apply SW_run tt_ok hG htb) | ((with_reducible apply SW_draw rfl tt_ok hG htb); (focus kernel_rfl); (focus (simp only [List.range, List.range.loop, List.size_toArray, List.length_cons, List.length_nil, Nat.reduceAdd])))); focus ((repeat' (first | (with_reducible exact runX_nil) | (with_reducible exact runI_nil) | ((first | (with_reducible apply runX_cons) | (with_reducible apply runI_cons)); focus (simp (discharger := omega) only [go_sem, simprocAttr]; with_reducible rfl)))); done)))
                    refine SW_norm (Norm.fixBox 3 rfl rfl) ?_
                    repeat' (first | (with_reducible first | refine SW_seq ?_ | refine SW_block ?_ | refine SThen_n ?_ | refine SThen_r ?_ | refine SThen_e ?_ | refine SIn_n ?_ | refine SIn_r ?_ | refine SIn_eq ?_ | refine SW_skip ?_ | refine SW_exit ?_ | refine SW_ret ?_ | refine SPost_r ?_) | ((with_reducible refine SIn_ne ?_ ?_); focus decide) | ((with_reducible refine SW_true ?_ ?_); focus exact rfl) | ((with_reducible refine SW_false ?_ ?_); focus exact rfl) | ((first | (with_reducible apply SW_run tt_ok hG htb) | ((with_reducible apply SW_draw rfl tt_ok hG htb); (focus kernel_rfl); (focus (simp only [List.range, List.range.loop, List.size_toArray, List.length_cons, List.length_nil, Nat.reduceAdd])))); focus ((repeat' (first | (with_reducible exact runX_nil) | (with_reducible exact runI_nil) | ((first | (with_reducible apply runX_cons) | (with_reducible apply runI_cons)); focus (simp (discharger := omega) only [go_sem, simprocAttr]; with_reducible rfl)))); done)))
                    exact ⟨f.length - (i + 1), _, by omega, Norm.headS (own := [(11, 111, 7, true)]) (keep := [1, 11, 51, 52, 53]) (by refine ⟨?_, ?_⟩; (simp (discharger := omega) only [go_sem, simprocAttr]; with_reducible rfl); refine ⟨?_, ?_, ?_, ?_⟩ <;> (simp only [go_sem, simprocAttr]; with_reducible rfl)), i + 1, _, rfl, rfl, by omega, hnext _ (by rw [hrc 0 (by rw [htk]; rfl)]; rfl)⟩
                  · have hk1 : ((1 : Nat) : Int) = 1 := rfl
                    have hs1 : (1 : Int) - 1 = 0 := rfl
                    by_cases hz : r 0 = 0
                    · have hzt := eq_true hz
                      repeat' (first | (with_reducible first | refine SW_seq ?_ | refine SW_block ?_ | refine SThen_n ?_ | refine SThen_r ?_ | refine SThen_e ?_ | refine SIn_n ?_ | refine SIn_r ?_ | refine SIn_eq ?_ | refine SW_skip ?_ | refine SW_exit ?_ | refine SW_ret ?_ | refine SPost_r ?_) | ((with_reducible refine SIn_ne ?_ ?_); focus decide) | ((with_reducible refine SW_true ?_ ?_); focus exact rfl) | ((with_reducible refine SW_false ?_ ?_); focus exact rfl) | ((first | (with_reducible apply SW_run tt_ok hG htb) | ((with_reducible apply SW_draw rfl tt_ok hG htb); (focus kernel_rfl); (focus (simp only [List.range, List.range.loop, List.size_toArray, List.length_cons, List.length_nil, Nat.reduceAdd])))); focus ((repeat' (first | (with_reducible exact runX_nil) | (with_reducible exact runI_nil) | ((first | (with_reducible apply runX_cons) | (with_reducible apply runI_cons)); focus (simp (discharger := omega) only [go_sem, hzt, hk1, hs1, simprocAttr]; with_reducible rfl)))); done)))
                      exact ⟨0, _, by omega, Norm.headS (own := [(11, 111, 7, true)]) (keep := [1, 11, 12, 13, 14, 15, 51, 52, 53, 18]) (by refine ⟨?_, ?_⟩; (simp (discharger := omega) only [go_sem, simprocAttr]; with_reducible rfl); refine ⟨?_, ?_, ?_, ?_⟩ <;> (simp only [go_sem, simprocAttr]; with_reducible rfl)), 0, rfl, rfl, by omega, by rw [htk]; exact if_pos hz⟩
                    · repeat' (first | (with_reducible first | refine SW_seq ?_ | refine SW_block ?_ | refine SThen_n ?_ | refine SThen_r ?_ | refine SThen_e ?_ | refine SIn_n ?_ | refine SIn_r ?_ | refine SIn_eq ?_ | refine SW_skip ?_ | refine SW_exit ?_ | refine SW_ret ?_ | refine SPost_r ?_) | ((with_reducible refine SIn_ne ?_ ?_); focus decide) | ((with_reducible refine SW_true ?_ ?_); focus exact rfl) | ((with_reducible refine SW_false ?_ ?_); focus exact rfl) | ((first | (with_reducible apply SW_run tt_ok hG htb) | ((with_reducible apply SW_draw rfl tt_ok hG htb); (focus kernel_rfl); (focus (simp only [List.range, List.range.loop, List.size_toArray, List.length_cons, List.length_nil, Nat.reduceAdd])))); focus ((repeat' (first | (with_reducible exact runX_nil) | (with_reducible exact runI_nil) | ((first | (with_reducible apply runX_cons) | (with_reducible apply runI_cons)); focus (simp (discharger := omega) only [go_sem, hz, hk1, hs1, simprocAttr]; with_reducible rfl)))); done)))
                      refine SW_norm (Norm.fixBox 3 rfl rfl) ?_
                      repeat' (first | (with_reducible first | refine SW_seq ?_ | refine SW_block ?_ | refine SThen_n ?_ | refine SThen_r ?_ | refine SThen_e ?_ | refine SIn_n ?_ | refine SIn_r ?_ | refine SIn_eq ?_ | refine SW_skip ?_ | refine SW_exit ?_ | refine SW_ret ?_ | refine SPost_r ?_) | ((with_reducible refine SIn_ne ?_ ?_); focus decide) | ((with_reducible refine SW_true ?_ ?_); focus exact rfl) | ((with_reducible refine SW_false ?_ ?_); focus exact rfl) | ((first | (with_reducible apply SW_run tt_ok hG htb) | ((with_reducible apply SW_draw rfl tt_ok hG htb); (focus kernel_rfl); (focus (simp only [List.range, List.range.loop, List.size_toArray, List.length_cons, List.length_nil, Nat.reduceAdd])))); focus ((repeat' (first | (with_reducible exact runX_nil) | (with_reducible exact runI_nil) | ((first | (with_reducible apply runX_cons) | (with_reducible apply runI_cons)); focus (simp (discharger := omega) only [go_sem, simprocAttr]; with_reducible rfl)))); done)))
                      exact ⟨f.length - (i + 1), _, by omega, Norm.headS (own := [(11, 111, 7, true)]) (keep := [1, 11, 51, 52, 53]) (by refine ⟨?_, ?_⟩; (simp (discharger := omega) only [go_sem, simprocAttr]; with_reducible rfl); refine ⟨?_, ?_, ?_, ?_⟩ <;> (simp only [go_sem, simprocAttr]; with_reducible rfl)), i + 1, _, rfl, rfl, by omega, hnext _ (by rw [hrc 1 (by rw [htk]; exact if_neg hz)]; rfl)⟩
                  · have hk1 : ((2 : Nat) : Int) = 2 := rfl
                    have hs1 : (2 : Int) - 1 = 1 := rfl
                    by_cases hz : r 1 = 0
                    · have hzt := eq_true hz
                      repeat' (first | (with_reducible first | refine SW_seq ?_ | refine SW_block ?_ | refine SThen_n ?_ | refine SThen_r ?_ | refine SThen_e ?_ | refine SIn_n ?_ | refine SIn_r ?_ | refine SIn_eq ?_ | refine SW_skip ?_ | refine SW_exit ?_ | refine SW_ret ?_ | refine SPost_r ?_) | ((with_reducible refine SIn_ne ?_ ?_); focus decide) | ((with_reducible refine SW_true ?_ ?_); focus exact rfl) | ((with_reducible refine SW_false ?_ ?_); focus exact rfl) | ((first | (with_reducible apply SW_run tt_ok hG htb) | ((with_reducible apply SW_draw rfl tt_ok hG htb); (focus kernel_rfl); (focus (simp only [List.range, List.range.loop, List.size_toArray, List.length_cons, List.length_nil, Nat.reduceAdd])))); focus ((repeat' (first | (with_reducible exact runX_nil) | (with_reducible exact runI_nil) | ((first | (with_reducible apply runX_cons) | (with_reducible apply runI_cons)); focus (simp (discharger := omega) only [go_sem, hzt, hk1, hs1, simprocAttr]; with_reducible rfl)))); done)))
                      exact ⟨1, _, by omega, Norm.headS (own := [(11, 111, 7, true)]) (keep := [1, 11, 12, 13, 14, 15, 51, 52, 53, 18]) (by refine ⟨?_, ?_⟩; (simp (discharger := omega) only [go_sem, simprocAttr]; with_reducible rfl); refine ⟨?_, ?_, ?_, ?_⟩ <;> (simp only [go_sem, simprocAttr]; with_reducible rfl)), 1, rfl, rfl, by omega, by rw [htk]; exact if_pos hz⟩
                    · repeat' (first | (with_reducible first | refine SW_seq ?_ | refine SW_block ?_ | refine SThen_n ?_ | refine SThen_r ?_ | refine SThen_e ?_ | refine SIn_n ?_ | refine SIn_r ?_ | refine SIn_eq ?_ | refine SW_skip ?_ | refine SW_exit ?_ | refine SW_ret ?_ | refine SPost_r ?_) | ((with_reducible refine SIn_ne ?_ ?_); focus decide) | ((with_reducible refine SW_true ?_ ?_); focus exact rfl) | ((with_reducible refine SW_false ?_ ?_); focus exact rfl) | ((first | (with_reducible apply SW_run tt_ok hG htb) | ((with_reducible apply SW_draw rfl tt_ok hG htb); (focus kernel_rfl); (focus (simp only [List.range, List.range.loop, List.size_toArray, List.length_cons, List.length_nil, Nat.reduceAdd])))); focus ((repeat' (first | (with_reducible exact runX_nil) | (with_reducible exact runI_nil) | ((first | (with_reducible apply runX_cons) | (with_reducible apply runI_cons)); focus (simp (discharger := omega) only [go_sem, hz, hk1, hs1, simprocAttr]; with_reducible rfl)))); done)))
                      refine SW_norm (Norm.fixBox 3 rfl rfl) ?_
                      repeat' (first | (with_reducible first | refine SW_seq ?_ | refine SW_block ?_ | refine SThen_n ?_ | refine SThen_r ?_ | refine SThen_e ?_ | refine SIn_n ?_ | refine SIn_r ?_ | refine SIn_eq ?_ | refine SW_skip ?_ | refine SW_exit ?_ | refine SW_ret ?_ | refine SPost_r ?_) | ((with_reducible refine SIn_ne ?_ ?_); focus decide) | ((with_reducible refine SW_true ?_ ?_); focus exact rfl) | ((with_reducible refine SW_false ?_ ?_); focus exact rfl) | ((first | (with_reducible apply SW_run tt_ok hG htb) | ((with_reducible apply SW_draw rfl tt_ok hG htb); (focus kernel_rfl); (focus (simp only [List.range, List.range.loop, List.size_toArray, List.length_cons, List.length_nil, Nat.reduceAdd])))); focus ((repeat' (first | (with_reducible exact runX_nil) | (with_reducible exact runI_nil) | ((first | (with_reducible apply runX_cons) | (with_reducible apply runI_cons)); focus (simp (discharger := omega) only [go_sem, simprocAttr]; with_reducible rfl)))); done)))
                      exact ⟨f.length - (i + 1), _, by omega, Norm.headS (own := [(11, 111, 7, true)]) (keep := [1, 11, 51, 52, 53]) (by refine ⟨?_, ?_⟩; (simp (discharger := omega) only [go_sem, simprocAttr]; with_reducible rfl); refine ⟨?_, ?_, ?_, ?_⟩ <;> (simp only [go_sem, simprocAttr]; with_reducible rfl)), i + 1, _, rfl, rfl, by omega, hnext _ (by rw [hrc 2 (by rw [htk]; exact if_neg hz)]; rfl)⟩
                  · have hk1 : ((3 : Nat) : Int) = 3 := rfl
                    have hs1 : (3 : Int) - 1 = 2 := rfl
                    by_cases hz : r 2 = 0
                    · have hzt := eq_true hz
                      repeat' (first | (with_reducible first | refine SW_seq ?_ | refine SW_block ?_ | refine SThen_n ?_ | refine SThen_r ?_ | refine SThen_e ?_ | refine SIn_n ?_ | refine SIn_r ?_ | refine SIn_eq ?_ | refine SW_skip ?_ | refine SW_exit ?_ | refine SW_ret ?_ | refine SPost_r ?_) | ((with_reducible refine SIn_ne ?_ ?_); focus decide) | ((with_reducible refine SW_true ?_ ?_); focus exact rfl) | ((with_reducible refine SW_false ?_ ?_); focus exact rfl) | ((first | (with_reducible apply SW_run tt_ok hG htb) | ((with_reducible apply SW_draw rfl tt_ok hG htb); (focus kernel_rfl); (focus (simp only [List.range, List.range.loop, List.size_toArray, List.length_cons, List.length_nil, Nat.reduceAdd])))); focus ((repeat' (first | (with_reducible exact runX_nil) | (with_reducible exact runI_nil) | ((first | (with_reducible apply runX_cons) | (with_reducible apply runI_cons)); focus (simp (discharger := omega) only [go_sem, hzt, hk1, hs1, simprocAttr]; with_reducible rfl)))); done)))
                      exact ⟨2, _, by omega, Norm.headS (own := [(11, 111, 7, true)]) (keep := [1, 11, 12, 13, 14, 15, 51, 52, 53, 18]) (by refine ⟨?_, ?_⟩; (simp (discharger := omega) only [go_sem, simprocAttr]; with_reducible rfl); refine ⟨?_, ?_, ?_, ?_⟩ <;> (simp only [go_sem, simprocAttr]; with_reducible rfl)), 2, rfl, rfl, by omega, by rw [htk]; exact if_pos hz⟩
                    · repeat' (first | (with_reducible first | refine SW_seq ?_ | refine SW_block ?_ | refine SThen_n ?_ | refine SThen_r ?_ | refine SThen_e ?_ | refine SIn_n ?_ | refine SIn_r ?_ | refine SIn_eq ?_ | refine SW_skip ?_ | refine SW_exit ?_ | refine SW_ret ?_ | refine SPost_r ?_) | ((with_reducible refine SIn_ne ?_ ?_); focus decide) | ((with_reducible refine SW_true ?_ ?_); focus exact rfl) | ((with_reducible refine SW_false ?_ ?_); focus exact rfl) | ((first | (with_reducible apply SW_run tt_ok hG htb) | ((with_reducible apply SW_draw rfl tt_ok hG htb); (focus kernel_rfl); (focus (simp only [List.range, List.range.loop, List.size_toArray, List.length_cons, List.length_nil, Nat.reduceAdd])))); focus ((repeat' (first | (with_reducible exact runX_nil) | (with_reducible exact runI_nil) | ((first | (with_reducible apply runX_cons) | (with_reducible apply runI_cons)); focus (simp (discharger := omega) only [go_sem, hz, hk1, hs1, simprocAttr]; with_reducible rfl)))); done)))
                      refine SW_norm (Norm.fixBox 3 rfl rfl) ?_
                      repeat' (first | (with_reducible first | refine SW_seq ?_ | refine SW_block ?_ | refine SThen_n ?_ | refine SThen_r ?_ | refine SThen_e ?_ | refine SIn_n ?_ | refine SIn_r ?_ | refine SIn_eq ?_ | refine SW_skip ?_ | refine SW_exit ?_ | refine SW_ret ?_ | refine SPost_r ?_) | ((with_reducible refine SIn_ne ?_ ?_); focus decide) | ((with_reducible refine SW_true ?_ ?_); focus exact rfl) | ((with_reducible refine SW_false ?_ ?_); focus exact rfl) | ((first | (with_reducible apply SW_run tt_ok hG htb) | ((with_reducible apply SW_draw rfl tt_ok hG htb); (focus kernel_rfl); (focus (simp only [List.range, List.range.loop, List.size_toArray, List.length_cons, List.length_nil, Nat.reduceAdd])))); focus ((repeat' (first | (with_reducible exact runX_nil) | (with_reducible exact runI_nil) | ((first | (with_reducible apply runX_cons) | (with_reducible apply runI_cons)); focus (simp (discharger := omega) only [go_sem, simprocAttr]; with_reducible rfl)))); done)))
                      exact ⟨f.length - (i + 1), _, by omega, Norm.headS (own := [(11, 111, 7, true)]) (keep := [1, 11, 51, 52, 53]) (by refine ⟨?_, ?_⟩; (simp (discharger := omega) only [go_sem, simprocAttr]; with_reducible rfl); refine ⟨?_, ?_, ?_, ?_⟩ <;> (simp only [go_sem, simprocAttr]; with_reducible rfl)), i + 1, _, rfl, rfl, by omega, hnext _ (by rw [hrc 3 (by rw [htk]; exact if_neg hz)]; rfl)⟩
                  · have hk1 : ((4 : Nat) : Int) = 4 := rfl
                    have hs1 : (4 : Int) - 1 = 3 := rfl
                    by_cases hz : r 3 = 0
                    · have hzt := eq_true hz
                      repeat' (first | (with_reducible first | refine SW_seq ?_ | refine SW_block ?_ | refine SThen_n ?_ | refine SThen_r ?_ | refine SThen_e ?_ | refine SIn_n ?_ | refine SIn_r ?_ | refine SIn_eq ?_ | refine SW_skip ?_ | refine SW_exit ?_ | refine SW_ret ?_ | refine SPost_r ?_) | ((with_reducible refine SIn_ne ?_ ?_); focus decide) | ((with_reducible refine SW_true ?_ ?_); focus exact rfl) | ((with_reducible refine SW_false ?_ ?_); focus exact rfl) | ((first | (with_reducible apply SW_run tt_ok hG htb) | ((with_reducible apply SW_draw rfl tt_ok hG htb); (focus kernel_rfl); (focus (simp only [List.range, List.range.loop, List.size_toArray, List.length_cons, List.length_nil, Nat.reduceAdd])))); focus ((repeat' (first | (with_reducible exact runX_nil) | (with_reducible exact runI_nil) | ((first | (with_reducible apply runX_cons) | (with_reducible apply runI_cons)); focus (simp (discharger := omega) only [go_sem, hzt, hk1, hs1, simprocAttr]; with_reducible rfl)))); done)))
                      exact ⟨3, _, by omega, Norm.headS (own := [(11, 111, 7, true)]) (keep := [1, 11, 12, 13, 14, 15, 51, 52, 53, 18]) (by refine ⟨?_, ?_⟩; (simp (discharger := omega) only [go_sem, simprocAttr]; with_reducible rfl); refine ⟨?_, ?_, ?_, ?_⟩ <;> (simp only [go_sem, simprocAttr]; with_reducible rfl)), 3, rfl, rfl, by omega, by rw [htk]; exact if_pos hz⟩
                    · repeat' (first | (with_reducible first | refine SW_seq ?_ | refine SW_block ?_ | refine SThen_n ?_ | refine SThen_r ?_ | refine SThen_e ?_ | refine SIn_n ?_ | refine SIn_r ?_ | refine SIn_eq ?_ | refine SW_skip ?_ | refine SW_exit ?_ | refine SW_ret ?_ | refine SPost_r ?_) | ((with_reducible refine SIn_ne ?_ ?_); focus decide) | ((with_reducible refine SW_true ?_ ?_); focus exact rfl) | ((with_reducible refine SW_false ?_ ?_); focus exact rfl) | ((first | (with_reducible apply SW_run tt_ok hG htb) | ((with_reducible apply SW_draw rfl tt_ok hG htb); (focus kernel_rfl); (focus (simp only [List.range, List.range.loop, List.size_toArray, List.length_cons, List.length_nil, Nat.reduceAdd])))); focus ((repeat' (first | (with_reducible exact runX_nil) | (with_reducible exact runI_nil) | ((first | (with_reducible apply runX_cons) | (with_reducible apply runI_cons)); focus (simp (discharger := omega) only [go_sem, hz, hk1, hs1, simprocAttr]; with_reducible rfl)))); done)))
                      refine SW_norm (Norm.fixBox 3 rfl rfl) ?_
                      repeat' (first | (with_reducible first | refine SW_seq ?_ | refine SW_block ?_ | refine SThen_n ?_ | refine SThen_r ?_ | refine SThen_e ?_ | refine SIn_n ?_ | refine SIn_r ?_ | refine SIn_eq ?_ | refine SW_skip ?_ | refine SW_exit ?_ | refine SW_ret ?_ | refine SPost_r ?_) | ((with_reducible refine SIn_ne ?_ ?_); focus decide) | ((with_reducible refine SW_true ?_ ?_); focus exact rfl) | ((with_reducible refine SW_false ?_ ?_); focus exact rfl) | ((first | (with_reducible apply SW_run tt_ok hG htb) | ((with_reducible apply SW_draw rfl tt_ok hG htb); (focus kernel_rfl); (focus (simp only [List.range, List.range.loop, List.size_toArray, List.length_cons, List.length_nil, Nat.reduceAdd])))); focus ((repeat' (first | (with_reducible exact runX_nil) | (with_reducible exact runI_nil) | ((first | (with_reducible apply runX_cons) | (with_reducible apply runI_cons)); focus (simp (discharger := omega) only [go_sem, simprocAttr]; with_reducible rfl)))); done)))
                      exact ⟨f.length - (i + 1), _, by omega, Norm.headS (own := [(11, 111, 7, true)]) (keep := [1, 11, 51, 52, 53]) (by refine ⟨?_, ?_⟩; (simp (discharger := omega) only [go_sem, simprocAttr]; with_reducible rfl); refine ⟨?_, ?_, ?_, ?_⟩ <;> (simp only [go_sem, simprocAttr]; with_reducible rfl)), i + 1, _, rfl, rfl, by omega, hnext _ (by rw [hrc 4 (by rw [htk]; exact if_neg hz)]; rfl)⟩
                  · have hk1 : ((5 : Nat) : Int) = 5 := rfl
                    have hs1 : (5 : Int) - 1 = 4 := rfl
                    by_cases hz : r 4 = 0
                    · have hzt := eq_true hz
                      repeat' (first | (with_reducible first | refine SW_seq ?_ | refine SW_block ?_ | refine SThen_n ?_ | refine SThen_r ?_ | refine SThen_e ?_ | refine SIn_n ?_ | refine SIn_r ?_ | refine SIn_eq ?_ | refine SW_skip ?_ | refine SW_exit ?_ | refine SW_ret ?_ | refine SPost_r ?_) | ((with_reducible refine SIn_ne ?_ ?_); focus decide) | ((with_reducible refine SW_true ?_ ?_); focus exact rfl) | ((with_reducible refine SW_false ?_ ?_); focus exact rfl) | ((first | (with_reducible apply SW_run tt_ok hG htb) | ((with_reducible apply SW_draw rfl tt_ok hG htb); (focus kernel_rfl); (focus (simp only [List.range, List.range.loop, List.size_toArray, List.length_cons, List.length_nil, Nat.reduceAdd])))); focus ((repeat' (first | (with_reducible exact runX_nil) | (with_reducible exact runI_nil) | ((first | (with_reducible apply runX_cons) | (with_reducible apply runI_cons)); focus (simp (discharger := omega) only [go_sem, hzt, hk1, hs1, simprocAttr]; with_reducible rfl)))); done)))
                      exact ⟨4, _, by omega, Norm.headS (own := [(11, 111, 7, true)]) (keep := [1, 11, 12, 13, 14, 15, 51, 52, 53, 18]) (by refine ⟨?_, ?_⟩; (simp (discharger := omega) only [go_sem, simprocAttr]; with_reducible rfl); refine ⟨?_, ?_, ?_, ?_⟩ <;> (simp only [go_sem, simprocAttr]; with_reducible rfl)), 4, rfl, rfl, by omega, by rw [htk]; exact if_pos hz⟩
                    · repeat' (first | (with_reducible first | refine SW_seq ?_ | refine SW_block ?_ | refine SThen_n ?_ | refine SThen_r ?_ | refine SThen_e ?_ | refine SIn_n ?_ | refine SIn_r ?_ | refine SIn_eq ?_ | refine SW_skip ?_ | refine SW_exit ?_ | refine SW_ret ?_ | refine SPost_r ?_) | ((with_reducible refine SIn_ne ?_ ?_); focus decide) | ((with_reducible refine SW_true ?_ ?_); focus exact rfl) | ((with_reducible refine SW_false ?_ ?_); focus exact rfl) | ((first | (with_reducible apply SW_run tt_ok hG htb) | ((with_reducible apply SW_draw rfl tt_ok hG htb); (focus kernel_rfl); (focus (simp only [List.range, List.range.loop, List.size_toArray, List.length_cons, List.length_nil, Nat.reduceAdd])))); focus ((repeat' (first | (with_reducible exact runX_nil) | (with_reducible exact runI_nil) | ((first | (with_reducible apply runX_cons) | (with_reducible apply runI_cons)); focus (simp (discharger := omega) only [go_sem, hz, hk1, hs1, simprocAttr]; with_reducible rfl)))); done)))
                      refine SW_norm (Norm.fixBox 3 rfl rfl) ?_
                      repeat' (first | (with_reducible first | refine SW_seq ?_ | refine SW_block ?_ | refine SThen_n ?_ | refine SThen_r ?_ | refine SThen_e ?_ | refine SIn_n ?_ | refine SIn_r ?_ | refine SIn_eq ?_ | refine SW_skip ?_ | refine SW_exit ?_ | refine SW_ret ?_ | refine SPost_r ?_) | ((with_reducible refine SIn_ne ?_ ?_); focus decide) | ((with_reducible refine SW_true ?_ ?_); focus exact rfl) | ((with_reducible refine SW_false ?_ ?_); focus exact rfl) | ((first | (with_reducible apply SW_run tt_ok hG htb) | ((with_reducible apply SW_draw rfl tt_ok hG htb); (focus kernel_rfl); (focus (simp only [List.range, List.range.loop, List.size_toArray, List.length_cons, List.length_nil, Nat.reduceAdd])))); focus ((repeat' (first | (with_reducible exact runX_nil) | (with_reducible exact runI_nil) | ((first | (with_reducible apply runX_cons) | (with_reducible apply runI_cons)); focus (simp (discharger := omega) only [go_sem, simprocAttr]; with_reducible rfl)))); done)))
                      exact ⟨f.length - (i + 1), _, by omega, Norm.headS (own := [(11, 111, 7, true)]) (keep := [1, 11, 51, 52, 53]) (by refine ⟨?_, ?_⟩; (simp (discharger := omega) only [go_sem, simprocAttr]; with_reducible rfl); refine ⟨?_, ?_, ?_, ?_⟩ <;> (simp only [go_sem, simprocAttr]; with_reducible rfl)), i + 1, _, rfl, rfl, by omega, hnext _ (by rw [hrc 5 (by rw [htk]; exact if_neg hz)]; rfl)⟩
        · obtain rfl : i = f.length := by omega
          rw [List.take_length, Nat.sub_self, List.replicate_zero, List.append_nil] at hrt
          subst hrt
          repeat' (first | (with_reducible first | refine SW_seq ?_ | refine SW_block ?_ | refine SThen_n ?_ | refine SThen_r ?_ | refine SThen_e ?_ | refine SIn_n ?_ | refine SIn_r ?_ | refine SIn_eq ?_ | refine SW_skip ?_ | refine SW_exit ?_ | refine SW_ret ?_ | refine SPost_r ?_) | ((with_reducible refine SIn_ne ?_ ?_); focus decide) | ((with_reducible refine SW_true ?_ ?_); focus exact rfl) | ((with_reducible refine SW_false ?_ ?_); focus exact rfl) | ((first | (with_reducible apply SW_run tt_ok hG htb) | ((with_reducible apply SW_draw rfl tt_ok hG htb); (focus kernel_rfl); (focus (simp only [List.range, List.range.loop, List.size_toArray, List.length_cons, List.length_nil, Nat.reduceAdd])))); focus ((repeat' (first | (with_reducible exact runX_nil) | (with_reducible exact runI_nil) | ((first | (with_reducible apply runX_cons) | (with_reducible apply runI_cons)); focus (simp (discharger := omega) only [go_sem, simprocAttr]; with_reducible rfl)))); done)))
          exact (by simp (discharger := omega) only [go_sem, tErr0, simprocAttr])
    · have hre : renErr f to = 2 := by unfold renErr; rw [if_neg (by omega), if_pos h5]
      rw [bad 2 hre (by decide), hre]
      repeat' (first | (with_reducible first | refine SW_seq ?_ | refine SW_block ?_ | refine SThen_n ?_ | refine SThen_r ?_ | refine SThen_e ?_ | refine SIn_n ?_ | refine SIn_r ?_ | refine SIn_eq ?_ | refine SW_skip ?_ | refine SW_exit ?_ | refine SW_ret ?_ | refine SPost_r ?_) | ((with_reducible refine SIn_ne ?_ ?_); focus decide) | ((with_reducible refine SW_true ?_ ?_); focus exact rfl) | ((with_reducible refine SW_false ?_ ?_); focus exact rfl) | ((first | (with_reducible apply SW_run tt_ok hG htb) | ((with_reducible apply SW_draw rfl tt_ok hG htb); (focus kernel_rfl); (focus (simp only [List.range, List.range.loop, List.size_toArray, List.length_cons, List.length_nil, Nat.reduceAdd])))); focus ((repeat' (first | (with_reducible exact runX_nil) | (with_reducible exact runI_nil) | ((first | (with_reducible apply runX_cons) | (with_reducible apply runI_cons)); focus (simp (discharger := omega) only [go_sem, tErr0, h5, simprocAttr]; with_reducible rfl)))); done)))
      exact (by simp (discharger := omega) only [go_sem, tErr, simprocAttr])
  · have hre : renErr f to = (formErr f).2 := by unfold renErr; rw [if_pos h]
    rw [bad _ hre h, hre]
    generalize (formErr f).2 = e at *
    generalize (formErr f).1 = a at *
    have htb := Tab.cons c1 Tab.nil
    repeat' (first | (with_reducible first | refine SW_seq ?_ | refine SW_block ?_ | refine SThen_n ?_ | refine SThen_r ?_ | refine SThen_e ?_ | refine SIn_n ?_ | refine SIn_r ?_ | refine SIn_eq ?_ | refine SW_skip ?_ | refine SW_exit ?_ | refine SW_ret ?_ | refine SPost_r ?_) | ((with_reducible refine SIn_ne ?_ ?_); focus decide) | ((with_reducible refine SW_true ?_ ?_); focus exact rfl) | ((with_reducible refine SW_false ?_ ?_); focus exact rfl) | ((first | (with_reducible apply SW_run tt_ok hG htb) | ((with_reducible apply SW_draw rfl tt_ok hG htb); (focus kernel_rfl); (focus (simp only [List.range, List.range.loop, List.size_toArray, List.length_cons, List.length_nil, Nat.reduceAdd])))); focus ((repeat' (first | (with_reducible exact runX_nil) | (with_reducible exact runI_nil) | ((first | (with_reducible apply runX_cons) | (with_reducible apply runI_cons)); focus (simp (discharger := omega) only [go_sem, tErr, h, simprocAttr]; with_reducible rfl)))); done)))
    exact (by simp (discharger := omega) only [go_sem, tErr, h, simprocAttr])
end
end Go.Proofs.YtfhncnhkeodngaaDoor
namespace Go.Proofs.YtfhncnhkeodngaaDoor
open Go.RowKit

theorem bound_map {f : List GNode} {vn un mx : Nat} (h : boundErr f vn un = 0) (hm : max (vn : Int) un = mx) : (boundF f vn un).map tNode = [.agg [tInt 9, tNat vn, tInt 0, tInt 0, tInt 0, tInt 0, .list []], .agg [tInt 7, tInt 0, tInt 0, tInt 0, tInt 0, tInt 0, .list []], .agg [tInt 5, tInt 0, tInt 0, tInt 0, tInt 0, tInt 0, .list []], .agg [tInt 2, tInt 0, tInt 0, tInt 0, tInt 0, tInt 0, .list (((List.replicate (mx + 1) (tInt 0)).set vn (tInt 1)).set un (tInt (-1)))]] ++ f.map tNode := by
  unfold boundF
  rw [if_pos h, List.map_append]
  unfold boundC
  rw [hm, Int.toNat_natCast, Int.toNat_natCast, Int.toNat_natCast]
  simp only [List.map_cons, List.map_nil, tNode, tInts, List.map_set, List.map_replicate]
  rfl
section
variable {G : World → Prop} (hG : Lasting G)
include hG
set_option maxHeartbeats 8000000 in
set_option maxRecDepth 100000 in
theorem Bound_snd (f : List GNode) (v u : Int) : Snd Tryd.prog G 35 [tForm f, tInt v, tInt u] (.tup [tForm (boundF f v u), tErr (boundErr f v u)]) := by
  have c1 := Check_form_snd hG f
  unfold tForm at c1 ⊢
  refine snd_of_body (n := 74) (tm := [(0, .t (.list (f.map tNode))), (1, .t (tInt v)), (2, .t (tInt u))]) (rs := [.tmp 6, .tmp 7]) tt_ok Tryd.func35 rfl rfl rfl rfl rfl ?_
  have bad : ∀ e, boundErr f v u = e → e ≠ 0 → (boundF f v u).map tNode = [] := fun e h1 h2 => by unfold boundF; rw [if_neg (by omega)]; rfl
  refine SW_len (t := 0) rfl fun hcl => ?_
  rw [List.length_map] at hcl
  by_cases h : (formErr f).2 = 0
  · obtain ⟨h0, hl, hne, hp, e1⟩ := form_ok h
    rw [h, e1] at c1
    clear hp
    have cV := variable_snd hG v
    have cU := variable_snd hG u
    by_cases hv : 0 ≤ v ∧ v < 5
    · have hiv : isVar v = true := decide_eq_true hv
      rw [hiv] at cV
      by_cases hu : 0 ≤ u ∧ u < 5
      · have hiu : isVar u = true := decide_eq_true hu
        rw [hiu] at cU
        obtain ⟨vn, rfl⟩ := Int.eq_ofNat_of_zero_le hv.1
        obtain ⟨un, rfl⟩ := Int.eq_ofNat_of_zero_le hu.1
        have htb := Tab.cons c1 (Tab.cons cV (Tab.cons cU Tab.nil))
        by_cases huv : vn = un
        · subst huv
          have hE : boundErr f vn vn = 6 := by unfold boundErr; rw [if_neg (by omega), if_neg (by rw [hiv]; simp), if_pos rfl]
          rw [bad 6 hE (by decide), hE]
          repeat' (first | (with_reducible first | refine SW_seq ?_ | refine SW_block ?_ | refine SThen_n ?_ | refine SThen_r ?_ | refine SThen_e ?_ | refine SIn_n ?_ | refine SIn_r ?_ | refine SIn_eq ?_ | refine SW_skip ?_ | refine SW_exit ?_ | refine SW_ret ?_ | refine SPost_r ?_) | ((with_reducible refine SIn_ne ?_ ?_); focus decide) | ((with_reducible refine SW_true ?_ ?_); focus exact rfl) | ((with_reducible refine SW_false ?_ ?_); focus exact rfl) | ((first | (with_reducible apply SW_run tt_ok hG htb) | ((with_reducible apply SW_draw rfl tt_ok hG htb); (focus kernel_rfl); (focus (simp only [List.range, List.range.loop, List.size_toArray, List.length_cons, List.length_nil, Nat.reduceAdd])))); focus ((repeat' (first | (with_reducible exact runX_nil) | (with_reducible exact runI_nil) | ((first | (with_reducible apply runX_cons) | (with_reducible apply runI_cons)); focus (simp (discharger := omega) only [go_sem, tErr0, simprocAttr]; with_reducible rfl)))); done)))
          exact (by simp (discharger := omega) only [go_sem, tErr, simprocAttr])
        · have hvo : ¬ (vn : Int) = un := by omega
          have hvo2 : ¬ (un : Int) = vn := by omega
          by_cases hlen : 36 < f.length
          · have hE : boundErr f vn un = 3 := by unfold boundErr; rw [if_neg (by omega), if_neg (by rw [hiv, hiu]; simp), if_neg (by omega), if_pos hlen]
            rw [bad 3 hE (by decide), hE]
            repeat' (first | (with_reducible first | refine SW_seq ?_ | refine SW_block ?_ | refine SThen_n ?_ | refine SThen_r ?_ | refine SThen_e ?_ | refine SIn_n ?_ | refine SIn_r ?_ | refine SIn_eq ?_ | refine SW_skip ?_ | refine SW_exit ?_ | refine SW_ret ?_ | refine SPost_r ?_) | ((with_reducible refine SIn_ne ?_ ?_); focus decide) | ((with_reducible refine SW_true ?_ ?_); focus exact rfl) | ((with_reducible refine SW_false ?_ ?_); focus exact rfl) | ((first | (with_reducible apply SW_run tt_ok hG htb) | ((with_reducible apply SW_draw rfl tt_ok hG htb); (focus kernel_rfl); (focus (simp only [List.range, List.range.loop, List.size_toArray, List.length_cons, List.length_nil, Nat.reduceAdd])))); focus ((repeat' (first | (with_reducible exact runX_nil) | (with_reducible exact runI_nil) | ((first | (with_reducible apply runX_cons) | (with_reducible apply runI_cons)); focus (simp (discharger := omega) only [go_sem, tErr0, List.cons.injEq, T.int.injEq, hvo, hvo2, simprocAttr]; with_reducible rfl)))); done)))
            exact (by simp (discharger := omega) only [go_sem, tErr, simprocAttr])
          · have hE : boundErr f vn un = 0 := by unfold boundErr; rw [if_neg (by omega), if_neg (by rw [hiv, hiu]; simp), if_neg (by omega), if_neg hlen]
            by_cases hm : vn < un
            · rw [bound_map hE (mx := un) (by omega), hE]
              clear bad hE hiv hiu
              have hK : (un : Int) + 1 = ((un + 1 : Nat) : Int) := by omega
              have hgt : ((List.replicate (un + 1) (T.int IntKind.i64 0)).set vn (T.int IntKind.i64 1))[un]? = some (T.int IntKind.i64 0) := by rw [List.getElem?_set_ne huv, List.getElem?_replicate, if_pos (by omega)]
              repeat' (first | (with_reducible first | refine SW_seq ?_ | refine SW_block ?_ | refine SThen_n ?_ | refine SThen_r ?_ | refine SThen_e ?_ | refine SIn_n ?_ | refine SIn_r ?_ | refine SIn_eq ?_ | refine SW_skip ?_ | refine SW_exit ?_ | refine SW_ret ?_ | refine SPost_r ?_) | ((with_reducible refine SIn_ne ?_ ?_); focus decide) | ((with_reducible refine SW_true ?_ ?_); focus exact rfl) | ((with_reducible refine SW_false ?_ ?_); focus exact rfl) | ((first | (with_reducible apply SW_run tt_ok hG htb) | ((with_reducible apply SW_draw rfl tt_ok hG htb); (focus kernel_rfl); (focus (simp only [List.range, List.range.loop, List.size_toArray, List.length_cons, List.length_nil, Nat.reduceAdd])))); focus ((repeat' (first | (with_reducible exact runX_nil) | (with_reducible exact runI_nil) | ((first | (with_reducible apply runX_cons) | (with_reducible apply runI_cons)); focus (simp (discharger := omega) only [go_sem, tErr0, hK, List.cons.injEq, T.int.injEq, hvo, hvo2, List.length_set, hgt, simprocAttr]; with_reducible rfl)))); done)))
              clear htb c1 cV cU
              have htb : Tab.ok Tryd.prog G [] := Tab.nil
              obtain ⟨fst, hfst⟩ : ∃ q : List T, q = [.agg [tInt 9, tNat vn, tInt 0, tInt 0, tInt 0, tInt 0, .list []], .agg [tInt 7, tInt 0, tInt 0, tInt 0, tInt 0, tInt 0, .list []], .agg [tInt 5, tInt 0, tInt 0, tInt 0, tInt 0, tInt 0, .list []], .agg [tInt 2, tInt 0, tInt 0, tInt 0, tInt 0, tInt 0, .list (((List.replicate (un + 1) (tInt 0)).set vn (tInt 1)).set un (tInt (-1)))]] := ⟨_, rfl⟩
              rw [← hfst]
              have hfl : fst.length = 4 := by rw [hfst]; rfl
              refine SW_loop (fun mm s => ∃ (i : Nat) (rt : List T), mm = f.length - i ∧ s = ⟨74, [(11, .sref 0), (58, .t (.list (f.map tNode))), (59, .t (tInt f.length)), (60, .t (tNat i))], [.row 111 7 false rt]⟩ ∧ i ≤ f.length ∧ rt = fst ++ (f.take i).map tNode) f.length
                ⟨_, Norm.headS (own := [(11, 111, 7, false)]) (keep := [11, 58, 59, 60]) (by refine ⟨?_, ?_⟩; (simp (discharger := omega) only [go_sem, simprocAttr]; with_reducible rfl); refine ⟨?_, ?_, ?_, ?_⟩ <;> (simp only [go_sem, simprocAttr]; with_reducible rfl)), 0, _, rfl, rfl, Nat.zero_le _, by rw [hfst]; rfl⟩ ?_
              rintro mm s ⟨i, rt, rfl, rfl, hi, hrt⟩
              have hrl : rt.length ≤ 4 + i := by rw [hrt]; simp; omega
              by_cases hlt : i < f.length
              · obtain ⟨n, hn⟩ : ∃ n, f[i]! = n := ⟨_, rfl⟩
                have hc5 := node_coefs (hne _ (bang_mem hn hlt))
                have htk := take_next hn hlt
                have hnext : ∀ y, y = tNode n → rt ++ [y] = fst ++ (f.take (i + 1)).map tNode := fun y hy => by rw [hrt, htk, hy, List.map_append, List.append_assoc]; rfl
                clear hrt htk hfst
                obtain ⟨op, var, other, word, word2, num, coefs⟩ := n
                have hc5 : coefs.length ≤ 5 := hc5
                have hall : ∀ l : List Int, (l.all fun _ => true) = true := fun l => by simp
                repeat' (first | (with_reducible first | refine SW_seq ?_ | refine SW_block ?_ | refine SThen_n ?_ | refine SThen_r ?_ | refine SThen_e ?_ | refine SIn_n ?_ | refine SIn_r ?_ | refine SIn_eq ?_ | refine SW_skip ?_ | refine SW_exit ?_ | refine SW_ret ?_ | refine SPost_r ?_) | ((with_reducible refine SIn_ne ?_ ?_); focus decide) | ((with_reducible refine SW_true ?_ ?_); focus exact rfl) | ((with_reducible refine SW_false ?_ ?_); focus exact rfl) | ((first | (with_reducible apply SW_run tt_ok hG htb) | ((with_reducible apply SW_draw rfl tt_ok hG htb); (focus kernel_rfl); (focus (simp only [List.range, List.range.loop, List.size_toArray, List.length_cons, List.length_nil, Nat.reduceAdd])))); focus ((repeat' (first | (with_reducible exact runX_nil) | (with_reducible exact runI_nil) | ((first | (with_reducible apply runX_cons) | (with_reducible apply runI_cons)); focus (simp (discharger := omega) only [go_sem, hn, tNode, Function.comp_def, hall, simprocAttr]; with_reducible rfl)))); done)))
                exact ⟨f.length - (i + 1), _, by omega, Norm.headS (own := [(11, 111, 7, false)]) (keep := [11, 58, 59, 60]) (by refine ⟨?_, ?_⟩; (simp (discharger := omega) only [go_sem, simprocAttr]; with_reducible rfl); refine ⟨?_, ?_, ?_, ?_⟩ <;> (simp only [go_sem, simprocAttr]; with_reducible rfl)), i + 1, _, rfl, rfl, by omega, hnext _ rfl⟩
              · obtain rfl : i = f.length := by omega
                rw [List.take_length] at hrt
                rw [← hrt]
                repeat' (first | (with_reducible first | refine SW_seq ?_ | refine SW_block ?_ | refine SThen_n ?_ | refine SThen_r ?_ | refine SThen_e ?_ | refine SIn_n ?_ | refine SIn_r ?_ | refine SIn_eq ?_ | refine SW_skip ?_ | refine SW_exit ?_ | refine SW_ret ?_ | refine SPost_r ?_) | ((with_reducible refine SIn_ne ?_ ?_); focus decide) | ((with_reducible refine SW_true ?_ ?_); focus exact rfl) | ((with_reducible refine SW_false ?_ ?_); focus exact rfl) | ((first | (with_reducible apply SW_run tt_ok hG htb) | ((with_reducible apply SW_draw rfl tt_ok hG htb); (focus kernel_rfl); (focus (simp only [List.range, List.range.loop, List.size_toArray, List.length_cons, List.length_nil, Nat.reduceAdd])))); focus ((repeat' (first | (with_reducible exact runX_nil) | (with_reducible exact runI_nil) | ((first | (with_reducible apply runX_cons) | (with_reducible apply runI_cons)); focus (simp (discharger := omega) only [go_sem, simprocAttr]; with_reducible rfl)))); done)))
                exact (by simp (discharger := omega) only [go_sem, tErr0, simprocAttr])
            · rw [bound_map hE (mx := vn) (by omega), hE]
              clear bad hE hiv hiu
              have hK : (vn : Int) + 1 = ((vn + 1 : Nat) : Int) := by omega
              have hgt : ((List.replicate (vn + 1) (T.int IntKind.i64 0)).set vn (T.int IntKind.i64 1))[un]? = some (T.int IntKind.i64 0) := by rw [List.getElem?_set_ne huv, List.getElem?_replicate, if_pos (by omega)]
              repeat' (first | (with_reducible first | refine SW_seq ?_ | refine SW_block ?_ | refine SThen_n ?_ | refine SThen_r ?_ | refine SThen_e ?_ | refine SIn_n ?_ | refine SIn_r ?_ | refine SIn_eq ?_ | refine SW_skip ?_ | refine SW_exit ?_ | refine SW_ret ?_ | refine SPost_r ?_) | ((with_reducible refine SIn_ne ?_ ?_); focus decide) | ((with_reducible refine SW_true ?_ ?_); focus exact rfl) | ((with_reducible refine SW_false ?_ ?_); focus exact rfl) | ((first | (with_reducible apply SW_run tt_ok hG htb) | ((with_reducible apply SW_draw rfl tt_ok hG htb); (focus kernel_rfl); (focus (simp only [List.range, List.range.loop, List.size_toArray, List.length_cons, List.length_nil, Nat.reduceAdd])))); focus ((repeat' (first | (with_reducible exact runX_nil) | (with_reducible exact runI_nil) | ((first | (with_reducible apply runX_cons) | (with_reducible apply runI_cons)); focus (simp (discharger := omega) only [go_sem, tErr0, hK, List.cons.injEq, T.int.injEq, hvo, hvo2, List.length_set, hgt, simprocAttr]; with_reducible rfl)))); done)))
              clear htb c1 cV cU
              have htb : Tab.ok Tryd.prog G [] := Tab.nil
              obtain ⟨fst, hfst⟩ : ∃ q : List T, q = [.agg [tInt 9, tNat vn, tInt 0, tInt 0, tInt 0, tInt 0, .list []], .agg [tInt 7, tInt 0, tInt 0, tInt 0, tInt 0, tInt 0, .list []], .agg [tInt 5, tInt 0, tInt 0, tInt 0, tInt 0, tInt 0, .list []], .agg [tInt 2, tInt 0, tInt 0, tInt 0, tInt 0, tInt 0, .list (((List.replicate (vn + 1) (tInt 0)).set vn (tInt 1)).set un (tInt (-1)))]] := ⟨_, rfl⟩
              rw [← hfst]
              have hfl : fst.length = 4 := by rw [hfst]; rfl
              refine SW_loop (fun mm s => ∃ (i : Nat) (rt : List T), mm = f.length - i ∧ s = ⟨74, [(11, .sref 0), (58, .t (.list (f.map tNode))), (59, .t (tInt f.length)), (60, .t (tNat i))], [.row 111 7 false rt]⟩ ∧ i ≤ f.length ∧ rt = fst ++ (f.take i).map tNode) f.length
                ⟨_, Norm.headS (own := [(11, 111, 7, false)]) (keep := [11, 58, 59, 60]) (by refine ⟨?_, ?_⟩; (simp (discharger := omega) only [go_sem, simprocAttr]; with_reducible rfl); refine ⟨?_, ?_, ?_, ?_⟩ <;> (simp only [go_sem, simprocAttr]; with_reducible rfl)), 0, _, rfl, rfl, Nat.zero_le _, by rw [hfst]; rfl⟩ ?_
              rintro mm s ⟨i, rt, rfl, rfl, hi, hrt⟩
              have hrl : rt.length ≤ 4 + i := by rw [hrt]; simp; omega
              by_cases hlt : i < f.length
              · obtain ⟨n, hn⟩ : ∃ n, f[i]! = n := ⟨_, rfl⟩
                have hc5 := node_coefs (hne _ (bang_mem hn hlt))
                have htk := take_next hn hlt
                have hnext : ∀ y, y = tNode n → rt ++ [y] = fst ++ (f.take (i + 1)).map tNode := fun y hy => by rw [hrt, htk, hy, List.map_append, List.append_assoc]; rfl
                clear hrt htk hfst
                obtain ⟨op, var, other, word, word2, num, coefs⟩ := n
                have hc5 : coefs.length ≤ 5 := hc5
                have hall : ∀ l : List Int, (l.all fun _ => true) = true := fun l => by simp
                repeat' (first | (with_reducible first | refine SW_seq ?_ | refine SW_block ?_ | refine SThen_n ?_ | refine SThen_r ?_ | refine SThen_e ?_ | refine SIn_n ?_ | refine SIn_r ?_ | refine SIn_eq ?_ | refine SW_skip ?_ | refine SW_exit ?_ | refine SW_ret ?_ | refine SPost_r ?_) | ((with_reducible refine SIn_ne ?_ ?_); focus decide) | ((with_reducible refine SW_true ?_ ?_); focus exact rfl) | ((with_reducible refine SW_false ?_ ?_); focus exact rfl) | ((first | (with_reducible apply SW_run tt_ok hG htb) | ((with_reducible apply SW_draw rfl tt_ok hG htb); (focus kernel_rfl); (focus (simp only [List.range, List.range.loop, List.size_toArray, List.length_cons, List.length_nil, Nat.reduceAdd])))); focus ((repeat' (first | (with_reducible exact runX_nil) | (with_reducible exact runI_nil) | ((first | (with_reducible apply runX_cons) | (with_reducible apply runI_cons)); focus (simp (discharger := omega) only [go_sem, hn, tNode, Function.comp_def, hall, simprocAttr]; with_reducible rfl)))); done)))
                exact ⟨f.length - (i + 1), _, by omega, Norm.headS (own := [(11, 111, 7, false)]) (keep := [11, 58, 59, 60]) (by refine ⟨?_, ?_⟩; (simp (discharger := omega) only [go_sem, simprocAttr]; with_reducible rfl); refine ⟨?_, ?_, ?_, ?_⟩ <;> (simp only [go_sem, simprocAttr]; with_reducible rfl)), i + 1, _, rfl, rfl, by omega, hnext _ rfl⟩
              · obtain rfl : i = f.length := by omega
                rw [List.take_length] at hrt
                rw [← hrt]
                repeat' (first | (with_reducible first | refine SW_seq ?_ | refine SW_block ?_ | refine SThen_n ?_ | refine SThen_r ?_ | refine SThen_e ?_ | refine SIn_n ?_ | refine SIn_r ?_ | refine SIn_eq ?_ | refine SW_skip ?_ | refine SW_exit ?_ | refine SW_ret ?_ | refine SPost_r ?_) | ((with_reducible refine SIn_ne ?_ ?_); focus decide) | ((with_reducible refine SW_true ?_ ?_); focus exact rfl) | ((with_reducible refine SW_false ?_ ?_); focus exact rfl) | ((first | (with_reducible apply SW_run tt_ok hG htb) | ((with_reducible apply SW_draw rfl tt_ok hG htb); (focus kernel_rfl); (focus (simp only [List.range, List.range.loop, List.size_toArray, List.length_cons, List.length_nil, Nat.reduceAdd])))); focus ((repeat' (first | (with_reducible exact runX_nil) | (with_reducible exact runI_nil) | ((first | (with_reducible apply runX_cons) | (with_reducible apply runI_cons)); focus (simp (discharger := omega) only [go_sem, simprocAttr]; with_reducible rfl)))); done)))
                exact (by simp (discharger := omega) only [go_sem, tErr0, simprocAttr])
      · have hiu : isVar u = false := decide_eq_false hu
        have hE : boundErr f v u = 1 := by unfold boundErr; rw [if_neg (by omega), if_pos (.inr hiu)]
        rw [bad 1 hE (by decide), hE]
        rw [hiu] at cU
        have hvo : ¬ v = u := fun e => hu (e ▸ hv)
        have hvo2 : ¬ u = v := fun e => hvo e.symm
        have htb := Tab.cons c1 (Tab.cons cV (Tab.cons cU Tab.nil))
        repeat' (first | (with_reducible first | refine SW_seq ?_ | refine SW_block ?_ | refine SThen_n ?_ | refine SThen_r ?_ | refine SThen_e ?_ | refine SIn_n ?_ | refine SIn_r ?_ | refine SIn_eq ?_ | refine SW_skip ?_ | refine SW_exit ?_ | refine SW_ret ?_ | refine SPost_r ?_) | ((with_reducible refine SIn_ne ?_ ?_); focus decide) | ((with_reducible refine SW_true ?_ ?_); focus exact rfl) | ((with_reducible refine SW_false ?_ ?_); focus exact rfl) | ((first | (with_reducible apply SW_run tt_ok hG htb) | ((with_reducible apply SW_draw rfl tt_ok hG htb); (focus kernel_rfl); (focus (simp only [List.range, List.range.loop, List.size_toArray, List.length_cons, List.length_nil, Nat.reduceAdd])))); focus ((repeat' (first | (with_reducible exact runX_nil) | (with_reducible exact runI_nil) | ((first | (with_reducible apply runX_cons) | (with_reducible apply runI_cons)); focus (simp (discharger := omega) only [go_sem, tErr0, List.cons.injEq, T.int.injEq, hvo, hvo2, simprocAttr]; with_reducible rfl)))); done)))
        exact (by simp (discharger := omega) only [go_sem, tErr, simprocAttr])
    · have hiv : isVar v = false := decide_eq_false hv
      have hE : boundErr f v u = 1 := by unfold boundErr; rw [if_neg (by omega), if_pos (.inl hiv)]
      rw [bad 1 hE (by decide), hE]
      rw [hiv] at cV
      have htb := Tab.cons c1 (Tab.cons cV Tab.nil)
      repeat' (first | (with_reducible first | refine SW_seq ?_ | refine SW_block ?_ | refine SThen_n ?_ | refine SThen_r ?_ | refine SThen_e ?_ | refine SIn_n ?_ | refine SIn_r ?_ | refine SIn_eq ?_ | refine SW_skip ?_ | refine SW_exit ?_ | refine SW_ret ?_ | refine SPost_r ?_) | ((with_reducible refine SIn_ne ?_ ?_); focus decide) | ((with_reducible refine SW_true ?_ ?_); focus exact rfl) | ((with_reducible refine SW_false ?_ ?_); focus exact rfl) | ((first | (with_reducible apply SW_run tt_ok hG htb) | ((with_reducible apply SW_draw rfl tt_ok hG htb); (focus kernel_rfl); (focus (simp only [List.range, List.range.loop, List.size_toArray, List.length_cons, List.length_nil, Nat.reduceAdd])))); focus ((repeat' (first | (with_reducible exact runX_nil) | (with_reducible exact runI_nil) | ((first | (with_reducible apply runX_cons) | (with_reducible apply runI_cons)); focus (simp (discharger := omega) only [go_sem, tErr0, simprocAttr]; with_reducible rfl)))); done)))
      exact (by simp (discharger := omega) only [go_sem, tErr, simprocAttr])
  · have hE : boundErr f v u = (formErr f).2 := by unfold boundErr; rw [if_pos h]
    rw [bad _ hE h, hE]
    generalize (formErr f).2 = e at *
    generalize (formErr f).1 = a at *
    have htb := Tab.cons c1 Tab.nil
    repeat' (first | (with_reducible first | refine SW_seq ?_ | refine SW_block ?_ | refine SThen_n ?_ | refine SThen_r ?_ | refine SThen_e ?_ | refine SIn_n ?_ | refine SIn_r ?_ | refine SIn_eq ?_ | refine SW_skip ?_ | refine SW_exit ?_ | refine SW_ret ?_ | refine SPost_r ?_) | ((with_reducible refine SIn_ne ?_ ?_); focus decide) | ((with_reducible refine SW_true ?_ ?_); focus exact rfl) | ((with_reducible refine SW_false ?_ ?_); focus exact rfl) | ((first | (with_reducible apply SW_run tt_ok hG htb) | ((with_reducible apply SW_draw rfl tt_ok hG htb); (focus kernel_rfl); (focus (simp only [List.range, List.range.loop, List.size_toArray, List.length_cons, List.length_nil, Nat.reduceAdd])))); focus ((repeat' (first | (with_reducible exact runX_nil) | (with_reducible exact runI_nil) | ((first | (with_reducible apply runX_cons) | (with_reducible apply runI_cons)); focus (simp (discharger := omega) only [go_sem, tErr, h, simprocAttr]; with_reducible rfl)))); done)))
    exact (by simp (discharger := omega) only [go_sem, tErr, h, simprocAttr])
end
end Go.Proofs.YtfhncnhkeodngaaDoor
namespace Go.Proofs.YtfhncnhkeodngaaDoor
open Go.RowKit

section
variable {G : World → Prop} (hG : Lasting G)
include hG
set_option maxHeartbeats 16000000 in
set_option maxRecDepth 100000 in
theorem RRenamedOf_snd (f : List GNode) (to : List Int) : Snd Tryd.prog G 31 [tForm f, tInts to] (.tup [tForm (renF f to), tInt (renErr f to)]) := by
  have c1 := RFormFault_snd hG f
  unfold tForm at c1 ⊢
  unfold tInts
  refine snd_of_body (n := 159) (tm := [(0, .t (.list (f.map tNode))), (1, .t (.list (to.map tInt)))]) (rs := [.tmp 4, .tmp 5]) tt_ok Tryd.func31 rfl rfl rfl rfl rfl ?_
  have bad : ∀ e, renErr f to = e → e ≠ 0 → (renF f to).map tNode = [] := fun e h1 h2 => by unfold renF; rw [if_neg (by omega)]; rfl
  refine SW_len (t := 0) rfl fun hfl => ?_
  rw [List.length_map] at hfl
  refine SW_len (t := 1) rfl fun hcl => ?_
  rw [List.length_map] at hcl
  by_cases h : (formErr f).2 = 0
  · obtain ⟨h0, hl, hne, hp, e1⟩ := form_ok h
    rw [h, e1] at c1
    clear hp
    have htb := Tab.cons c1 Tab.nil
    by_cases h5 : to.length = 5
    · have hre : renErr f to = toGo to 5 0 := by unfold renErr; rw [if_neg (by omega), if_neg (by omega)]
      repeat' (first | (with_reducible first | refine SW_seq ?_ | refine SW_block ?_ | refine SThen_n ?_ | refine SThen_r ?_ | refine SThen_e ?_ | refine SIn_n ?_ | refine SIn_r ?_ | refine SIn_eq ?_ | refine SW_skip ?_ | refine SW_exit ?_ | refine SW_ret ?_ | refine SPost_r ?_) | ((with_reducible refine SIn_ne ?_ ?_); focus decide) | ((with_reducible refine SW_true ?_ ?_); focus exact rfl) | ((with_reducible refine SW_false ?_ ?_); focus exact rfl) | ((first | (with_reducible apply SW_run tt_ok hG htb) | ((with_reducible apply SW_draw rfl tt_ok hG htb); (focus kernel_rfl); (focus (simp only [List.range, List.range.loop, List.size_toArray, List.length_cons, List.length_nil, Nat.reduceAdd])))); focus ((repeat' (first | (with_reducible exact runX_nil) | (with_reducible exact runI_nil) | ((first | (with_reducible apply runX_cons) | (with_reducible apply runI_cons)); focus (simp (discharger := omega) only [go_sem, h5, simprocAttr]; with_reducible rfl)))); done)))
      clear htb c1
      have htb : Tab.ok Tryd.prog G [] := Tab.nil
      refine SW_loop (fun mm s => ∃ (i : Nat), mm = 5 - i ∧ s = ⟨159, [(0, .t (.list (f.map tNode))), (1, .t (.list (to.map tInt))), (8, .t (tNat i))], []⟩ ∧ i ≤ 5 ∧ renErr f to = toGo to (5 - i) i) 5
        ⟨_, Norm.headS (own := []) (keep := [0, 1, 8]) (by refine ⟨?_, ?_⟩; (simp (discharger := omega) only [go_sem, simprocAttr]; with_reducible rfl); refine ⟨?_, ?_, ?_, ?_⟩ <;> (simp only [go_sem, simprocAttr]; with_reducible rfl)), 0, rfl, rfl, by omega, hre⟩ ?_
      clear hre
      rintro mm s ⟨i, rfl, rfl, hi, hre⟩
      by_cases hlt : i < 5
      · obtain ⟨x, hx⟩ : ∃ x, to[i]! = x := ⟨_, rfl⟩
        have hxD : to.getD i 0 = x := bang_D hx (by omega)
        rw [toGo_step hlt] at hre
        have hta : toAt to i = if isVar x = false then 1 else if (to.take i).contains x = true then 6 else 0 := by unfold toAt; rw [hxD]
        by_cases hv : 0 ≤ x ∧ x < 5
        · rw [if_neg (by rw [show isVar x = true from decide_eq_true hv]; decide)] at hta
          repeat' (first | (with_reducible first | refine SW_seq ?_ | refine SW_block ?_ | refine SThen_n ?_ | refine SThen_r ?_ | refine SThen_e ?_ | refine SIn_n ?_ | refine SIn_r ?_ | refine SIn_eq ?_ | refine SW_skip ?_ | refine SW_exit ?_ | refine SW_ret ?_ | refine SPost_r ?_) | ((with_reducible refine SIn_ne ?_ ?_); focus decide) | ((with_reducible refine SW_true ?_ ?_); focus exact rfl) | ((with_reducible refine SW_false ?_ ?_); focus exact rfl) | ((first | (with_reducible apply SW_run tt_ok hG htb) | ((with_reducible apply SW_draw rfl tt_ok hG htb); (focus kernel_rfl); (focus (simp only [List.range, List.range.loop, List.size_toArray, List.length_cons, List.length_nil, Nat.reduceAdd])))); focus ((repeat' (first | (with_reducible exact runX_nil) | (with_reducible exact runI_nil) | ((first | (with_reducible apply runX_cons) | (with_reducible apply runI_cons)); focus (simp (discharger := omega) only [go_sem, h5, hx, simprocAttr]; with_reducible rfl)))); done)))
          refine SW_loop (fun mm s => ∃ (j : Nat), mm = i - j ∧ s = ⟨159, [(0, .t (.list (f.map tNode))), (1, .t (.list (to.map tInt))), (8, .t (tNat i)), (9, .t (tNat j))], []⟩ ∧ j ≤ i ∧ ∀ k, k < j → to[k]! ≠ x) i
            ⟨_, Norm.headS (own := []) (keep := [0, 1, 8, 9]) (by refine ⟨?_, ?_⟩; (simp (discharger := omega) only [go_sem, simprocAttr]; with_reducible rfl); refine ⟨?_, ?_, ?_, ?_⟩ <;> (simp only [go_sem, simprocAttr]; with_reducible rfl)), 0, rfl, rfl, Nat.zero_le _, fun k hk => by omega⟩ ?_
          rintro mm s ⟨j, rfl, rfl, hj, hno⟩
          by_cases hji : j < i
          · obtain ⟨y, hy⟩ : ∃ y, to[j]! = y := ⟨_, rfl⟩
            by_cases hyx : y = x
            · have hc : (to.take i).contains x = true := by
                rw [List.contains_iff_mem, List.mem_iff_getElem?]
                refine ⟨j, ?_⟩
                rw [List.getElem?_take, if_pos hji, List.getElem?_eq_getElem (by omega), ← hyx, ← hy, getElem!_pos to j (by omega)]
              rw [if_pos hc] at hta
              rw [hta, if_pos (by decide)] at hre
              rw [hre, bad 6 hre (by decide)]
              subst hyx
              repeat' (first | (with_reducible first | refine SW_seq ?_ | refine SW_block ?_ | refine SThen_n ?_ | refine SThen_r ?_ | refine SThen_e ?_ | refine SIn_n ?_ | refine SIn_r ?_ | refine SIn_eq ?_ | refine SW_skip ?_ | refine SW_exit ?_ | refine SW_ret ?_ | refine SPost_r ?_) | ((with_reducible refine SIn_ne ?_ ?_); focus decide) | ((with_reducible refine SW_true ?_ ?_); focus exact rfl) | ((with_reducible refine SW_false ?_ ?_); focus exact rfl) | ((first | (with_reducible apply SW_run tt_ok hG htb) | ((with_reducible apply SW_draw rfl tt_ok hG htb); (focus kernel_rfl); (focus (simp only [List.range, List.range.loop, List.size_toArray, List.length_cons, List.length_nil, Nat.reduceAdd])))); focus ((repeat' (first | (with_reducible exact runX_nil) | (with_reducible exact runI_nil) | ((first | (with_reducible apply runX_cons) | (with_reducible apply runI_cons)); focus (simp (discharger := omega) only [go_sem, h5, hx, hy, simprocAttr]; with_reducible rfl)))); done)))
              exact (by simp (discharger := omega) only [go_sem, simprocAttr])
            · repeat' (first | (with_reducible first | refine SW_seq ?_ | refine SW_block ?_ | refine SThen_n ?_ | refine SThen_r ?_ | refine SThen_e ?_ | refine SIn_n ?_ | refine SIn_r ?_ | refine SIn_eq ?_ | refine SW_skip ?_ | refine SW_exit ?_ | refine SW_ret ?_ | refine SPost_r ?_) | ((with_reducible refine SIn_ne ?_ ?_); focus decide) | ((with_reducible refine SW_true ?_ ?_); focus exact rfl) | ((with_reducible refine SW_false ?_ ?_); focus exact rfl) | ((first | (with_reducible apply SW_run tt_ok hG htb) | ((with_reducible apply SW_draw rfl tt_ok hG htb); (focus kernel_rfl); (focus (simp only [List.range, List.range.loop, List.size_toArray, List.length_cons, List.length_nil, Nat.reduceAdd])))); focus ((repeat' (first | (with_reducible exact runX_nil) | (with_reducible exact runI_nil) | ((first | (with_reducible apply runX_cons) | (with_reducible apply runI_cons)); focus (simp (discharger := omega) only [go_sem, h5, hx, hy, simprocAttr]; with_reducible rfl)))); done)))
              exact ⟨i - (j + 1), _, by omega, Norm.headS (own := []) (keep := [0, 1, 8, 9]) (by refine ⟨?_, ?_⟩; (simp (discharger := omega) only [go_sem, simprocAttr]; with_reducible rfl); refine ⟨?_, ?_, ?_, ?_⟩ <;> (simp only [go_sem, simprocAttr]; with_reducible rfl)), j + 1, rfl, rfl, by omega, fun k hk => by
                by_cases e : k = j
                · subst e; rw [hy]; exact hyx
                · exact hno k (by omega)⟩
          · obtain rfl : j = i := by omega
            have hc : ¬ (to.take j).contains x = true := by
              rw [List.contains_iff_mem, List.mem_iff_getElem?]
              rintro ⟨k, hk⟩
              rw [List.getElem?_take] at hk
              split at hk
              · rename_i hkj
                rw [List.getElem?_eq_getElem (by omega)] at hk
                refine hno k hkj ?_
                rw [getElem!_pos to k (by omega)]
                exact Option.some.inj hk
              · cases hk
            rw [if_neg hc] at hta
            rw [hta, if_neg (by decide)] at hre
            repeat' (first | (with_reducible first | refine SW_seq ?_ | refine SW_block ?_ | refine SThen_n ?_ | refine SThen_r ?_ | refine SThen_e ?_ | refine SIn_n ?_ | refine SIn_r ?_ | refine SIn_eq ?_ | refine SW_skip ?_ | refine SW_exit ?_ | refine SW_ret ?_ | refine SPost_r ?_) | ((with_reducible refine SIn_ne ?_ ?_); focus decide) | ((with_reducible refine SW_true ?_ ?_); focus exact rfl) | ((with_reducible refine SW_false ?_ ?_); focus exact rfl) | ((first | (with_reducible apply SW_run tt_ok hG htb) | ((with_reducible apply SW_draw rfl tt_ok hG htb); (focus kernel_rfl); (focus (simp only [List.range, List.range.loop, List.size_toArray, List.length_cons, List.length_nil, Nat.reduceAdd])))); focus ((repeat' (first | (with_reducible exact runX_nil) | (with_reducible exact runI_nil) | ((first | (with_reducible apply runX_cons) | (with_reducible apply runI_cons)); focus (simp (discharger := omega) only [go_sem, h5, simprocAttr]; with_reducible rfl)))); done)))
            exact ⟨5 - (j + 1), _, by omega, Norm.headS (own := []) (keep := [0, 1, 8]) (by refine ⟨?_, ?_⟩; (simp (discharger := omega) only [go_sem, simprocAttr]; with_reducible rfl); refine ⟨?_, ?_, ?_, ?_⟩ <;> (simp only [go_sem, simprocAttr]; with_reducible rfl)), j + 1, rfl, rfl, by omega, hre⟩
        · rw [if_pos (show isVar x = false from decide_eq_false hv)] at hta
          rw [hta, if_pos (by decide)] at hre
          rw [hre, bad 1 hre (by decide)]
          have hv' : x < 0 ∨ 5 ≤ x := by omega
          rcases hv' with hv' | hv'
          · repeat' (first | (with_reducible first | refine SW_seq ?_ | refine SW_block ?_ | refine SThen_n ?_ | refine SThen_r ?_ | refine SThen_e ?_ | refine SIn_n ?_ | refine SIn_r ?_ | refine SIn_eq ?_ | refine SW_skip ?_ | refine SW_exit ?_ | refine SW_ret ?_ | refine SPost_r ?_) | ((with_reducible refine SIn_ne ?_ ?_); focus decide) | ((with_reducible refine SW_true ?_ ?_); focus exact rfl) | ((with_reducible refine SW_false ?_ ?_); focus exact rfl) | ((first | (with_reducible apply SW_run tt_ok hG htb) | ((with_reducible apply SW_draw rfl tt_ok hG htb); (focus kernel_rfl); (focus (simp only [List.range, List.range.loop, List.size_toArray, List.length_cons, List.length_nil, Nat.reduceAdd])))); focus ((repeat' (first | (with_reducible exact runX_nil) | (with_reducible exact runI_nil) | ((first | (with_reducible apply runX_cons) | (with_reducible apply runI_cons)); focus (simp (discharger := omega) only [go_sem, h5, hx, simprocAttr]; with_reducible rfl)))); done)))
            exact (by simp (discharger := omega) only [go_sem, simprocAttr])
          · repeat' (first | (with_reducible first | refine SW_seq ?_ | refine SW_block ?_ | refine SThen_n ?_ | refine SThen_r ?_ | refine SThen_e ?_ | refine SIn_n ?_ | refine SIn_r ?_ | refine SIn_eq ?_ | refine SW_skip ?_ | refine SW_exit ?_ | refine SW_ret ?_ | refine SPost_r ?_) | ((with_reducible refine SIn_ne ?_ ?_); focus decide) | ((with_reducible refine SW_true ?_ ?_); focus exact rfl) | ((with_reducible refine SW_false ?_ ?_); focus exact rfl) | ((first | (with_reducible apply SW_run tt_ok hG htb) | ((with_reducible apply SW_draw rfl tt_ok hG htb); (focus kernel_rfl); (focus (simp only [List.range, List.range.loop, List.size_toArray, List.length_cons, List.length_nil, Nat.reduceAdd])))); focus ((repeat' (first | (with_reducible exact runX_nil) | (with_reducible exact runI_nil) | ((first | (with_reducible apply runX_cons) | (with_reducible apply runI_cons)); focus (simp (discharger := omega) only [go_sem, h5, hx, simprocAttr]; with_reducible rfl)))); done)))
            exact (by simp (discharger := omega) only [go_sem, simprocAttr])
      · obtain rfl : i = 5 := by omega
        have hre : renErr f to = 0 := hre
        have hto : ToOk to := to_ok h5 (by unfold renErr at hre; rw [if_neg (by omega), if_neg (by omega)] at hre; exact hre)
        have hrf : (renF f to).map tNode = (f.map (renN to)).map tNode := by unfold renF; rw [if_pos hre]
        rw [hre, hrf]
        clear bad hrf hre hlt hi
        repeat' (first | (with_reducible first | refine SW_seq ?_ | refine SW_block ?_ | refine SThen_n ?_ | refine SThen_r ?_ | refine SThen_e ?_ | refine SIn_n ?_ | refine SIn_r ?_ | refine SIn_eq ?_ | refine SW_skip ?_ | refine SW_exit ?_ | refine SW_ret ?_ | refine SPost_r ?_) | ((with_reducible refine SIn_ne ?_ ?_); focus decide) | ((with_reducible refine SW_true ?_ ?_); focus exact rfl) | ((with_reducible refine SW_false ?_ ?_); focus exact rfl) | ((first | (with_reducible apply SW_run tt_ok hG htb) | ((with_reducible apply SW_draw rfl tt_ok hG htb); (focus kernel_rfl); (focus (simp only [List.range, List.range.loop, List.size_toArray, List.length_cons, List.length_nil, Nat.reduceAdd])))); focus ((repeat' (first | (with_reducible exact runX_nil) | (with_reducible exact runI_nil) | ((first | (with_reducible apply runX_cons) | (with_reducible apply runI_cons)); focus (simp (discharger := omega) only [go_sem, h5, simprocAttr]; with_reducible rfl)))); done)))
        refine SW_loop (fun mm s => ∃ (i : Nat) (ot : List T), mm = f.length - i ∧ s = ⟨159, [(0, .t (.list (f.map tNode))), (1, .t (.list (to.map tInt))), (10, .sref 0), (11, .t (tNat i))], [.row 111 7 true ot]⟩ ∧ i ≤ f.length ∧ ot = ((f.take i).map (renN to)).map tNode) f.length
          ⟨_, Norm.headS (own := [(10, 111, 7, true)]) (keep := [0, 1, 10, 11]) (by refine ⟨?_, ?_⟩; (simp (discharger := omega) only [go_sem, simprocAttr]; with_reducible rfl); refine ⟨?_, ?_, ?_, ?_⟩ <;> (simp only [go_sem, simprocAttr]; with_reducible rfl)), 0, _, rfl, rfl, Nat.zero_le _, rfl⟩ ?_
        rintro mm s ⟨i, ot, rfl, rfl, hi, hot⟩
        have hol : ot.length ≤ i := by rw [hot]; simp; omega
        by_cases hlt : i < f.length
        · obtain ⟨n, hn⟩ : ∃ n, f[i]! = n := ⟨_, rfl⟩
          have hnk := hne n (bang_mem hn hlt)
          have htk := take_next hn hlt
          obtain ⟨hv1, hv2, hv3, hv4⟩ := node_var hnk
          have hc5 := node_coefs hnk
          obtain ⟨ho1, ho9, _, _⟩ := node_ok hnk
          have hnext : ∀ y, y = tNode (renN to n) → ot ++ [y] = ((f.take (i + 1)).map (renN to)).map tNode := fun y hy => by
            rw [hot, htk, hy, List.map_append, List.map_append]; rfl
          clear hnk hot htk
          obtain ⟨op, var, other, word, word2, num, coefs⟩ := n
          simp only at hv1 hv2 hv3 hv4 hc5 ho1 ho9
          obtain ⟨nv, hnv⟩ : ∃ x, (if op = 3 ∨ op = 4 ∨ op = 8 ∨ op = 9 then to.getD var.toNat 0 else 0) = x := ⟨_, rfl⟩
          obtain ⟨nu, hnu⟩ : ∃ x, (if op = 4 then to.getD other.toNat 0 else 0) = x := ⟨_, rfl⟩
          have hren : renN to ⟨op, var, other, word, word2, num, coefs⟩ = ⟨op, nv, nu, word, word2, num, renC coefs to⟩ := by unfold renN; rw [← hnv, ← hnu]
          rw [hren] at hnext
          clear hren
          repeat' (first | (with_reducible first | refine SW_seq ?_ | refine SW_block ?_ | refine SThen_n ?_ | refine SThen_r ?_ | refine SThen_e ?_ | refine SIn_n ?_ | refine SIn_r ?_ | refine SIn_eq ?_ | refine SW_skip ?_ | refine SW_exit ?_ | refine SW_ret ?_ | refine SPost_r ?_) | ((with_reducible refine SIn_ne ?_ ?_); focus decide) | ((with_reducible refine SW_true ?_ ?_); focus exact rfl) | ((with_reducible refine SW_false ?_ ?_); focus exact rfl) | ((first | (with_reducible apply SW_run tt_ok hG htb) | ((with_reducible apply SW_draw rfl tt_ok hG htb); (focus kernel_rfl); (focus (simp only [List.range, List.range.loop, List.size_toArray, List.length_cons, List.length_nil, Nat.reduceAdd])))); focus ((repeat' (first | (with_reducible exact runX_nil) | (with_reducible exact runI_nil) | ((first | (with_reducible apply runX_cons) | (with_reducible apply runI_cons)); focus (simp (discharger := omega) only [go_sem, hn, tNode, simprocAttr]; with_reducible rfl)))); done)))
          refine SW_meet2 ⟨159, [(0, .t (.list (f.map tNode))), (1, .t (.list (to.map tInt))), (10, .sref 0), (11, .t (tNat i)), (12, .bptr 1 0), (13, .bptr 2 0)], [.row 111 7 true ot, .box [.t (tInt op), .t (tInt var), .t (tInt other), .t (tInt word), .t (tInt word2), .t (tInt num), .t (.list (coefs.map tInt))], .box [.t (tInt op), .t (tInt nv), .t (tInt 0), .t (tInt word), .t (tInt word2), .t (tInt num), .nil]]⟩ Weak.sw ?_ ?_
          · clear hnext hnu hv2 hv4
            by_cases hq : op = 3 ∨ op = 4 ∨ op = 8 ∨ op = 9
            · rw [if_pos hq] at hnv
              obtain ⟨vn, rfl⟩ := Int.eq_ofNat_of_zero_le (hv1 hq).1
              have hvn : vn < 5 := by have := (hv1 hq).2; omega
              have htv : to[vn]! = nv := by rw [getElem!_pos to vn (by omega), ← hnv, Int.toNat_natCast, getD_lt (by omega)]
              clear hv1 hv3 hnv
              rcases hq with rfl | rfl | rfl | rfl
              · repeat' (first | (with_reducible first | refine SW_seq ?_ | refine SW_block ?_ | refine SThen_n ?_ | refine SThen_r ?_ | refine SThen_e ?_ | refine SIn_n ?_ | refine SIn_r ?_ | refine SIn_eq ?_ | refine SW_skip ?_ | refine SW_exit ?_ | refine SW_ret ?_ | refine SPost_r ?_) | ((with_reducible refine SIn_ne ?_ ?_); focus decide) | ((with_reducible refine SW_true ?_ ?_); focus exact rfl) | ((with_reducible refine SW_false ?_ ?_); focus exact rfl) | ((first | (with_reducible apply SW_run tt_ok hG htb) | ((with_reducible apply SW_draw rfl tt_ok hG htb); (focus kernel_rfl); (focus (simp only [List.range, List.range.loop, List.size_toArray, List.length_cons, List.length_nil, Nat.reduceAdd])))); focus ((repeat' (first | (with_reducible exact runX_nil) | (with_reducible exact runI_nil) | ((first | (with_reducible apply runX_cons) | (with_reducible apply runI_cons)); focus (simp (discharger := omega) only [go_sem, htv, simprocAttr]; with_reducible rfl)))); done)))
                exact Meet.h ⟨_, Norm.headS (own := [(10, 111, 7, true)]) (keep := [0, 1, 10, 11, 12, 13]) (by refine ⟨?_, ?_⟩; (simp (discharger := omega) only [go_sem, simprocAttr]; with_reducible rfl); refine ⟨?_, ?_, ?_, ?_⟩ <;> (simp only [go_sem, simprocAttr]; with_reducible rfl)), rfl⟩
              · repeat' (first | (with_reducible first | refine SW_seq ?_ | refine SW_block ?_ | refine SThen_n ?_ | refine SThen_r ?_ | refine SThen_e ?_ | refine SIn_n ?_ | refine SIn_r ?_ | refine SIn_eq ?_ | refine SW_skip ?_ | refine SW_exit ?_ | refine SW_ret ?_ | refine SPost_r ?_) | ((with_reducible refine SIn_ne ?_ ?_); focus decide) | ((with_reducible refine SW_true ?_ ?_); focus exact rfl) | ((with_reducible refine SW_false ?_ ?_); focus exact rfl) | ((first | (with_reducible apply SW_run tt_ok hG htb) | ((with_reducible apply SW_draw rfl tt_ok hG htb); (focus kernel_rfl); (focus (simp only [List.range, List.range.loop, List.size_toArray, List.length_cons, List.length_nil, Nat.reduceAdd])))); focus ((repeat' (first | (with_reducible exact runX_nil) | (with_reducible exact runI_nil) | ((first | (with_reducible apply runX_cons) | (with_reducible apply runI_cons)); focus (simp (discharger := omega) only [go_sem, htv, simprocAttr]; with_reducible rfl)))); done)))
                exact Meet.h ⟨_, Norm.headS (own := [(10, 111, 7, true)]) (keep := [0, 1, 10, 11, 12, 13]) (by refine ⟨?_, ?_⟩; (simp (discharger := omega) only [go_sem, simprocAttr]; with_reducible rfl); refine ⟨?_, ?_, ?_, ?_⟩ <;> (simp only [go_sem, simprocAttr]; with_reducible rfl)), rfl⟩
              · repeat' (first | (with_reducible first | refine SW_seq ?_ | refine SW_block ?_ | refine SThen_n ?_ | refine SThen_r ?_ | refine SThen_e ?_ | refine SIn_n ?_ | refine SIn_r ?_ | refine SIn_eq ?_ | refine SW_skip ?_ | refine SW_exit ?_ | refine SW_ret ?_ | refine SPost_r ?_) | ((with_reducible refine SIn_ne ?_ ?_); focus decide) | ((with_reducible refine SW_true ?_ ?_); focus exact rfl) | ((with_reducible refine SW_false ?_ ?_); focus exact rfl) | ((first | (with_reducible apply SW_run tt_ok hG htb) | ((with_reducible apply SW_draw rfl tt_ok hG htb); (focus kernel_rfl); (focus (simp only [List.range, List.range.loop, List.size_toArray, List.length_cons, List.length_nil, Nat.reduceAdd])))); focus ((repeat' (first | (with_reducible exact runX_nil) | (with_reducible exact runI_nil) | ((first | (with_reducible apply runX_cons) | (with_reducible apply runI_cons)); focus (simp (discharger := omega) only [go_sem, htv, simprocAttr]; with_reducible rfl)))); done)))
                exact Meet.h ⟨_, Norm.headS (own := [(10, 111, 7, true)]) (keep := [0, 1, 10, 11, 12, 13]) (by refine ⟨?_, ?_⟩; (simp (discharger := omega) only [go_sem, simprocAttr]; with_reducible rfl); refine ⟨?_, ?_, ?_, ?_⟩ <;> (simp only [go_sem, simprocAttr]; with_reducible rfl)), rfl⟩
              · repeat' (first | (with_reducible first | refine SW_seq ?_ | refine SW_block ?_ | refine SThen_n ?_ | refine SThen_r ?_ | refine SThen_e ?_ | refine SIn_n ?_ | refine SIn_r ?_ | refine SIn_eq ?_ | refine SW_skip ?_ | refine SW_exit ?_ | refine SW_ret ?_ | refine SPost_r ?_) | ((with_reducible refine SIn_ne ?_ ?_); focus decide) | ((with_reducible refine SW_true ?_ ?_); focus exact rfl) | ((with_reducible refine SW_false ?_ ?_); focus exact rfl) | ((first | (with_reducible apply SW_run tt_ok hG htb) | ((with_reducible apply SW_draw rfl tt_ok hG htb); (focus kernel_rfl); (focus (simp only [List.range, List.range.loop, List.size_toArray, List.length_cons, List.length_nil, Nat.reduceAdd])))); focus ((repeat' (first | (with_reducible exact runX_nil) | (with_reducible exact runI_nil) | ((first | (with_reducible apply runX_cons) | (with_reducible apply runI_cons)); focus (simp (discharger := omega) only [go_sem, htv, simprocAttr]; with_reducible rfl)))); done)))
                exact Meet.h ⟨_, Norm.headS (own := [(10, 111, 7, true)]) (keep := [0, 1, 10, 11, 12, 13]) (by refine ⟨?_, ?_⟩; (simp (discharger := omega) only [go_sem, simprocAttr]; with_reducible rfl); refine ⟨?_, ?_, ?_, ?_⟩ <;> (simp only [go_sem, simprocAttr]; with_reducible rfl)), rfl⟩
            · rw [if_neg hq] at hnv
              obtain rfl : var = 0 := hv3 hq
              subst hnv
              have n3 : ¬ op = 3 := by omega
              have n4 : ¬ op = 4 := by omega
              have n8 : ¬ op = 8 := by omega
              have n9 : ¬ op = 9 := by omega
              clear hv1 hv3
              repeat' (first | (with_reducible first | refine SW_seq ?_ | refine SW_block ?_ | refine SThen_n ?_ | refine SThen_r ?_ | refine SThen_e ?_ | refine SIn_n ?_ | refine SIn_r ?_ | refine SIn_eq ?_ | refine SW_skip ?_ | refine SW_exit ?_ | refine SW_ret ?_ | refine SPost_r ?_) | ((with_reducible refine SIn_ne ?_ ?_); focus decide) | ((with_reducible refine SW_true ?_ ?_); focus exact rfl) | ((with_reducible refine SW_false ?_ ?_); focus exact rfl) | ((first | (with_reducible apply SW_run tt_ok hG htb) | ((with_reducible apply SW_draw rfl tt_ok hG htb); (focus kernel_rfl); (focus (simp only [List.range, List.range.loop, List.size_toArray, List.length_cons, List.length_nil, Nat.reduceAdd])))); focus ((repeat' (first | (with_reducible exact runX_nil) | (with_reducible exact runI_nil) | ((first | (with_reducible apply runX_cons) | (with_reducible apply runI_cons)); focus (simp (discharger := omega) only [go_sem, n3, n4, n8, n9, simprocAttr]; with_reducible rfl)))); done)))
              exact Meet.h ⟨_, Norm.headS (own := [(10, 111, 7, true)]) (keep := [0, 1, 10, 11, 12, 13]) (by refine ⟨?_, ?_⟩; (simp (discharger := omega) only [go_sem, simprocAttr]; with_reducible rfl); refine ⟨?_, ?_, ?_, ?_⟩ <;> (simp only [go_sem, simprocAttr]; with_reducible rfl)), rfl⟩
          · clear hv1 hv3 hnv
            repeat' (with_reducible first | refine SW_seq ?_ | refine SThen_n ?_ | refine SIn_n ?_ | refine SW_skip ?_)
            refine SW_meet2 ⟨159, [(0, .t (.list (f.map tNode))), (1, .t (.list (to.map tInt))), (10, .sref 0), (11, .t (tNat i)), (12, .bptr 1 0), (13, .bptr 2 0)], [.row 111 7 true ot, .box [.t (tInt op), .t (tInt var), .t (tInt other), .t (tInt word), .t (tInt word2), .t (tInt num), .t (.list (coefs.map tInt))], .box [.t (tInt op), .t (tInt nv), .t (tInt nu), .t (tInt word), .t (tInt word2), .t (tInt num), .nil]]⟩ Weak.sw ?_ ?_
            · clear hnext
              by_cases hq : op = 4
              · rw [if_pos hq] at hnu
                obtain ⟨un, rfl⟩ := Int.eq_ofNat_of_zero_le (hv2 hq).1
                have hun : un < 5 := by have := (hv2 hq).2; omega
                have htu : to[un]! = nu := by rw [getElem!_pos to un (by omega), ← hnu, Int.toNat_natCast, getD_lt (by omega)]
                clear hv2 hv4 hnu
                subst hq
                repeat' (first | (with_reducible first | refine SW_seq ?_ | refine SW_block ?_ | refine SThen_n ?_ | refine SThen_r ?_ | refine SThen_e ?_ | refine SIn_n ?_ | refine SIn_r ?_ | refine SIn_eq ?_ | refine SW_skip ?_ | refine SW_exit ?_ | refine SW_ret ?_ | refine SPost_r ?_) | ((with_reducible refine SIn_ne ?_ ?_); focus decide) | ((with_reducible refine SW_true ?_ ?_); focus exact rfl) | ((with_reducible refine SW_false ?_ ?_); focus exact rfl) | ((first | (with_reducible apply SW_run tt_ok hG htb) | ((with_reducible apply SW_draw rfl tt_ok hG htb); (focus kernel_rfl); (focus (simp only [List.range, List.range.loop, List.size_toArray, List.length_cons, List.length_nil, Nat.reduceAdd])))); focus ((repeat' (first | (with_reducible exact runX_nil) | (with_reducible exact runI_nil) | ((first | (with_reducible apply runX_cons) | (with_reducible apply runI_cons)); focus (simp (discharger := omega) only [go_sem, htu, simprocAttr]; with_reducible rfl)))); done)))
                exact Meet.h ⟨_, Norm.headS (own := [(10, 111, 7, true)]) (keep := [0, 1, 10, 11, 12, 13]) (by refine ⟨?_, ?_⟩; (simp (discharger := omega) only [go_sem, simprocAttr]; with_reducible rfl); refine ⟨?_, ?_, ?_, ?_⟩ <;> (simp only [go_sem, simprocAttr]; with_reducible rfl)), rfl⟩
              · rw [if_neg hq] at hnu
                obtain rfl : other = 0 := hv4 hq
                subst hnu
                clear hv2 hv4
                repeat' (first | (with_reducible first | refine SW_seq ?_ | refine SW_block ?_ | refine SThen_n ?_ | refine SThen_r ?_ | refine SThen_e ?_ | refine SIn_n ?_ | refine SIn_r ?_ | refine SIn_eq ?_ | refine SW_skip ?_ | refine SW_exit ?_ | refine SW_ret ?_ | refine SPost_r ?_) | ((with_reducible refine SIn_ne ?_ ?_); focus decide) | ((with_reducible refine SW_true ?_ ?_); focus exact rfl) | ((with_reducible refine SW_false ?_ ?_); focus exact rfl) | ((first | (with_reducible apply SW_run tt_ok hG htb) | ((with_reducible apply SW_draw rfl tt_ok hG htb); (focus kernel_rfl); (focus (simp only [List.range, List.range.loop, List.size_toArray, List.length_cons, List.length_nil, Nat.reduceAdd])))); focus ((repeat' (first | (with_reducible exact runX_nil) | (with_reducible exact runI_nil) | ((first | (with_reducible apply runX_cons) | (with_reducible apply runI_cons)); focus (simp (discharger := omega) only [go_sem, hq, simprocAttr]; with_reducible rfl)))); done)))
                exact Meet.h ⟨_, Norm.headS (own := [(10, 111, 7, true)]) (keep := [0, 1, 10, 11, 12, 13]) (by refine ⟨?_, ?_⟩; (simp (discharger := omega) only [go_sem, simprocAttr]; with_reducible rfl); refine ⟨?_, ?_, ?_, ?_⟩ <;> (simp only [go_sem, simprocAttr]; with_reducible rfl)), rfl⟩
            · clear hv2 hv4 hnu
              repeat' (first | (with_reducible first | refine SW_seq ?_ | refine SW_block ?_ | refine SThen_n ?_ | refine SThen_r ?_ | refine SThen_e ?_ | refine SIn_n ?_ | refine SIn_r ?_ | refine SIn_eq ?_ | refine SW_skip ?_ | refine SW_exit ?_ | refine SW_ret ?_ | refine SPost_r ?_) | ((with_reducible refine SIn_ne ?_ ?_); focus decide) | ((with_reducible refine SW_true ?_ ?_); focus exact rfl) | ((with_reducible refine SW_false ?_ ?_); focus exact rfl) | ((first | (with_reducible apply SW_run tt_ok hG htb) | ((with_reducible apply SW_draw rfl tt_ok hG htb); (focus kernel_rfl); (focus (simp only [List.range, List.range.loop, List.size_toArray, List.length_cons, List.length_nil, Nat.reduceAdd])))); focus ((repeat' (first | (with_reducible exact runX_nil) | (with_reducible exact runI_nil) | ((first | (with_reducible apply runX_cons) | (with_reducible apply runI_cons)); focus (simp (discharger := omega) only [go_sem, simprocAttr]; with_reducible rfl)))); done)))
              refine SW_loop (fun mm s => ∃ (m L : Nat) (wt : List T), mm = coefs.length - m ∧ s = ⟨159, [(0, .t (.list (f.map tNode))), (1, .t (.list (to.map tInt))), (10, .sref 0), (11, .t (tNat i)), (12, .bptr 1 0), (13, .bptr 2 0), (14, .sref 3), (15, .t (tNat L)), (16, .t (tNat m))], [.row 111 7 true ot, .box [.t (tInt op), .t (tInt var), .t (tInt other), .t (tInt word), .t (tInt word2), .t (tInt num), .t (.list (coefs.map tInt))], .box [.t (tInt op), .t (tInt nv), .t (tInt nu), .t (tInt word), .t (tInt word2), .t (tInt num), .nil], .row 3 1 true wt]⟩ ∧ m ≤ coefs.length ∧ wt = (rowP coefs to m).map tInt ∧ L = lastP coefs to m) coefs.length
                ⟨_, Norm.headS (own := [(10, 111, 7, true), (14, 3, 1, true)]) (keep := [0, 1, 10, 11, 12, 13, 14, 15, 16]) (by refine ⟨?_, ?_⟩; (simp (discharger := omega) only [go_sem, simprocAttr]; with_reducible rfl); refine ⟨?_, ?_, ?_, ?_⟩ <;> (simp only [go_sem, simprocAttr]; with_reducible rfl)), 0, 0, _, rfl, rfl, Nat.zero_le _, rfl, rfl⟩ ?_
              rintro mm s ⟨m, L, wt, rfl, rfl, hm, hwt, hL⟩
              have hri := row_inv (coefs := coefs) hto m (by omega)
              have hwl : wt.length = 5 := by rw [hwt, List.length_map]; exact hri.len
              have hL5 : L ≤ 5 := by rw [hL]; exact hri.le
              clear hri
              by_cases hmlt : m < coefs.length
              · obtain ⟨c, hc⟩ : ∃ c, coefs[m]! = c := ⟨_, rfl⟩
                have hcD : coefs.getD m 0 = c := bang_D hc hmlt
                have htb5 := hto.rg m (by omega)
                obtain ⟨tn, htn⟩ := Int.eq_ofNat_of_zero_le htb5.1
                have ht : to[m]! = (tn : Int) := by rw [getElem!_pos to m (by omega), ← htn, getD_lt (by omega)]
                have ht5 : tn < 5 := by omega
                have hw2 : wt.set tn (tInt c) = (rowP coefs to (m + 1)).map tInt := by rw [rowP, htn, hcD, List.map_set, ← hwt]; rfl
                have hL2 : lastP coefs to (m + 1) = if c ≠ 0 ∧ L ≤ tn then tn + 1 else L := by rw [lastP, htn, hcD, ← hL]; rfl
                clear hwt hL hnext htb5 htn
                by_cases hc0 : c = 0
                · rw [if_neg (by rintro ⟨e, _⟩; exact e hc0)] at hL2
                  repeat' (first | (with_reducible first | refine SW_seq ?_ | refine SW_block ?_ | refine SThen_n ?_ | refine SThen_r ?_ | refine SThen_e ?_ | refine SIn_n ?_ | refine SIn_r ?_ | refine SIn_eq ?_ | refine SW_skip ?_ | refine SW_exit ?_ | refine SW_ret ?_ | refine SPost_r ?_) | ((with_reducible refine SIn_ne ?_ ?_); focus decide) | ((with_reducible refine SW_true ?_ ?_); focus exact rfl) | ((with_reducible refine SW_false ?_ ?_); focus exact rfl) | ((first | (with_reducible apply SW_run tt_ok hG htb) | ((with_reducible apply SW_draw rfl tt_ok hG htb); (focus kernel_rfl); (focus (simp only [List.range, List.range.loop, List.size_toArray, List.length_cons, List.length_nil, Nat.reduceAdd])))); focus ((repeat' (first | (with_reducible exact runX_nil) | (with_reducible exact runI_nil) | ((first | (with_reducible apply runX_cons) | (with_reducible apply runI_cons)); focus (simp (discharger := omega) only [go_sem, ht, hc, hc0, simprocAttr]; with_reducible rfl)))); done)))
                  exact ⟨coefs.length - (m + 1), _, by omega, Norm.headS (own := [(10, 111, 7, true), (14, 3, 1, true)]) (keep := [0, 1, 10, 11, 12, 13, 14, 15, 16]) (by refine ⟨?_, ?_⟩; (simp (discharger := omega) only [go_sem, simprocAttr]; with_reducible rfl); refine ⟨?_, ?_, ?_, ?_⟩ <;> (simp only [go_sem, simprocAttr]; with_reducible rfl)), m + 1, _, _, rfl, rfl, by omega, by rw [← hw2, hc0]; rfl, hL2.symm⟩
                · by_cases hLt : L ≤ tn
                  · rw [if_pos ⟨hc0, hLt⟩] at hL2
                    repeat' (first | (with_reducible first | refine SW_seq ?_ | refine SW_block ?_ | refine SThen_n ?_ | refine SThen_r ?_ | refine SThen_e ?_ | refine SIn_n ?_ | refine SIn_r ?_ | refine SIn_eq ?_ | refine SW_skip ?_ | refine SW_exit ?_ | refine SW_ret ?_ | refine SPost_r ?_) | ((with_reducible refine SIn_ne ?_ ?_); focus decide) | ((with_reducible refine SW_true ?_ ?_); focus exact rfl) | ((with_reducible refine SW_false ?_ ?_); focus exact rfl) | ((first | (with_reducible apply SW_run tt_ok hG htb) | ((with_reducible apply SW_draw rfl tt_ok hG htb); (focus kernel_rfl); (focus (simp only [List.range, List.range.loop, List.size_toArray, List.length_cons, List.length_nil, Nat.reduceAdd])))); focus ((repeat' (first | (with_reducible exact runX_nil) | (with_reducible exact runI_nil) | ((first | (with_reducible apply runX_cons) | (with_reducible apply runI_cons)); focus (simp (discharger := omega) only [go_sem, ht, hc, hc0, simprocAttr]; with_reducible rfl)))); done)))
                    exact ⟨coefs.length - (m + 1), _, by omega, Norm.headS (own := [(10, 111, 7, true), (14, 3, 1, true)]) (keep := [0, 1, 10, 11, 12, 13, 14, 15, 16]) (by refine ⟨?_, ?_⟩; (simp (discharger := omega) only [go_sem, simprocAttr]; with_reducible rfl); refine ⟨?_, ?_, ?_, ?_⟩ <;> (simp only [go_sem, simprocAttr]; with_reducible rfl)), m + 1, _, _, rfl, rfl, by omega, hw2, hL2.symm⟩
                  · rw [if_neg (by rintro ⟨_, e⟩; exact hLt e)] at hL2
                    repeat' (first | (with_reducible first | refine SW_seq ?_ | refine SW_block ?_ | refine SThen_n ?_ | refine SThen_r ?_ | refine SThen_e ?_ | refine SIn_n ?_ | refine SIn_r ?_ | refine SIn_eq ?_ | refine SW_skip ?_ | refine SW_exit ?_ | refine SW_ret ?_ | refine SPost_r ?_) | ((with_reducible refine SIn_ne ?_ ?_); focus decide) | ((with_reducible refine SW_true ?_ ?_); focus exact rfl) | ((with_reducible refine SW_false ?_ ?_); focus exact rfl) | ((first | (with_reducible apply SW_run tt_ok hG htb) | ((with_reducible apply SW_draw rfl tt_ok hG htb); (focus kernel_rfl); (focus (simp only [List.range, List.range.loop, List.size_toArray, List.length_cons, List.length_nil, Nat.reduceAdd])))); focus ((repeat' (first | (with_reducible exact runX_nil) | (with_reducible exact runI_nil) | ((first | (with_reducible apply runX_cons) | (with_reducible apply runI_cons)); focus (simp (discharger := omega) only [go_sem, ht, hc, hc0, simprocAttr]; with_reducible rfl)))); done)))
                    exact ⟨coefs.length - (m + 1), _, by omega, Norm.headS (own := [(10, 111, 7, true), (14, 3, 1, true)]) (keep := [0, 1, 10, 11, 12, 13, 14, 15, 16]) (by refine ⟨?_, ?_⟩; (simp (discharger := omega) only [go_sem, simprocAttr]; with_reducible rfl); refine ⟨?_, ?_, ?_, ?_⟩ <;> (simp only [go_sem, simprocAttr]; with_reducible rfl)), m + 1, _, _, rfl, rfl, by omega, hw2, hL2.symm⟩
              · obtain rfl : m = coefs.length := by omega
                have hcs : renC coefs to = (rowP coefs to coefs.length).take L := by rw [hL]; rfl
                rw [hwt, List.length_map] at hwl
                subst hwt
                generalize rowP coefs to coefs.length = rr at *
                have hall : ∀ l : List Int, (l.all fun _ => true) = true := fun l => by simp
                clear hL hmlt hm
                refine SW_norm (Norm.frzRow 3 rfl) ?_
                repeat' (first | (with_reducible first | refine SW_seq ?_ | refine SW_block ?_ | refine SThen_n ?_ | refine SThen_r ?_ | refine SThen_e ?_ | refine SIn_n ?_ | refine SIn_r ?_ | refine SIn_eq ?_ | refine SW_skip ?_ | refine SW_exit ?_ | refine SW_ret ?_ | refine SPost_r ?_) | ((with_reducible refine SIn_ne ?_ ?_); focus decide) | ((with_reducible refine SW_true ?_ ?_); focus exact rfl) | ((with_reducible refine SW_false ?_ ?_); focus exact rfl) | ((first | (with_reducible apply SW_run tt_ok hG htb) | ((with_reducible apply SW_draw rfl tt_ok hG htb); (focus kernel_rfl); (focus (simp only [List.range, List.range.loop, List.size_toArray, List.length_cons, List.length_nil, Nat.reduceAdd])))); focus ((repeat' (first | (with_reducible exact runX_nil) | (with_reducible exact runI_nil) | ((first | (with_reducible apply runX_cons) | (with_reducible apply runI_cons)); focus (simp (discharger := omega) only [go_sem, Function.comp_def, hall, hwl, simprocAttr]; with_reducible rfl)))); done)))
                exact ⟨f.length - (i + 1), _, by omega, Norm.headS (own := [(10, 111, 7, true)]) (keep := [0, 1, 10, 11]) (by refine ⟨?_, ?_⟩; (simp (discharger := omega) only [go_sem, simprocAttr]; with_reducible rfl); refine ⟨?_, ?_, ?_, ?_⟩ <;> (simp only [go_sem, simprocAttr]; with_reducible rfl)), i + 1, _, rfl, rfl, by omega, hnext _ (by rw [hcs]; simp [tNode, tInts, List.map_take]; exact ⟨rfl, rfl, rfl, rfl, rfl, rfl⟩)⟩
        · obtain rfl : i = f.length := by omega
          rw [List.take_length] at hot
          rw [← hot]
          repeat' (first | (with_reducible first | refine SW_seq ?_ | refine SW_block ?_ | refine SThen_n ?_ | refine SThen_r ?_ | refine SThen_e ?_ | refine SIn_n ?_ | refine SIn_r ?_ | refine SIn_eq ?_ | refine SW_skip ?_ | refine SW_exit ?_ | refine SW_ret ?_ | refine SPost_r ?_) | ((with_reducible refine SIn_ne ?_ ?_); focus decide) | ((with_reducible refine SW_true ?_ ?_); focus exact rfl) | ((with_reducible refine SW_false ?_ ?_); focus exact rfl) | ((first | (with_reducible apply SW_run tt_ok hG htb) | ((with_reducible apply SW_draw rfl tt_ok hG htb); (focus kernel_rfl); (focus (simp only [List.range, List.range.loop, List.size_toArray, List.length_cons, List.length_nil, Nat.reduceAdd])))); focus ((repeat' (first | (with_reducible exact runX_nil) | (with_reducible exact runI_nil) | ((first | (with_reducible apply runX_cons) | (with_reducible apply runI_cons)); focus (simp (discharger := omega) only [go_sem, simprocAttr]; with_reducible rfl)))); done)))
          exact (by simp (discharger := omega) only [go_sem, simprocAttr])
    · have hre : renErr f to = 2 := by unfold renErr; rw [if_neg (by omega), if_pos h5]
      rw [bad 2 hre (by decide), hre]
      have h5' : ¬ (to.length : Int) = 5 := by omega
      repeat' (first | (with_reducible first | refine SW_seq ?_ | refine SW_block ?_ | refine SThen_n ?_ | refine SThen_r ?_ | refine SThen_e ?_ | refine SIn_n ?_ | refine SIn_r ?_ | refine SIn_eq ?_ | refine SW_skip ?_ | refine SW_exit ?_ | refine SW_ret ?_ | refine SPost_r ?_) | ((with_reducible refine SIn_ne ?_ ?_); focus decide) | ((with_reducible refine SW_true ?_ ?_); focus exact rfl) | ((with_reducible refine SW_false ?_ ?_); focus exact rfl) | ((first | (with_reducible apply SW_run tt_ok hG htb) | ((with_reducible apply SW_draw rfl tt_ok hG htb); (focus kernel_rfl); (focus (simp only [List.range, List.range.loop, List.size_toArray, List.length_cons, List.length_nil, Nat.reduceAdd])))); focus ((repeat' (first | (with_reducible exact runX_nil) | (with_reducible exact runI_nil) | ((first | (with_reducible apply runX_cons) | (with_reducible apply runI_cons)); focus (simp (discharger := omega) only [go_sem, h5', simprocAttr]; with_reducible rfl)))); done)))
      exact (by simp (discharger := omega) only [go_sem, simprocAttr])
  · have hre : renErr f to = (formErr f).2 := by unfold renErr; rw [if_pos h]
    rw [bad _ hre h, hre]
    generalize (formErr f).2 = e at *
    generalize (formErr f).1 = a at *
    have htb := Tab.cons c1 Tab.nil
    repeat' (first | (with_reducible first | refine SW_seq ?_ | refine SW_block ?_ | refine SThen_n ?_ | refine SThen_r ?_ | refine SThen_e ?_ | refine SIn_n ?_ | refine SIn_r ?_ | refine SIn_eq ?_ | refine SW_skip ?_ | refine SW_exit ?_ | refine SW_ret ?_ | refine SPost_r ?_) | ((with_reducible refine SIn_ne ?_ ?_); focus decide) | ((with_reducible refine SW_true ?_ ?_); focus exact rfl) | ((with_reducible refine SW_false ?_ ?_); focus exact rfl) | ((first | (with_reducible apply SW_run tt_ok hG htb) | ((with_reducible apply SW_draw rfl tt_ok hG htb); (focus kernel_rfl); (focus (simp only [List.range, List.range.loop, List.size_toArray, List.length_cons, List.length_nil, Nat.reduceAdd])))); focus ((repeat' (first | (with_reducible exact runX_nil) | (with_reducible exact runI_nil) | ((first | (with_reducible apply runX_cons) | (with_reducible apply runI_cons)); focus (simp (discharger := omega) only [go_sem, h, simprocAttr]; with_reducible rfl)))); done)))
    exact (by simp (discharger := omega) only [go_sem, h, simprocAttr])
set_option maxHeartbeats 8000000 in
set_option maxRecDepth 100000 in
theorem RBoundOf_snd (f : List GNode) (v u : Int) : Snd Tryd.prog G 34 [tForm f, tInt v, tInt u] (.tup [tForm (boundF f v u), tInt (boundErr f v u)]) := by
  have c1 := RFormFault_snd hG f
  unfold tForm at c1 ⊢
  refine snd_of_body (n := 68) (tm := [(0, .t (.list (f.map tNode))), (1, .t (tInt v)), (2, .t (tInt u))]) (rs := [.tmp 6, .tmp 7]) tt_ok Tryd.func34 rfl rfl rfl rfl rfl ?_
  have bad : ∀ e, boundErr f v u = e → e ≠ 0 → (boundF f v u).map tNode = [] := fun e h1 h2 => by unfold boundF; rw [if_neg (by omega)]; rfl
  refine SW_len (t := 0) rfl fun hcl => ?_
  rw [List.length_map] at hcl
  by_cases h : (formErr f).2 = 0
  · obtain ⟨h0, hl, hne, hp, e1⟩ := form_ok h
    rw [h, e1] at c1
    clear hp
    have htb := Tab.cons c1 Tab.nil
    by_cases hv : 0 ≤ v ∧ v < 5
    · have hiv : isVar v = true := decide_eq_true hv
      by_cases hu : 0 ≤ u ∧ u < 5
      · have hiu : isVar u = true := decide_eq_true hu
        obtain ⟨vn, rfl⟩ := Int.eq_ofNat_of_zero_le hv.1
        obtain ⟨un, rfl⟩ := Int.eq_ofNat_of_zero_le hu.1
        by_cases huv : vn = un
        · subst huv
          have hE : boundErr f vn vn = 6 := by unfold boundErr; rw [if_neg (by omega), if_neg (by rw [hiv]; simp), if_pos rfl]
          rw [bad 6 hE (by decide), hE]
          repeat' (first | (with_reducible first | refine SW_seq ?_ | refine SW_block ?_ | refine SThen_n ?_ | refine SThen_r ?_ | refine SThen_e ?_ | refine SIn_n ?_ | refine SIn_r ?_ | refine SIn_eq ?_ | refine SW_skip ?_ | refine SW_exit ?_ | refine SW_ret ?_ | refine SPost_r ?_) | ((with_reducible refine SIn_ne ?_ ?_); focus decide) | ((with_reducible refine SW_true ?_ ?_); focus exact rfl) | ((with_reducible refine SW_false ?_ ?_); focus exact rfl) | ((first | (with_reducible apply SW_run tt_ok hG htb) | ((with_reducible apply SW_draw rfl tt_ok hG htb); (focus kernel_rfl); (focus (simp only [List.range, List.range.loop, List.size_toArray, List.length_cons, List.length_nil, Nat.reduceAdd])))); focus ((repeat' (first | (with_reducible exact runX_nil) | (with_reducible exact runI_nil) | ((first | (with_reducible apply runX_cons) | (with_reducible apply runI_cons)); focus (simp (discharger := omega) only [go_sem, simprocAttr]; with_reducible rfl)))); done)))
          exact (by simp (discharger := omega) only [go_sem, simprocAttr])
        · by_cases hlen : 36 < f.length
          · have hE : boundErr f vn un = 3 := by unfold boundErr; rw [if_neg (by omega), if_neg (by rw [hiv, hiu]; simp), if_neg (by omega), if_pos hlen]
            rw [bad 3 hE (by decide), hE]
            repeat' (first | (with_reducible first | refine SW_seq ?_ | refine SW_block ?_ | refine SThen_n ?_ | refine SThen_r ?_ | refine SThen_e ?_ | refine SIn_n ?_ | refine SIn_r ?_ | refine SIn_eq ?_ | refine SW_skip ?_ | refine SW_exit ?_ | refine SW_ret ?_ | refine SPost_r ?_) | ((with_reducible refine SIn_ne ?_ ?_); focus decide) | ((with_reducible refine SW_true ?_ ?_); focus exact rfl) | ((with_reducible refine SW_false ?_ ?_); focus exact rfl) | ((first | (with_reducible apply SW_run tt_ok hG htb) | ((with_reducible apply SW_draw rfl tt_ok hG htb); (focus kernel_rfl); (focus (simp only [List.range, List.range.loop, List.size_toArray, List.length_cons, List.length_nil, Nat.reduceAdd])))); focus ((repeat' (first | (with_reducible exact runX_nil) | (with_reducible exact runI_nil) | ((first | (with_reducible apply runX_cons) | (with_reducible apply runI_cons)); focus (simp (discharger := omega) only [go_sem, simprocAttr]; with_reducible rfl)))); done)))
            exact (by simp (discharger := omega) only [go_sem, simprocAttr])
          · have hE : boundErr f vn un = 0 := by unfold boundErr; rw [if_neg (by omega), if_neg (by rw [hiv, hiu]; simp), if_neg (by omega), if_neg hlen]
            by_cases hm : vn < un
            · rw [bound_map hE (mx := un) (by omega), hE]
              clear bad hE hiv hiu
              have hK : (un : Int) + 1 = ((un + 1 : Nat) : Int) := by omega
              have hgt : ((List.replicate (un + 1) (T.int IntKind.i64 0)).set vn (T.int IntKind.i64 1))[un]? = some (T.int IntKind.i64 0) := by rw [List.getElem?_set_ne huv, List.getElem?_replicate, if_pos (by omega)]
              have hallN : ∀ l : List GNode, (l.all fun _ => true) = true := fun l => by simp
              repeat' (first | (with_reducible first | refine SW_seq ?_ | refine SW_block ?_ | refine SThen_n ?_ | refine SThen_r ?_ | refine SThen_e ?_ | refine SIn_n ?_ | refine SIn_r ?_ | refine SIn_eq ?_ | refine SW_skip ?_ | refine SW_exit ?_ | refine SW_ret ?_ | refine SPost_r ?_) | ((with_reducible refine SIn_ne ?_ ?_); focus decide) | ((with_reducible refine SW_true ?_ ?_); focus exact rfl) | ((with_reducible refine SW_false ?_ ?_); focus exact rfl) | ((first | (with_reducible apply SW_run tt_ok hG htb) | ((with_reducible apply SW_draw rfl tt_ok hG htb); (focus kernel_rfl); (focus (simp only [List.range, List.range.loop, List.size_toArray, List.length_cons, List.length_nil, Nat.reduceAdd])))); focus ((repeat' (first | (with_reducible exact runX_nil) | (with_reducible exact runI_nil) | ((first | (with_reducible apply runX_cons) | (with_reducible apply runI_cons)); focus (simp (discharger := omega) only [go_sem, hK, List.length_set, hgt, tNode, Function.comp_def, hallN, simprocAttr]; with_reducible rfl)))); done)))
              exact (by simp (discharger := omega) only [go_sem, simprocAttr])
            · rw [bound_map hE (mx := vn) (by omega), hE]
              clear bad hE hiv hiu
              have hK : (vn : Int) + 1 = ((vn + 1 : Nat) : Int) := by omega
              have hgt : ((List.replicate (vn + 1) (T.int IntKind.i64 0)).set vn (T.int IntKind.i64 1))[un]? = some (T.int IntKind.i64 0) := by rw [List.getElem?_set_ne huv, List.getElem?_replicate, if_pos (by omega)]
              have hallN : ∀ l : List GNode, (l.all fun _ => true) = true := fun l => by simp
              repeat' (first | (with_reducible first | refine SW_seq ?_ | refine SW_block ?_ | refine SThen_n ?_ | refine SThen_r ?_ | refine SThen_e ?_ | refine SIn_n ?_ | refine SIn_r ?_ | refine SIn_eq ?_ | refine SW_skip ?_ | refine SW_exit ?_ | refine SW_ret ?_ | refine SPost_r ?_) | ((with_reducible refine SIn_ne ?_ ?_); focus decide) | ((with_reducible refine SW_true ?_ ?_); focus exact rfl) | ((with_reducible refine SW_false ?_ ?_); focus exact rfl) | ((first | (with_reducible apply SW_run tt_ok hG htb) | ((with_reducible apply SW_draw rfl tt_ok hG htb); (focus kernel_rfl); (focus (simp only [List.range, List.range.loop, List.size_toArray, List.length_cons, List.length_nil, Nat.reduceAdd])))); focus ((repeat' (first | (with_reducible exact runX_nil) | (with_reducible exact runI_nil) | ((first | (with_reducible apply runX_cons) | (with_reducible apply runI_cons)); focus (simp (discharger := omega) only [go_sem, hK, List.length_set, hgt, tNode, Function.comp_def, hallN, simprocAttr]; with_reducible rfl)))); done)))
              exact (by simp (discharger := omega) only [go_sem, simprocAttr])
      · have hE : boundErr f v u = 1 := by unfold boundErr; rw [if_neg (by omega), if_pos (.inr (decide_eq_false hu))]
        rw [bad 1 hE (by decide), hE]
        have hu' : u < 0 ∨ 5 ≤ u := by omega
        rcases hu' with hu' | hu'
        · repeat' (first | (with_reducible first | refine SW_seq ?_ | refine SW_block ?_ | refine SThen_n ?_ | refine SThen_r ?_ | refine SThen_e ?_ | refine SIn_n ?_ | refine SIn_r ?_ | refine SIn_eq ?_ | refine SW_skip ?_ | refine SW_exit ?_ | refine SW_ret ?_ | refine SPost_r ?_) | ((with_reducible refine SIn_ne ?_ ?_); focus decide) | ((with_reducible refine SW_true ?_ ?_); focus exact rfl) | ((with_reducible refine SW_false ?_ ?_); focus exact rfl) | ((first | (with_reducible apply SW_run tt_ok hG htb) | ((with_reducible apply SW_draw rfl tt_ok hG htb); (focus kernel_rfl); (focus (simp only [List.range, List.range.loop, List.size_toArray, List.length_cons, List.length_nil, Nat.reduceAdd])))); focus ((repeat' (first | (with_reducible exact runX_nil) | (with_reducible exact runI_nil) | ((first | (with_reducible apply runX_cons) | (with_reducible apply runI_cons)); focus (simp (discharger := omega) only [go_sem, simprocAttr]; with_reducible rfl)))); done)))
          exact (by simp (discharger := omega) only [go_sem, simprocAttr])
        · repeat' (first | (with_reducible first | refine SW_seq ?_ | refine SW_block ?_ | refine SThen_n ?_ | refine SThen_r ?_ | refine SThen_e ?_ | refine SIn_n ?_ | refine SIn_r ?_ | refine SIn_eq ?_ | refine SW_skip ?_ | refine SW_exit ?_ | refine SW_ret ?_ | refine SPost_r ?_) | ((with_reducible refine SIn_ne ?_ ?_); focus decide) | ((with_reducible refine SW_true ?_ ?_); focus exact rfl) | ((with_reducible refine SW_false ?_ ?_); focus exact rfl) | ((first | (with_reducible apply SW_run tt_ok hG htb) | ((with_reducible apply SW_draw rfl tt_ok hG htb); (focus kernel_rfl); (focus (simp only [List.range, List.range.loop, List.size_toArray, List.length_cons, List.length_nil, Nat.reduceAdd])))); focus ((repeat' (first | (with_reducible exact runX_nil) | (with_reducible exact runI_nil) | ((first | (with_reducible apply runX_cons) | (with_reducible apply runI_cons)); focus (simp (discharger := omega) only [go_sem, simprocAttr]; with_reducible rfl)))); done)))
          exact (by simp (discharger := omega) only [go_sem, simprocAttr])
    · have hE : boundErr f v u = 1 := by unfold boundErr; rw [if_neg (by omega), if_pos (.inl (decide_eq_false hv))]
      rw [bad 1 hE (by decide), hE]
      have hv' : v < 0 ∨ 5 ≤ v := by omega
      rcases hv' with hv' | hv'
      · repeat' (first | (with_reducible first | refine SW_seq ?_ | refine SW_block ?_ | refine SThen_n ?_ | refine SThen_r ?_ | refine SThen_e ?_ | refine SIn_n ?_ | refine SIn_r ?_ | refine SIn_eq ?_ | refine SW_skip ?_ | refine SW_exit ?_ | refine SW_ret ?_ | refine SPost_r ?_) | ((with_reducible refine SIn_ne ?_ ?_); focus decide) | ((with_reducible refine SW_true ?_ ?_); focus exact rfl) | ((with_reducible refine SW_false ?_ ?_); focus exact rfl) | ((first | (with_reducible apply SW_run tt_ok hG htb) | ((with_reducible apply SW_draw rfl tt_ok hG htb); (focus kernel_rfl); (focus (simp only [List.range, List.range.loop, List.size_toArray, List.length_cons, List.length_nil, Nat.reduceAdd])))); focus ((repeat' (first | (with_reducible exact runX_nil) | (with_reducible exact runI_nil) | ((first | (with_reducible apply runX_cons) | (with_reducible apply runI_cons)); focus (simp (discharger := omega) only [go_sem, simprocAttr]; with_reducible rfl)))); done)))
        exact (by simp (discharger := omega) only [go_sem, simprocAttr])
      · repeat' (first | (with_reducible first | refine SW_seq ?_ | refine SW_block ?_ | refine SThen_n ?_ | refine SThen_r ?_ | refine SThen_e ?_ | refine SIn_n ?_ | refine SIn_r ?_ | refine SIn_eq ?_ | refine SW_skip ?_ | refine SW_exit ?_ | refine SW_ret ?_ | refine SPost_r ?_) | ((with_reducible refine SIn_ne ?_ ?_); focus decide) | ((with_reducible refine SW_true ?_ ?_); focus exact rfl) | ((with_reducible refine SW_false ?_ ?_); focus exact rfl) | ((first | (with_reducible apply SW_run tt_ok hG htb) | ((with_reducible apply SW_draw rfl tt_ok hG htb); (focus kernel_rfl); (focus (simp only [List.range, List.range.loop, List.size_toArray, List.length_cons, List.length_nil, Nat.reduceAdd])))); focus ((repeat' (first | (with_reducible exact runX_nil) | (with_reducible exact runI_nil) | ((first | (with_reducible apply runX_cons) | (with_reducible apply runI_cons)); focus (simp (discharger := omega) only [go_sem, simprocAttr]; with_reducible rfl)))); done)))
        exact (by simp (discharger := omega) only [go_sem, simprocAttr])
  · have hE : boundErr f v u = (formErr f).2 := by unfold boundErr; rw [if_pos h]
    rw [bad _ hE h, hE]
    generalize (formErr f).2 = e at *
    generalize (formErr f).1 = a at *
    have htb := Tab.cons c1 Tab.nil
    repeat' (first | (with_reducible first | refine SW_seq ?_ | refine SW_block ?_ | refine SThen_n ?_ | refine SThen_r ?_ | refine SThen_e ?_ | refine SIn_n ?_ | refine SIn_r ?_ | refine SIn_eq ?_ | refine SW_skip ?_ | refine SW_exit ?_ | refine SW_ret ?_ | refine SPost_r ?_) | ((with_reducible refine SIn_ne ?_ ?_); focus decide) | ((with_reducible refine SW_true ?_ ?_); focus exact rfl) | ((with_reducible refine SW_false ?_ ?_); focus exact rfl) | ((first | (with_reducible apply SW_run tt_ok hG htb) | ((with_reducible apply SW_draw rfl tt_ok hG htb); (focus kernel_rfl); (focus (simp only [List.range, List.range.loop, List.size_toArray, List.length_cons, List.length_nil, Nat.reduceAdd])))); focus ((repeat' (first | (with_reducible exact runX_nil) | (with_reducible exact runI_nil) | ((first | (with_reducible apply runX_cons) | (with_reducible apply runI_cons)); focus (simp (discharger := omega) only [go_sem, h, simprocAttr]; with_reducible rfl)))); done)))
    exact (by simp (discharger := omega) only [go_sem, h, simprocAttr])
end
end Go.Proofs.YtfhncnhkeodngaaDoor
namespace Go.Proofs.YtfhncnhkeodngaaDoor
open Go.RowKit
theorem repErr_inv {S : Nat → Prop} {w : World} {v : Value} {e : Int} (h : RepT S w (tErr e) v) : v = errV 26 e := by
  unfold tErr at h; unfold errV
  split at h
  · rename_i h0
    rw [if_pos h0]; cases h; rfl
  · rename_i h0
    rw [if_neg h0]
    cases h with
    | iface t x v h => cases h; rfl
theorem errCell_lasting : Lasting errCell := fun _ _ hb h => errCell.below h hb
theorem Error_snd (e f : Int) : Snd Tryd.prog errCell 13 [tErr e, tInt f] (.bool (e == f)) :=
  snd2 Tryd.func13 rfl rfl fun S w v u hg _ h h' => by
    obtain rfl := repErr_inv h; obtain rfl := intInv h'
    exact ⟨_, Error_calls e f w hg, fun S w => .bool _⟩
end Go.Proofs.YtfhncnhkeodngaaDoor
namespace Go.Proofs.YtfhncnhkeodngaaDoor
open Go.ChangeShapes Go.WideShapes Go.ChangeAt Go.RowKit Go.Joins Go.Deep

section
variable {H : Type} {enc : TypeId × Value → H} {w : World} {sp : Nat → Bool} {held : Bool}
/-- One cell that reads as a datum. -/
def OpensT (enc : TypeId × Value → H) (w : World) (sp : Nat → Bool) (held : Bool) (T : TypeId) (Q : Go.Proofs.YtfhncnhkeodngaaDoor.T → Prop) : Prop :=
  ∀ n v y, DataW.trod enc Tryd.prog w 0 sp held n T [v] = some y → v.oneCell' = true ∧ ∃ x, Q x ∧ x.cells = [x] ∧ RepT (· < w.heap.size) w x v
theorem flat_cells : ∀ {l : List Go.Proofs.YtfhncnhkeodngaaDoor.T}, (∀ x ∈ l, x.cells = [x]) → Go.Proofs.YtfhncnhkeodngaaDoor.flat l = l
  | [], _ => rfl
  | a :: t, h => by
    have := flat_cells fun x hx => h x (List.mem_cons_of_mem a hx)
    simp only [Go.Proofs.YtfhncnhkeodngaaDoor.flat, List.flatMap_cons] at this ⊢
    rw [this, h a List.mem_cons_self]; rfl
theorem opensT_int {T : TypeId} (ht : Tryd.prog.underlying T = some (.int .i64)) : OpensT enc w sp held T fun x => ∃ n, x = tInt n ∧ I64 n := by
  intro n v y h
  obtain ⟨a, rfl, h2⟩ := opens_int ht n v y h
  exact ⟨rfl, _, ⟨a, rfl, h2⟩, rfl, .int _ _⟩
theorem opensT_slice {T e : TypeId} {Q : Go.Proofs.YtfhncnhkeodngaaDoor.T → Prop} (ht : Tryd.prog.underlying T = some (.slice e)) (hc : Tryd.prog.cellsOf e = 1) (hE : OpensT enc w sp held e Q) :
    OpensT enc w sp held T fun x => ∃ l, x = .list l ∧ ∀ y ∈ l, Q y := by
  intro n v y h
  rcases open_slice1 ht hc h with ⟨hcs, _⟩ | ⟨a, len, cap, m, n', V, D, Pl, hcs, _, hl, hcap, hm, _, hx⟩
  · obtain rfl : v = .slice none 0 0 := by simpa using hcs
    exact ⟨rfl, _, ⟨[], rfl, fun y hy => by simp at hy⟩, rfl, .list [] none 0 1 (fun _ => undef) (Nat.zero_le _) Nat.one_pos (fun x hx => by simp at hx) (fun h => (h rfl).elim) (fun k hk => by simp at hk) (fun k y hy => by simp [Go.Proofs.YtfhncnhkeodngaaDoor.flat] at hy) (Nat.le_refl _)⟩
  · obtain rfl : v = .slice (some a) len cap := by simpa using hcs
    have hlm : len ≤ m := by rw [hm]; split <;> omega
    have hall : ∀ i, i < len → (V i).oneCell' = true ∧ ∃ b, Q b ∧ b.cells = [b] ∧ RepT (· < w.heap.size) w b (V i) := fun i hi => hE _ _ _ (hx i (by omega)).2
    have key : ∀ k, k ≤ len → ∃ l : List Go.Proofs.YtfhncnhkeodngaaDoor.T, l.length = k ∧ ∀ i (hi : i < l.length), Q l[i] ∧ l[i].cells = [l[i]] ∧ RepT (· < w.heap.size) w l[i] (V i) := by
      intro k
      induction k with
      | zero => intro _; exact ⟨[], rfl, fun i hi => absurd hi (by simp)⟩
      | succ k ih =>
        intro hk
        obtain ⟨l, hl1, hl2⟩ := ih (by omega)
        obtain ⟨_, b, hb⟩ := hall k (by omega)
        refine ⟨l ++ [b], by simp [hl1], fun i hi => ?_⟩
        rw [List.getElem_append]
        split
        · exact hl2 i ‹_›
        · obtain rfl : i = k := by simp at hi; omega
          simpa using hb
    obtain ⟨l, hl1, hl2⟩ := key len (Nat.le_refl _)
    subst hl1
    have hcells : ∀ x ∈ l, x.cells = [x] := fun x hx => by obtain ⟨i, hi, rfl⟩ := List.mem_iff_getElem.1 hx; exact (hl2 i hi).2.1
    have hfl := flat_cells hcells
    refine ⟨rfl, _, ⟨l, rfl, fun y hy => by obtain ⟨i, hi, rfl⟩ := List.mem_iff_getElem.1 hy; exact (hl2 i hi).1⟩, rfl, ?_⟩
    refine .list l (some a) cap 1 V (by simp only [maxLen] at hcap ⊢; omega) Nat.one_pos (fun x hx => by rw [hcells x hx]; rfl) (fun hne => ?_) (fun k hk => (hall k (by omega)).1) (fun k y hy => ?_) (by omega)
    · obtain ⟨b, off, spot⟩ := a
      have hpos : 0 < l.length := List.length_pos_iff.2 hne
      have hc1 := (hx 0 (by omega)).1
      have hspot : spot = none := by simpa [Addr.add] using World.cell?_spot hc1
      subst hspot
      have hadd : ∀ i, (⟨b, off, none⟩ : Addr).add i = ⟨b, off + i, none⟩ := fun i => by unfold Addr.add; split <;> simp_all
      refine ⟨b, off, rfl, ?_, fun k hk => ?_⟩
      · rw [hadd] at hc1; exact cell_lt hc1
      · have := (hx k (by omega)).1
        rw [hadd] at this; exact this
    · rw [hfl] at hy
      obtain ⟨hk, rfl⟩ := List.getElem?_eq_some_iff.1 hy
      exact (hl2 k hk).2.2
theorem allMap {α : Type} {f : α → Go.Proofs.YtfhncnhkeodngaaDoor.T} {Q : α → Prop} : ∀ {l : List Go.Proofs.YtfhncnhkeodngaaDoor.T}, (∀ y ∈ l, ∃ a, y = f a ∧ Q a) → ∃ q : List α, l = q.map f ∧ ∀ a ∈ q, Q a
  | [], _ => ⟨[], rfl, fun a ha => by simp at ha⟩
  | x :: t, h => by
    obtain ⟨a, rfl, ha⟩ := h x List.mem_cons_self
    obtain ⟨q, rfl, hq⟩ := allMap fun y hy => h y (List.mem_cons_of_mem _ hy)
    exact ⟨a :: q, rfl, fun b hb => by
      rcases List.mem_cons.1 hb with rfl | hb
      · exact ha
      · exact hq b hb⟩
theorem opensT_ints {T : TypeId} (h : OpensT enc w sp held T fun x => ∃ l, x = .list l ∧ ∀ y ∈ l, ∃ n, y = tInt n ∧ I64 n) : OpensT enc w sp held T fun x => ∃ l, x = tInts l ∧ I64s l := fun n v y hy => by
  obtain ⟨h1, x, ⟨l, rfl, hl⟩, h2, h3⟩ := h n v y hy
  obtain ⟨q, rfl, hq⟩ := allMap hl
  exact ⟨h1, _, ⟨q, rfl, hq⟩, rfl, h3⟩
theorem opensIntsT : OpensT enc w sp held 22 fun x => ∃ l, x = tInts l ∧ I64s l := opensT_ints (opensT_slice Tryd.underlying22 (by kernel_rfl) (opensT_int Tryd.underlying3))
/-- An argument that reads as a list of numbers. -/
def ReadsInts (w : World) (v : Value) (l : List Int) : Prop := I64s l ∧ RepT (· < w.heap.size) w (tInts l) v
theorem openIntsT {v : Value} (hv : v.cells = #[v]) {d : DataW H} {p : List MemPlace} (hd : DataW.Trod enc Tryd.prog w 0 sp held 22 v d p) : ∃ l, ReadsInts w v l := by
  obtain ⟨n, hn⟩ := hd
  rw [hv] at hn
  obtain ⟨_, x, ⟨l, rfl, hl⟩, _, h3⟩ := opensIntsT n v _ hn
  exact ⟨l, hl, h3⟩
end
theorem walkN {P : Program} {G : World → Prop} {f : Nat} {xs : List T} {w : World} {vs : Array Value} (h : Snd P G f xs (.bool true)) (hG : G w) (hl : vs.size = xs.length) (hx : ∀ (k : Nat) (y : T) (v : Value), xs[k]? = some y → vs[k]? = some v → RepT (· < w.heap.size) w y v) : Calls P f vs w (Ret (.bool true) w) :=
  (h.calls (· < w.heap.size) w vs hG hl hx).mono fun e w' hq => by obtain ⟨u, h1, h2, h3⟩ := hq; cases h2; exact ⟨h1, h3⟩
end Go.Proofs.YtfhncnhkeodngaaDoor
namespace Go.Proofs.YtfhncnhkeodngaaDoor
open Go.ChangeShapes Go.WideShapes Go.ChangeAt Go.RowKit Go.Joins Go.Deep

section
variable {H : Type} {enc : TypeId × Value → H} {w : World} {sp : Nat → Bool} {held : Bool}
/-- Cells that read as a datum of that many cells. -/
def OpensE (enc : TypeId × Value → H) (w : World) (sp : Nat → Bool) (held : Bool) (T : TypeId) (sz : Nat) (Q : Go.Proofs.YtfhncnhkeodngaaDoor.T → Prop) : Prop :=
  ∀ n cs y, cs.length = sz → DataW.trod enc Tryd.prog w 0 sp held n T cs = some y → ∃ x, Q x ∧ x.cells.length = sz ∧ ∀ (k : Nat) (z : Go.Proofs.YtfhncnhkeodngaaDoor.T) (v : Value), x.cells[k]? = some z → cs[k]? = some v → v.oneCell' = true ∧ RepT (· < w.heap.size) w z v
theorem opensE_slice {T e : TypeId} {sz : Nat} {Q : Go.Proofs.YtfhncnhkeodngaaDoor.T → Prop} (ht : Tryd.prog.underlying T = some (.slice e)) (hc : Tryd.prog.cellsOf e = sz) (h0 : 0 < sz) (hE : OpensE enc w sp held e sz Q) :
    OpensT enc w sp held T fun x => ∃ l, x = .list l ∧ ∀ y ∈ l, Q y := by
  intro n v y h
  rcases open_slice ht h with ⟨hcs, _⟩ | ⟨a, len, cap, m, n', D, Pl, hcs, _, hl, hcap, hm, _, hx⟩
  · obtain rfl : v = .slice none 0 0 := by simpa using hcs
    exact ⟨rfl, _, ⟨[], rfl, fun y hy => by simp at hy⟩, rfl, .list [] none 0 1 (fun _ => undef) (Nat.zero_le _) Nat.one_pos (fun x hx => by simp at hx) (fun h => (h rfl).elim) (fun k hk => by simp at hk) (fun k y hy => by simp [Go.Proofs.YtfhncnhkeodngaaDoor.flat] at hy) (Nat.le_refl _)⟩
  · obtain rfl : v = .slice (some a) len cap := by simpa using hcs
    have hlm : len ≤ m := by rw [hm]; split <;> omega
    rw [hc] at hx
    obtain ⟨q, hq⟩ := choose_lt (α := List Value × Go.Proofs.YtfhncnhkeodngaaDoor.T) (n := len) (p := fun i q => w.cells? 0 (a.add (i * sz)) sz = some q.1 ∧ Q q.2 ∧ q.2.cells.length = sz ∧ ∀ (k : Nat) (z : Go.Proofs.YtfhncnhkeodngaaDoor.T) (v : Value), q.2.cells[k]? = some z → q.1[k]? = some v → v.oneCell' = true ∧ RepT (· < w.heap.size) w z v) (fun i hi => by
      obtain ⟨cs', h1, h2⟩ := hx i (by omega)
      obtain ⟨_, hlen, _⟩ := World.cells?_some h1
      obtain ⟨x, x1, x2, x3⟩ := hE _ _ _ hlen h2
      exact ⟨(cs', x), h1, x1, x2, x3⟩)
    have hll : ((List.range len).map fun i => (q i).2).length = len := by simp
    have hat : ∀ i, i < len → ((List.range len).map fun i => (q i).2)[i]? = some (q i).2 := fun i hi => by simp [hi]
    have hsz : ∀ x ∈ (List.range len).map fun i => (q i).2, x.cells.length = sz := fun x hx => by
      obtain ⟨i, hi, rfl⟩ := List.mem_map.1 hx
      exact (hq i (List.mem_range.1 hi)).2.2.1
    have hQ : ∀ x ∈ (List.range len).map fun i => (q i).2, Q x := fun x hx => by
      obtain ⟨i, hi, rfl⟩ := List.mem_map.1 hx
      exact (hq i (List.mem_range.1 hi)).2.1
    generalize hL : ((List.range len).map fun i => (q i).2) = L at *
    subst hll
    refine ⟨rfl, _, ⟨L, rfl, hQ⟩, rfl, ?_⟩
    have hdiv : ∀ k, k < L.length * sz → k / sz < L.length ∧ k % sz < sz ∧ k / sz * sz + k % sz = k := fun k hk =>
      ⟨(Nat.div_lt_iff_lt_mul h0).2 hk, Nat.mod_lt _ h0, by rw [Nat.mul_comm]; exact Nat.div_add_mod k sz⟩
    have hcell : ∀ k, k < L.length * sz → ∃ v, (q (k / sz)).1[k % sz]? = some v ∧ w.cell? ((a.add (k / sz * sz)).add (k % sz)) = some v ∧ ∃ z, (flat L)[k]? = some z ∧ v.oneCell' = true ∧ RepT (· < w.heap.size) w z v := fun k hk => by
      obtain ⟨d1, d2, d3⟩ := hdiv k hk
      obtain ⟨g1, g2, g3, g4⟩ := hq _ d1
      obtain ⟨_, hlen, hcc⟩ := World.cells?_some g1
      have hv := List.getElem?_eq_getElem (l := (q (k / sz)).1) (i := k % sz) (by omega)
      have hz := List.getElem?_eq_getElem (l := (q (k / sz)).2.cells) (i := k % sz) (by omega)
      refine ⟨_, hv, by rw [hcc _ d2, hv], _, ?_, g4 _ _ _ hz hv⟩
      have := flat_get hsz (hat _ d1) hz
      rwa [d3] at this
    refine .list L (some a) cap sz (fun k => ((q (k / sz)).1[k % sz]?).getD undef) (by simp only [maxLen] at hcap ⊢; omega) h0 hsz (fun hne => ?_) (fun k hk => ?_) (fun k y hy => ?_) (by omega)
    · obtain ⟨b, off, spot⟩ := a
      have hpos : 0 < L.length := List.length_pos_iff.2 hne
      have hp : 0 < L.length * sz := Nat.mul_pos hpos h0
      obtain ⟨v, _, hc1, _⟩ := hcell 0 hp
      rw [add_add] at hc1
      have hspot : spot = none := by simpa [Addr.add] using World.cell?_spot hc1
      subst hspot
      have hadd : ∀ i, (⟨b, off, none⟩ : Addr).add i = ⟨b, off + i, none⟩ := fun i => by unfold Addr.add; split <;> simp_all
      refine ⟨b, off, rfl, ?_, fun k hk => ?_⟩
      · rw [hadd] at hc1; exact cell_lt hc1
      · obtain ⟨v, hv, hc2, _⟩ := hcell k hk
        rw [add_add, (hdiv k hk).2.2, hadd] at hc2
        rw [hc2, hv]; rfl
    · obtain ⟨v, hv, _, _, _, h1, _⟩ := hcell k hk
      rw [hv]; exact h1
    · have hk : k < L.length * sz := by
        have := (List.getElem?_eq_some_iff.1 hy).1
        rwa [flat_length hsz] at this
      obtain ⟨v, hv, _, z, hz, _, h2⟩ := hcell k hk
      rw [hz] at hy
      cases hy
      rw [hv]; exact h2
end
end Go.Proofs.YtfhncnhkeodngaaDoor
namespace Go.Proofs.YtfhncnhkeodngaaDoor
open Go.ChangeShapes Go.WideShapes Go.ChangeAt Go.RowKit Go.Joins Go.Deep

section
variable {H : Type} {enc : TypeId × Value → H} {w : World} {sp : Nat → Bool} {held : Bool}
def I64N (n : GNode) : Prop := I64 n.op ∧ I64 n.var ∧ I64 n.other ∧ I64 n.word ∧ I64 n.word2 ∧ I64 n.num ∧ I64s n.coefs
def ReadsForm (w : World) (v : Value) (f : List GNode) : Prop := (∀ n ∈ f, I64N n) ∧ RepT (· < w.heap.size) w (tForm f) v
theorem seven {cs : List Value} (h : cs.length = 7) : ∃ c0 c1 c2 c3 c4 c5 c6, cs = [c0, c1, c2, c3, c4, c5, c6] := by
  match cs, h with
  | [c0, c1, c2, c3, c4, c5, c6], _ => exact ⟨c0, c1, c2, c3, c4, c5, c6, rfl⟩
theorem seven' {α : Type} {cs : List α} (h : cs.length = 7) : ∃ c0 c1 c2 c3 c4 c5 c6, cs = [c0, c1, c2, c3, c4, c5, c6] := by
  match cs, h with
  | [c0, c1, c2, c3, c4, c5, c6], _ => exact ⟨c0, c1, c2, c3, c4, c5, c6, rfl⟩
set_option maxRecDepth 100000 in
theorem opensNode : OpensE enc w sp held 111 7 fun x => ∃ n, x = tNode n ∧ I64N n := by
  intro fuel cs y hlen h
  obtain ⟨xs, k, _, _, _, hxl, hf⟩ := DataW.trod_struct Tryd.underlying111 h
  obtain ⟨c0, c1, c2, c3, c4, c5, c6, rfl⟩ := seven hlen
  obtain ⟨y0, y1, y2, y3, y4, y5, y6, rfl⟩ := seven' hxl
  have ci : Tryd.prog.cellsOf 3 = 1 := by kernel_rfl
  have cl : Tryd.prog.cellsOf 22 = 1 := by kernel_rfl
  have t0 : DataW.trod enc Tryd.prog w 0 sp held k 3 (([c0, c1, c2, c3, c4, c5, c6].drop 0).take (Tryd.prog.cellsOf 3)) = [y0, y1, y2, y3, y4, y5, y6][0]? := hf 0 _ rfl
  rw [ci] at t0
  have g0 : DataW.trod enc Tryd.prog w 0 sp held k 3 [c0] = some y0 := t0
  have t1 : DataW.trod enc Tryd.prog w 0 sp held k 3 (([c0, c1, c2, c3, c4, c5, c6].drop 1).take (Tryd.prog.cellsOf 3)) = [y0, y1, y2, y3, y4, y5, y6][1]? := hf 1 _ rfl
  rw [ci] at t1
  have g1 : DataW.trod enc Tryd.prog w 0 sp held k 3 [c1] = some y1 := t1
  have t2 : DataW.trod enc Tryd.prog w 0 sp held k 3 (([c0, c1, c2, c3, c4, c5, c6].drop 2).take (Tryd.prog.cellsOf 3)) = [y0, y1, y2, y3, y4, y5, y6][2]? := hf 2 _ rfl
  rw [ci] at t2
  have g2 : DataW.trod enc Tryd.prog w 0 sp held k 3 [c2] = some y2 := t2
  have t3 : DataW.trod enc Tryd.prog w 0 sp held k 3 (([c0, c1, c2, c3, c4, c5, c6].drop 3).take (Tryd.prog.cellsOf 3)) = [y0, y1, y2, y3, y4, y5, y6][3]? := hf 3 _ rfl
  rw [ci] at t3
  have g3 : DataW.trod enc Tryd.prog w 0 sp held k 3 [c3] = some y3 := t3
  have t4 : DataW.trod enc Tryd.prog w 0 sp held k 3 (([c0, c1, c2, c3, c4, c5, c6].drop 4).take (Tryd.prog.cellsOf 3)) = [y0, y1, y2, y3, y4, y5, y6][4]? := hf 4 _ rfl
  rw [ci] at t4
  have g4 : DataW.trod enc Tryd.prog w 0 sp held k 3 [c4] = some y4 := t4
  have t5 : DataW.trod enc Tryd.prog w 0 sp held k 3 (([c0, c1, c2, c3, c4, c5, c6].drop 5).take (Tryd.prog.cellsOf 3)) = [y0, y1, y2, y3, y4, y5, y6][5]? := hf 5 _ rfl
  rw [ci] at t5
  have g5 : DataW.trod enc Tryd.prog w 0 sp held k 3 [c5] = some y5 := t5
  have t6 : DataW.trod enc Tryd.prog w 0 sp held k 22 (([c0, c1, c2, c3, c4, c5, c6].drop 6).take (Tryd.prog.cellsOf 22)) = [y0, y1, y2, y3, y4, y5, y6][6]? := hf 6 _ rfl
  rw [cl] at t6
  have g6 : DataW.trod enc Tryd.prog w 0 sp held k 22 [c6] = some y6 := t6
  obtain ⟨a0, rfl, i0⟩ := opens_int Tryd.underlying3 _ _ _ g0
  obtain ⟨a1, rfl, i1⟩ := opens_int Tryd.underlying3 _ _ _ g1
  obtain ⟨a2, rfl, i2⟩ := opens_int Tryd.underlying3 _ _ _ g2
  obtain ⟨a3, rfl, i3⟩ := opens_int Tryd.underlying3 _ _ _ g3
  obtain ⟨a4, rfl, i4⟩ := opens_int Tryd.underlying3 _ _ _ g4
  obtain ⟨a5, rfl, i5⟩ := opens_int Tryd.underlying3 _ _ _ g5
  obtain ⟨o6, x6, ⟨a6, rfl, i6⟩, _, h6⟩ := opensIntsT _ _ _ g6
  refine ⟨_, ⟨⟨a0, a1, a2, a3, a4, a5, a6⟩, rfl, i0, i1, i2, i3, i4, i5, i6⟩, rfl, fun k z v hz hv => ?_⟩
  match k, hz, hv with
  | 0, hz, hv => cases hz; cases hv; exact ⟨rfl, .int _ _⟩
  | 1, hz, hv => cases hz; cases hv; exact ⟨rfl, .int _ _⟩
  | 2, hz, hv => cases hz; cases hv; exact ⟨rfl, .int _ _⟩
  | 3, hz, hv => cases hz; cases hv; exact ⟨rfl, .int _ _⟩
  | 4, hz, hv => cases hz; cases hv; exact ⟨rfl, .int _ _⟩
  | 5, hz, hv => cases hz; cases hv; exact ⟨rfl, .int _ _⟩
  | 6, hz, hv => cases hz; cases hv; exact ⟨o6, h6⟩
theorem openFormT {v : Value} (hv : v.cells = #[v]) {d : DataW H} {p : List MemPlace} (hd : DataW.Trod enc Tryd.prog w 0 sp held 61 v d p) : ∃ f, ReadsForm w v f := by
  obtain ⟨n, hn⟩ := hd
  rw [hv] at hn
  obtain ⟨_, x, ⟨l, rfl, hl⟩, _, h3⟩ := opensE_slice Tryd.underlying61 (by kernel_rfl) (by decide) opensNode n v _ hn
  obtain ⟨q, rfl, hq⟩ := allMap hl
  exact ⟨q, hq, h3⟩
end
end Go.Proofs.YtfhncnhkeodngaaDoor
namespace Go.Proofs.YtfhncnhkeodngaaDoor
open Go.RowKit

set_option maxHeartbeats 4000000 in
set_option maxRecDepth 100000 in
theorem FormChecks_snd (f : List GNode) (to : List Int) (v u : Int) : Snd Tryd.prog errCell 7 [tForm f, tInts to, tInt v, tInt u] (.bool true) := by
  have hG := errCell_lasting
  have c1 := RFormFault_snd (G := errCell) hG f
  have c2 := Check_form_snd (G := errCell) hG f
  have c3 := FreeV_snd (G := errCell) hG f
  have c4 := RRenamedOf_snd (G := errCell) hG f to
  have c5 := Rename_snd (G := errCell) hG f to
  have c6 := RBoundOf_snd (G := errCell) hG f v u
  have c7 := Bound_snd (G := errCell) hG f v u
  have n1 := Nodes_snd (G := errCell) hG (renF f to)
  have n2 := Nodes_snd (G := errCell) hG (boundF f v u)
  refine snd_of_body (n := 108) (tm := [(0, .t (tForm f)), (1, .t (tInts to)), (2, .t (tInt v)), (3, .t (tInt u))]) (rs := [.tmp 8]) tt_ok Tryd.func7 rfl rfl rfl rfl rfl ?_
  generalize renErr f to = e2 at *
  generalize renF f to = g2 at *
  generalize boundErr f v u = e3 at *
  generalize boundF f v u = g3 at *
  have E2 := Error_snd e2 e2
  have E3 := Error_snd e3 e3
  rw [beq_self_eq_true] at E2 E3
  by_cases h : (formErr f).2 = 0
  · obtain ⟨h0, hl, hne, hp, e1⟩ := form_ok h
    have c8 := RFreeOf_snd (G := errCell) hG hl (fun n hn => by have := node_coefs (hne n hn); omega) hp
    have hfv : freeV f = freeL f := by unfold freeV; rw [if_pos h]
    rw [h, e1] at c1 c2
    rw [h, hfv] at c3
    have c9 := SInts_snd (G := errCell) hG (freeL f) (freeL f)
    rw [decide_eq_true rfl] at c9
    have E1 := Error_snd 0 0
    rw [beq_self_eq_true] at E1
    generalize freeL f = fl at *
    have htb := Tab.cons c1 (Tab.cons c2 (Tab.cons c3 (Tab.cons c8 (Tab.cons c9 (Tab.cons E1 Tab.nil)))))
    repeat' (first | (with_reducible first | refine SW_seq ?_ | refine SW_block ?_ | refine SThen_n ?_ | refine SThen_r ?_ | refine SThen_e ?_ | refine SIn_n ?_ | refine SIn_r ?_ | refine SIn_eq ?_ | refine SW_skip ?_ | refine SW_exit ?_ | refine SW_ret ?_ | refine SPost_r ?_) | ((with_reducible refine SIn_ne ?_ ?_); focus decide) | ((with_reducible refine SW_true ?_ ?_); focus exact rfl) | ((with_reducible refine SW_false ?_ ?_); focus exact rfl) | ((first | (with_reducible apply SW_run tt_ok hG htb) | ((with_reducible apply SW_draw rfl tt_ok hG htb); (focus kernel_rfl); (focus (simp only [List.range, List.range.loop, List.size_toArray, List.length_cons, List.length_nil, Nat.reduceAdd])))); focus ((repeat' (first | (with_reducible exact runX_nil) | (with_reducible exact runI_nil) | ((first | (with_reducible apply runX_cons) | (with_reducible apply runI_cons)); focus (simp (discharger := omega) only [go_sem, tErr0, simprocAttr]; with_reducible rfl)))); done)))
    clear htb
    have htb := Tab.cons c4 (Tab.cons c5 (Tab.cons E2 (Tab.cons n1 Tab.nil)))
    repeat' (first | (with_reducible first | refine SW_seq ?_ | refine SW_block ?_ | refine SThen_n ?_ | refine SThen_r ?_ | refine SThen_e ?_ | refine SIn_n ?_ | refine SIn_r ?_ | refine SIn_eq ?_ | refine SW_skip ?_ | refine SW_exit ?_ | refine SW_ret ?_ | refine SPost_r ?_) | ((with_reducible refine SIn_ne ?_ ?_); focus decide) | ((with_reducible refine SW_true ?_ ?_); focus exact rfl) | ((with_reducible refine SW_false ?_ ?_); focus exact rfl) | ((first | (with_reducible apply SW_run tt_ok hG htb) | ((with_reducible apply SW_draw rfl tt_ok hG htb); (focus kernel_rfl); (focus (simp only [List.range, List.range.loop, List.size_toArray, List.length_cons, List.length_nil, Nat.reduceAdd])))); focus ((repeat' (first | (with_reducible exact runX_nil) | (with_reducible exact runI_nil) | ((first | (with_reducible apply runX_cons) | (with_reducible apply runI_cons)); focus (simp (discharger := omega) only [go_sem, tErr_flat, tForm, simprocAttr]; with_reducible rfl)))); done)))
    clear htb
    have htb := Tab.cons c6 (Tab.cons c7 (Tab.cons E3 (Tab.cons n2 Tab.nil)))
    repeat' (first | (with_reducible first | refine SW_seq ?_ | refine SW_block ?_ | refine SThen_n ?_ | refine SThen_r ?_ | refine SThen_e ?_ | refine SIn_n ?_ | refine SIn_r ?_ | refine SIn_eq ?_ | refine SW_skip ?_ | refine SW_exit ?_ | refine SW_ret ?_ | refine SPost_r ?_) | ((with_reducible refine SIn_ne ?_ ?_); focus decide) | ((with_reducible refine SW_true ?_ ?_); focus exact rfl) | ((with_reducible refine SW_false ?_ ?_); focus exact rfl) | ((first | (with_reducible apply SW_run tt_ok hG htb) | ((with_reducible apply SW_draw rfl tt_ok hG htb); (focus kernel_rfl); (focus (simp only [List.range, List.range.loop, List.size_toArray, List.length_cons, List.length_nil, Nat.reduceAdd])))); focus ((repeat' (first | (with_reducible exact runX_nil) | (with_reducible exact runI_nil) | ((first | (with_reducible apply runX_cons) | (with_reducible apply runI_cons)); focus (simp (discharger := omega) only [go_sem, tErr_flat, tForm, simprocAttr]; with_reducible rfl)))); done)))
    exact (by simp (discharger := omega) only [go_sem, simprocAttr])
  · have hfv : freeV f = [] := by unfold freeV; rw [if_neg h]
    rw [hfv] at c3
    have c9 : Snd Tryd.prog errCell 30 [.list [], .list []] (.bool true) := SInts_snd (G := errCell) hG [] []
    have c3 : Snd Tryd.prog errCell 29 [tForm f] (.tup [.list [], tErr (formErr f).2]) := c3
    generalize (formErr f).2 = e at *
    generalize (formErr f).1 = a at *
    have E1 := Error_snd e e
    rw [beq_self_eq_true] at E1
    have htb := Tab.cons c1 (Tab.cons c2 (Tab.cons c3 (Tab.cons c9 (Tab.cons E1 Tab.nil))))
    repeat' (first | (with_reducible first | refine SW_seq ?_ | refine SW_block ?_ | refine SThen_n ?_ | refine SThen_r ?_ | refine SThen_e ?_ | refine SIn_n ?_ | refine SIn_r ?_ | refine SIn_eq ?_ | refine SW_skip ?_ | refine SW_exit ?_ | refine SW_ret ?_ | refine SPost_r ?_) | ((with_reducible refine SIn_ne ?_ ?_); focus decide) | ((with_reducible refine SW_true ?_ ?_); focus exact rfl) | ((with_reducible refine SW_false ?_ ?_); focus exact rfl) | ((first | (with_reducible apply SW_run tt_ok hG htb) | ((with_reducible apply SW_draw rfl tt_ok hG htb); (focus kernel_rfl); (focus (simp only [List.range, List.range.loop, List.size_toArray, List.length_cons, List.length_nil, Nat.reduceAdd])))); focus ((repeat' (first | (with_reducible exact runX_nil) | (with_reducible exact runI_nil) | ((first | (with_reducible apply runX_cons) | (with_reducible apply runI_cons)); focus (simp (discharger := omega) only [go_sem, tErr_flat, h, simprocAttr]; with_reducible rfl)))); done)))
    clear htb
    have htb := Tab.cons c4 (Tab.cons c5 (Tab.cons E2 (Tab.cons n1 Tab.nil)))
    repeat' (first | (with_reducible first | refine SW_seq ?_ | refine SW_block ?_ | refine SThen_n ?_ | refine SThen_r ?_ | refine SThen_e ?_ | refine SIn_n ?_ | refine SIn_r ?_ | refine SIn_eq ?_ | refine SW_skip ?_ | refine SW_exit ?_ | refine SW_ret ?_ | refine SPost_r ?_) | ((with_reducible refine SIn_ne ?_ ?_); focus decide) | ((with_reducible refine SW_true ?_ ?_); focus exact rfl) | ((with_reducible refine SW_false ?_ ?_); focus exact rfl) | ((first | (with_reducible apply SW_run tt_ok hG htb) | ((with_reducible apply SW_draw rfl tt_ok hG htb); (focus kernel_rfl); (focus (simp only [List.range, List.range.loop, List.size_toArray, List.length_cons, List.length_nil, Nat.reduceAdd])))); focus ((repeat' (first | (with_reducible exact runX_nil) | (with_reducible exact runI_nil) | ((first | (with_reducible apply runX_cons) | (with_reducible apply runI_cons)); focus (simp (discharger := omega) only [go_sem, tErr_flat, tForm, simprocAttr]; with_reducible rfl)))); done)))
    clear htb
    have htb := Tab.cons c6 (Tab.cons c7 (Tab.cons E3 (Tab.cons n2 Tab.nil)))
    repeat' (first | (with_reducible first | refine SW_seq ?_ | refine SW_block ?_ | refine SThen_n ?_ | refine SThen_r ?_ | refine SThen_e ?_ | refine SIn_n ?_ | refine SIn_r ?_ | refine SIn_eq ?_ | refine SW_skip ?_ | refine SW_exit ?_ | refine SW_ret ?_ | refine SPost_r ?_) | ((with_reducible refine SIn_ne ?_ ?_); focus decide) | ((with_reducible refine SW_true ?_ ?_); focus exact rfl) | ((with_reducible refine SW_false ?_ ?_); focus exact rfl) | ((first | (with_reducible apply SW_run tt_ok hG htb) | ((with_reducible apply SW_draw rfl tt_ok hG htb); (focus kernel_rfl); (focus (simp only [List.range, List.range.loop, List.size_toArray, List.length_cons, List.length_nil, Nat.reduceAdd])))); focus ((repeat' (first | (with_reducible exact runX_nil) | (with_reducible exact runI_nil) | ((first | (with_reducible apply runX_cons) | (with_reducible apply runI_cons)); focus (simp (discharger := omega) only [go_sem, tErr_flat, tForm, simprocAttr]; with_reducible rfl)))); done)))
    exact (by simp (discharger := omega) only [go_sem, simprocAttr])
theorem FormChecks_walk (t : Value) (f : List GNode) (u : Value) (to : List Int) (x y : Int) (w : World) (h : ReadsForm w t f) (h' : ReadsInts w u to) (_ : I64 x) (_ : I64 y) (hg : errCell w) : Calls Tryd.prog 7 #[t, u, .int .i64 x, .int .i64 y] w (Ret (.bool true) w) :=
  walkN (FormChecks_snd f to x y) hg rfl fun k y z p q => by
    match k, p, q with
    | 0, p, q => cases p; cases q; exact h.2
    | 1, p, q => cases p; cases q; exact h'.2
    | 2, p, q => cases p; cases q; exact .int _ _
    | 3, p, q => cases p; cases q; exact .int _ _
end Go.Proofs.YtfhncnhkeodngaaDoor
namespace Go.Proofs.YtfhncnhkeodngaaDoor.formChecks
open Go.ChangeShapes Go.WideShapes Go.ChangeAt Go.RowKit

set_option maxRecDepth 100000 in
theorem lifted (os : Os) (started : os.Started) (H : Type) (enc : TypeId × Value → H) :
    ReturnsInHanded {} Tryd.checked os 7 .any (fun w args => (Rows.formChecksSpec.pre enc Tryd.prog Tryd.f7 [] false w args ∧ laidMetH Tryd.prog laidL w) ∧ sizedMet enc Tryd.prog Tryd.f7 (OpenSpec.ofChange Rows.formChecksSpec) false w args)
      (Rows.formChecksSpec.post enc Tryd.prog Tryd.f7 false true false false) := by
  refine returnsInHanded_of_change_and (C := Tryd.checked) (X := fun w _ => laidMetH Tryd.prog laidL w) (fun _ _ _ hh h => h.of_heap hh) own started (by kernel_rfl) Tryd.func7
    (ChangeSpec.witness_at (enc := enc) (C := Tryd.checked) (os := os) (X := fun w _ => laidMetH Tryd.prog laidL w) false (laidWorld os) #[.slice none 0 0, .slice none 0 0, .int .i64 0, .int .i64 0] 8 rfl (by kernel_rfl) (by kernel_rfl) (by kernel_rfl) (by kernel_rfl) (by kernel_rfl) (laidWorld_met os _)) ?_
  intro W base args ds gs before hval0 hW _ _ hL _
  have hval : ∀ (j : Nat) t v, Tryd.f7.params[j]? = some t → args[j]? = some v → Value.okWide Tryd.prog W .any base t v := hval0
  have hW' := hW
  obtain ⟨p, q, hA0, hV, rfl, hfz, hnd⟩ := hW
  have hA : DataW.TrodAll enc Tryd.prog W 0 (fun _ => true) true Tryd.f7.params.toList args.toList ds p := hA0
  rw [Tryd.params7] at hA hval
  obtain ⟨v0, vs0, d0, ds0, p0, q0, hargs, rfl, rfl, h0, r0⟩ := trodAll_cons hA
  obtain ⟨v1, vs1, d1, ds1, p1, q1, rfl, rfl, rfl, h1, r1⟩ := trodAll_cons r0
  obtain ⟨v2, vs2, d2, ds2, p2, q2, rfl, rfl, rfl, h2, r2⟩ := trodAll_cons r1
  obtain ⟨v3, vs3, d3, ds3, p3, q3, rfl, rfl, rfl, h3, r3⟩ := trodAll_cons r2
  obtain ⟨rfl, rfl, rfl⟩ := trodAll_nil r3
  obtain rfl : args = #[v0, v1, v2, v3] := by cases args; simp_all
  obtain ⟨rfl, rfl⟩ := trodVars_none hV
  obtain ⟨b0, len0, cap0, rfl⟩ := okWide_slice Tryd.underlying61 (hval 0 61 v0 rfl rfl)
  have k0 := h0
  have lt0 : ∀ x ∈ p0, x.block < W.heap.size := by obtain ⟨m, hm⟩ := k0; exact DataW.trod_lt m _ _ _ hm
  obtain ⟨a0, w0⟩ := openFormT rfl h0
  obtain ⟨b1, len1, cap1, rfl⟩ := okWide_slice Tryd.underlying22 (hval 1 22 v1 rfl rfl)
  have k1 := h1
  have lt1 : ∀ x ∈ p1, x.block < W.heap.size := by obtain ⟨m, hm⟩ := k1; exact DataW.trod_lt m _ _ _ hm
  obtain ⟨a1, w1⟩ := openIntsT rfl h1
  obtain ⟨a2, rfl, rfl, rfl, w2⟩ := open_int Tryd.underlying3 (hval 2 3 v2 rfl rfl) h2
  obtain ⟨a3, rfl, rfl, rfl, w3⟩ := open_int Tryd.underlying3 (hval 3 3 v3 rfl rfl) h3
  clear hA0 hval0
  refine (FormChecks_walk _ a0 _ a1 a2 a3 W w0 w1 (i64_of_wf w2) (i64_of_wf w3) (handle_of_laid hL)).mono fun e W' ⟨he, bel⟩ => ?_
  subst he
  exact ⟨_, rfl, _, _, _, [], _, [], hW', trodAll_mk1 (shut_bool Tryd.underlying4 _), (trodAll_cons_mk (Below.trod laidOut (by kernel_rfl) (of_decide_eq_true (by kernel_rfl)) k0 bel lt0) (trodAll_cons_mk (Below.trod laidOut (by kernel_rfl) (of_decide_eq_true (by kernel_rfl)) k1 bel lt1) (trodAll_cons_mk (shut_int Tryd.underlying3 w2) (trodAll_cons_mk (shut_int Tryd.underlying3 w3) trodAll_mk0)))), rfl, bel.frame _, fun h => by cases h⟩

theorem over : Rows.formChecksRow.holds Tryd.pinned (OpenSpec.ofChange Rows.formChecksSpec) :=
  OpenClaim.holds_of_wide 7 Tryd.f7 rfl rfl rfl rfl rfl rfl rfl ⟨rfl, rfl, rfl, rfl, rfl⟩ rfl rfl rfl rfl rfl (by kernel_rfl) Tryd.func7 (by kernel_rfl)
    (of_decide_eq_true (by kernel_rfl)) (by unfold Func.isWrapper; first | (rw [if_pos (by decide +kernel)]; kernel_rfl) | (rw [if_neg (by decide +kernel)]; exact ⟨rfl, rfl⟩))
    (fun os started H enc _ => lifted os started H enc)

theorem said : Rows.FormChecksSaid := over
theorem plain (f : FuncId) (fn : Func) (hf : Tryd.pinned.checked.prog.funcNamed "filbert/filbertlaw3.FormChecks" = some f) (hfn : Tryd.pinned.checked.prog.funcs[f]? = some fn) :
    true = Tryd.pinned.checked.prog.looks [] ∧ ∀ (j : Nat) t, fn.params[j]? = some t → Tryd.pinned.checked.prog.wantsStandIn t = false := by
  obtain rfl : f = 7 := Option.some.inj ((show Tryd.prog.funcNamed "filbert/filbertlaw3.FormChecks" = some 7 by kernel_rfl).symm.trans hf) |>.symm
  obtain rfl : fn = Tryd.f7 := (Option.some.inj (Tryd.func7.symm.trans hfn)).symm
  refine ⟨by kernel_rfl, fun j t ht => ?_⟩
  have hall : (Tryd.f7.params.toList.all fun t => !(Tryd.prog.wantsStandIn t)) = true := by kernel_rfl
  have := List.all_eq_true.1 hall t (Array.mem_toList_iff.2 (Array.mem_of_getElem? ht))
  exact (show Tryd.prog.wantsStandIn t = false by simpa using this)

/-- THE STATEMENT: THE CARD. -/
theorem proved : Rows.FormChecksCardSaid :=
  Claim7.holds_tied_plain_at .later [] _ _ _ _ said (fun _ h => by cases h) (by kernel_rfl) (fun _ h => by cases h) formChecks_row_tie rfl ⟨rfl, rfl⟩ (by kernel_rfl) rfl plain (by kernel_rfl)
#print axioms proved
end Go.Proofs.YtfhncnhkeodngaaDoor.formChecks
