/- Plain laws, data behind worlds, and contracts of functions, for the last text. No conditions. -/
import Derived.Test.YtfhncnhkeodngaaM5
set_option linter.unusedSimpArgs false
set_option linter.unusedVariables false
set_option linter.unnecessarySimpa false
set_option linter.unusedSectionVars false
namespace Go.Proofs.Ytfhncnhkeodngaa
open Go.RowKit
theorem formGo_bd {i : Nat} {o : Int} (h : 0 ≤ o ∧ o ≤ (i : Int) + 1) (op : Int) (h0 : o ≠ 0) : 0 ≤ o + (partsOf op - 1) ∧ o + (partsOf op - 1) ≤ ((i + 1 : Nat) : Int) + 1 := by
  have := parts_cases op
  omega
section
variable {G : World → Prop} (hG : Lasting G)
include hG
set_option maxHeartbeats 8000000 in
theorem Check_form_snd (f : List GNode) : Snd Try.prog G 26 [tForm f] (.tup [tInt (formErr f).1, tErr (formErr f).2]) := by
  refine snd_of_body (n := 45) (tm := [(0, .t (tForm f))]) (rs := [.tmp 2, .tmp 3]) tt_ok Try.func26 rfl rfl rfl rfl rfl ?_
  have htb : Tab.ok Try.prog G [] := Tab.nil
  refine SW_len (t := 0) rfl fun hcl => ?_
  rw [List.length_map] at hcl
  unfold formErr tForm
  by_cases h1 : f.length = 0
  · rw [if_pos h1]
    repeat' (first | (with_reducible first | refine SW_seq ?_ | refine SW_block ?_ | refine SThen_n ?_ | refine SThen_r ?_ | refine SThen_e ?_ | refine SIn_n ?_ | refine SIn_r ?_ | refine SIn_eq ?_ | refine SW_skip ?_ | refine SW_exit ?_ | refine SW_ret ?_ | refine SPost_r ?_) | ((with_reducible refine SIn_ne ?_ ?_); focus decide) | ((with_reducible refine SW_true ?_ ?_); focus exact rfl) | ((with_reducible refine SW_false ?_ ?_); focus exact rfl) | ((first | (with_reducible apply SW_run tt_ok hG htb) | ((with_reducible apply SW_draw rfl tt_ok hG htb); (focus kernel_rfl); (focus (simp only [List.range, List.range.loop, List.size_toArray, List.length_cons, List.length_nil, Nat.reduceAdd])))); focus ((repeat' (first | (with_reducible exact runX_nil) | (with_reducible exact runI_nil) | ((first | (with_reducible apply runX_cons) | (with_reducible apply runI_cons)); focus (simp (discharger := omega) only [go_sem, h1, simprocAttr]; with_reducible rfl)))); done)))
    exact (by simp (discharger := omega) only [go_sem, tErr, simprocAttr])
  · rw [if_neg h1]
    by_cases h2 : 40 < f.length
    · rw [if_pos h2]
      repeat' (first | (with_reducible first | refine SW_seq ?_ | refine SW_block ?_ | refine SThen_n ?_ | refine SThen_r ?_ | refine SThen_e ?_ | refine SIn_n ?_ | refine SIn_r ?_ | refine SIn_eq ?_ | refine SW_skip ?_ | refine SW_exit ?_ | refine SW_ret ?_ | refine SPost_r ?_) | ((with_reducible refine SIn_ne ?_ ?_); focus decide) | ((with_reducible refine SW_true ?_ ?_); focus exact rfl) | ((with_reducible refine SW_false ?_ ?_); focus exact rfl) | ((first | (with_reducible apply SW_run tt_ok hG htb) | ((with_reducible apply SW_draw rfl tt_ok hG htb); (focus kernel_rfl); (focus (simp only [List.range, List.range.loop, List.size_toArray, List.length_cons, List.length_nil, Nat.reduceAdd])))); focus ((repeat' (first | (with_reducible exact runX_nil) | (with_reducible exact runI_nil) | ((first | (with_reducible apply runX_cons) | (with_reducible apply runI_cons)); focus (simp (discharger := omega) only [go_sem, simprocAttr]; with_reducible rfl)))); done)))
      exact (by simp (discharger := omega) only [go_sem, tErr, simprocAttr])
    · rw [if_neg h2]
      repeat' (first | (with_reducible first | refine SW_seq ?_ | refine SW_block ?_ | refine SThen_n ?_ | refine SThen_r ?_ | refine SThen_e ?_ | refine SIn_n ?_ | refine SIn_r ?_ | refine SIn_eq ?_ | refine SW_skip ?_ | refine SW_exit ?_ | refine SW_ret ?_ | refine SPost_r ?_) | ((with_reducible refine SIn_ne ?_ ?_); focus decide) | ((with_reducible refine SW_true ?_ ?_); focus exact rfl) | ((with_reducible refine SW_false ?_ ?_); focus exact rfl) | ((first | (with_reducible apply SW_run tt_ok hG htb) | ((with_reducible apply SW_draw rfl tt_ok hG htb); (focus kernel_rfl); (focus (simp only [List.range, List.range.loop, List.size_toArray, List.length_cons, List.length_nil, Nat.reduceAdd])))); focus ((repeat' (first | (with_reducible exact runX_nil) | (with_reducible exact runI_nil) | ((first | (with_reducible apply runX_cons) | (with_reducible apply runI_cons)); focus (simp (discharger := omega) only [go_sem, simprocAttr]; with_reducible rfl)))); done)))
      refine SW_loop (fun mm s => ∃ (i : Nat) (q : Int), mm = f.length - i ∧ s = ⟨45, [(0, .t (.list (f.map tNode))), (4, .t (tInt q)), (16, .t (.list (f.map tNode))), (17, .t (tInt f.length)), (18, .t (tInt i))], []⟩ ∧ i ≤ f.length ∧ (0 ≤ q ∧ q ≤ (i : Int) + 1) ∧ formGo f 0 1 = formGo (f.drop i) i q) f.length
        ⟨_, Norm.headS (own := []) (keep := [0, 4, 16, 17, 18]) (by refine ⟨?_, ?_⟩; (simp (discharger := omega) only [go_sem, simprocAttr]; with_reducible rfl); refine ⟨?_, ?_, ?_, ?_⟩ <;> (simp only [go_sem, simprocAttr]; with_reducible rfl)), 0, 1, rfl, rfl, Nat.zero_le _, by omega, by rw [List.drop_zero]⟩ ?_
      rintro mm s ⟨i, q, rfl, rfl, hi, hq, hF⟩
      by_cases hlt : i < f.length
      · obtain ⟨n, hn⟩ : ∃ n, f[i]! = n := ⟨_, rfl⟩
        have hio : f[i]? = some n := bang_get hn hlt
        rw [drop_cons hio, formGo] at hF
        have c1 := wrong_snd hG n
        have c2 := Parts_snd hG n.op
        by_cases hw : nodeErr n = 0
        · rw [if_neg (by omega)] at hF
          rw [hw] at c1
          by_cases hq0 : q = 0
          · rw [if_pos hq0] at hF
            rw [hF]
            have htb := Tab.cons c1 (Tab.cons c2 Tab.nil)
            repeat' (first | (with_reducible first | refine SW_seq ?_ | refine SW_block ?_ | refine SThen_n ?_ | refine SThen_r ?_ | refine SThen_e ?_ | refine SIn_n ?_ | refine SIn_r ?_ | refine SIn_eq ?_ | refine SW_skip ?_ | refine SW_exit ?_ | refine SW_ret ?_ | refine SPost_r ?_) | ((with_reducible refine SIn_ne ?_ ?_); focus decide) | ((with_reducible refine SW_true ?_ ?_); focus exact rfl) | ((with_reducible refine SW_false ?_ ?_); focus exact rfl) | ((first | (with_reducible apply SW_run tt_ok hG htb) | ((with_reducible apply SW_draw rfl tt_ok hG htb); (focus kernel_rfl); (focus (simp only [List.range, List.range.loop, List.size_toArray, List.length_cons, List.length_nil, Nat.reduceAdd])))); focus ((repeat' (first | (with_reducible exact runX_nil) | (with_reducible exact runI_nil) | ((first | (with_reducible apply runX_cons) | (with_reducible apply runI_cons)); focus (simp (discharger := omega) only [go_sem, tErr, hn, tNode, hq0, simprocAttr]; with_reducible rfl)))); done)))
            exact (by simp (discharger := omega) only [go_sem, tErr, simprocAttr])
          · rw [if_neg hq0] at hF
            have hb := formGo_bd hq n.op hq0
            have hpc := parts_cases n.op
            generalize partsOf n.op = pp at *
            have htb := Tab.cons c1 (Tab.cons c2 Tab.nil)
            repeat' (first | (with_reducible first | refine SW_seq ?_ | refine SW_block ?_ | refine SThen_n ?_ | refine SThen_r ?_ | refine SThen_e ?_ | refine SIn_n ?_ | refine SIn_r ?_ | refine SIn_eq ?_ | refine SW_skip ?_ | refine SW_exit ?_ | refine SW_ret ?_ | refine SPost_r ?_) | ((with_reducible refine SIn_ne ?_ ?_); focus decide) | ((with_reducible refine SW_true ?_ ?_); focus exact rfl) | ((with_reducible refine SW_false ?_ ?_); focus exact rfl) | ((first | (with_reducible apply SW_run tt_ok hG htb) | ((with_reducible apply SW_draw rfl tt_ok hG htb); (focus kernel_rfl); (focus (simp only [List.range, List.range.loop, List.size_toArray, List.length_cons, List.length_nil, Nat.reduceAdd])))); focus ((repeat' (first | (with_reducible exact runX_nil) | (with_reducible exact runI_nil) | ((first | (with_reducible apply runX_cons) | (with_reducible apply runI_cons)); focus (simp (discharger := omega) only [go_sem, tErr, hn, tNode, hq0, simprocAttr]; with_reducible rfl)))); done)))
            exact ⟨f.length - (i + 1), _, by omega, Norm.headS (own := []) (keep := [0, 4, 16, 17, 18]) (by refine ⟨?_, ?_⟩; (simp (discharger := omega) only [go_sem, simprocAttr]; with_reducible rfl); refine ⟨?_, ?_, ?_, ?_⟩ <;> (simp only [go_sem, simprocAttr]; with_reducible rfl)), i + 1, _, rfl, rfl, by omega, hb, hF⟩
        · rw [if_pos hw] at hF
          rw [hF]
          generalize nodeErr n = e at *
          have htb := Tab.cons c1 Tab.nil
          repeat' (first | (with_reducible first | refine SW_seq ?_ | refine SW_block ?_ | refine SThen_n ?_ | refine SThen_r ?_ | refine SThen_e ?_ | refine SIn_n ?_ | refine SIn_r ?_ | refine SIn_eq ?_ | refine SW_skip ?_ | refine SW_exit ?_ | refine SW_ret ?_ | refine SPost_r ?_) | ((with_reducible refine SIn_ne ?_ ?_); focus decide) | ((with_reducible refine SW_true ?_ ?_); focus exact rfl) | ((with_reducible refine SW_false ?_ ?_); focus exact rfl) | ((first | (with_reducible apply SW_run tt_ok hG htb) | ((with_reducible apply SW_draw rfl tt_ok hG htb); (focus kernel_rfl); (focus (simp only [List.range, List.range.loop, List.size_toArray, List.length_cons, List.length_nil, Nat.reduceAdd])))); focus ((repeat' (first | (with_reducible exact runX_nil) | (with_reducible exact runI_nil) | ((first | (with_reducible apply runX_cons) | (with_reducible apply runI_cons)); focus (simp (discharger := omega) only [go_sem, tErr, hn, tNode, hw, simprocAttr]; with_reducible rfl)))); done)))
          exact (by simp (discharger := omega) only [go_sem, tErr, hw, simprocAttr])
      · obtain rfl : i = f.length := by omega
        rw [List.drop_length, formGo] at hF
        by_cases hq0 : 0 < q
        · rw [if_pos hq0] at hF
          rw [hF]
          repeat' (first | (with_reducible first | refine SW_seq ?_ | refine SW_block ?_ | refine SThen_n ?_ | refine SThen_r ?_ | refine SThen_e ?_ | refine SIn_n ?_ | refine SIn_r ?_ | refine SIn_eq ?_ | refine SW_skip ?_ | refine SW_exit ?_ | refine SW_ret ?_ | refine SPost_r ?_) | ((with_reducible refine SIn_ne ?_ ?_); focus decide) | ((with_reducible refine SW_true ?_ ?_); focus exact rfl) | ((with_reducible refine SW_false ?_ ?_); focus exact rfl) | ((first | (with_reducible apply SW_run tt_ok hG htb) | ((with_reducible apply SW_draw rfl tt_ok hG htb); (focus kernel_rfl); (focus (simp only [List.range, List.range.loop, List.size_toArray, List.length_cons, List.length_nil, Nat.reduceAdd])))); focus ((repeat' (first | (with_reducible exact runX_nil) | (with_reducible exact runI_nil) | ((first | (with_reducible apply runX_cons) | (with_reducible apply runI_cons)); focus (simp (discharger := omega) only [go_sem, simprocAttr]; with_reducible rfl)))); done)))
          exact (by simp (discharger := omega) only [go_sem, tErr, simprocAttr])
        · rw [if_neg hq0] at hF
          rw [hF]
          repeat' (first | (with_reducible first | refine SW_seq ?_ | refine SW_block ?_ | refine SThen_n ?_ | refine SThen_r ?_ | refine SThen_e ?_ | refine SIn_n ?_ | refine SIn_r ?_ | refine SIn_eq ?_ | refine SW_skip ?_ | refine SW_exit ?_ | refine SW_ret ?_ | refine SPost_r ?_) | ((with_reducible refine SIn_ne ?_ ?_); focus decide) | ((with_reducible refine SW_true ?_ ?_); focus exact rfl) | ((with_reducible refine SW_false ?_ ?_); focus exact rfl) | ((first | (with_reducible apply SW_run tt_ok hG htb) | ((with_reducible apply SW_draw rfl tt_ok hG htb); (focus kernel_rfl); (focus (simp only [List.range, List.range.loop, List.size_toArray, List.length_cons, List.length_nil, Nat.reduceAdd])))); focus ((repeat' (first | (with_reducible exact runX_nil) | (with_reducible exact runI_nil) | ((first | (with_reducible apply runX_cons) | (with_reducible apply runI_cons)); focus (simp (discharger := omega) only [go_sem, simprocAttr]; with_reducible rfl)))); done)))
          exact (by simp (discharger := omega) only [go_sem, tErr, simprocAttr])
end
end Go.Proofs.Ytfhncnhkeodngaa
namespace Go.Proofs.Ytfhncnhkeodngaa
open Go.RowKit

theorem PartsN.le {f : List GNode} {k i e : Nat} (h : PartsN f k i e) : k + i ≤ e := by
  induction h with
  | nil e => omega
  | cons h h2 ih => have := h.lt; omega
theorem PartsN.zero {f : List GNode} {i e : Nat} (h : PartsN f 0 i e) : i = e := by cases h; rfl
theorem PartsN.len {f : List GNode} {k i e : Nat} (h : PartsN f (k + 1) i e) : e ≤ f.length := by
  generalize hk : k + 1 = q at h
  induction h generalizing k with
  | nil e => omega
  | cons h h2 ih =>
    rename_i q' i' m' e'
    cases q' with
    | zero => have := h2.zero; have := h.lt; omega
    | succ q'' => exact ih rfl
theorem usesN_parts {n : GNode} (h : partsOf n.op ≠ 0) (v : Int) : usesN n v = false := by
  unfold partsOf at h
  have hp : n.op = 5 ∨ n.op = 8 ∨ n.op = 9 ∨ n.op = 6 ∨ n.op = 7 := by
    split at h
    · omega
    · split at h
      · omega
      · exact absurd rfl h
  unfold usesN
  rw [if_neg (by omega), decide_eq_false (show ¬ (n.op = 3 ∨ n.op = 4) by omega), decide_eq_false (show ¬ n.op = 4 by omega)]; rfl
section
variable {G : World → Prop} (hG : Lasting G)
include hG
omit hG in
/-- The free variables, the first ones. -/
theorem freeL_take (f : List GNode) : freeL f = ((List.range 5).filter fun k => freeP f 0 (k : Nat)).map fun k => ((k : Nat) : Int) := by
  unfold freeL
  rw [List.filter_map]; rfl
end
end Go.Proofs.Ytfhncnhkeodngaa
namespace Go.Proofs.Ytfhncnhkeodngaa
open Go.RowKit

/-- The variables of a node itself. -/
def usedL (n : GNode) : List Int := if n.op = 1 ∨ n.op = 2 then ((List.range n.coefs.length).filter fun k => decide (n.coefs.getD k 0 ≠ 0)).map (fun k => ((k : Nat) : Int)) else if n.op = 3 then [n.var] else if n.op = 4 then [n.var, n.other] else []
def tSet (b : Nat → Bool) : T := .agg [.bool (b 0), .bool (b 1), .bool (b 2), .bool (b 3), .bool (b 4)]
theorem usedL_bd {n : GNode} (h : nodeErr n = 0) : (∀ v ∈ usedL n, 0 ≤ v ∧ v < 5) ∧ (usedL n).length ≤ 5 := by
  have hc := node_coefs h
  obtain ⟨_, _, h3, _⟩ := node_ok h
  unfold usedL
  by_cases hl : n.op = 1 ∨ n.op = 2
  · rw [if_pos hl]
    refine ⟨fun v hv => ?_, ?_⟩
    · obtain ⟨k, hk, rfl⟩ := List.mem_map.1 hv
      have := List.mem_range.1 (List.mem_filter.1 hk).1
      omega
    · rw [List.length_map]
      refine Nat.le_trans (List.length_filter_le _ _) ?_
      rw [List.length_range]; exact hc
  · rw [if_neg hl]
    by_cases e3 : n.op = 3
    · rw [if_pos e3]
      unfold nodeOk at h3
      rw [if_neg hl, if_pos e3] at h3
      simp only [Bool.and_eq_true] at h3
      have := isVar_bd h3.1.1.1.1
      refine ⟨fun v hv => ?_, by simp⟩
      simp at hv; subst hv; exact this
    · rw [if_neg e3]
      by_cases e4 : n.op = 4
      · rw [if_pos e4]
        unfold nodeOk at h3
        rw [if_neg hl, if_neg e3, if_pos e4] at h3
        simp only [Bool.and_eq_true] at h3
        have h5 := isVar_bd h3.1.1.1.1.1
        have h6 := isVar_bd h3.1.1.1.1.2
        refine ⟨fun v hv => ?_, by simp⟩
        simp at hv
        rcases hv with rfl | rfl
        · exact h5
        · exact h6
      · rw [if_neg e4]
        exact ⟨fun v hv => by simp at hv, by simp⟩
theorem usedL_uses (n : GNode) (k : Nat) : (usedL n).contains (k : Int) = usesN n k := by
  unfold usedL usesN
  by_cases hl : n.op = 1 ∨ n.op = 2
  · rw [if_pos hl, if_pos hl, Int.toNat_natCast]
    have key : (((List.range n.coefs.length).filter fun k => decide (n.coefs.getD k 0 ≠ 0)).map (fun k => ((k : Nat) : Int))).contains (k : Int) = true ↔ (decide ((k : Int) < n.coefs.length) && decide (n.coefs.getD k 0 ≠ 0)) = true := by
      rw [List.contains_iff_mem, List.mem_map, Bool.and_eq_true, decide_eq_true_eq, decide_eq_true_eq]
      constructor
      · rintro ⟨j, hj, e⟩
        obtain rfl : j = k := by omega
        obtain ⟨h1, h2⟩ := List.mem_filter.1 hj
        have := List.mem_range.1 h1
        exact ⟨by omega, by simpa using h2⟩
      · rintro ⟨h1, h2⟩
        exact ⟨k, List.mem_filter.2 ⟨List.mem_range.2 (by omega), by simpa using h2⟩, rfl⟩
    exact Bool.eq_iff_iff.2 key
  · rw [if_neg hl, if_neg hl]
    by_cases e3 : n.op = 3
    · rw [if_pos e3, decide_eq_true (.inl e3), decide_eq_false (show ¬ n.op = 4 by omega), Bool.true_and, Bool.false_and, Bool.or_false]
      have key : ([n.var] : List Int).contains (k : Int) = true ↔ decide (n.var = k) = true := by
        rw [List.contains_iff_mem, decide_eq_true_eq, List.mem_singleton]
        exact eq_comm
      exact Bool.eq_iff_iff.2 key
    · rw [if_neg e3]
      by_cases e4 : n.op = 4
      · rw [if_pos e4, decide_eq_true (.inr e4), decide_eq_true e4, Bool.true_and, Bool.true_and]
        have key : ([n.var, n.other] : List Int).contains (k : Int) = true ↔ (decide (n.var = k) || decide (n.other = k)) = true := by
          rw [List.contains_iff_mem, Bool.or_eq_true, decide_eq_true_eq, decide_eq_true_eq]
          simp only [List.mem_cons, List.not_mem_nil, or_false]
          constructor
          · rintro (h | h)
            · exact .inl h.symm
            · exact .inr h.symm
          · rintro (h | h)
            · exact .inl h.symm
            · exact .inr h.symm
        exact Bool.eq_iff_iff.2 key
      · rw [if_neg e4, decide_eq_false (show ¬ (n.op = 3 ∨ n.op = 4) by omega), decide_eq_false e4]; rfl
/-- What is still to be looked at: so many parts, what is free in them, where they end. -/
def RestF (G : World → Prop) (f : List GNode) : Nat → Nat → Nat → (Nat → Bool) → Prop
  | 0, j, e, b => j = e ∧ ∀ k, b k = false
  | r + 1, j, e, b => ∃ m b1 b2, Snd Try.prog G 27 [tForm f, tNat j] (.tup [tSet b1, tNat m]) ∧ j < m ∧ m ≤ f.length ∧ RestF G f r m e b2 ∧ ∀ k, b k = (b1 k || b2 k)
section
variable {G : World → Prop} (hG : Lasting G)
include hG
set_option maxHeartbeats 4000000 in
set_option maxRecDepth 100000 in
theorem Used_snd (n : GNode) (hc : n.coefs.length ≤ 1000) : Snd Try.prog G 60 [tNode n] (tInts (usedL n)) := by
  obtain ⟨op, var, other, word, word2, num, coefs⟩ := n
  have hc : coefs.length ≤ 1000 := hc
  refine snd_of_body (n := 43) (tm := [(0, .t (tNode ⟨op, var, other, word, word2, num, coefs⟩))]) (rs := [.tmp 2]) tt_ok Try.func60 rfl rfl rfl rfl rfl ?_
  have htb : Tab.ok Try.prog G [] := Tab.nil
  by_cases hl : op = 1 ∨ op = 2
  · have e : usedL ⟨op, var, other, word, word2, num, coefs⟩ = ((List.range coefs.length).filter fun k => decide (coefs.getD k 0 ≠ 0)).map (fun k => ((k : Nat) : Int)) := by unfold usedL; rw [if_pos hl]
    rw [e]
    rcases hl with rfl | rfl
    · repeat' (first | (with_reducible first | refine SW_seq ?_ | refine SW_block ?_ | refine SThen_n ?_ | refine SThen_r ?_ | refine SThen_e ?_ | refine SIn_n ?_ | refine SIn_r ?_ | refine SIn_eq ?_ | refine SW_skip ?_ | refine SW_exit ?_ | refine SW_ret ?_ | refine SPost_r ?_) | ((with_reducible refine SIn_ne ?_ ?_); focus decide) | ((with_reducible refine SW_true ?_ ?_); focus exact rfl) | ((with_reducible refine SW_false ?_ ?_); focus exact rfl) | ((first | (with_reducible apply SW_run tt_ok hG htb) | ((with_reducible apply SW_draw rfl tt_ok hG htb); (focus kernel_rfl); (focus (simp only [List.range, List.range.loop, List.size_toArray, List.length_cons, List.length_nil, Nat.reduceAdd])))); focus ((repeat' (first | (with_reducible exact runX_nil) | (with_reducible exact runI_nil) | ((first | (with_reducible apply runX_cons) | (with_reducible apply runI_cons)); focus (simp (discharger := omega) only [go_sem, tNode, simprocAttr]; with_reducible rfl)))); done)))
      refine SW_loop (fun mm s => ∃ (i : Nat) (ot : List T), mm = coefs.length - i ∧ s = ⟨43, [(3, .sref 0), (12, .t (tInts coefs)), (13, .t (tInt coefs.length)), (14, .t (tNat i))], [.row 3 1 false ot]⟩ ∧ i ≤ coefs.length ∧ ot = (((List.range i).filter fun k => decide (coefs.getD k 0 ≠ 0)).map (fun k => ((k : Nat) : Int))).map tInt ∧ ot.length ≤ i) coefs.length
        ⟨_, Norm.headS (own := [(3, 3, 1, false)]) (keep := [3, 12, 13, 14]) (by refine ⟨?_, ?_⟩; (simp (discharger := omega) only [go_sem, simprocAttr]; with_reducible rfl); refine ⟨?_, ?_, ?_, ?_⟩ <;> (simp only [go_sem, simprocAttr]; with_reducible rfl)), 0, _, rfl, rfl, Nat.zero_le _, rfl, Nat.le_refl _⟩ ?_
      rintro mm s ⟨i, ot, rfl, rfl, hi, hot, hol⟩
      by_cases hlt : i < coefs.length
      · obtain ⟨x, hx⟩ : ∃ x, coefs[i]! = x := ⟨_, rfl⟩
        have hD := bang_D (d := 0) hx hlt
        have hcons : ((List.range (i + 1)).filter fun k => decide (coefs.getD k 0 ≠ 0)) = ((List.range i).filter fun k => decide (coefs.getD k 0 ≠ 0)) ++ (if x ≠ 0 then [i] else []) := by
          rw [List.range_succ, List.filter_append]
          congr 1
          simp only [List.filter_cons, List.filter_nil, hD, decide_eq_true_eq]
        by_cases h0 : x = 0
        · repeat' (first | (with_reducible first | refine SW_seq ?_ | refine SW_block ?_ | refine SThen_n ?_ | refine SThen_r ?_ | refine SThen_e ?_ | refine SIn_n ?_ | refine SIn_r ?_ | refine SIn_eq ?_ | refine SW_skip ?_ | refine SW_exit ?_ | refine SW_ret ?_ | refine SPost_r ?_) | ((with_reducible refine SIn_ne ?_ ?_); focus decide) | ((with_reducible refine SW_true ?_ ?_); focus exact rfl) | ((with_reducible refine SW_false ?_ ?_); focus exact rfl) | ((first | (with_reducible apply SW_run tt_ok hG htb) | ((with_reducible apply SW_draw rfl tt_ok hG htb); (focus kernel_rfl); (focus (simp only [List.range, List.range.loop, List.size_toArray, List.length_cons, List.length_nil, Nat.reduceAdd])))); focus ((repeat' (first | (with_reducible exact runX_nil) | (with_reducible exact runI_nil) | ((first | (with_reducible apply runX_cons) | (with_reducible apply runI_cons)); focus (simp (discharger := omega) only [go_sem, hx, h0, simprocAttr]; with_reducible rfl)))); done)))
          exact ⟨coefs.length - (i + 1), _, by omega, Norm.headS (own := [(3, 3, 1, false)]) (keep := [3, 12, 13, 14]) (by refine ⟨?_, ?_⟩; (simp (discharger := omega) only [go_sem, simprocAttr]; with_reducible rfl); refine ⟨?_, ?_, ?_, ?_⟩ <;> (simp only [go_sem, simprocAttr]; with_reducible rfl)), i + 1, _, rfl, rfl, by omega, by rw [hcons, if_neg (by omega), List.append_nil, hot], by omega⟩
        · repeat' (first | (with_reducible first | refine SW_seq ?_ | refine SW_block ?_ | refine SThen_n ?_ | refine SThen_r ?_ | refine SThen_e ?_ | refine SIn_n ?_ | refine SIn_r ?_ | refine SIn_eq ?_ | refine SW_skip ?_ | refine SW_exit ?_ | refine SW_ret ?_ | refine SPost_r ?_) | ((with_reducible refine SIn_ne ?_ ?_); focus decide) | ((with_reducible refine SW_true ?_ ?_); focus exact rfl) | ((with_reducible refine SW_false ?_ ?_); focus exact rfl) | ((first | (with_reducible apply SW_run tt_ok hG htb) | ((with_reducible apply SW_draw rfl tt_ok hG htb); (focus kernel_rfl); (focus (simp only [List.range, List.range.loop, List.size_toArray, List.length_cons, List.length_nil, Nat.reduceAdd])))); focus ((repeat' (first | (with_reducible exact runX_nil) | (with_reducible exact runI_nil) | ((first | (with_reducible apply runX_cons) | (with_reducible apply runI_cons)); focus (simp (discharger := omega) only [go_sem, hx, h0, simprocAttr]; with_reducible rfl)))); done)))
          exact ⟨coefs.length - (i + 1), _, by omega, Norm.headS (own := [(3, 3, 1, false)]) (keep := [3, 12, 13, 14]) (by refine ⟨?_, ?_⟩; (simp (discharger := omega) only [go_sem, simprocAttr]; with_reducible rfl); refine ⟨?_, ?_, ?_, ?_⟩ <;> (simp only [go_sem, simprocAttr]; with_reducible rfl)), i + 1, _, rfl, rfl, by omega, by rw [hcons, if_pos h0, List.map_append, List.map_append, hot]; rfl, by simp; omega⟩
      · obtain rfl : i = coefs.length := by omega
        generalize ((List.range coefs.length).filter fun k => decide (coefs.getD k 0 ≠ 0)).map (fun k => ((k : Nat) : Int)) = out at *
        subst hot
        repeat' (first | (with_reducible first | refine SW_seq ?_ | refine SW_block ?_ | refine SThen_n ?_ | refine SThen_r ?_ | refine SThen_e ?_ | refine SIn_n ?_ | refine SIn_r ?_ | refine SIn_eq ?_ | refine SW_skip ?_ | refine SW_exit ?_ | refine SW_ret ?_ | refine SPost_r ?_) | ((with_reducible refine SIn_ne ?_ ?_); focus decide) | ((with_reducible refine SW_true ?_ ?_); focus exact rfl) | ((with_reducible refine SW_false ?_ ?_); focus exact rfl) | ((first | (with_reducible apply SW_run tt_ok hG htb) | ((with_reducible apply SW_draw rfl tt_ok hG htb); (focus kernel_rfl); (focus (simp only [List.range, List.range.loop, List.size_toArray, List.length_cons, List.length_nil, Nat.reduceAdd])))); focus ((repeat' (first | (with_reducible exact runX_nil) | (with_reducible exact runI_nil) | ((first | (with_reducible apply runX_cons) | (with_reducible apply runI_cons)); focus (simp (discharger := omega) only [go_sem, simprocAttr]; with_reducible rfl)))); done)))
        exact (by simp (discharger := omega) only [go_sem, simprocAttr])
    · repeat' (first | (with_reducible first | refine SW_seq ?_ | refine SW_block ?_ | refine SThen_n ?_ | refine SThen_r ?_ | refine SThen_e ?_ | refine SIn_n ?_ | refine SIn_r ?_ | refine SIn_eq ?_ | refine SW_skip ?_ | refine SW_exit ?_ | refine SW_ret ?_ | refine SPost_r ?_) | ((with_reducible refine SIn_ne ?_ ?_); focus decide) | ((with_reducible refine SW_true ?_ ?_); focus exact rfl) | ((with_reducible refine SW_false ?_ ?_); focus exact rfl) | ((first | (with_reducible apply SW_run tt_ok hG htb) | ((with_reducible apply SW_draw rfl tt_ok hG htb); (focus kernel_rfl); (focus (simp only [List.range, List.range.loop, List.size_toArray, List.length_cons, List.length_nil, Nat.reduceAdd])))); focus ((repeat' (first | (with_reducible exact runX_nil) | (with_reducible exact runI_nil) | ((first | (with_reducible apply runX_cons) | (with_reducible apply runI_cons)); focus (simp (discharger := omega) only [go_sem, tNode, simprocAttr]; with_reducible rfl)))); done)))
      refine SW_loop (fun mm s => ∃ (i : Nat) (ot : List T), mm = coefs.length - i ∧ s = ⟨43, [(3, .sref 0), (12, .t (tInts coefs)), (13, .t (tInt coefs.length)), (14, .t (tNat i))], [.row 3 1 false ot]⟩ ∧ i ≤ coefs.length ∧ ot = (((List.range i).filter fun k => decide (coefs.getD k 0 ≠ 0)).map (fun k => ((k : Nat) : Int))).map tInt ∧ ot.length ≤ i) coefs.length
        ⟨_, Norm.headS (own := [(3, 3, 1, false)]) (keep := [3, 12, 13, 14]) (by refine ⟨?_, ?_⟩; (simp (discharger := omega) only [go_sem, simprocAttr]; with_reducible rfl); refine ⟨?_, ?_, ?_, ?_⟩ <;> (simp only [go_sem, simprocAttr]; with_reducible rfl)), 0, _, rfl, rfl, Nat.zero_le _, rfl, Nat.le_refl _⟩ ?_
      rintro mm s ⟨i, ot, rfl, rfl, hi, hot, hol⟩
      by_cases hlt : i < coefs.length
      · obtain ⟨x, hx⟩ : ∃ x, coefs[i]! = x := ⟨_, rfl⟩
        have hD := bang_D (d := 0) hx hlt
        have hcons : ((List.range (i + 1)).filter fun k => decide (coefs.getD k 0 ≠ 0)) = ((List.range i).filter fun k => decide (coefs.getD k 0 ≠ 0)) ++ (if x ≠ 0 then [i] else []) := by
          rw [List.range_succ, List.filter_append]
          congr 1
          simp only [List.filter_cons, List.filter_nil, hD, decide_eq_true_eq]
        by_cases h0 : x = 0
        · repeat' (first | (with_reducible first | refine SW_seq ?_ | refine SW_block ?_ | refine SThen_n ?_ | refine SThen_r ?_ | refine SThen_e ?_ | refine SIn_n ?_ | refine SIn_r ?_ | refine SIn_eq ?_ | refine SW_skip ?_ | refine SW_exit ?_ | refine SW_ret ?_ | refine SPost_r ?_) | ((with_reducible refine SIn_ne ?_ ?_); focus decide) | ((with_reducible refine SW_true ?_ ?_); focus exact rfl) | ((with_reducible refine SW_false ?_ ?_); focus exact rfl) | ((first | (with_reducible apply SW_run tt_ok hG htb) | ((with_reducible apply SW_draw rfl tt_ok hG htb); (focus kernel_rfl); (focus (simp only [List.range, List.range.loop, List.size_toArray, List.length_cons, List.length_nil, Nat.reduceAdd])))); focus ((repeat' (first | (with_reducible exact runX_nil) | (with_reducible exact runI_nil) | ((first | (with_reducible apply runX_cons) | (with_reducible apply runI_cons)); focus (simp (discharger := omega) only [go_sem, hx, h0, simprocAttr]; with_reducible rfl)))); done)))
          exact ⟨coefs.length - (i + 1), _, by omega, Norm.headS (own := [(3, 3, 1, false)]) (keep := [3, 12, 13, 14]) (by refine ⟨?_, ?_⟩; (simp (discharger := omega) only [go_sem, simprocAttr]; with_reducible rfl); refine ⟨?_, ?_, ?_, ?_⟩ <;> (simp only [go_sem, simprocAttr]; with_reducible rfl)), i + 1, _, rfl, rfl, by omega, by rw [hcons, if_neg (by omega), List.append_nil, hot], by omega⟩
        · repeat' (first | (with_reducible first | refine SW_seq ?_ | refine SW_block ?_ | refine SThen_n ?_ | refine SThen_r ?_ | refine SThen_e ?_ | refine SIn_n ?_ | refine SIn_r ?_ | refine SIn_eq ?_ | refine SW_skip ?_ | refine SW_exit ?_ | refine SW_ret ?_ | refine SPost_r ?_) | ((with_reducible refine SIn_ne ?_ ?_); focus decide) | ((with_reducible refine SW_true ?_ ?_); focus exact rfl) | ((with_reducible refine SW_false ?_ ?_); focus exact rfl) | ((first | (with_reducible apply SW_run tt_ok hG htb) | ((with_reducible apply SW_draw rfl tt_ok hG htb); (focus kernel_rfl); (focus (simp only [List.range, List.range.loop, List.size_toArray, List.length_cons, List.length_nil, Nat.reduceAdd])))); focus ((repeat' (first | (with_reducible exact runX_nil) | (with_reducible exact runI_nil) | ((first | (with_reducible apply runX_cons) | (with_reducible apply runI_cons)); focus (simp (discharger := omega) only [go_sem, hx, h0, simprocAttr]; with_reducible rfl)))); done)))
          exact ⟨coefs.length - (i + 1), _, by omega, Norm.headS (own := [(3, 3, 1, false)]) (keep := [3, 12, 13, 14]) (by refine ⟨?_, ?_⟩; (simp (discharger := omega) only [go_sem, simprocAttr]; with_reducible rfl); refine ⟨?_, ?_, ?_, ?_⟩ <;> (simp only [go_sem, simprocAttr]; with_reducible rfl)), i + 1, _, rfl, rfl, by omega, by rw [hcons, if_pos h0, List.map_append, List.map_append, hot]; rfl, by simp; omega⟩
      · obtain rfl : i = coefs.length := by omega
        generalize ((List.range coefs.length).filter fun k => decide (coefs.getD k 0 ≠ 0)).map (fun k => ((k : Nat) : Int)) = out at *
        subst hot
        repeat' (first | (with_reducible first | refine SW_seq ?_ | refine SW_block ?_ | refine SThen_n ?_ | refine SThen_r ?_ | refine SThen_e ?_ | refine SIn_n ?_ | refine SIn_r ?_ | refine SIn_eq ?_ | refine SW_skip ?_ | refine SW_exit ?_ | refine SW_ret ?_ | refine SPost_r ?_) | ((with_reducible refine SIn_ne ?_ ?_); focus decide) | ((with_reducible refine SW_true ?_ ?_); focus exact rfl) | ((with_reducible refine SW_false ?_ ?_); focus exact rfl) | ((first | (with_reducible apply SW_run tt_ok hG htb) | ((with_reducible apply SW_draw rfl tt_ok hG htb); (focus kernel_rfl); (focus (simp only [List.range, List.range.loop, List.size_toArray, List.length_cons, List.length_nil, Nat.reduceAdd])))); focus ((repeat' (first | (with_reducible exact runX_nil) | (with_reducible exact runI_nil) | ((first | (with_reducible apply runX_cons) | (with_reducible apply runI_cons)); focus (simp (discharger := omega) only [go_sem, simprocAttr]; with_reducible rfl)))); done)))
        exact (by simp (discharger := omega) only [go_sem, simprocAttr])
  · have h1 : ¬ op = 1 := fun e => hl (.inl e)
    have h2 : ¬ op = 2 := fun e => hl (.inr e)
    by_cases h3 : op = 3
    · subst h3
      have e : usedL ⟨3, var, other, word, word2, num, coefs⟩ = [var] := by unfold usedL; simp
      rw [e]
      repeat' (first | (with_reducible first | refine SW_seq ?_ | refine SW_block ?_ | refine SThen_n ?_ | refine SThen_r ?_ | refine SThen_e ?_ | refine SIn_n ?_ | refine SIn_r ?_ | refine SIn_eq ?_ | refine SW_skip ?_ | refine SW_exit ?_ | refine SW_ret ?_ | refine SPost_r ?_) | ((with_reducible refine SIn_ne ?_ ?_); focus decide) | ((with_reducible refine SW_true ?_ ?_); focus exact rfl) | ((with_reducible refine SW_false ?_ ?_); focus exact rfl) | ((first | (with_reducible apply SW_run tt_ok hG htb) | ((with_reducible apply SW_draw rfl tt_ok hG htb); (focus kernel_rfl); (focus (simp only [List.range, List.range.loop, List.size_toArray, List.length_cons, List.length_nil, Nat.reduceAdd])))); focus ((repeat' (first | (with_reducible exact runX_nil) | (with_reducible exact runI_nil) | ((first | (with_reducible apply runX_cons) | (with_reducible apply runI_cons)); focus (simp (discharger := omega) only [go_sem, tNode, simprocAttr]; with_reducible rfl)))); done)))
      exact (by simp (discharger := omega) only [go_sem, simprocAttr])
    · by_cases h4 : op = 4
      · subst h4
        have e : usedL ⟨4, var, other, word, word2, num, coefs⟩ = [var, other] := by unfold usedL; simp
        rw [e]
        repeat' (first | (with_reducible first | refine SW_seq ?_ | refine SW_block ?_ | refine SThen_n ?_ | refine SThen_r ?_ | refine SThen_e ?_ | refine SIn_n ?_ | refine SIn_r ?_ | refine SIn_eq ?_ | refine SW_skip ?_ | refine SW_exit ?_ | refine SW_ret ?_ | refine SPost_r ?_) | ((with_reducible refine SIn_ne ?_ ?_); focus decide) | ((with_reducible refine SW_true ?_ ?_); focus exact rfl) | ((with_reducible refine SW_false ?_ ?_); focus exact rfl) | ((first | (with_reducible apply SW_run tt_ok hG htb) | ((with_reducible apply SW_draw rfl tt_ok hG htb); (focus kernel_rfl); (focus (simp only [List.range, List.range.loop, List.size_toArray, List.length_cons, List.length_nil, Nat.reduceAdd])))); focus ((repeat' (first | (with_reducible exact runX_nil) | (with_reducible exact runI_nil) | ((first | (with_reducible apply runX_cons) | (with_reducible apply runI_cons)); focus (simp (discharger := omega) only [go_sem, tNode, simprocAttr]; with_reducible rfl)))); done)))
        exact (by simp (discharger := omega) only [go_sem, simprocAttr])
      · have e : usedL ⟨op, var, other, word, word2, num, coefs⟩ = [] := by unfold usedL; rw [if_neg hl]; simp only; rw [if_neg h3, if_neg h4]
        rw [e]
        repeat' (first | (with_reducible first | refine SW_seq ?_ | refine SW_block ?_ | refine SThen_n ?_ | refine SThen_r ?_ | refine SThen_e ?_ | refine SIn_n ?_ | refine SIn_r ?_ | refine SIn_eq ?_ | refine SW_skip ?_ | refine SW_exit ?_ | refine SW_ret ?_ | refine SPost_r ?_) | ((with_reducible refine SIn_ne ?_ ?_); focus decide) | ((with_reducible refine SW_true ?_ ?_); focus exact rfl) | ((with_reducible refine SW_false ?_ ?_); focus exact rfl) | ((first | (with_reducible apply SW_run tt_ok hG htb) | ((with_reducible apply SW_draw rfl tt_ok hG htb); (focus kernel_rfl); (focus (simp only [List.range, List.range.loop, List.size_toArray, List.length_cons, List.length_nil, Nat.reduceAdd])))); focus ((repeat' (first | (with_reducible exact runX_nil) | (with_reducible exact runI_nil) | ((first | (with_reducible apply runX_cons) | (with_reducible apply runI_cons)); focus (simp (discharger := omega) only [go_sem, tNode, h1, h2, h3, h4, simprocAttr]; with_reducible rfl)))); done)))
        exact (by simp (discharger := omega) only [go_sem, simprocAttr])
set_option maxHeartbeats 16000000 in
set_option maxRecDepth 100000 in
theorem free_step {f : List GNode} {i e : Nat} {n : GNode} (hl : f.length ≤ 40) (hn : f[i]? = some n) (hne : nodeErr n = 0) (he : e ≤ f.length) (rest b : Nat → Bool) (hR : RestF G f (partsOf n.op).toNat (i + 1) e rest)
    (hb : ∀ k : Nat, k < 5 → b k = if (n.op = 8 ∨ n.op = 9) ∧ n.var = (k : Int) then false else (usesN n k || rest k)) : Snd Try.prog G 27 [tForm f, tNat i] (.tup [tSet b, tNat e]) := by
  have hil := (List.getElem?_eq_some_iff.1 hn).1
  have hn1 : f[i]! = n := by rw [getElem!_pos f i hil]; exact (List.getElem?_eq_some_iff.1 hn).2
  have cU := Used_snd hG n (by have := node_coefs hne; omega)
  have cP := Parts_snd hG n.op
  have hpc := parts_cases n.op
  obtain ⟨hu5, hul⟩ := usedL_bd hne
  have huu := usedL_uses n
  obtain ⟨hop1, hop9, hok, _⟩ := node_ok hne
  have hvar : n.op = 8 ∨ n.op = 9 → 0 ≤ n.var ∧ n.var < 5 := fun h => by
    unfold nodeOk at hok
    rw [if_neg (by omega), if_neg (by omega), if_neg (by omega), if_pos h] at hok
    exact isVar_bd hok
  clear hok hne
  generalize huE : usedL n = u at *
  clear huE
  have hb : ∀ k : Nat, k < 5 → b k = if (n.op = 8 ∨ n.op = 9) ∧ n.var = (k : Int) then false else (u.contains (k : Int) || rest k) := fun k hk => by rw [hb k hk, huu k]
  clear huu
  obtain ⟨op, var, other, word, word2, num, coefs⟩ := n
  simp only at hb cP hpc hvar hop1 hop9 hR
  refine snd_of_body (n := 79) (tm := [(0, .t (tForm f)), (1, .t (tNat i))]) (rs := [.cell 4 63, .tmp 5]) tt_ok Try.func27 rfl rfl rfl rfl rfl ?_
  unfold tForm
  have htb := Tab.cons cU Tab.nil
  repeat' (first | (with_reducible first | refine SW_seq ?_ | refine SW_block ?_ | refine SThen_n ?_ | refine SThen_r ?_ | refine SThen_e ?_ | refine SIn_n ?_ | refine SIn_r ?_ | refine SIn_eq ?_ | refine SW_skip ?_ | refine SW_exit ?_ | refine SW_ret ?_ | refine SPost_r ?_) | ((with_reducible refine SIn_ne ?_ ?_); focus decide) | ((with_reducible refine SW_true ?_ ?_); focus exact rfl) | ((with_reducible refine SW_false ?_ ?_); focus exact rfl) | ((first | (with_reducible apply SW_run tt_ok hG htb) | ((with_reducible apply SW_draw rfl tt_ok hG htb); (focus kernel_rfl); (focus (simp only [List.range, List.range.loop, List.size_toArray, List.length_cons, List.length_nil, Nat.reduceAdd])))); focus ((repeat' (first | (with_reducible exact runX_nil) | (with_reducible exact runI_nil) | ((first | (with_reducible apply runX_cons) | (with_reducible apply runI_cons)); focus (simp (discharger := omega) only [go_sem, hn1, tNode, simprocAttr]; with_reducible rfl)))); done)))
  clear htb cU
  have htb : Tab.ok Try.prog G [] := Tab.nil
  refine SW_loop (fun mm s => ∃ (j : Nat) (g : Nat → Bool), mm = u.length - j ∧ s = ⟨79, [(0, .t (.list (f.map tNode))), (1, .t (tNat i)), (4, .bptr 0 0), (6, .bptr 1 0), (17, .t (tInts u)), (18, .t (tInt u.length)), (19, .t (tNat j))], [.box [.t (.bool false), .t (.bool false), .t (.bool false), .t (.bool false), .t (.bool false)], .box [.t (.bool (g 0)), .t (.bool (g 1)), .t (.bool (g 2)), .t (.bool (g 3)), .t (.bool (g 4))]]⟩ ∧ j ≤ u.length ∧ ∀ k : Nat, k < 5 → g k = (u.take j).contains (k : Int)) u.length
    ⟨_, Norm.headS (own := []) (keep := [0, 1, 4, 6, 17, 18, 19]) (by refine ⟨?_, ?_⟩; (simp (discharger := omega) only [go_sem, simprocAttr]; with_reducible rfl); refine ⟨?_, ?_, ?_, ?_⟩ <;> (simp only [go_sem, simprocAttr]; with_reducible rfl)), 0, fun _ => false, rfl, rfl, Nat.zero_le _, fun k _ => by simp⟩ ?_
  rintro mm s ⟨j, g, rfl, rfl, hj, hg⟩
  by_cases hlt : j < u.length
  · obtain ⟨v, hv⟩ : ∃ v, u[j]! = v := ⟨_, rfl⟩
    have hvb := hu5 v (bang_mem hv hlt)
    have htk := take_next hv hlt
    have hg' : ∀ k : Nat, k < 5 → (u.take (j + 1)).contains (k : Int) = (decide (v = (k : Int)) || g k) := fun k hk => by
      rw [htk, List.contains_eq_any_beq, List.any_append, hg k hk, List.contains_eq_any_beq, Bool.or_comm]
      congr 1
      simp only [List.any_cons, List.any_nil, Bool.or_false]
      by_cases e : v = (k : Int)
      · rw [e]; simp
      · rw [decide_eq_false e]; simpa using fun e2 => e e2.symm
    have hv5 : v = 0 ∨ v = 1 ∨ v = 2 ∨ v = 3 ∨ v = 4 := by omega
    rcases hv5 with rfl | rfl | rfl | rfl | rfl
    · repeat' (first | (with_reducible first | refine SW_seq ?_ | refine SW_block ?_ | refine SThen_n ?_ | refine SThen_r ?_ | refine SThen_e ?_ | refine SIn_n ?_ | refine SIn_r ?_ | refine SIn_eq ?_ | refine SW_skip ?_ | refine SW_exit ?_ | refine SW_ret ?_ | refine SPost_r ?_) | ((with_reducible refine SIn_ne ?_ ?_); focus decide) | ((with_reducible refine SW_true ?_ ?_); focus exact rfl) | ((with_reducible refine SW_false ?_ ?_); focus exact rfl) | ((first | (with_reducible apply SW_run tt_ok hG htb) | ((with_reducible apply SW_draw rfl tt_ok hG htb); (focus kernel_rfl); (focus (simp only [List.range, List.range.loop, List.size_toArray, List.length_cons, List.length_nil, Nat.reduceAdd])))); focus ((repeat' (first | (with_reducible exact runX_nil) | (with_reducible exact runI_nil) | ((first | (with_reducible apply runX_cons) | (with_reducible apply runI_cons)); focus (simp (discharger := omega) only [go_sem, hv, simprocAttr]; with_reducible rfl)))); done)))
      exact ⟨u.length - (j + 1), _, by omega, Norm.headS (own := []) (keep := [0, 1, 4, 6, 17, 18, 19]) (by refine ⟨?_, ?_⟩; (simp (discharger := omega) only [go_sem, simprocAttr]; with_reducible rfl); refine ⟨?_, ?_, ?_, ?_⟩ <;> (simp only [go_sem, simprocAttr]; with_reducible rfl)), j + 1, fun k => if k = 0 then true else g k, rfl, rfl, by omega, fun k hk => by
        rw [hg' k hk]
        dsimp only
        by_cases e : k = 0
        · subst e; simp
        · rw [if_neg e, decide_eq_false (by omega), Bool.false_or]⟩
    · repeat' (first | (with_reducible first | refine SW_seq ?_ | refine SW_block ?_ | refine SThen_n ?_ | refine SThen_r ?_ | refine SThen_e ?_ | refine SIn_n ?_ | refine SIn_r ?_ | refine SIn_eq ?_ | refine SW_skip ?_ | refine SW_exit ?_ | refine SW_ret ?_ | refine SPost_r ?_) | ((with_reducible refine SIn_ne ?_ ?_); focus decide) | ((with_reducible refine SW_true ?_ ?_); focus exact rfl) | ((with_reducible refine SW_false ?_ ?_); focus exact rfl) | ((first | (with_reducible apply SW_run tt_ok hG htb) | ((with_reducible apply SW_draw rfl tt_ok hG htb); (focus kernel_rfl); (focus (simp only [List.range, List.range.loop, List.size_toArray, List.length_cons, List.length_nil, Nat.reduceAdd])))); focus ((repeat' (first | (with_reducible exact runX_nil) | (with_reducible exact runI_nil) | ((first | (with_reducible apply runX_cons) | (with_reducible apply runI_cons)); focus (simp (discharger := omega) only [go_sem, hv, simprocAttr]; with_reducible rfl)))); done)))
      exact ⟨u.length - (j + 1), _, by omega, Norm.headS (own := []) (keep := [0, 1, 4, 6, 17, 18, 19]) (by refine ⟨?_, ?_⟩; (simp (discharger := omega) only [go_sem, simprocAttr]; with_reducible rfl); refine ⟨?_, ?_, ?_, ?_⟩ <;> (simp only [go_sem, simprocAttr]; with_reducible rfl)), j + 1, fun k => if k = 1 then true else g k, rfl, rfl, by omega, fun k hk => by
        rw [hg' k hk]
        dsimp only
        by_cases e : k = 1
        · subst e; simp
        · rw [if_neg e, decide_eq_false (by omega), Bool.false_or]⟩
    · repeat' (first | (with_reducible first | refine SW_seq ?_ | refine SW_block ?_ | refine SThen_n ?_ | refine SThen_r ?_ | refine SThen_e ?_ | refine SIn_n ?_ | refine SIn_r ?_ | refine SIn_eq ?_ | refine SW_skip ?_ | refine SW_exit ?_ | refine SW_ret ?_ | refine SPost_r ?_) | ((with_reducible refine SIn_ne ?_ ?_); focus decide) | ((with_reducible refine SW_true ?_ ?_); focus exact rfl) | ((with_reducible refine SW_false ?_ ?_); focus exact rfl) | ((first | (with_reducible apply SW_run tt_ok hG htb) | ((with_reducible apply SW_draw rfl tt_ok hG htb); (focus kernel_rfl); (focus (simp only [List.range, List.range.loop, List.size_toArray, List.length_cons, List.length_nil, Nat.reduceAdd])))); focus ((repeat' (first | (with_reducible exact runX_nil) | (with_reducible exact runI_nil) | ((first | (with_reducible apply runX_cons) | (with_reducible apply runI_cons)); focus (simp (discharger := omega) only [go_sem, hv, simprocAttr]; with_reducible rfl)))); done)))
      exact ⟨u.length - (j + 1), _, by omega, Norm.headS (own := []) (keep := [0, 1, 4, 6, 17, 18, 19]) (by refine ⟨?_, ?_⟩; (simp (discharger := omega) only [go_sem, simprocAttr]; with_reducible rfl); refine ⟨?_, ?_, ?_, ?_⟩ <;> (simp only [go_sem, simprocAttr]; with_reducible rfl)), j + 1, fun k => if k = 2 then true else g k, rfl, rfl, by omega, fun k hk => by
        rw [hg' k hk]
        dsimp only
        by_cases e : k = 2
        · subst e; simp
        · rw [if_neg e, decide_eq_false (by omega), Bool.false_or]⟩
    · repeat' (first | (with_reducible first | refine SW_seq ?_ | refine SW_block ?_ | refine SThen_n ?_ | refine SThen_r ?_ | refine SThen_e ?_ | refine SIn_n ?_ | refine SIn_r ?_ | refine SIn_eq ?_ | refine SW_skip ?_ | refine SW_exit ?_ | refine SW_ret ?_ | refine SPost_r ?_) | ((with_reducible refine SIn_ne ?_ ?_); focus decide) | ((with_reducible refine SW_true ?_ ?_); focus exact rfl) | ((with_reducible refine SW_false ?_ ?_); focus exact rfl) | ((first | (with_reducible apply SW_run tt_ok hG htb) | ((with_reducible apply SW_draw rfl tt_ok hG htb); (focus kernel_rfl); (focus (simp only [List.range, List.range.loop, List.size_toArray, List.length_cons, List.length_nil, Nat.reduceAdd])))); focus ((repeat' (first | (with_reducible exact runX_nil) | (with_reducible exact runI_nil) | ((first | (with_reducible apply runX_cons) | (with_reducible apply runI_cons)); focus (simp (discharger := omega) only [go_sem, hv, simprocAttr]; with_reducible rfl)))); done)))
      exact ⟨u.length - (j + 1), _, by omega, Norm.headS (own := []) (keep := [0, 1, 4, 6, 17, 18, 19]) (by refine ⟨?_, ?_⟩; (simp (discharger := omega) only [go_sem, simprocAttr]; with_reducible rfl); refine ⟨?_, ?_, ?_, ?_⟩ <;> (simp only [go_sem, simprocAttr]; with_reducible rfl)), j + 1, fun k => if k = 3 then true else g k, rfl, rfl, by omega, fun k hk => by
        rw [hg' k hk]
        dsimp only
        by_cases e : k = 3
        · subst e; simp
        · rw [if_neg e, decide_eq_false (by omega), Bool.false_or]⟩
    · repeat' (first | (with_reducible first | refine SW_seq ?_ | refine SW_block ?_ | refine SThen_n ?_ | refine SThen_r ?_ | refine SThen_e ?_ | refine SIn_n ?_ | refine SIn_r ?_ | refine SIn_eq ?_ | refine SW_skip ?_ | refine SW_exit ?_ | refine SW_ret ?_ | refine SPost_r ?_) | ((with_reducible refine SIn_ne ?_ ?_); focus decide) | ((with_reducible refine SW_true ?_ ?_); focus exact rfl) | ((with_reducible refine SW_false ?_ ?_); focus exact rfl) | ((first | (with_reducible apply SW_run tt_ok hG htb) | ((with_reducible apply SW_draw rfl tt_ok hG htb); (focus kernel_rfl); (focus (simp only [List.range, List.range.loop, List.size_toArray, List.length_cons, List.length_nil, Nat.reduceAdd])))); focus ((repeat' (first | (with_reducible exact runX_nil) | (with_reducible exact runI_nil) | ((first | (with_reducible apply runX_cons) | (with_reducible apply runI_cons)); focus (simp (discharger := omega) only [go_sem, hv, simprocAttr]; with_reducible rfl)))); done)))
      exact ⟨u.length - (j + 1), _, by omega, Norm.headS (own := []) (keep := [0, 1, 4, 6, 17, 18, 19]) (by refine ⟨?_, ?_⟩; (simp (discharger := omega) only [go_sem, simprocAttr]; with_reducible rfl); refine ⟨?_, ?_, ?_, ?_⟩ <;> (simp only [go_sem, simprocAttr]; with_reducible rfl)), j + 1, fun k => if k = 4 then true else g k, rfl, rfl, by omega, fun k hk => by
        rw [hg' k hk]
        dsimp only
        by_cases e : k = 4
        · subst e; simp
        · rw [if_neg e, decide_eq_false (by omega), Bool.false_or]⟩
  · obtain rfl : j = u.length := by omega
    rw [List.take_length] at hg
    clear htb hj hlt
    generalize hpE : partsOf op = pp at *
    have htb := Tab.cons cP Tab.nil
    repeat' (first | (with_reducible first | refine SW_seq ?_ | refine SW_block ?_ | refine SThen_n ?_ | refine SThen_r ?_ | refine SThen_e ?_ | refine SIn_n ?_ | refine SIn_r ?_ | refine SIn_eq ?_ | refine SW_skip ?_ | refine SW_exit ?_ | refine SW_ret ?_ | refine SPost_r ?_) | ((with_reducible refine SIn_ne ?_ ?_); focus decide) | ((with_reducible refine SW_true ?_ ?_); focus exact rfl) | ((with_reducible refine SW_false ?_ ?_); focus exact rfl) | ((first | (with_reducible apply SW_run tt_ok hG htb) | ((with_reducible apply SW_draw rfl tt_ok hG htb); (focus kernel_rfl); (focus (simp only [List.range, List.range.loop, List.size_toArray, List.length_cons, List.length_nil, Nat.reduceAdd])))); focus ((repeat' (first | (with_reducible exact runX_nil) | (with_reducible exact runI_nil) | ((first | (with_reducible apply runX_cons) | (with_reducible apply runI_cons)); focus (simp (discharger := omega) only [go_sem, hn1, tNode, simprocAttr]; with_reducible rfl)))); done)))
    have hbt : ∀ k : Nat, k < 5 → b k = if (op = 8 ∨ op = 9) ∧ var = (k : Int) then false else (g k || rest k) := fun k hk => by rw [hb k hk, hg k hk]
    clear hb hg hu5 hul
    refine SW_loop (fun mm s => ∃ (k j : Nat) (g d : Nat → Bool), mm = pp.toNat - k ∧ s = ⟨79, [(0, .t (.list (f.map tNode))), (1, .t (tNat i)), (4, .bptr 0 0), (6, .bptr 1 0), (9, .t (tNat j)), (33, .t (tInt pp)), (34, .t (tNat k))], [.box [.t (.bool false), .t (.bool false), .t (.bool false), .t (.bool false), .t (.bool false)], .box [.t (.bool (g 0)), .t (.bool (g 1)), .t (.bool (g 2)), .t (.bool (g 3)), .t (.bool (g 4))]]⟩ ∧ k ≤ pp.toNat ∧ RestF G f (pp.toNat - k) j e d ∧ (∀ k : Nat, k < 5 → b k = if (op = 8 ∨ op = 9) ∧ var = (k : Int) then false else (g k || d k)) ∧ j ≤ f.length) (pp.toNat)
      ⟨_, Norm.headS (own := []) (keep := [0, 1, 4, 6, 9, 33, 34]) (by refine ⟨?_, ?_⟩; (simp (discharger := omega) only [go_sem, simprocAttr]; with_reducible rfl); refine ⟨?_, ?_, ?_, ?_⟩ <;> (simp only [go_sem, simprocAttr]; with_reducible rfl)), 0, i + 1, g, rest, rfl, rfl, Nat.zero_le _, hR, hbt, by omega⟩ ?_
    clear hR hbt htb
    rintro mm s ⟨k, j, g, d, rfl, rfl, hk, hR, hbt, hjl⟩
    by_cases hlt : k < pp.toNat
    · obtain ⟨r, hr⟩ : ∃ r, pp.toNat - k = r + 1 := ⟨pp.toNat - k - 1, by omega⟩
      rw [hr] at hR
      obtain ⟨m, b1, d2, c1, hjm, hmf, hR2, hd⟩ := hR
      have htb := Tab.cons c1 Tab.nil
      unfold tForm at htb
      repeat' (first | (with_reducible first | refine SW_seq ?_ | refine SW_block ?_ | refine SThen_n ?_ | refine SThen_r ?_ | refine SThen_e ?_ | refine SIn_n ?_ | refine SIn_r ?_ | refine SIn_eq ?_ | refine SW_skip ?_ | refine SW_exit ?_ | refine SW_ret ?_ | refine SPost_r ?_) | ((with_reducible refine SIn_ne ?_ ?_); focus decide) | ((with_reducible refine SW_true ?_ ?_); focus exact rfl) | ((with_reducible refine SW_false ?_ ?_); focus exact rfl) | ((first | (with_reducible apply SW_run tt_ok hG htb) | ((with_reducible apply SW_draw rfl tt_ok hG htb); (focus kernel_rfl); (focus (simp only [List.range, List.range.loop, List.size_toArray, List.length_cons, List.length_nil, Nat.reduceAdd])))); focus ((repeat' (first | (with_reducible exact runX_nil) | (with_reducible exact runI_nil) | ((first | (with_reducible apply runX_cons) | (with_reducible apply runI_cons)); focus (simp (discharger := omega) only [go_sem, tSet, simprocAttr]; with_reducible rfl)))); done)))
      refine SW_loop (fun mm s => ∃ (v : Nat) (q : Nat → Bool), mm = 5 - v ∧ s = ⟨79, [(0, .t (.list (f.map tNode))), (1, .t (tNat i)), (4, .bptr 0 0), (6, .bptr 1 0), (9, .t (tNat m)), (33, .t (tInt pp)), (34, .t (tNat k)), (42, .t (tSet b1)), (43, .t (tNat v))], [.box [.t (.bool false), .t (.bool false), .t (.bool false), .t (.bool false), .t (.bool false)], .box [.t (.bool (q 0)), .t (.bool (q 1)), .t (.bool (q 2)), .t (.bool (q 3)), .t (.bool (q 4))]]⟩ ∧ v ≤ 5 ∧ ∀ x : Nat, q x = if x < v then (g x || b1 x) else g x) 5
        ⟨_, Norm.headS (own := []) (keep := [0, 1, 4, 6, 9, 33, 34, 42, 43]) (by refine ⟨?_, ?_⟩; (simp (discharger := omega) only [go_sem, simprocAttr]; with_reducible rfl); refine ⟨?_, ?_, ?_, ?_⟩ <;> (simp only [go_sem, simprocAttr]; with_reducible rfl)), 0, g, rfl, rfl, by omega, fun x => by simp⟩ ?_
      rintro mm s ⟨v, q, rfl, rfl, hv, hq⟩
      by_cases hv5 : v < 5
      · have hvc : v = 0 ∨ v = 1 ∨ v = 2 ∨ v = 3 ∨ v = 4 := by omega
        rcases hvc with rfl | rfl | rfl | rfl | rfl
        · cases hqv : q 0 with
          | true =>
            repeat' (first | (with_reducible first | refine SW_seq ?_ | refine SW_block ?_ | refine SThen_n ?_ | refine SThen_r ?_ | refine SThen_e ?_ | refine SIn_n ?_ | refine SIn_r ?_ | refine SIn_eq ?_ | refine SW_skip ?_ | refine SW_exit ?_ | refine SW_ret ?_ | refine SPost_r ?_) | ((with_reducible refine SIn_ne ?_ ?_); focus decide) | ((with_reducible refine SW_true ?_ ?_); focus exact rfl) | ((with_reducible refine SW_false ?_ ?_); focus exact rfl) | ((first | (with_reducible apply SW_run tt_ok hG htb) | ((with_reducible apply SW_draw rfl tt_ok hG htb); (focus kernel_rfl); (focus (simp only [List.range, List.range.loop, List.size_toArray, List.length_cons, List.length_nil, Nat.reduceAdd])))); focus ((repeat' (first | (with_reducible exact runX_nil) | (with_reducible exact runI_nil) | ((first | (with_reducible apply runX_cons) | (with_reducible apply runI_cons)); focus (simp (discharger := omega) only [go_sem, tSet, hqv, simprocAttr]; with_reducible rfl)))); done)))
            exact ⟨5 - (0 + 1), _, by omega, Norm.headS (own := []) (keep := [0, 1, 4, 6, 9, 33, 34, 42, 43]) (by refine ⟨?_, ?_⟩; (simp (discharger := omega) only [go_sem, simprocAttr]; with_reducible rfl); refine ⟨?_, ?_, ?_, ?_⟩ <;> (simp only [go_sem, simprocAttr]; with_reducible rfl)), 0 + 1, fun k => if k = 0 then true else q k, rfl, rfl, by omega, fun x => by
              have h1 := hq x
              dsimp only
              by_cases e : x = 0
              · subst e
                rw [if_neg (by omega)] at h1
                rw [if_pos rfl, if_pos (by omega), ← h1, hqv]; rfl
              · rw [if_neg e, h1]
                by_cases e2 : x < 0
                · rw [if_pos e2, if_pos (by omega)]
                · rw [if_neg e2, if_neg (by omega)]⟩
          | false =>
            repeat' (first | (with_reducible first | refine SW_seq ?_ | refine SW_block ?_ | refine SThen_n ?_ | refine SThen_r ?_ | refine SThen_e ?_ | refine SIn_n ?_ | refine SIn_r ?_ | refine SIn_eq ?_ | refine SW_skip ?_ | refine SW_exit ?_ | refine SW_ret ?_ | refine SPost_r ?_) | ((with_reducible refine SIn_ne ?_ ?_); focus decide) | ((with_reducible refine SW_true ?_ ?_); focus exact rfl) | ((with_reducible refine SW_false ?_ ?_); focus exact rfl) | ((first | (with_reducible apply SW_run tt_ok hG htb) | ((with_reducible apply SW_draw rfl tt_ok hG htb); (focus kernel_rfl); (focus (simp only [List.range, List.range.loop, List.size_toArray, List.length_cons, List.length_nil, Nat.reduceAdd])))); focus ((repeat' (first | (with_reducible exact runX_nil) | (with_reducible exact runI_nil) | ((first | (with_reducible apply runX_cons) | (with_reducible apply runI_cons)); focus (simp (discharger := omega) only [go_sem, tSet, hqv, simprocAttr]; with_reducible rfl)))); done)))
            exact ⟨5 - (0 + 1), _, by omega, Norm.headS (own := []) (keep := [0, 1, 4, 6, 9, 33, 34, 42, 43]) (by refine ⟨?_, ?_⟩; (simp (discharger := omega) only [go_sem, simprocAttr]; with_reducible rfl); refine ⟨?_, ?_, ?_, ?_⟩ <;> (simp only [go_sem, simprocAttr]; with_reducible rfl)), 0 + 1, fun k => if k = 0 then b1 0 else q k, rfl, rfl, by omega, fun x => by
              have h1 := hq x
              dsimp only
              by_cases e : x = 0
              · subst e
                rw [if_neg (by omega)] at h1
                rw [if_pos rfl, if_pos (by omega), ← h1, hqv]; rfl
              · rw [if_neg e, h1]
                by_cases e2 : x < 0
                · rw [if_pos e2, if_pos (by omega)]
                · rw [if_neg e2, if_neg (by omega)]⟩
        · cases hqv : q 1 with
          | true =>
            repeat' (first | (with_reducible first | refine SW_seq ?_ | refine SW_block ?_ | refine SThen_n ?_ | refine SThen_r ?_ | refine SThen_e ?_ | refine SIn_n ?_ | refine SIn_r ?_ | refine SIn_eq ?_ | refine SW_skip ?_ | refine SW_exit ?_ | refine SW_ret ?_ | refine SPost_r ?_) | ((with_reducible refine SIn_ne ?_ ?_); focus decide) | ((with_reducible refine SW_true ?_ ?_); focus exact rfl) | ((with_reducible refine SW_false ?_ ?_); focus exact rfl) | ((first | (with_reducible apply SW_run tt_ok hG htb) | ((with_reducible apply SW_draw rfl tt_ok hG htb); (focus kernel_rfl); (focus (simp only [List.range, List.range.loop, List.size_toArray, List.length_cons, List.length_nil, Nat.reduceAdd])))); focus ((repeat' (first | (with_reducible exact runX_nil) | (with_reducible exact runI_nil) | ((first | (with_reducible apply runX_cons) | (with_reducible apply runI_cons)); focus (simp (discharger := omega) only [go_sem, tSet, hqv, simprocAttr]; with_reducible rfl)))); done)))
            exact ⟨5 - (1 + 1), _, by omega, Norm.headS (own := []) (keep := [0, 1, 4, 6, 9, 33, 34, 42, 43]) (by refine ⟨?_, ?_⟩; (simp (discharger := omega) only [go_sem, simprocAttr]; with_reducible rfl); refine ⟨?_, ?_, ?_, ?_⟩ <;> (simp only [go_sem, simprocAttr]; with_reducible rfl)), 1 + 1, fun k => if k = 1 then true else q k, rfl, rfl, by omega, fun x => by
              have h1 := hq x
              dsimp only
              by_cases e : x = 1
              · subst e
                rw [if_neg (by omega)] at h1
                rw [if_pos rfl, if_pos (by omega), ← h1, hqv]; rfl
              · rw [if_neg e, h1]
                by_cases e2 : x < 1
                · rw [if_pos e2, if_pos (by omega)]
                · rw [if_neg e2, if_neg (by omega)]⟩
          | false =>
            repeat' (first | (with_reducible first | refine SW_seq ?_ | refine SW_block ?_ | refine SThen_n ?_ | refine SThen_r ?_ | refine SThen_e ?_ | refine SIn_n ?_ | refine SIn_r ?_ | refine SIn_eq ?_ | refine SW_skip ?_ | refine SW_exit ?_ | refine SW_ret ?_ | refine SPost_r ?_) | ((with_reducible refine SIn_ne ?_ ?_); focus decide) | ((with_reducible refine SW_true ?_ ?_); focus exact rfl) | ((with_reducible refine SW_false ?_ ?_); focus exact rfl) | ((first | (with_reducible apply SW_run tt_ok hG htb) | ((with_reducible apply SW_draw rfl tt_ok hG htb); (focus kernel_rfl); (focus (simp only [List.range, List.range.loop, List.size_toArray, List.length_cons, List.length_nil, Nat.reduceAdd])))); focus ((repeat' (first | (with_reducible exact runX_nil) | (with_reducible exact runI_nil) | ((first | (with_reducible apply runX_cons) | (with_reducible apply runI_cons)); focus (simp (discharger := omega) only [go_sem, tSet, hqv, simprocAttr]; with_reducible rfl)))); done)))
            exact ⟨5 - (1 + 1), _, by omega, Norm.headS (own := []) (keep := [0, 1, 4, 6, 9, 33, 34, 42, 43]) (by refine ⟨?_, ?_⟩; (simp (discharger := omega) only [go_sem, simprocAttr]; with_reducible rfl); refine ⟨?_, ?_, ?_, ?_⟩ <;> (simp only [go_sem, simprocAttr]; with_reducible rfl)), 1 + 1, fun k => if k = 1 then b1 1 else q k, rfl, rfl, by omega, fun x => by
              have h1 := hq x
              dsimp only
              by_cases e : x = 1
              · subst e
                rw [if_neg (by omega)] at h1
                rw [if_pos rfl, if_pos (by omega), ← h1, hqv]; rfl
              · rw [if_neg e, h1]
                by_cases e2 : x < 1
                · rw [if_pos e2, if_pos (by omega)]
                · rw [if_neg e2, if_neg (by omega)]⟩
        · cases hqv : q 2 with
          | true =>
            repeat' (first | (with_reducible first | refine SW_seq ?_ | refine SW_block ?_ | refine SThen_n ?_ | refine SThen_r ?_ | refine SThen_e ?_ | refine SIn_n ?_ | refine SIn_r ?_ | refine SIn_eq ?_ | refine SW_skip ?_ | refine SW_exit ?_ | refine SW_ret ?_ | refine SPost_r ?_) | ((with_reducible refine SIn_ne ?_ ?_); focus decide) | ((with_reducible refine SW_true ?_ ?_); focus exact rfl) | ((with_reducible refine SW_false ?_ ?_); focus exact rfl) | ((first | (with_reducible apply SW_run tt_ok hG htb) | ((with_reducible apply SW_draw rfl tt_ok hG htb); (focus kernel_rfl); (focus (simp only [List.range, List.range.loop, List.size_toArray, List.length_cons, List.length_nil, Nat.reduceAdd])))); focus ((repeat' (first | (with_reducible exact runX_nil) | (with_reducible exact runI_nil) | ((first | (with_reducible apply runX_cons) | (with_reducible apply runI_cons)); focus (simp (discharger := omega) only [go_sem, tSet, hqv, simprocAttr]; with_reducible rfl)))); done)))
            exact ⟨5 - (2 + 1), _, by omega, Norm.headS (own := []) (keep := [0, 1, 4, 6, 9, 33, 34, 42, 43]) (by refine ⟨?_, ?_⟩; (simp (discharger := omega) only [go_sem, simprocAttr]; with_reducible rfl); refine ⟨?_, ?_, ?_, ?_⟩ <;> (simp only [go_sem, simprocAttr]; with_reducible rfl)), 2 + 1, fun k => if k = 2 then true else q k, rfl, rfl, by omega, fun x => by
              have h1 := hq x
              dsimp only
              by_cases e : x = 2
              · subst e
                rw [if_neg (by omega)] at h1
                rw [if_pos rfl, if_pos (by omega), ← h1, hqv]; rfl
              · rw [if_neg e, h1]
                by_cases e2 : x < 2
                · rw [if_pos e2, if_pos (by omega)]
                · rw [if_neg e2, if_neg (by omega)]⟩
          | false =>
            repeat' (first | (with_reducible first | refine SW_seq ?_ | refine SW_block ?_ | refine SThen_n ?_ | refine SThen_r ?_ | refine SThen_e ?_ | refine SIn_n ?_ | refine SIn_r ?_ | refine SIn_eq ?_ | refine SW_skip ?_ | refine SW_exit ?_ | refine SW_ret ?_ | refine SPost_r ?_) | ((with_reducible refine SIn_ne ?_ ?_); focus decide) | ((with_reducible refine SW_true ?_ ?_); focus exact rfl) | ((with_reducible refine SW_false ?_ ?_); focus exact rfl) | ((first | (with_reducible apply SW_run tt_ok hG htb) | ((with_reducible apply SW_draw rfl tt_ok hG htb); (focus kernel_rfl); (focus (simp only [List.range, List.range.loop, List.size_toArray, List.length_cons, List.length_nil, Nat.reduceAdd])))); focus ((repeat' (first | (with_reducible exact runX_nil) | (with_reducible exact runI_nil) | ((first | (with_reducible apply runX_cons) | (with_reducible apply runI_cons)); focus (simp (discharger := omega) only [go_sem, tSet, hqv, simprocAttr]; with_reducible rfl)))); done)))
            exact ⟨5 - (2 + 1), _, by omega, Norm.headS (own := []) (keep := [0, 1, 4, 6, 9, 33, 34, 42, 43]) (by refine ⟨?_, ?_⟩; (simp (discharger := omega) only [go_sem, simprocAttr]; with_reducible rfl); refine ⟨?_, ?_, ?_, ?_⟩ <;> (simp only [go_sem, simprocAttr]; with_reducible rfl)), 2 + 1, fun k => if k = 2 then b1 2 else q k, rfl, rfl, by omega, fun x => by
              have h1 := hq x
              dsimp only
              by_cases e : x = 2
              · subst e
                rw [if_neg (by omega)] at h1
                rw [if_pos rfl, if_pos (by omega), ← h1, hqv]; rfl
              · rw [if_neg e, h1]
                by_cases e2 : x < 2
                · rw [if_pos e2, if_pos (by omega)]
                · rw [if_neg e2, if_neg (by omega)]⟩
        · cases hqv : q 3 with
          | true =>
            repeat' (first | (with_reducible first | refine SW_seq ?_ | refine SW_block ?_ | refine SThen_n ?_ | refine SThen_r ?_ | refine SThen_e ?_ | refine SIn_n ?_ | refine SIn_r ?_ | refine SIn_eq ?_ | refine SW_skip ?_ | refine SW_exit ?_ | refine SW_ret ?_ | refine SPost_r ?_) | ((with_reducible refine SIn_ne ?_ ?_); focus decide) | ((with_reducible refine SW_true ?_ ?_); focus exact rfl) | ((with_reducible refine SW_false ?_ ?_); focus exact rfl) | ((first | (with_reducible apply SW_run tt_ok hG htb) | ((with_reducible apply SW_draw rfl tt_ok hG htb); (focus kernel_rfl); (focus (simp only [List.range, List.range.loop, List.size_toArray, List.length_cons, List.length_nil, Nat.reduceAdd])))); focus ((repeat' (first | (with_reducible exact runX_nil) | (with_reducible exact runI_nil) | ((first | (with_reducible apply runX_cons) | (with_reducible apply runI_cons)); focus (simp (discharger := omega) only [go_sem, tSet, hqv, simprocAttr]; with_reducible rfl)))); done)))
            exact ⟨5 - (3 + 1), _, by omega, Norm.headS (own := []) (keep := [0, 1, 4, 6, 9, 33, 34, 42, 43]) (by refine ⟨?_, ?_⟩; (simp (discharger := omega) only [go_sem, simprocAttr]; with_reducible rfl); refine ⟨?_, ?_, ?_, ?_⟩ <;> (simp only [go_sem, simprocAttr]; with_reducible rfl)), 3 + 1, fun k => if k = 3 then true else q k, rfl, rfl, by omega, fun x => by
              have h1 := hq x
              dsimp only
              by_cases e : x = 3
              · subst e
                rw [if_neg (by omega)] at h1
                rw [if_pos rfl, if_pos (by omega), ← h1, hqv]; rfl
              · rw [if_neg e, h1]
                by_cases e2 : x < 3
                · rw [if_pos e2, if_pos (by omega)]
                · rw [if_neg e2, if_neg (by omega)]⟩
          | false =>
            repeat' (first | (with_reducible first | refine SW_seq ?_ | refine SW_block ?_ | refine SThen_n ?_ | refine SThen_r ?_ | refine SThen_e ?_ | refine SIn_n ?_ | refine SIn_r ?_ | refine SIn_eq ?_ | refine SW_skip ?_ | refine SW_exit ?_ | refine SW_ret ?_ | refine SPost_r ?_) | ((with_reducible refine SIn_ne ?_ ?_); focus decide) | ((with_reducible refine SW_true ?_ ?_); focus exact rfl) | ((with_reducible refine SW_false ?_ ?_); focus exact rfl) | ((first | (with_reducible apply SW_run tt_ok hG htb) | ((with_reducible apply SW_draw rfl tt_ok hG htb); (focus kernel_rfl); (focus (simp only [List.range, List.range.loop, List.size_toArray, List.length_cons, List.length_nil, Nat.reduceAdd])))); focus ((repeat' (first | (with_reducible exact runX_nil) | (with_reducible exact runI_nil) | ((first | (with_reducible apply runX_cons) | (with_reducible apply runI_cons)); focus (simp (discharger := omega) only [go_sem, tSet, hqv, simprocAttr]; with_reducible rfl)))); done)))
            exact ⟨5 - (3 + 1), _, by omega, Norm.headS (own := []) (keep := [0, 1, 4, 6, 9, 33, 34, 42, 43]) (by refine ⟨?_, ?_⟩; (simp (discharger := omega) only [go_sem, simprocAttr]; with_reducible rfl); refine ⟨?_, ?_, ?_, ?_⟩ <;> (simp only [go_sem, simprocAttr]; with_reducible rfl)), 3 + 1, fun k => if k = 3 then b1 3 else q k, rfl, rfl, by omega, fun x => by
              have h1 := hq x
              dsimp only
              by_cases e : x = 3
              · subst e
                rw [if_neg (by omega)] at h1
                rw [if_pos rfl, if_pos (by omega), ← h1, hqv]; rfl
              · rw [if_neg e, h1]
                by_cases e2 : x < 3
                · rw [if_pos e2, if_pos (by omega)]
                · rw [if_neg e2, if_neg (by omega)]⟩
        · cases hqv : q 4 with
          | true =>
            repeat' (first | (with_reducible first | refine SW_seq ?_ | refine SW_block ?_ | refine SThen_n ?_ | refine SThen_r ?_ | refine SThen_e ?_ | refine SIn_n ?_ | refine SIn_r ?_ | refine SIn_eq ?_ | refine SW_skip ?_ | refine SW_exit ?_ | refine SW_ret ?_ | refine SPost_r ?_) | ((with_reducible refine SIn_ne ?_ ?_); focus decide) | ((with_reducible refine SW_true ?_ ?_); focus exact rfl) | ((with_reducible refine SW_false ?_ ?_); focus exact rfl) | ((first | (with_reducible apply SW_run tt_ok hG htb) | ((with_reducible apply SW_draw rfl tt_ok hG htb); (focus kernel_rfl); (focus (simp only [List.range, List.range.loop, List.size_toArray, List.length_cons, List.length_nil, Nat.reduceAdd])))); focus ((repeat' (first | (with_reducible exact runX_nil) | (with_reducible exact runI_nil) | ((first | (with_reducible apply runX_cons) | (with_reducible apply runI_cons)); focus (simp (discharger := omega) only [go_sem, tSet, hqv, simprocAttr]; with_reducible rfl)))); done)))
            exact ⟨5 - (4 + 1), _, by omega, Norm.headS (own := []) (keep := [0, 1, 4, 6, 9, 33, 34, 42, 43]) (by refine ⟨?_, ?_⟩; (simp (discharger := omega) only [go_sem, simprocAttr]; with_reducible rfl); refine ⟨?_, ?_, ?_, ?_⟩ <;> (simp only [go_sem, simprocAttr]; with_reducible rfl)), 4 + 1, fun k => if k = 4 then true else q k, rfl, rfl, by omega, fun x => by
              have h1 := hq x
              dsimp only
              by_cases e : x = 4
              · subst e
                rw [if_neg (by omega)] at h1
                rw [if_pos rfl, if_pos (by omega), ← h1, hqv]; rfl
              · rw [if_neg e, h1]
                by_cases e2 : x < 4
                · rw [if_pos e2, if_pos (by omega)]
                · rw [if_neg e2, if_neg (by omega)]⟩
          | false =>
            repeat' (first | (with_reducible first | refine SW_seq ?_ | refine SW_block ?_ | refine SThen_n ?_ | refine SThen_r ?_ | refine SThen_e ?_ | refine SIn_n ?_ | refine SIn_r ?_ | refine SIn_eq ?_ | refine SW_skip ?_ | refine SW_exit ?_ | refine SW_ret ?_ | refine SPost_r ?_) | ((with_reducible refine SIn_ne ?_ ?_); focus decide) | ((with_reducible refine SW_true ?_ ?_); focus exact rfl) | ((with_reducible refine SW_false ?_ ?_); focus exact rfl) | ((first | (with_reducible apply SW_run tt_ok hG htb) | ((with_reducible apply SW_draw rfl tt_ok hG htb); (focus kernel_rfl); (focus (simp only [List.range, List.range.loop, List.size_toArray, List.length_cons, List.length_nil, Nat.reduceAdd])))); focus ((repeat' (first | (with_reducible exact runX_nil) | (with_reducible exact runI_nil) | ((first | (with_reducible apply runX_cons) | (with_reducible apply runI_cons)); focus (simp (discharger := omega) only [go_sem, tSet, hqv, simprocAttr]; with_reducible rfl)))); done)))
            exact ⟨5 - (4 + 1), _, by omega, Norm.headS (own := []) (keep := [0, 1, 4, 6, 9, 33, 34, 42, 43]) (by refine ⟨?_, ?_⟩; (simp (discharger := omega) only [go_sem, simprocAttr]; with_reducible rfl); refine ⟨?_, ?_, ?_, ?_⟩ <;> (simp only [go_sem, simprocAttr]; with_reducible rfl)), 4 + 1, fun k => if k = 4 then b1 4 else q k, rfl, rfl, by omega, fun x => by
              have h1 := hq x
              dsimp only
              by_cases e : x = 4
              · subst e
                rw [if_neg (by omega)] at h1
                rw [if_pos rfl, if_pos (by omega), ← h1, hqv]; rfl
              · rw [if_neg e, h1]
                by_cases e2 : x < 4
                · rw [if_pos e2, if_pos (by omega)]
                · rw [if_neg e2, if_neg (by omega)]⟩
      · obtain rfl : v = 5 := by omega
        repeat' (first | (with_reducible first | refine SW_seq ?_ | refine SW_block ?_ | refine SThen_n ?_ | refine SThen_r ?_ | refine SThen_e ?_ | refine SIn_n ?_ | refine SIn_r ?_ | refine SIn_eq ?_ | refine SW_skip ?_ | refine SW_exit ?_ | refine SW_ret ?_ | refine SPost_r ?_) | ((with_reducible refine SIn_ne ?_ ?_); focus decide) | ((with_reducible refine SW_true ?_ ?_); focus exact rfl) | ((with_reducible refine SW_false ?_ ?_); focus exact rfl) | ((first | (with_reducible apply SW_run tt_ok hG htb) | ((with_reducible apply SW_draw rfl tt_ok hG htb); (focus kernel_rfl); (focus (simp only [List.range, List.range.loop, List.size_toArray, List.length_cons, List.length_nil, Nat.reduceAdd])))); focus ((repeat' (first | (with_reducible exact runX_nil) | (with_reducible exact runI_nil) | ((first | (with_reducible apply runX_cons) | (with_reducible apply runI_cons)); focus (simp (discharger := omega) only [go_sem, simprocAttr]; with_reducible rfl)))); done)))
        exact ⟨pp.toNat - (k + 1), _, by omega, Norm.headS (own := []) (keep := [0, 1, 4, 6, 9, 33, 34]) (by refine ⟨?_, ?_⟩; (simp (discharger := omega) only [go_sem, simprocAttr]; with_reducible rfl); refine ⟨?_, ?_, ?_, ?_⟩ <;> (simp only [go_sem, simprocAttr]; with_reducible rfl)), k + 1, m, q, d2, rfl, rfl, by omega, by rw [show pp.toNat - (k + 1) = r by omega]; exact hR2, fun x hx => by
          rw [hbt x hx, hq x, if_pos hx, hd x, Bool.or_assoc], hmf⟩
    · rw [show pp.toNat - k = 0 by omega] at hR
      obtain ⟨rfl, hd⟩ := hR
      have hbt : ∀ x : Nat, x < 5 → b x = if (op = 8 ∨ op = 9) ∧ var = (x : Int) then false else g x := fun x hx => by rw [hbt x hx, hd x, Bool.or_false]
      have htb : Tab.ok Try.prog G [] := Tab.nil
      by_cases h89 : op = 8 ∨ op = 9
      · have hvb := hvar h89
        have hvc : var = 0 ∨ var = 1 ∨ var = 2 ∨ var = 3 ∨ var = 4 := by omega
        rcases hvc with rfl | rfl | rfl | rfl | rfl
        · have hs : tSet b = .agg [.bool false, .bool (g 1), .bool (g 2), .bool (g 3), .bool (g 4)] := by
            unfold tSet
            rw [hbt 0 (by omega), hbt 1 (by omega), hbt 2 (by omega), hbt 3 (by omega), hbt 4 (by omega)]
            simp [h89]
          rw [hs]
          rcases h89 with rfl | rfl
          · repeat' (first | (with_reducible first | refine SW_seq ?_ | refine SW_block ?_ | refine SThen_n ?_ | refine SThen_r ?_ | refine SThen_e ?_ | refine SIn_n ?_ | refine SIn_r ?_ | refine SIn_eq ?_ | refine SW_skip ?_ | refine SW_exit ?_ | refine SW_ret ?_ | refine SPost_r ?_) | ((with_reducible refine SIn_ne ?_ ?_); focus decide) | ((with_reducible refine SW_true ?_ ?_); focus exact rfl) | ((with_reducible refine SW_false ?_ ?_); focus exact rfl) | ((first | (with_reducible apply SW_run tt_ok hG htb) | ((with_reducible apply SW_draw rfl tt_ok hG htb); (focus kernel_rfl); (focus (simp only [List.range, List.range.loop, List.size_toArray, List.length_cons, List.length_nil, Nat.reduceAdd])))); focus ((repeat' (first | (with_reducible exact runX_nil) | (with_reducible exact runI_nil) | ((first | (with_reducible apply runX_cons) | (with_reducible apply runI_cons)); focus (simp (discharger := omega) only [go_sem, hn1, tNode, simprocAttr]; with_reducible rfl)))); done)))
            exact (by simp (discharger := omega) only [go_sem, simprocAttr])
          · repeat' (first | (with_reducible first | refine SW_seq ?_ | refine SW_block ?_ | refine SThen_n ?_ | refine SThen_r ?_ | refine SThen_e ?_ | refine SIn_n ?_ | refine SIn_r ?_ | refine SIn_eq ?_ | refine SW_skip ?_ | refine SW_exit ?_ | refine SW_ret ?_ | refine SPost_r ?_) | ((with_reducible refine SIn_ne ?_ ?_); focus decide) | ((with_reducible refine SW_true ?_ ?_); focus exact rfl) | ((with_reducible refine SW_false ?_ ?_); focus exact rfl) | ((first | (with_reducible apply SW_run tt_ok hG htb) | ((with_reducible apply SW_draw rfl tt_ok hG htb); (focus kernel_rfl); (focus (simp only [List.range, List.range.loop, List.size_toArray, List.length_cons, List.length_nil, Nat.reduceAdd])))); focus ((repeat' (first | (with_reducible exact runX_nil) | (with_reducible exact runI_nil) | ((first | (with_reducible apply runX_cons) | (with_reducible apply runI_cons)); focus (simp (discharger := omega) only [go_sem, hn1, tNode, simprocAttr]; with_reducible rfl)))); done)))
            exact (by simp (discharger := omega) only [go_sem, simprocAttr])
        · have hs : tSet b = .agg [.bool (g 0), .bool false, .bool (g 2), .bool (g 3), .bool (g 4)] := by
            unfold tSet
            rw [hbt 0 (by omega), hbt 1 (by omega), hbt 2 (by omega), hbt 3 (by omega), hbt 4 (by omega)]
            simp [h89]
          rw [hs]
          rcases h89 with rfl | rfl
          · repeat' (first | (with_reducible first | refine SW_seq ?_ | refine SW_block ?_ | refine SThen_n ?_ | refine SThen_r ?_ | refine SThen_e ?_ | refine SIn_n ?_ | refine SIn_r ?_ | refine SIn_eq ?_ | refine SW_skip ?_ | refine SW_exit ?_ | refine SW_ret ?_ | refine SPost_r ?_) | ((with_reducible refine SIn_ne ?_ ?_); focus decide) | ((with_reducible refine SW_true ?_ ?_); focus exact rfl) | ((with_reducible refine SW_false ?_ ?_); focus exact rfl) | ((first | (with_reducible apply SW_run tt_ok hG htb) | ((with_reducible apply SW_draw rfl tt_ok hG htb); (focus kernel_rfl); (focus (simp only [List.range, List.range.loop, List.size_toArray, List.length_cons, List.length_nil, Nat.reduceAdd])))); focus ((repeat' (first | (with_reducible exact runX_nil) | (with_reducible exact runI_nil) | ((first | (with_reducible apply runX_cons) | (with_reducible apply runI_cons)); focus (simp (discharger := omega) only [go_sem, hn1, tNode, simprocAttr]; with_reducible rfl)))); done)))
            exact (by simp (discharger := omega) only [go_sem, simprocAttr])
          · repeat' (first | (with_reducible first | refine SW_seq ?_ | refine SW_block ?_ | refine SThen_n ?_ | refine SThen_r ?_ | refine SThen_e ?_ | refine SIn_n ?_ | refine SIn_r ?_ | refine SIn_eq ?_ | refine SW_skip ?_ | refine SW_exit ?_ | refine SW_ret ?_ | refine SPost_r ?_) | ((with_reducible refine SIn_ne ?_ ?_); focus decide) | ((with_reducible refine SW_true ?_ ?_); focus exact rfl) | ((with_reducible refine SW_false ?_ ?_); focus exact rfl) | ((first | (with_reducible apply SW_run tt_ok hG htb) | ((with_reducible apply SW_draw rfl tt_ok hG htb); (focus kernel_rfl); (focus (simp only [List.range, List.range.loop, List.size_toArray, List.length_cons, List.length_nil, Nat.reduceAdd])))); focus ((repeat' (first | (with_reducible exact runX_nil) | (with_reducible exact runI_nil) | ((first | (with_reducible apply runX_cons) | (with_reducible apply runI_cons)); focus (simp (discharger := omega) only [go_sem, hn1, tNode, simprocAttr]; with_reducible rfl)))); done)))
            exact (by simp (discharger := omega) only [go_sem, simprocAttr])
        · have hs : tSet b = .agg [.bool (g 0), .bool (g 1), .bool false, .bool (g 3), .bool (g 4)] := by
            unfold tSet
            rw [hbt 0 (by omega), hbt 1 (by omega), hbt 2 (by omega), hbt 3 (by omega), hbt 4 (by omega)]
            simp [h89]
          rw [hs]
          rcases h89 with rfl | rfl
          · repeat' (first | (with_reducible first | refine SW_seq ?_ | refine SW_block ?_ | refine SThen_n ?_ | refine SThen_r ?_ | refine SThen_e ?_ | refine SIn_n ?_ | refine SIn_r ?_ | refine SIn_eq ?_ | refine SW_skip ?_ | refine SW_exit ?_ | refine SW_ret ?_ | refine SPost_r ?_) | ((with_reducible refine SIn_ne ?_ ?_); focus decide) | ((with_reducible refine SW_true ?_ ?_); focus exact rfl) | ((with_reducible refine SW_false ?_ ?_); focus exact rfl) | ((first | (with_reducible apply SW_run tt_ok hG htb) | ((with_reducible apply SW_draw rfl tt_ok hG htb); (focus kernel_rfl); (focus (simp only [List.range, List.range.loop, List.size_toArray, List.length_cons, List.length_nil, Nat.reduceAdd])))); focus ((repeat' (first | (with_reducible exact runX_nil) | (with_reducible exact runI_nil) | ((first | (with_reducible apply runX_cons) | (with_reducible apply runI_cons)); focus (simp (discharger := omega) only [go_sem, hn1, tNode, simprocAttr]; with_reducible rfl)))); done)))
            exact (by simp (discharger := omega) only [go_sem, simprocAttr])
          · repeat' (first | (with_reducible first | refine SW_seq ?_ | refine SW_block ?_ | refine SThen_n ?_ | refine SThen_r ?_ | refine SThen_e ?_ | refine SIn_n ?_ | refine SIn_r ?_ | refine SIn_eq ?_ | refine SW_skip ?_ | refine SW_exit ?_ | refine SW_ret ?_ | refine SPost_r ?_) | ((with_reducible refine SIn_ne ?_ ?_); focus decide) | ((with_reducible refine SW_true ?_ ?_); focus exact rfl) | ((with_reducible refine SW_false ?_ ?_); focus exact rfl) | ((first | (with_reducible apply SW_run tt_ok hG htb) | ((with_reducible apply SW_draw rfl tt_ok hG htb); (focus kernel_rfl); (focus (simp only [List.range, List.range.loop, List.size_toArray, List.length_cons, List.length_nil, Nat.reduceAdd])))); focus ((repeat' (first | (with_reducible exact runX_nil) | (with_reducible exact runI_nil) | ((first | (with_reducible apply runX_cons) | (with_reducible apply runI_cons)); focus (simp (discharger := omega) only [go_sem, hn1, tNode, simprocAttr]; with_reducible rfl)))); done)))
            exact (by simp (discharger := omega) only [go_sem, simprocAttr])
        · have hs : tSet b = .agg [.bool (g 0), .bool (g 1), .bool (g 2), .bool false, .bool (g 4)] := by
            unfold tSet
            rw [hbt 0 (by omega), hbt 1 (by omega), hbt 2 (by omega), hbt 3 (by omega), hbt 4 (by omega)]
            simp [h89]
          rw [hs]
          rcases h89 with rfl | rfl
          · repeat' (first | (with_reducible first | refine SW_seq ?_ | refine SW_block ?_ | refine SThen_n ?_ | refine SThen_r ?_ | refine SThen_e ?_ | refine SIn_n ?_ | refine SIn_r ?_ | refine SIn_eq ?_ | refine SW_skip ?_ | refine SW_exit ?_ | refine SW_ret ?_ | refine SPost_r ?_) | ((with_reducible refine SIn_ne ?_ ?_); focus decide) | ((with_reducible refine SW_true ?_ ?_); focus exact rfl) | ((with_reducible refine SW_false ?_ ?_); focus exact rfl) | ((first | (with_reducible apply SW_run tt_ok hG htb) | ((with_reducible apply SW_draw rfl tt_ok hG htb); (focus kernel_rfl); (focus (simp only [List.range, List.range.loop, List.size_toArray, List.length_cons, List.length_nil, Nat.reduceAdd])))); focus ((repeat' (first | (with_reducible exact runX_nil) | (with_reducible exact runI_nil) | ((first | (with_reducible apply runX_cons) | (with_reducible apply runI_cons)); focus (simp (discharger := omega) only [go_sem, hn1, tNode, simprocAttr]; with_reducible rfl)))); done)))
            exact (by simp (discharger := omega) only [go_sem, simprocAttr])
          · repeat' (first | (with_reducible first | refine SW_seq ?_ | refine SW_block ?_ | refine SThen_n ?_ | refine SThen_r ?_ | refine SThen_e ?_ | refine SIn_n ?_ | refine SIn_r ?_ | refine SIn_eq ?_ | refine SW_skip ?_ | refine SW_exit ?_ | refine SW_ret ?_ | refine SPost_r ?_) | ((with_reducible refine SIn_ne ?_ ?_); focus decide) | ((with_reducible refine SW_true ?_ ?_); focus exact rfl) | ((with_reducible refine SW_false ?_ ?_); focus exact rfl) | ((first | (with_reducible apply SW_run tt_ok hG htb) | ((with_reducible apply SW_draw rfl tt_ok hG htb); (focus kernel_rfl); (focus (simp only [List.range, List.range.loop, List.size_toArray, List.length_cons, List.length_nil, Nat.reduceAdd])))); focus ((repeat' (first | (with_reducible exact runX_nil) | (with_reducible exact runI_nil) | ((first | (with_reducible apply runX_cons) | (with_reducible apply runI_cons)); focus (simp (discharger := omega) only [go_sem, hn1, tNode, simprocAttr]; with_reducible rfl)))); done)))
            exact (by simp (discharger := omega) only [go_sem, simprocAttr])
        · have hs : tSet b = .agg [.bool (g 0), .bool (g 1), .bool (g 2), .bool (g 3), .bool false] := by
            unfold tSet
            rw [hbt 0 (by omega), hbt 1 (by omega), hbt 2 (by omega), hbt 3 (by omega), hbt 4 (by omega)]
            simp [h89]
          rw [hs]
          rcases h89 with rfl | rfl
          · repeat' (first | (with_reducible first | refine SW_seq ?_ | refine SW_block ?_ | refine SThen_n ?_ | refine SThen_r ?_ | refine SThen_e ?_ | refine SIn_n ?_ | refine SIn_r ?_ | refine SIn_eq ?_ | refine SW_skip ?_ | refine SW_exit ?_ | refine SW_ret ?_ | refine SPost_r ?_) | ((with_reducible refine SIn_ne ?_ ?_); focus decide) | ((with_reducible refine SW_true ?_ ?_); focus exact rfl) | ((with_reducible refine SW_false ?_ ?_); focus exact rfl) | ((first | (with_reducible apply SW_run tt_ok hG htb) | ((with_reducible apply SW_draw rfl tt_ok hG htb); (focus kernel_rfl); (focus (simp only [List.range, List.range.loop, List.size_toArray, List.length_cons, List.length_nil, Nat.reduceAdd])))); focus ((repeat' (first | (with_reducible exact runX_nil) | (with_reducible exact runI_nil) | ((first | (with_reducible apply runX_cons) | (with_reducible apply runI_cons)); focus (simp (discharger := omega) only [go_sem, hn1, tNode, simprocAttr]; with_reducible rfl)))); done)))
            exact (by simp (discharger := omega) only [go_sem, simprocAttr])
          · repeat' (first | (with_reducible first | refine SW_seq ?_ | refine SW_block ?_ | refine SThen_n ?_ | refine SThen_r ?_ | refine SThen_e ?_ | refine SIn_n ?_ | refine SIn_r ?_ | refine SIn_eq ?_ | refine SW_skip ?_ | refine SW_exit ?_ | refine SW_ret ?_ | refine SPost_r ?_) | ((with_reducible refine SIn_ne ?_ ?_); focus decide) | ((with_reducible refine SW_true ?_ ?_); focus exact rfl) | ((with_reducible refine SW_false ?_ ?_); focus exact rfl) | ((first | (with_reducible apply SW_run tt_ok hG htb) | ((with_reducible apply SW_draw rfl tt_ok hG htb); (focus kernel_rfl); (focus (simp only [List.range, List.range.loop, List.size_toArray, List.length_cons, List.length_nil, Nat.reduceAdd])))); focus ((repeat' (first | (with_reducible exact runX_nil) | (with_reducible exact runI_nil) | ((first | (with_reducible apply runX_cons) | (with_reducible apply runI_cons)); focus (simp (discharger := omega) only [go_sem, hn1, tNode, simprocAttr]; with_reducible rfl)))); done)))
            exact (by simp (discharger := omega) only [go_sem, simprocAttr])
      · have n8 : ¬ op = 8 := fun e => h89 (.inl e)
        have n9 : ¬ op = 9 := fun e => h89 (.inr e)
        have hs : tSet b = .agg [.bool (g 0), .bool (g 1), .bool (g 2), .bool (g 3), .bool (g 4)] := by
          unfold tSet
          rw [hbt 0 (by omega), hbt 1 (by omega), hbt 2 (by omega), hbt 3 (by omega), hbt 4 (by omega)]
          simp [n8, n9]
        rw [hs]
        repeat' (first | (with_reducible first | refine SW_seq ?_ | refine SW_block ?_ | refine SThen_n ?_ | refine SThen_r ?_ | refine SThen_e ?_ | refine SIn_n ?_ | refine SIn_r ?_ | refine SIn_eq ?_ | refine SW_skip ?_ | refine SW_exit ?_ | refine SW_ret ?_ | refine SPost_r ?_) | ((with_reducible refine SIn_ne ?_ ?_); focus decide) | ((with_reducible refine SW_true ?_ ?_); focus exact rfl) | ((with_reducible refine SW_false ?_ ?_); focus exact rfl) | ((first | (with_reducible apply SW_run tt_ok hG htb) | ((with_reducible apply SW_draw rfl tt_ok hG htb); (focus kernel_rfl); (focus (simp only [List.range, List.range.loop, List.size_toArray, List.length_cons, List.length_nil, Nat.reduceAdd])))); focus ((repeat' (first | (with_reducible exact runX_nil) | (with_reducible exact runI_nil) | ((first | (with_reducible apply runX_cons) | (with_reducible apply runI_cons)); focus (simp (discharger := omega) only [go_sem, hn1, tNode, n8, n9, simprocAttr]; with_reducible rfl)))); done)))
        exact (by simp (discharger := omega) only [go_sem, simprocAttr])
theorem free_snd {f : List GNode} (hl : f.length ≤ 40) (hne : ∀ n ∈ f, nodeErr n = 0) {i e : Nat} (h : Part f i e) : Snd Try.prog G 27 [tForm f, tNat i] (.tup [tSet fun k => freeP f i (k : Nat), tNat e]) := by
  induction h with
  | leaf hn hp =>
    have hi := (List.getElem?_eq_some_iff.1 hn).1
    refine free_step hG hl hn (hne _ (List.mem_of_getElem? hn)) (by omega) (fun _ => false) _ (by rw [hp]; exact ⟨rfl, fun _ => rfl⟩) fun k hk => ?_
    rw [freeP_leaf hn hp, if_neg (by
      rintro ⟨h8, _⟩
      unfold partsOf at hp
      rw [if_pos (by omega)] at hp; omega), Bool.or_false]
  | one hn hp h1 ih =>
    have hlt := h1.lt
    refine free_step hG hl hn (hne _ (List.mem_of_getElem? hn)) hlt.2 _ _ (by rw [hp]; exact ⟨_, _, fun _ => false, ih, hlt.1, hlt.2, ⟨rfl, fun _ => rfl⟩, fun k => (Bool.or_false _).symm⟩) fun k hk => ?_
    rw [freeP_one hn hp h1, usesN_parts (by rw [hp]; decide) _, Bool.false_or]
  | two hn hp h1 h2 ih1 ih2 =>
    have l1 := h1.lt
    have l2 := h2.lt
    refine free_step hG hl hn (hne _ (List.mem_of_getElem? hn)) l2.2 _ _ (by rw [hp]; exact ⟨_, _, _, ih1, l1.1, l1.2, ⟨_, _, fun _ => false, ih2, l2.1, l2.2, ⟨rfl, fun _ => rfl⟩, fun k => (Bool.or_false _).symm⟩, fun k => rfl⟩) fun k hk => ?_
    rw [freeP_two hn hp h1 h2, usesN_parts (by rw [hp]; decide) _, Bool.false_or, if_neg]
    rintro ⟨h8, _⟩
    unfold partsOf at hp
    rw [if_pos (by omega)] at hp; omega
end
end Go.Proofs.Ytfhncnhkeodngaa
namespace Go.Proofs.Ytfhncnhkeodngaa
open Go.RowKit
def freeV (f : List GNode) : List Int := if (formErr f).2 = 0 then freeL f else []
section
variable {G : World → Prop} (hG : Lasting G)
include hG
set_option maxHeartbeats 4000000 in
theorem FreeV_snd (f : List GNode) : Snd Try.prog G 7 [tForm f] (.tup [tInts (freeV f), tErr (formErr f).2]) := by
  have c1 := Check_form_snd hG f
  refine snd_of_body (n := 36) (tm := [(0, .t (tForm f))]) (rs := [.tmp 2, .tmp 3]) tt_ok Try.func7 rfl rfl rfl rfl rfl ?_
  unfold freeV
  by_cases h : (formErr f).2 = 0
  · obtain ⟨h0, hl, hne, hp, e1⟩ := form_ok h
    rw [if_pos h, freeL_take]
    rw [h, e1] at c1
    rw [h]
    have c2 : Snd Try.prog G 27 [tForm f, tInt 0] (.tup [tSet fun k => freeP f 0 (k : Nat), tNat f.length]) := free_snd hG hl hne hp
    have htb := Tab.cons c1 (Tab.cons c2 Tab.nil)
    generalize hq : (fun k : Nat => freeP f 0 (k : Nat)) = q at *
    have hqk : ∀ k : Nat, freeP f 0 (k : Int) = q k := fun k => by rw [← hq]
    clear hq c1 c2
    repeat' (first | (with_reducible first | refine SW_seq ?_ | refine SW_block ?_ | refine SThen_n ?_ | refine SThen_r ?_ | refine SThen_e ?_ | refine SIn_n ?_ | refine SIn_r ?_ | refine SIn_eq ?_ | refine SW_skip ?_ | refine SW_exit ?_ | refine SW_ret ?_ | refine SPost_r ?_) | ((with_reducible refine SIn_ne ?_ ?_); focus decide) | ((with_reducible refine SW_true ?_ ?_); focus exact rfl) | ((with_reducible refine SW_false ?_ ?_); focus exact rfl) | ((first | (with_reducible apply SW_run tt_ok hG htb) | ((with_reducible apply SW_draw rfl tt_ok hG htb); (focus kernel_rfl); (focus (simp only [List.range, List.range.loop, List.size_toArray, List.length_cons, List.length_nil, Nat.reduceAdd])))); focus ((repeat' (first | (with_reducible exact runX_nil) | (with_reducible exact runI_nil) | ((first | (with_reducible apply runX_cons) | (with_reducible apply runI_cons)); focus (simp (discharger := omega) only [go_sem, tErr0, tSet, simprocAttr]; with_reducible rfl)))); done)))
    clear htb
    have htb : Tab.ok Try.prog G [] := Tab.nil
    refine SW_loop (fun mm s => ∃ (i : Nat) (ot : List T), mm = 5 - i ∧ s = ⟨36, [(8, .sref 0), (24, .t (tSet q)), (25, .t (tNat i))], [.row 3 1 false ot]⟩ ∧ i ≤ 5 ∧ ot = (((List.range i).filter q).map fun k => ((k : Nat) : Int)).map tInt ∧ ot.length ≤ i) 5
      ⟨_, Norm.headS (own := [(8, 3, 1, false)]) (keep := [8, 24, 25]) (by refine ⟨?_, ?_⟩; (simp (discharger := omega) only [go_sem, simprocAttr]; with_reducible rfl); refine ⟨?_, ?_, ?_, ?_⟩ <;> (simp only [go_sem, simprocAttr]; with_reducible rfl)), 0, _, rfl, rfl, by omega, rfl, Nat.le_refl _⟩ ?_
    rintro mm s ⟨i, ot, rfl, rfl, hi, hot, hol⟩
    by_cases hlt : i < 5
    · have hcons : ∀ b, q i = b → (List.range (i + 1)).filter q = (List.range i).filter q ++ (if b = true then [i] else []) := fun b hb => by
        rw [List.range_succ, List.filter_append]
        congr 1
        simp only [List.filter_cons, List.filter_nil, hb]
      have hic : i = 0 ∨ i = 1 ∨ i = 2 ∨ i = 3 ∨ i = 4 := by omega
      rcases hic with rfl | rfl | rfl | rfl | rfl
      · cases hb : q 0 with
        | true =>
          repeat' (first | (with_reducible first | refine SW_seq ?_ | refine SW_block ?_ | refine SThen_n ?_ | refine SThen_r ?_ | refine SThen_e ?_ | refine SIn_n ?_ | refine SIn_r ?_ | refine SIn_eq ?_ | refine SW_skip ?_ | refine SW_exit ?_ | refine SW_ret ?_ | refine SPost_r ?_) | ((with_reducible refine SIn_ne ?_ ?_); focus decide) | ((with_reducible refine SW_true ?_ ?_); focus exact rfl) | ((with_reducible refine SW_false ?_ ?_); focus exact rfl) | ((first | (with_reducible apply SW_run tt_ok hG htb) | ((with_reducible apply SW_draw rfl tt_ok hG htb); (focus kernel_rfl); (focus (simp only [List.range, List.range.loop, List.size_toArray, List.length_cons, List.length_nil, Nat.reduceAdd])))); focus ((repeat' (first | (with_reducible exact runX_nil) | (with_reducible exact runI_nil) | ((first | (with_reducible apply runX_cons) | (with_reducible apply runI_cons)); focus (simp (discharger := omega) only [go_sem, tSet, hb, simprocAttr]; with_reducible rfl)))); done)))
          exact ⟨5 - (0 + 1), _, by omega, Norm.headS (own := [(8, 3, 1, false)]) (keep := [8, 24, 25]) (by refine ⟨?_, ?_⟩; (simp (discharger := omega) only [go_sem, simprocAttr]; with_reducible rfl); refine ⟨?_, ?_, ?_, ?_⟩ <;> (simp only [go_sem, simprocAttr]; with_reducible rfl)), 0 + 1, ot ++ [tInt 0], rfl, (by unfold tSet; rw [hb]; first | done | rfl), by omega, by rw [hcons _ hb, if_pos rfl, List.map_append, List.map_append, hot]; rfl, by rw [List.length_append, List.length_singleton]; omega⟩
        | false =>
          repeat' (first | (with_reducible first | refine SW_seq ?_ | refine SW_block ?_ | refine SThen_n ?_ | refine SThen_r ?_ | refine SThen_e ?_ | refine SIn_n ?_ | refine SIn_r ?_ | refine SIn_eq ?_ | refine SW_skip ?_ | refine SW_exit ?_ | refine SW_ret ?_ | refine SPost_r ?_) | ((with_reducible refine SIn_ne ?_ ?_); focus decide) | ((with_reducible refine SW_true ?_ ?_); focus exact rfl) | ((with_reducible refine SW_false ?_ ?_); focus exact rfl) | ((first | (with_reducible apply SW_run tt_ok hG htb) | ((with_reducible apply SW_draw rfl tt_ok hG htb); (focus kernel_rfl); (focus (simp only [List.range, List.range.loop, List.size_toArray, List.length_cons, List.length_nil, Nat.reduceAdd])))); focus ((repeat' (first | (with_reducible exact runX_nil) | (with_reducible exact runI_nil) | ((first | (with_reducible apply runX_cons) | (with_reducible apply runI_cons)); focus (simp (discharger := omega) only [go_sem, tSet, hb, simprocAttr]; with_reducible rfl)))); done)))
          exact ⟨5 - (0 + 1), _, by omega, Norm.headS (own := [(8, 3, 1, false)]) (keep := [8, 24, 25]) (by refine ⟨?_, ?_⟩; (simp (discharger := omega) only [go_sem, simprocAttr]; with_reducible rfl); refine ⟨?_, ?_, ?_, ?_⟩ <;> (simp only [go_sem, simprocAttr]; with_reducible rfl)), 0 + 1, ot, rfl, (by unfold tSet; rw [hb]; first | done | rfl), by omega, by rw [hcons _ hb, if_neg (by decide), List.append_nil, hot], by omega⟩
      · cases hb : q 1 with
        | true =>
          repeat' (first | (with_reducible first | refine SW_seq ?_ | refine SW_block ?_ | refine SThen_n ?_ | refine SThen_r ?_ | refine SThen_e ?_ | refine SIn_n ?_ | refine SIn_r ?_ | refine SIn_eq ?_ | refine SW_skip ?_ | refine SW_exit ?_ | refine SW_ret ?_ | refine SPost_r ?_) | ((with_reducible refine SIn_ne ?_ ?_); focus decide) | ((with_reducible refine SW_true ?_ ?_); focus exact rfl) | ((with_reducible refine SW_false ?_ ?_); focus exact rfl) | ((first | (with_reducible apply SW_run tt_ok hG htb) | ((with_reducible apply SW_draw rfl tt_ok hG htb); (focus kernel_rfl); (focus (simp only [List.range, List.range.loop, List.size_toArray, List.length_cons, List.length_nil, Nat.reduceAdd])))); focus ((repeat' (first | (with_reducible exact runX_nil) | (with_reducible exact runI_nil) | ((first | (with_reducible apply runX_cons) | (with_reducible apply runI_cons)); focus (simp (discharger := omega) only [go_sem, tSet, hb, simprocAttr]; with_reducible rfl)))); done)))
          exact ⟨5 - (1 + 1), _, by omega, Norm.headS (own := [(8, 3, 1, false)]) (keep := [8, 24, 25]) (by refine ⟨?_, ?_⟩; (simp (discharger := omega) only [go_sem, simprocAttr]; with_reducible rfl); refine ⟨?_, ?_, ?_, ?_⟩ <;> (simp only [go_sem, simprocAttr]; with_reducible rfl)), 1 + 1, ot ++ [tInt 1], rfl, (by unfold tSet; rw [hb]; first | done | rfl), by omega, by rw [hcons _ hb, if_pos rfl, List.map_append, List.map_append, hot]; rfl, by rw [List.length_append, List.length_singleton]; omega⟩
        | false =>
          repeat' (first | (with_reducible first | refine SW_seq ?_ | refine SW_block ?_ | refine SThen_n ?_ | refine SThen_r ?_ | refine SThen_e ?_ | refine SIn_n ?_ | refine SIn_r ?_ | refine SIn_eq ?_ | refine SW_skip ?_ | refine SW_exit ?_ | refine SW_ret ?_ | refine SPost_r ?_) | ((with_reducible refine SIn_ne ?_ ?_); focus decide) | ((with_reducible refine SW_true ?_ ?_); focus exact rfl) | ((with_reducible refine SW_false ?_ ?_); focus exact rfl) | ((first | (with_reducible apply SW_run tt_ok hG htb) | ((with_reducible apply SW_draw rfl tt_ok hG htb); (focus kernel_rfl); (focus (simp only [List.range, List.range.loop, List.size_toArray, List.length_cons, List.length_nil, Nat.reduceAdd])))); focus ((repeat' (first | (with_reducible exact runX_nil) | (with_reducible exact runI_nil) | ((first | (with_reducible apply runX_cons) | (with_reducible apply runI_cons)); focus (simp (discharger := omega) only [go_sem, tSet, hb, simprocAttr]; with_reducible rfl)))); done)))
          exact ⟨5 - (1 + 1), _, by omega, Norm.headS (own := [(8, 3, 1, false)]) (keep := [8, 24, 25]) (by refine ⟨?_, ?_⟩; (simp (discharger := omega) only [go_sem, simprocAttr]; with_reducible rfl); refine ⟨?_, ?_, ?_, ?_⟩ <;> (simp only [go_sem, simprocAttr]; with_reducible rfl)), 1 + 1, ot, rfl, (by unfold tSet; rw [hb]; first | done | rfl), by omega, by rw [hcons _ hb, if_neg (by decide), List.append_nil, hot], by omega⟩
      · cases hb : q 2 with
        | true =>
          repeat' (first | (with_reducible first | refine SW_seq ?_ | refine SW_block ?_ | refine SThen_n ?_ | refine SThen_r ?_ | refine SThen_e ?_ | refine SIn_n ?_ | refine SIn_r ?_ | refine SIn_eq ?_ | refine SW_skip ?_ | refine SW_exit ?_ | refine SW_ret ?_ | refine SPost_r ?_) | ((with_reducible refine SIn_ne ?_ ?_); focus decide) | ((with_reducible refine SW_true ?_ ?_); focus exact rfl) | ((with_reducible refine SW_false ?_ ?_); focus exact rfl) | ((first | (with_reducible apply SW_run tt_ok hG htb) | ((with_reducible apply SW_draw rfl tt_ok hG htb); (focus kernel_rfl); (focus (simp only [List.range, List.range.loop, List.size_toArray, List.length_cons, List.length_nil, Nat.reduceAdd])))); focus ((repeat' (first | (with_reducible exact runX_nil) | (with_reducible exact runI_nil) | ((first | (with_reducible apply runX_cons) | (with_reducible apply runI_cons)); focus (simp (discharger := omega) only [go_sem, tSet, hb, simprocAttr]; with_reducible rfl)))); done)))
          exact ⟨5 - (2 + 1), _, by omega, Norm.headS (own := [(8, 3, 1, false)]) (keep := [8, 24, 25]) (by refine ⟨?_, ?_⟩; (simp (discharger := omega) only [go_sem, simprocAttr]; with_reducible rfl); refine ⟨?_, ?_, ?_, ?_⟩ <;> (simp only [go_sem, simprocAttr]; with_reducible rfl)), 2 + 1, ot ++ [tInt 2], rfl, (by unfold tSet; rw [hb]; first | done | rfl), by omega, by rw [hcons _ hb, if_pos rfl, List.map_append, List.map_append, hot]; rfl, by rw [List.length_append, List.length_singleton]; omega⟩
        | false =>
          repeat' (first | (with_reducible first | refine SW_seq ?_ | refine SW_block ?_ | refine SThen_n ?_ | refine SThen_r ?_ | refine SThen_e ?_ | refine SIn_n ?_ | refine SIn_r ?_ | refine SIn_eq ?_ | refine SW_skip ?_ | refine SW_exit ?_ | refine SW_ret ?_ | refine SPost_r ?_) | ((with_reducible refine SIn_ne ?_ ?_); focus decide) | ((with_reducible refine SW_true ?_ ?_); focus exact rfl) | ((with_reducible refine SW_false ?_ ?_); focus exact rfl) | ((first | (with_reducible apply SW_run tt_ok hG htb) | ((with_reducible apply SW_draw rfl tt_ok hG htb); (focus kernel_rfl); (focus (simp only [List.range, List.range.loop, List.size_toArray, List.length_cons, List.length_nil, Nat.reduceAdd])))); focus ((repeat' (first | (with_reducible exact runX_nil) | (with_reducible exact runI_nil) | ((first | (with_reducible apply runX_cons) | (with_reducible apply runI_cons)); focus (simp (discharger := omega) only [go_sem, tSet, hb, simprocAttr]; with_reducible rfl)))); done)))
          exact ⟨5 - (2 + 1), _, by omega, Norm.headS (own := [(8, 3, 1, false)]) (keep := [8, 24, 25]) (by refine ⟨?_, ?_⟩; (simp (discharger := omega) only [go_sem, simprocAttr]; with_reducible rfl); refine ⟨?_, ?_, ?_, ?_⟩ <;> (simp only [go_sem, simprocAttr]; with_reducible rfl)), 2 + 1, ot, rfl, (by unfold tSet; rw [hb]; first | done | rfl), by omega, by rw [hcons _ hb, if_neg (by decide), List.append_nil, hot], by omega⟩
      · cases hb : q 3 with
        | true =>
          repeat' (first | (with_reducible first | refine SW_seq ?_ | refine SW_block ?_ | refine SThen_n ?_ | refine SThen_r ?_ | refine SThen_e ?_ | refine SIn_n ?_ | refine SIn_r ?_ | refine SIn_eq ?_ | refine SW_skip ?_ | refine SW_exit ?_ | refine SW_ret ?_ | refine SPost_r ?_) | ((with_reducible refine SIn_ne ?_ ?_); focus decide) | ((with_reducible refine SW_true ?_ ?_); focus exact rfl) | ((with_reducible refine SW_false ?_ ?_); focus exact rfl) | ((first | (with_reducible apply SW_run tt_ok hG htb) | ((with_reducible apply SW_draw rfl tt_ok hG htb); (focus kernel_rfl); (focus (simp only [List.range, List.range.loop, List.size_toArray, List.length_cons, List.length_nil, Nat.reduceAdd])))); focus ((repeat' (first | (with_reducible exact runX_nil) | (with_reducible exact runI_nil) | ((first | (with_reducible apply runX_cons) | (with_reducible apply runI_cons)); focus (simp (discharger := omega) only [go_sem, tSet, hb, simprocAttr]; with_reducible rfl)))); done)))
          exact ⟨5 - (3 + 1), _, by omega, Norm.headS (own := [(8, 3, 1, false)]) (keep := [8, 24, 25]) (by refine ⟨?_, ?_⟩; (simp (discharger := omega) only [go_sem, simprocAttr]; with_reducible rfl); refine ⟨?_, ?_, ?_, ?_⟩ <;> (simp only [go_sem, simprocAttr]; with_reducible rfl)), 3 + 1, ot ++ [tInt 3], rfl, (by unfold tSet; rw [hb]; first | done | rfl), by omega, by rw [hcons _ hb, if_pos rfl, List.map_append, List.map_append, hot]; rfl, by rw [List.length_append, List.length_singleton]; omega⟩
        | false =>
          repeat' (first | (with_reducible first | refine SW_seq ?_ | refine SW_block ?_ | refine SThen_n ?_ | refine SThen_r ?_ | refine SThen_e ?_ | refine SIn_n ?_ | refine SIn_r ?_ | refine SIn_eq ?_ | refine SW_skip ?_ | refine SW_exit ?_ | refine SW_ret ?_ | refine SPost_r ?_) | ((with_reducible refine SIn_ne ?_ ?_); focus decide) | ((with_reducible refine SW_true ?_ ?_); focus exact rfl) | ((with_reducible refine SW_false ?_ ?_); focus exact rfl) | ((first | (with_reducible apply SW_run tt_ok hG htb) | ((with_reducible apply SW_draw rfl tt_ok hG htb); (focus kernel_rfl); (focus (simp only [List.range, List.range.loop, List.size_toArray, List.length_cons, List.length_nil, Nat.reduceAdd])))); focus ((repeat' (first | (with_reducible exact runX_nil) | (with_reducible exact runI_nil) | ((first | (with_reducible apply runX_cons) | (with_reducible apply runI_cons)); focus (simp (discharger := omega) only [go_sem, tSet, hb, simprocAttr]; with_reducible rfl)))); done)))
          exact ⟨5 - (3 + 1), _, by omega, Norm.headS (own := [(8, 3, 1, false)]) (keep := [8, 24, 25]) (by refine ⟨?_, ?_⟩; (simp (discharger := omega) only [go_sem, simprocAttr]; with_reducible rfl); refine ⟨?_, ?_, ?_, ?_⟩ <;> (simp only [go_sem, simprocAttr]; with_reducible rfl)), 3 + 1, ot, rfl, (by unfold tSet; rw [hb]; first | done | rfl), by omega, by rw [hcons _ hb, if_neg (by decide), List.append_nil, hot], by omega⟩
      · cases hb : q 4 with
        | true =>
          repeat' (first | (with_reducible first | refine SW_seq ?_ | refine SW_block ?_ | refine SThen_n ?_ | refine SThen_r ?_ | refine SThen_e ?_ | refine SIn_n ?_ | refine SIn_r ?_ | refine SIn_eq ?_ | refine SW_skip ?_ | refine SW_exit ?_ | refine SW_ret ?_ | refine SPost_r ?_) | ((with_reducible refine SIn_ne ?_ ?_); focus decide) | ((with_reducible refine SW_true ?_ ?_); focus exact rfl) | ((with_reducible refine SW_false ?_ ?_); focus exact rfl) | ((first | (with_reducible apply SW_run tt_ok hG htb) | ((with_reducible apply SW_draw rfl tt_ok hG htb); (focus kernel_rfl); (focus (simp only [List.range, List.range.loop, List.size_toArray, List.length_cons, List.length_nil, Nat.reduceAdd])))); focus ((repeat' (first | (with_reducible exact runX_nil) | (with_reducible exact runI_nil) | ((first | (with_reducible apply runX_cons) | (with_reducible apply runI_cons)); focus (simp (discharger := omega) only [go_sem, tSet, hb, simprocAttr]; with_reducible rfl)))); done)))
          exact ⟨5 - (4 + 1), _, by omega, Norm.headS (own := [(8, 3, 1, false)]) (keep := [8, 24, 25]) (by refine ⟨?_, ?_⟩; (simp (discharger := omega) only [go_sem, simprocAttr]; with_reducible rfl); refine ⟨?_, ?_, ?_, ?_⟩ <;> (simp only [go_sem, simprocAttr]; with_reducible rfl)), 4 + 1, ot ++ [tInt 4], rfl, (by unfold tSet; rw [hb]; first | done | rfl), by omega, by rw [hcons _ hb, if_pos rfl, List.map_append, List.map_append, hot]; rfl, by rw [List.length_append, List.length_singleton]; omega⟩
        | false =>
          repeat' (first | (with_reducible first | refine SW_seq ?_ | refine SW_block ?_ | refine SThen_n ?_ | refine SThen_r ?_ | refine SThen_e ?_ | refine SIn_n ?_ | refine SIn_r ?_ | refine SIn_eq ?_ | refine SW_skip ?_ | refine SW_exit ?_ | refine SW_ret ?_ | refine SPost_r ?_) | ((with_reducible refine SIn_ne ?_ ?_); focus decide) | ((with_reducible refine SW_true ?_ ?_); focus exact rfl) | ((with_reducible refine SW_false ?_ ?_); focus exact rfl) | ((first | (with_reducible apply SW_run tt_ok hG htb) | ((with_reducible apply SW_draw rfl tt_ok hG htb); (focus kernel_rfl); (focus (simp only [List.range, List.range.loop, List.size_toArray, List.length_cons, List.length_nil, Nat.reduceAdd])))); focus ((repeat' (first | (with_reducible exact runX_nil) | (with_reducible exact runI_nil) | ((first | (with_reducible apply runX_cons) | (with_reducible apply runI_cons)); focus (simp (discharger := omega) only [go_sem, tSet, hb, simprocAttr]; with_reducible rfl)))); done)))
          exact ⟨5 - (4 + 1), _, by omega, Norm.headS (own := [(8, 3, 1, false)]) (keep := [8, 24, 25]) (by refine ⟨?_, ?_⟩; (simp (discharger := omega) only [go_sem, simprocAttr]; with_reducible rfl); refine ⟨?_, ?_, ?_, ?_⟩ <;> (simp only [go_sem, simprocAttr]; with_reducible rfl)), 4 + 1, ot, rfl, (by unfold tSet; rw [hb]; first | done | rfl), by omega, by rw [hcons _ hb, if_neg (by decide), List.append_nil, hot], by omega⟩
    · obtain rfl : i = 5 := by omega
      clear hlt hi
      generalize ((List.range 5).filter q).map (fun k => ((k : Nat) : Int)) = out at *
      subst hot
      repeat' (first | (with_reducible first | refine SW_seq ?_ | refine SW_block ?_ | refine SThen_n ?_ | refine SThen_r ?_ | refine SThen_e ?_ | refine SIn_n ?_ | refine SIn_r ?_ | refine SIn_eq ?_ | refine SW_skip ?_ | refine SW_exit ?_ | refine SW_ret ?_ | refine SPost_r ?_) | ((with_reducible refine SIn_ne ?_ ?_); focus decide) | ((with_reducible refine SW_true ?_ ?_); focus exact rfl) | ((with_reducible refine SW_false ?_ ?_); focus exact rfl) | ((first | (with_reducible apply SW_run tt_ok hG htb) | ((with_reducible apply SW_draw rfl tt_ok hG htb); (focus kernel_rfl); (focus (simp only [List.range, List.range.loop, List.size_toArray, List.length_cons, List.length_nil, Nat.reduceAdd])))); focus ((repeat' (first | (with_reducible exact runX_nil) | (with_reducible exact runI_nil) | ((first | (with_reducible apply runX_cons) | (with_reducible apply runI_cons)); focus (simp (discharger := omega) only [go_sem, simprocAttr]; with_reducible rfl)))); done)))
      exact (by simp (discharger := omega) only [go_sem, tErr0, simprocAttr])
  · rw [if_neg h]
    generalize (formErr f).2 = e at *
    generalize (formErr f).1 = a at *
    have htb := Tab.cons c1 Tab.nil
    repeat' (first | (with_reducible first | refine SW_seq ?_ | refine SW_block ?_ | refine SThen_n ?_ | refine SThen_r ?_ | refine SThen_e ?_ | refine SIn_n ?_ | refine SIn_r ?_ | refine SIn_eq ?_ | refine SW_skip ?_ | refine SW_exit ?_ | refine SW_ret ?_ | refine SPost_r ?_) | ((with_reducible refine SIn_ne ?_ ?_); focus decide) | ((with_reducible refine SW_true ?_ ?_); focus exact rfl) | ((with_reducible refine SW_false ?_ ?_); focus exact rfl) | ((first | (with_reducible apply SW_run tt_ok hG htb) | ((with_reducible apply SW_draw rfl tt_ok hG htb); (focus kernel_rfl); (focus (simp only [List.range, List.range.loop, List.size_toArray, List.length_cons, List.length_nil, Nat.reduceAdd])))); focus ((repeat' (first | (with_reducible exact runX_nil) | (with_reducible exact runI_nil) | ((first | (with_reducible apply runX_cons) | (with_reducible apply runI_cons)); focus (simp (discharger := omega) only [go_sem, tErr, h, simprocAttr]; with_reducible rfl)))); done)))
    exact (by simp (discharger := omega) only [go_sem, tErr, h, simprocAttr])
end
end Go.Proofs.Ytfhncnhkeodngaa
namespace Go.Proofs.Ytfhncnhkeodngaa
open Go.RowKit

section
variable {G : World → Prop} (hG : Lasting G)
include hG
set_option maxHeartbeats 16000000 in
set_option maxRecDepth 100000 in
theorem Eval_snd (f : List GNode) (ws : List GOut) (ns : List Int) : Snd Try.prog G 12 [tForm f, tOutL ws, tInts ns] (.tup [.bool (evalV f ws ns), tErr (evalErr f ws ns)]) := by
  have c1 := Check_form_snd hG f
  refine snd_of_body (n := 75) (tm := [(0, .t (tForm f)), (1, .t (tOutL ws)), (2, .t (tInts ns))]) (rs := [.tmp 6, .tmp 7]) tt_ok Try.func12 rfl rfl rfl rfl rfl ?_
  have bad : ∀ e, evalErr f ws ns = e → e ≠ 0 → evalV f ws ns = false := fun e h h0 => by unfold evalV; rw [if_neg (by omega)]
  by_cases h : (formErr f).2 = 0
  · obtain ⟨h0, hl, hne, hp, e1⟩ := form_ok h
    rw [h, e1] at c1
    have c2 := ContainsF_snd hG f hl
    have c3 := FWords_snd hG f hl ws
    have c4 := FreeV_snd hG f
    have hfv : freeV f = freeL f := by unfold freeV; rw [if_pos h]
    rw [h, hfv] at c4
    cases hq : f.any quantN with
    | true =>
      have hE : evalErr f ws ns = 2 := by unfold evalErr; rw [if_neg (by omega), if_pos hq]
      rw [bad 2 hE (by decide), hE]
      rw [hq] at c2
      unfold tForm at *
      unfold tOutL at *
      have htb := Tab.cons c1 (Tab.cons c2 Tab.nil)
      repeat' (first | (with_reducible first | refine SW_seq ?_ | refine SW_block ?_ | refine SThen_n ?_ | refine SThen_r ?_ | refine SThen_e ?_ | refine SIn_n ?_ | refine SIn_r ?_ | refine SIn_eq ?_ | refine SW_skip ?_ | refine SW_exit ?_ | refine SW_ret ?_ | refine SPost_r ?_) | ((with_reducible refine SIn_ne ?_ ?_); focus decide) | ((with_reducible refine SW_true ?_ ?_); focus exact rfl) | ((with_reducible refine SW_false ?_ ?_); focus exact rfl) | ((first | (with_reducible apply SW_run tt_ok hG htb) | ((with_reducible apply SW_draw rfl tt_ok hG htb); (focus kernel_rfl); (focus (simp only [List.range, List.range.loop, List.size_toArray, List.length_cons, List.length_nil, Nat.reduceAdd])))); focus ((repeat' (first | (with_reducible exact runX_nil) | (with_reducible exact runI_nil) | ((first | (with_reducible apply runX_cons) | (with_reducible apply runI_cons)); focus (simp (discharger := omega) only [go_sem, tErr0, simprocAttr]; with_reducible rfl)))); done)))
      exact (by simp (discharger := omega) only [go_sem, tErr, simprocAttr])
    | false =>
      rw [hq] at c2
      have hE : evalErr f ws ns = if wordsErr f ws ≠ 0 then wordsErr f ws else if ((freeL f).any fun v => decide ((ns.length : Int) ≤ v)) = true then 2 else if numsBad ns = true then 1 else 0 := by
        unfold evalErr; rw [if_neg (by omega), if_neg (by rw [hq]; decide)]
      by_cases hw : wordsErr f ws = 0
      · rw [if_neg (by omega)] at hE
        have hwn : ∀ n ∈ f, wordNeed n ws.length = false := fun n hn => by
          unfold wordsErr at hw
          split at hw
          · omega
          · split at hw
            · omega
            · split at hw
              · omega
              · rename_i h3
                have h3 := List.any_eq_false.1 (Bool.eq_false_iff.2 h3) n hn
                exact Bool.eq_false_iff.2 h3
        have hqn : ∀ n ∈ f, quantN n = false := fun n hn => Bool.eq_false_iff.2 (List.any_eq_false.1 hq n hn)
        have hev := fun hB => ev_all (G := G) hG (ws := ws) (ns := ns) hl hne hqn hB hwn hp
        have hfm := fun v => mem_freeL (f := f) (v := v)
        rw [hw] at c3
        have hfl5 : (freeL f).length ≤ 5 := by unfold freeL; exact Nat.le_trans (List.length_filter_le _ _) (by simp)
        generalize freeL f = fl at *
        have hev : numsBad ns = false → (fl.any fun v => decide ((ns.length : Int) ≤ v)) = false → EvC G f ws ns 0 f.length := fun hB hv => hev hB fun v h0 h5 hu => by
          have := List.any_eq_false.1 hv v ((hfm v).2 ⟨⟨h0, h5⟩, hu⟩)
          simpa using this
        have hbad := bad
        clear bad hfm hwn hqn hw hq
        unfold tForm at c1 c2 c3 c4 ⊢
        unfold tOutL at c3 ⊢
        have htb := Tab.cons c1 (Tab.cons c2 (Tab.cons c3 (Tab.cons c4 Tab.nil)))
        repeat' (first | (with_reducible first | refine SW_seq ?_ | refine SW_block ?_ | refine SThen_n ?_ | refine SThen_r ?_ | refine SThen_e ?_ | refine SIn_n ?_ | refine SIn_r ?_ | refine SIn_eq ?_ | refine SW_skip ?_ | refine SW_exit ?_ | refine SW_ret ?_ | refine SPost_r ?_) | ((with_reducible refine SIn_ne ?_ ?_); focus decide) | ((with_reducible refine SW_true ?_ ?_); focus exact rfl) | ((with_reducible refine SW_false ?_ ?_); focus exact rfl) | ((first | (with_reducible apply SW_run tt_ok hG htb) | ((with_reducible apply SW_draw rfl tt_ok hG htb); (focus kernel_rfl); (focus (simp only [List.range, List.range.loop, List.size_toArray, List.length_cons, List.length_nil, Nat.reduceAdd])))); focus ((repeat' (first | (with_reducible exact runX_nil) | (with_reducible exact runI_nil) | ((first | (with_reducible apply runX_cons) | (with_reducible apply runI_cons)); focus (simp (discharger := omega) only [go_sem, tErr0, simprocAttr]; with_reducible rfl)))); done)))
        clear htb
        have htb : Tab.ok Try.prog G [] := Tab.nil
        refine SW_loop (fun mm s => ∃ i : Nat, mm = fl.length - i ∧ s = ⟨75, [(3, .bptr 0 0), (4, .bptr 1 0), (5, .bptr 2 0), (42, .t (tInts fl)), (43, .t (tInt fl.length)), (44, .t (tNat i))], [.box [.t (.list (f.map tNode))], .box [.t (.list (ws.map tOut))], .box [.t (tInts ns)]]⟩ ∧ i ≤ fl.length ∧ (fl.any fun v => decide ((ns.length : Int) ≤ v)) = ((fl.drop i).any fun v => decide ((ns.length : Int) ≤ v))) fl.length
          ⟨_, Norm.headS (own := []) (keep := [3, 4, 5, 42, 43, 44]) (by refine ⟨?_, ?_⟩; (simp (discharger := omega) only [go_sem, simprocAttr]; with_reducible rfl); refine ⟨?_, ?_, ?_, ?_⟩ <;> (simp only [go_sem, simprocAttr]; with_reducible rfl)), 0, rfl, rfl, Nat.zero_le _, by rw [List.drop_zero]⟩ ?_
        rintro mm s ⟨i, rfl, rfl, hi, hx⟩
        by_cases hlt : i < fl.length
        · obtain ⟨v, hv⟩ : ∃ v, fl[i]! = v := ⟨_, rfl⟩
          rw [drop_cons (by rw [List.getElem?_eq_getElem hlt, bang_at hv hlt]), List.any_cons] at hx
          by_cases hvl : (ns.length : Int) ≤ v
          · rw [decide_eq_true hvl, Bool.true_or] at hx
            rw [if_pos hx] at hE
            rw [hbad 2 hE (by decide), hE]
            repeat' (first | (with_reducible first | refine SW_seq ?_ | refine SW_block ?_ | refine SThen_n ?_ | refine SThen_r ?_ | refine SThen_e ?_ | refine SIn_n ?_ | refine SIn_r ?_ | refine SIn_eq ?_ | refine SW_skip ?_ | refine SW_exit ?_ | refine SW_ret ?_ | refine SPost_r ?_) | ((with_reducible refine SIn_ne ?_ ?_); focus decide) | ((with_reducible refine SW_true ?_ ?_); focus exact rfl) | ((with_reducible refine SW_false ?_ ?_); focus exact rfl) | ((first | (with_reducible apply SW_run tt_ok hG htb) | ((with_reducible apply SW_draw rfl tt_ok hG htb); (focus kernel_rfl); (focus (simp only [List.range, List.range.loop, List.size_toArray, List.length_cons, List.length_nil, Nat.reduceAdd])))); focus ((repeat' (first | (with_reducible exact runX_nil) | (with_reducible exact runI_nil) | ((first | (with_reducible apply runX_cons) | (with_reducible apply runI_cons)); focus (simp (discharger := omega) only [go_sem, hv, simprocAttr]; with_reducible rfl)))); done)))
            exact (by simp (discharger := omega) only [go_sem, tErr, simprocAttr])
          · rw [decide_eq_false hvl, Bool.false_or] at hx
            repeat' (first | (with_reducible first | refine SW_seq ?_ | refine SW_block ?_ | refine SThen_n ?_ | refine SThen_r ?_ | refine SThen_e ?_ | refine SIn_n ?_ | refine SIn_r ?_ | refine SIn_eq ?_ | refine SW_skip ?_ | refine SW_exit ?_ | refine SW_ret ?_ | refine SPost_r ?_) | ((with_reducible refine SIn_ne ?_ ?_); focus decide) | ((with_reducible refine SW_true ?_ ?_); focus exact rfl) | ((with_reducible refine SW_false ?_ ?_); focus exact rfl) | ((first | (with_reducible apply SW_run tt_ok hG htb) | ((with_reducible apply SW_draw rfl tt_ok hG htb); (focus kernel_rfl); (focus (simp only [List.range, List.range.loop, List.size_toArray, List.length_cons, List.length_nil, Nat.reduceAdd])))); focus ((repeat' (first | (with_reducible exact runX_nil) | (with_reducible exact runI_nil) | ((first | (with_reducible apply runX_cons) | (with_reducible apply runI_cons)); focus (simp (discharger := omega) only [go_sem, hv, simprocAttr]; with_reducible rfl)))); done)))
            exact ⟨fl.length - (i + 1), _, by omega, Norm.headS (own := []) (keep := [3, 4, 5, 42, 43, 44]) (by refine ⟨?_, ?_⟩; (simp (discharger := omega) only [go_sem, simprocAttr]; with_reducible rfl); refine ⟨?_, ?_, ?_, ?_⟩ <;> (simp only [go_sem, simprocAttr]; with_reducible rfl)), i + 1, rfl, rfl, by omega, hx⟩
        · obtain rfl : i = fl.length := by omega
          rw [List.drop_length, List.any_nil] at hx
          have hev := fun hB => hev hB hx
          rw [if_neg (by rw [hx]; decide)] at hE
          repeat' (first | (with_reducible first | refine SW_seq ?_ | refine SW_block ?_ | refine SThen_n ?_ | refine SThen_r ?_ | refine SThen_e ?_ | refine SIn_n ?_ | refine SIn_r ?_ | refine SIn_eq ?_ | refine SW_skip ?_ | refine SW_exit ?_ | refine SW_ret ?_ | refine SPost_r ?_) | ((with_reducible refine SIn_ne ?_ ?_); focus decide) | ((with_reducible refine SW_true ?_ ?_); focus exact rfl) | ((with_reducible refine SW_false ?_ ?_); focus exact rfl) | ((first | (with_reducible apply SW_run tt_ok hG htb) | ((with_reducible apply SW_draw rfl tt_ok hG htb); (focus kernel_rfl); (focus (simp only [List.range, List.range.loop, List.size_toArray, List.length_cons, List.length_nil, Nat.reduceAdd])))); focus ((repeat' (first | (with_reducible exact runX_nil) | (with_reducible exact runI_nil) | ((first | (with_reducible apply runX_cons) | (with_reducible apply runI_cons)); focus (simp (discharger := omega) only [go_sem, simprocAttr]; with_reducible rfl)))); done)))
          refine SW_loop (fun mm s => ∃ i : Nat, mm = ns.length - i ∧ s = ⟨75, [(3, .bptr 0 0), (4, .bptr 1 0), (5, .bptr 2 0), (54, .t (tInts ns)), (55, .t (tInt ns.length)), (56, .t (tNat i))], [.box [.t (.list (f.map tNode))], .box [.t (.list (ws.map tOut))], .box [.t (tInts ns)]]⟩ ∧ i ≤ ns.length ∧ numsBad ns = numsBad (ns.drop i)) ns.length
            ⟨_, Norm.headS (own := []) (keep := [3, 4, 5, 54, 55, 56]) (by refine ⟨?_, ?_⟩; (simp (discharger := omega) only [go_sem, simprocAttr]; with_reducible rfl); refine ⟨?_, ?_, ?_, ?_⟩ <;> (simp only [go_sem, simprocAttr]; with_reducible rfl)), 0, rfl, rfl, Nat.zero_le _, by rw [List.drop_zero]⟩ ?_
          rintro mm s ⟨i, rfl, rfl, hi, hx⟩
          refine SW_len (t := 54) (l := ns.map tInt) rfl fun hns => ?_
          rw [List.length_map] at hns
          by_cases hlt : i < ns.length
          · obtain ⟨v, hv⟩ : ∃ v, ns[i]! = v := ⟨_, rfl⟩
            rw [drop_cons (by rw [List.getElem?_eq_getElem hlt, bang_at hv hlt])] at hx
            have hx : numsBad ns = ((decide (v < 0) || decide (1099511627776 < v)) || numsBad (ns.drop (i + 1))) := hx
            by_cases h1 : v < 0
            · rw [decide_eq_true h1, Bool.true_or, Bool.true_or] at hx
              rw [if_pos hx] at hE
              rw [hbad 1 hE (by decide), hE]
              repeat' (first | (with_reducible first | refine SW_seq ?_ | refine SW_block ?_ | refine SThen_n ?_ | refine SThen_r ?_ | refine SThen_e ?_ | refine SIn_n ?_ | refine SIn_r ?_ | refine SIn_eq ?_ | refine SW_skip ?_ | refine SW_exit ?_ | refine SW_ret ?_ | refine SPost_r ?_) | ((with_reducible refine SIn_ne ?_ ?_); focus decide) | ((with_reducible refine SW_true ?_ ?_); focus exact rfl) | ((with_reducible refine SW_false ?_ ?_); focus exact rfl) | ((first | (with_reducible apply SW_run tt_ok hG htb) | ((with_reducible apply SW_draw rfl tt_ok hG htb); (focus kernel_rfl); (focus (simp only [List.range, List.range.loop, List.size_toArray, List.length_cons, List.length_nil, Nat.reduceAdd])))); focus ((repeat' (first | (with_reducible exact runX_nil) | (with_reducible exact runI_nil) | ((first | (with_reducible apply runX_cons) | (with_reducible apply runI_cons)); focus (simp (discharger := omega) only [go_sem, hv, simprocAttr]; with_reducible rfl)))); done)))
              exact (by simp (discharger := omega) only [go_sem, tErr, simprocAttr])
            · by_cases h2 : 1099511627776 < v
              · rw [decide_eq_true h2, Bool.or_true, Bool.true_or] at hx
                rw [if_pos hx] at hE
                rw [hbad 1 hE (by decide), hE]
                repeat' (first | (with_reducible first | refine SW_seq ?_ | refine SW_block ?_ | refine SThen_n ?_ | refine SThen_r ?_ | refine SThen_e ?_ | refine SIn_n ?_ | refine SIn_r ?_ | refine SIn_eq ?_ | refine SW_skip ?_ | refine SW_exit ?_ | refine SW_ret ?_ | refine SPost_r ?_) | ((with_reducible refine SIn_ne ?_ ?_); focus decide) | ((with_reducible refine SW_true ?_ ?_); focus exact rfl) | ((with_reducible refine SW_false ?_ ?_); focus exact rfl) | ((first | (with_reducible apply SW_run tt_ok hG htb) | ((with_reducible apply SW_draw rfl tt_ok hG htb); (focus kernel_rfl); (focus (simp only [List.range, List.range.loop, List.size_toArray, List.length_cons, List.length_nil, Nat.reduceAdd])))); focus ((repeat' (first | (with_reducible exact runX_nil) | (with_reducible exact runI_nil) | ((first | (with_reducible apply runX_cons) | (with_reducible apply runI_cons)); focus (simp (discharger := omega) only [go_sem, hv, simprocAttr]; with_reducible rfl)))); done)))
                exact (by simp (discharger := omega) only [go_sem, tErr, simprocAttr])
              · rw [decide_eq_false h1, decide_eq_false h2, Bool.false_or, Bool.false_or] at hx
                repeat' (first | (with_reducible first | refine SW_seq ?_ | refine SW_block ?_ | refine SThen_n ?_ | refine SThen_r ?_ | refine SThen_e ?_ | refine SIn_n ?_ | refine SIn_r ?_ | refine SIn_eq ?_ | refine SW_skip ?_ | refine SW_exit ?_ | refine SW_ret ?_ | refine SPost_r ?_) | ((with_reducible refine SIn_ne ?_ ?_); focus decide) | ((with_reducible refine SW_true ?_ ?_); focus exact rfl) | ((with_reducible refine SW_false ?_ ?_); focus exact rfl) | ((first | (with_reducible apply SW_run tt_ok hG htb) | ((with_reducible apply SW_draw rfl tt_ok hG htb); (focus kernel_rfl); (focus (simp only [List.range, List.range.loop, List.size_toArray, List.length_cons, List.length_nil, Nat.reduceAdd])))); focus ((repeat' (first | (with_reducible exact runX_nil) | (with_reducible exact runI_nil) | ((first | (with_reducible apply runX_cons) | (with_reducible apply runI_cons)); focus (simp (discharger := omega) only [go_sem, hv, simprocAttr]; with_reducible rfl)))); done)))
                exact ⟨ns.length - (i + 1), _, by omega, Norm.headS (own := []) (keep := [3, 4, 5, 54, 55, 56]) (by refine ⟨?_, ?_⟩; (simp (discharger := omega) only [go_sem, simprocAttr]; with_reducible rfl); refine ⟨?_, ?_, ?_, ?_⟩ <;> (simp only [go_sem, simprocAttr]; with_reducible rfl)), i + 1, rfl, rfl, by omega, hx⟩
          · obtain rfl : i = ns.length := by omega
            have hB : numsBad ns = false := by rw [hx, List.drop_length]; rfl
            have h1 := hev hB
            rw [if_neg (by rw [hB]; decide)] at hE
            have hV : evalV f ws ns = evalP f ws ns 0 := by unfold evalV; rw [if_pos hE]
            rw [hV, hE]
            unfold EvC at h1
            clear hx hE hV hev hbad
            generalize evalP f ws ns 0 = b at *
            repeat' (first | (with_reducible first | refine SW_seq ?_ | refine SW_block ?_ | refine SThen_n ?_ | refine SThen_r ?_ | refine SThen_e ?_ | refine SIn_n ?_ | refine SIn_r ?_ | refine SIn_eq ?_ | refine SW_skip ?_ | refine SW_exit ?_ | refine SW_ret ?_ | refine SPost_r ?_) | ((with_reducible refine SIn_ne ?_ ?_); focus decide) | ((with_reducible refine SW_true ?_ ?_); focus exact rfl) | ((with_reducible refine SW_false ?_ ?_); focus exact rfl) | ((first | (with_reducible apply SW_run tt_ok hG htb) | ((with_reducible apply SW_draw rfl tt_ok hG htb); (focus kernel_rfl); (focus (simp only [List.range, List.range.loop, List.size_toArray, List.length_cons, List.length_nil, Nat.reduceAdd])))); focus ((repeat' (first | (with_reducible exact runX_nil) | (with_reducible exact runI_nil) | ((first | (with_reducible apply runX_cons) | (with_reducible apply runI_cons)); focus (simp (discharger := omega) only [go_sem, simprocAttr]; with_reducible rfl)))); done)))
            refine SW_norm (Norm.headS (own := []) (keep := [3, 5, 4, 17]) (by refine ⟨?_, ?_⟩; (simp (discharger := omega) only [go_sem, simprocAttr]; with_reducible rfl); refine ⟨?_, ?_, ?_, ?_⟩ <;> (simp only [go_sem, simprocAttr]; with_reducible rfl))) ?_
            refine SW_runCB tt_ok hG htb 1 rfl (by simp only [List.take_succ_cons, List.take_zero]; rfl) (by simp only [List.drop_succ_cons, List.drop_zero, Nat.reduceAdd]; rfl) (by (repeat' (first | (with_reducible exact runX_nil) | ((with_reducible apply runX_cons); focus (simp (discharger := omega) only [go_sem, simprocAttr]; with_reducible rfl))))) rfl rfl (g := 33) (cap := evCap) (obs := evObs f ws ns) (rst := ?zzr) (r := ?zzt) (s2 := ?zzs) ?g1 ?g2 ?g3 ?g4 ev_boxes ?g5 ?g6 ?g7 ?g8 ?g9
            case g1 => rfl
            case g2 => rfl
            case g3 => rfl
            case g4 => rfl
            case g5 => exact h1
            case g6 => exact ev_ren f ws ns
            case g7 => exact ev_xren _
            case g8 => (repeat' (first | (with_reducible exact runX_nil) | ((with_reducible apply runX_cons); focus (simp (discharger := omega) only [go_sem, simprocAttr]; with_reducible rfl))))
            repeat' (first | (with_reducible first | refine SW_seq ?_ | refine SW_block ?_ | refine SThen_n ?_ | refine SThen_r ?_ | refine SThen_e ?_ | refine SIn_n ?_ | refine SIn_r ?_ | refine SIn_eq ?_ | refine SW_skip ?_ | refine SW_exit ?_ | refine SW_ret ?_ | refine SPost_r ?_) | ((with_reducible refine SIn_ne ?_ ?_); focus decide) | ((with_reducible refine SW_true ?_ ?_); focus exact rfl) | ((with_reducible refine SW_false ?_ ?_); focus exact rfl) | ((first | (with_reducible apply SW_run tt_ok hG htb) | ((with_reducible apply SW_draw rfl tt_ok hG htb); (focus kernel_rfl); (focus (simp only [List.range, List.range.loop, List.size_toArray, List.length_cons, List.length_nil, Nat.reduceAdd])))); focus ((repeat' (first | (with_reducible exact runX_nil) | (with_reducible exact runI_nil) | ((first | (with_reducible apply runX_cons) | (with_reducible apply runI_cons)); focus (simp (discharger := omega) only [go_sem, simprocAttr]; with_reducible rfl)))); done)))
            exact (by simp (discharger := omega) only [go_sem, tErr0, simprocAttr])
      · rw [if_pos hw] at hE
        rw [hE, bad _ hE hw]
        clear hE bad
        unfold tForm at c1 c2 c3 ⊢
        unfold tOutL at c3 ⊢
        generalize wordsErr f ws = e at *
        have htb := Tab.cons c1 (Tab.cons c2 (Tab.cons c3 Tab.nil))
        repeat' (first | (with_reducible first | refine SW_seq ?_ | refine SW_block ?_ | refine SThen_n ?_ | refine SThen_r ?_ | refine SThen_e ?_ | refine SIn_n ?_ | refine SIn_r ?_ | refine SIn_eq ?_ | refine SW_skip ?_ | refine SW_exit ?_ | refine SW_ret ?_ | refine SPost_r ?_) | ((with_reducible refine SIn_ne ?_ ?_); focus decide) | ((with_reducible refine SW_true ?_ ?_); focus exact rfl) | ((with_reducible refine SW_false ?_ ?_); focus exact rfl) | ((first | (with_reducible apply SW_run tt_ok hG htb) | ((with_reducible apply SW_draw rfl tt_ok hG htb); (focus kernel_rfl); (focus (simp only [List.range, List.range.loop, List.size_toArray, List.length_cons, List.length_nil, Nat.reduceAdd])))); focus ((repeat' (first | (with_reducible exact runX_nil) | (with_reducible exact runI_nil) | ((first | (with_reducible apply runX_cons) | (with_reducible apply runI_cons)); focus (simp (discharger := omega) only [go_sem, tErr, hw, simprocAttr]; with_reducible rfl)))); done)))
        exact (by simp (discharger := omega) only [go_sem, tErr, hw, simprocAttr])
  · have hE : evalErr f ws ns = (formErr f).2 := by unfold evalErr; rw [if_pos h]
    rw [bad _ hE h, hE]
    clear hE bad
    generalize (formErr f).2 = e at *
    generalize (formErr f).1 = a at *
    unfold tForm at *
    unfold tOutL at *
    have htb := Tab.cons c1 Tab.nil
    repeat' (first | (with_reducible first | refine SW_seq ?_ | refine SW_block ?_ | refine SThen_n ?_ | refine SThen_r ?_ | refine SThen_e ?_ | refine SIn_n ?_ | refine SIn_r ?_ | refine SIn_eq ?_ | refine SW_skip ?_ | refine SW_exit ?_ | refine SW_ret ?_ | refine SPost_r ?_) | ((with_reducible refine SIn_ne ?_ ?_); focus decide) | ((with_reducible refine SW_true ?_ ?_); focus exact rfl) | ((with_reducible refine SW_false ?_ ?_); focus exact rfl) | ((first | (with_reducible apply SW_run tt_ok hG htb) | ((with_reducible apply SW_draw rfl tt_ok hG htb); (focus kernel_rfl); (focus (simp only [List.range, List.range.loop, List.size_toArray, List.length_cons, List.length_nil, Nat.reduceAdd])))); focus ((repeat' (first | (with_reducible exact runX_nil) | (with_reducible exact runI_nil) | ((first | (with_reducible apply runX_cons) | (with_reducible apply runI_cons)); focus (simp (discharger := omega) only [go_sem, tErr, h, simprocAttr]; with_reducible rfl)))); done)))
    exact (by simp (discharger := omega) only [go_sem, tErr, h, simprocAttr])
end
end Go.Proofs.Ytfhncnhkeodngaa
namespace Go.Proofs.Ytfhncnhkeodngaa
open Go.RowKit

theorem list_same {α : Type} [Inhabited α] {l l' : List α} (hl : l.length = l'.length) (h : ∀ j, j < l.length → l[j]! = l'[j]!) : l = l' := by
  refine List.ext_getElem hl fun i h1 h2 => ?_
  have := h i h1
  rwa [getElem!_pos l i h1, getElem!_pos l' i h2] at this
section
variable {G : World → Prop} (hG : Lasting G)
include hG
set_option maxHeartbeats 4000000 in
theorem SInts_snd (d d' : List Int) : Snd Try.prog G 29 [tInts d, tInts d'] (.bool (decide (d = d'))) := by
  have htb : Tab.ok Try.prog G [] := Tab.nil
  refine snd_of_body (n := 26) (tm := [(0, .t (tInts d)), (1, .t (tInts d'))]) (rs := [.tmp 4]) tt_ok Try.func29 rfl rfl rfl rfl rfl ?_
  refine SW_len (t := 0) (l := _) rfl fun hlen => ?_
  simp only [List.length_map] at hlen
  by_cases hl : d.length = d'.length
  · repeat' (first | (with_reducible first | refine SW_seq ?_ | refine SW_block ?_ | refine SThen_n ?_ | refine SThen_r ?_ | refine SThen_e ?_ | refine SIn_n ?_ | refine SIn_r ?_ | refine SIn_eq ?_ | refine SW_skip ?_ | refine SW_exit ?_ | refine SW_ret ?_ | refine SPost_r ?_) | ((with_reducible refine SIn_ne ?_ ?_); focus decide) | ((with_reducible refine SW_true ?_ ?_); focus exact rfl) | ((with_reducible refine SW_false ?_ ?_); focus exact rfl) | ((first | (with_reducible apply SW_run tt_ok hG htb) | ((with_reducible apply SW_draw rfl tt_ok hG htb); (focus kernel_rfl); (focus (simp only [List.range, List.range.loop, List.size_toArray, List.length_cons, List.length_nil, Nat.reduceAdd])))); focus ((repeat' (first | (with_reducible exact runX_nil) | (with_reducible exact runI_nil) | ((first | (with_reducible apply runX_cons) | (with_reducible apply runI_cons)); focus (simp (discharger := omega) only [go_sem, hl, simprocAttr]; with_reducible rfl)))); done)))
    refine SW_loop (fun n s => ∃ k : Nat, n = d.length - k ∧ s = ⟨26, [(0, .t (tInts d)), (1, .t (tInts d')), (5, .t (tInt k))], []⟩ ∧ k ≤ d.length ∧ ∀ j, j < k → d[j]! = d'[j]!) d.length ⟨_, Norm.headS (own := []) (keep := [0, 1, 5]) (by refine ⟨?_, ?_⟩; (simp (discharger := omega) only [go_sem, simprocAttr]; with_reducible rfl); refine ⟨?_, ?_, ?_, ?_⟩ <;> (simp only [go_sem, simprocAttr]; with_reducible rfl)), 0, rfl, rfl, Nat.zero_le _, fun j hj => by omega⟩ ?_
    rintro n s ⟨k, rfl, rfl, hk, hA⟩
    by_cases hlt : k < d.length
    · by_cases h : d[k]! = d'[k]!
      · repeat' (first | (with_reducible first | refine SW_seq ?_ | refine SW_block ?_ | refine SThen_n ?_ | refine SThen_r ?_ | refine SThen_e ?_ | refine SIn_n ?_ | refine SIn_r ?_ | refine SIn_eq ?_ | refine SW_skip ?_ | refine SW_exit ?_ | refine SW_ret ?_ | refine SPost_r ?_) | ((with_reducible refine SIn_ne ?_ ?_); focus decide) | ((with_reducible refine SW_true ?_ ?_); focus exact rfl) | ((with_reducible refine SW_false ?_ ?_); focus exact rfl) | ((first | (with_reducible apply SW_run tt_ok hG htb) | ((with_reducible apply SW_draw rfl tt_ok hG htb); (focus kernel_rfl); (focus (simp only [List.range, List.range.loop, List.size_toArray, List.length_cons, List.length_nil, Nat.reduceAdd])))); focus ((repeat' (first | (with_reducible exact runX_nil) | (with_reducible exact runI_nil) | ((first | (with_reducible apply runX_cons) | (with_reducible apply runI_cons)); focus (simp (discharger := omega) only [go_sem, h, simprocAttr]; with_reducible rfl)))); done)))
        exact ⟨d.length - (k + 1), _, by omega, Norm.headS (own := []) (keep := [0, 1, 5]) (by refine ⟨?_, ?_⟩; (simp (discharger := omega) only [go_sem, simprocAttr]; with_reducible rfl); refine ⟨?_, ?_, ?_, ?_⟩ <;> (simp only [go_sem, simprocAttr]; with_reducible rfl)), k + 1, rfl, rfl, by omega, fun j hj => by
          by_cases e : j = k
          · subst e; exact h
          · exact hA j (by omega)⟩
      · rw [decide_eq_false (fun e => h (by rw [e]))]
        repeat' (first | (with_reducible first | refine SW_seq ?_ | refine SW_block ?_ | refine SThen_n ?_ | refine SThen_r ?_ | refine SThen_e ?_ | refine SIn_n ?_ | refine SIn_r ?_ | refine SIn_eq ?_ | refine SW_skip ?_ | refine SW_exit ?_ | refine SW_ret ?_ | refine SPost_r ?_) | ((with_reducible refine SIn_ne ?_ ?_); focus decide) | ((with_reducible refine SW_true ?_ ?_); focus exact rfl) | ((with_reducible refine SW_false ?_ ?_); focus exact rfl) | ((first | (with_reducible apply SW_run tt_ok hG htb) | ((with_reducible apply SW_draw rfl tt_ok hG htb); (focus kernel_rfl); (focus (simp only [List.range, List.range.loop, List.size_toArray, List.length_cons, List.length_nil, Nat.reduceAdd])))); focus ((repeat' (first | (with_reducible exact runX_nil) | (with_reducible exact runI_nil) | ((first | (with_reducible apply runX_cons) | (with_reducible apply runI_cons)); focus (simp (discharger := omega) only [go_sem, h, simprocAttr]; with_reducible rfl)))); done)))
        exact (by simp (discharger := omega) only [go_sem, simprocAttr])
    · rw [decide_eq_true (list_same hl fun j hj => hA j (by omega))]
      repeat' (first | (with_reducible first | refine SW_seq ?_ | refine SW_block ?_ | refine SThen_n ?_ | refine SThen_r ?_ | refine SThen_e ?_ | refine SIn_n ?_ | refine SIn_r ?_ | refine SIn_eq ?_ | refine SW_skip ?_ | refine SW_exit ?_ | refine SW_ret ?_ | refine SPost_r ?_) | ((with_reducible refine SIn_ne ?_ ?_); focus decide) | ((with_reducible refine SW_true ?_ ?_); focus exact rfl) | ((with_reducible refine SW_false ?_ ?_); focus exact rfl) | ((first | (with_reducible apply SW_run tt_ok hG htb) | ((with_reducible apply SW_draw rfl tt_ok hG htb); (focus kernel_rfl); (focus (simp only [List.range, List.range.loop, List.size_toArray, List.length_cons, List.length_nil, Nat.reduceAdd])))); focus ((repeat' (first | (with_reducible exact runX_nil) | (with_reducible exact runI_nil) | ((first | (with_reducible apply runX_cons) | (with_reducible apply runI_cons)); focus (simp (discharger := omega) only [go_sem, simprocAttr]; with_reducible rfl)))); done)))
      exact (by simp (discharger := omega) only [go_sem, simprocAttr])
  · rw [decide_eq_false (fun e => hl (by rw [e]))]
    repeat' (first | (with_reducible first | refine SW_seq ?_ | refine SW_block ?_ | refine SThen_n ?_ | refine SThen_r ?_ | refine SThen_e ?_ | refine SIn_n ?_ | refine SIn_r ?_ | refine SIn_eq ?_ | refine SW_skip ?_ | refine SW_exit ?_ | refine SW_ret ?_ | refine SPost_r ?_) | ((with_reducible refine SIn_ne ?_ ?_); focus decide) | ((with_reducible refine SW_true ?_ ?_); focus exact rfl) | ((with_reducible refine SW_false ?_ ?_); focus exact rfl) | ((first | (with_reducible apply SW_run tt_ok hG htb) | ((with_reducible apply SW_draw rfl tt_ok hG htb); (focus kernel_rfl); (focus (simp only [List.range, List.range.loop, List.size_toArray, List.length_cons, List.length_nil, Nat.reduceAdd])))); focus ((repeat' (first | (with_reducible exact runX_nil) | (with_reducible exact runI_nil) | ((first | (with_reducible apply runX_cons) | (with_reducible apply runI_cons)); focus (simp (discharger := omega) only [go_sem, hl, simprocAttr]; with_reducible rfl)))); done)))
    exact (by simp (discharger := omega) only [go_sem, simprocAttr])
end
end Go.Proofs.Ytfhncnhkeodngaa
namespace Go.Proofs.Ytfhncnhkeodngaa
open Go.RowKit

def tZN : T := .agg [.int .i64 0, .int .i64 0, .int .i64 0, .int .i64 0, .int .i64 0, .int .i64 0, .list []]
theorem list_five {l : List Int} (h : l.length = 5) : l = [l.getD 0 0, l.getD 1 0, l.getD 2 0, l.getD 3 0, l.getD 4 0] := by
  match l, h with
  | [a, b, c, d, e], _ => rfl
theorem set_next {α : Type} {A : List α} {k n : Nat} {z y : α} (h : A.length = n) (hk : 0 < k) : (A ++ List.replicate k z).set n y = (A ++ [y]) ++ List.replicate (k - 1) z := by
  obtain ⟨q, rfl⟩ : ∃ q, k = q + 1 := ⟨k - 1, by omega⟩
  subst h
  rw [List.set_append_right _ _ (Nat.le_refl _), Nat.sub_self, List.replicate_succ, List.set_cons_zero, List.append_assoc]
  rfl
theorem node_var {n : GNode} (h : nodeErr n = 0) : (n.op = 3 ∨ n.op = 4 ∨ n.op = 8 ∨ n.op = 9 → 0 ≤ n.var ∧ n.var < 5) ∧ (n.op = 4 → 0 ≤ n.other ∧ n.other < 5) ∧ (¬ (n.op = 3 ∨ n.op = 4 ∨ n.op = 8 ∨ n.op = 9) → n.var = 0) ∧ (¬ n.op = 4 → n.other = 0) := by
  obtain ⟨h1, h2, h3, h4⟩ := node_ok h
  unfold nodeMore at h4
  simp only [Bool.or_eq_false_iff, decide_eq_false_iff_not, ne_eq, Classical.not_not] at h4
  obtain ⟨⟨⟨⟨⟨m1, m2⟩, _⟩, _⟩, _⟩, _⟩ := h4
  unfold nodeOk at h3
  unfold usedN at m1 m2
  refine ⟨fun e => ?_, fun e => ?_, fun e => ?_, fun e => ?_⟩
  · rw [if_neg (by omega)] at h3
    by_cases e3 : n.op = 3
    · rw [if_pos e3] at h3
      simp only [Bool.and_eq_true] at h3
      exact isVar_bd h3.1.1.1.1
    · rw [if_neg e3] at h3
      by_cases e4 : n.op = 4
      · rw [if_pos e4] at h3
        simp only [Bool.and_eq_true] at h3
        exact isVar_bd h3.1.1.1.1.1
      · rw [if_neg e4, if_pos (by omega)] at h3
        exact isVar_bd h3
  · rw [if_neg (by omega), if_neg (by omega), if_pos e] at h3
    simp only [Bool.and_eq_true] at h3
    exact isVar_bd h3.1.1.1.1.2
  · rw [m1]
    split
    · rfl
    · rw [if_neg (by omega), if_neg (by omega), if_neg (by omega)]
  · rw [m2]
    by_cases a1 : n.op = 1 ∨ n.op = 2
    · rw [if_pos a1]
    · rw [if_neg a1]
      by_cases a3 : n.op = 3
      · rw [if_pos a3]
      · rw [if_neg a3, if_neg e]
        by_cases a8 : n.op = 8 ∨ n.op = 9
        · rw [if_pos a8]
        · rw [if_neg a8]
theorem toGo_step {to : List Int} {i : Nat} (hi : i < 5) : toGo to (5 - i) i = if toAt to i ≠ 0 then toAt to i else toGo to (5 - (i + 1)) (i + 1) := by
  rw [show 5 - i = 5 - (i + 1) + 1 by omega, toGo]
section
variable {G : World → Prop} (hG : Lasting G)
include hG
set_option maxHeartbeats 4000000 in
set_option maxRecDepth 100000 in
theorem Nodes_snd (a : List GNode) : Snd Try.prog G 11 [tForm a, tForm a] (.bool true) := by
  refine snd_of_body (n := 77) (tm := [(0, .t (tForm a)), (1, .t (tForm a))]) (rs := [.tmp 4]) tt_ok Try.func11 rfl rfl rfl rfl rfl ?_
  have htb : Tab.ok Try.prog G [] := Tab.nil
  unfold tForm
  refine SW_len (t := 0) rfl fun hcl => ?_
  rw [List.length_map] at hcl
  repeat' (first | (with_reducible first | refine SW_seq ?_ | refine SW_block ?_ | refine SThen_n ?_ | refine SThen_r ?_ | refine SThen_e ?_ | refine SIn_n ?_ | refine SIn_r ?_ | refine SIn_eq ?_ | refine SW_skip ?_ | refine SW_exit ?_ | refine SW_ret ?_ | refine SPost_r ?_) | ((with_reducible refine SIn_ne ?_ ?_); focus decide) | ((with_reducible refine SW_true ?_ ?_); focus exact rfl) | ((with_reducible refine SW_false ?_ ?_); focus exact rfl) | ((first | (with_reducible apply SW_run tt_ok hG htb) | ((with_reducible apply SW_draw rfl tt_ok hG htb); (focus kernel_rfl); (focus (simp only [List.range, List.range.loop, List.size_toArray, List.length_cons, List.length_nil, Nat.reduceAdd])))); focus ((repeat' (first | (with_reducible exact runX_nil) | (with_reducible exact runI_nil) | ((first | (with_reducible apply runX_cons) | (with_reducible apply runI_cons)); focus (simp (discharger := omega) only [go_sem, simprocAttr]; with_reducible rfl)))); done)))
  refine SW_loop (fun mm s => ∃ (i : Nat), mm = a.length - i ∧ s = ⟨77, [(0, .t (.list (a.map tNode))), (1, .t (.list (a.map tNode))), (5, .t (tNat i))], []⟩ ∧ i ≤ a.length) a.length
    ⟨_, Norm.headS (own := []) (keep := [0, 1, 5]) (by refine ⟨?_, ?_⟩; (simp (discharger := omega) only [go_sem, simprocAttr]; with_reducible rfl); refine ⟨?_, ?_, ?_, ?_⟩ <;> (simp only [go_sem, simprocAttr]; with_reducible rfl)), 0, rfl, rfl, Nat.zero_le _⟩ ?_
  rintro mm s ⟨i, rfl, rfl, hi⟩
  by_cases hlt : i < a.length
  · obtain ⟨n, hn⟩ : ∃ n, a[i]! = n := ⟨_, rfl⟩
    obtain ⟨op, var, other, word, word2, num, coefs⟩ := n
    have c1 := SInts_snd (G := G) hG coefs coefs
    rw [decide_eq_true rfl] at c1
    clear htb
    have htb := Tab.cons c1 Tab.nil
    repeat' (first | (with_reducible first | refine SW_seq ?_ | refine SW_block ?_ | refine SThen_n ?_ | refine SThen_r ?_ | refine SThen_e ?_ | refine SIn_n ?_ | refine SIn_r ?_ | refine SIn_eq ?_ | refine SW_skip ?_ | refine SW_exit ?_ | refine SW_ret ?_ | refine SPost_r ?_) | ((with_reducible refine SIn_ne ?_ ?_); focus decide) | ((with_reducible refine SW_true ?_ ?_); focus exact rfl) | ((with_reducible refine SW_false ?_ ?_); focus exact rfl) | ((first | (with_reducible apply SW_run tt_ok hG htb) | ((with_reducible apply SW_draw rfl tt_ok hG htb); (focus kernel_rfl); (focus (simp only [List.range, List.range.loop, List.size_toArray, List.length_cons, List.length_nil, Nat.reduceAdd])))); focus ((repeat' (first | (with_reducible exact runX_nil) | (with_reducible exact runI_nil) | ((first | (with_reducible apply runX_cons) | (with_reducible apply runI_cons)); focus (simp (discharger := omega) only [go_sem, hn, tNode, simprocAttr]; with_reducible rfl)))); done)))
    exact ⟨a.length - (i + 1), _, by omega, Norm.headS (own := []) (keep := [0, 1, 5]) (by refine ⟨?_, ?_⟩; (simp (discharger := omega) only [go_sem, simprocAttr]; with_reducible rfl); refine ⟨?_, ?_, ?_, ?_⟩ <;> (simp only [go_sem, simprocAttr]; with_reducible rfl)), i + 1, rfl, rfl, by omega⟩
  · obtain rfl : i = a.length := by omega
    repeat' (first | (with_reducible first | refine SW_seq ?_ | refine SW_block ?_ | refine SThen_n ?_ | refine SThen_r ?_ | refine SThen_e ?_ | refine SIn_n ?_ | refine SIn_r ?_ | refine SIn_eq ?_ | refine SW_skip ?_ | refine SW_exit ?_ | refine SW_ret ?_ | refine SPost_r ?_) | ((with_reducible refine SIn_ne ?_ ?_); focus decide) | ((with_reducible refine SW_true ?_ ?_); focus exact rfl) | ((with_reducible refine SW_false ?_ ?_); focus exact rfl) | ((first | (with_reducible apply SW_run tt_ok hG htb) | ((with_reducible apply SW_draw rfl tt_ok hG htb); (focus kernel_rfl); (focus (simp only [List.range, List.range.loop, List.size_toArray, List.length_cons, List.length_nil, Nat.reduceAdd])))); focus ((repeat' (first | (with_reducible exact runX_nil) | (with_reducible exact runI_nil) | ((first | (with_reducible apply runX_cons) | (with_reducible apply runI_cons)); focus (simp (discharger := omega) only [go_sem, simprocAttr]; with_reducible rfl)))); done)))
    exact (by simp (discharger := omega) only [go_sem, simprocAttr])
set_option maxHeartbeats 16000000 in
set_option maxRecDepth 100000 in
theorem Rename_snd (f : List GNode) (to : List Int) : Snd Try.prog G 10 [tForm f, tInts to] (.tup [tForm (renF f to), tErr (renErr f to)]) := by
  have c1 := Check_form_snd hG f
  refine snd_of_body (n := 135) (tm := [(0, .t (tForm f)), (1, .t (tInts to))]) (rs := [.tmp 4, .tmp 5]) tt_ok Try.func10 rfl rfl rfl rfl rfl ?_
  have bad : ∀ e, renErr f to = e → e ≠ 0 → tForm (renF f to) = .list [] := fun e h1 h2 => by unfold renF; rw [if_neg (by omega)]; rfl
  refine SW_len (t := 1) rfl fun hcl => ?_
  rw [List.length_map] at hcl
  by_cases h : (formErr f).2 = 0
  · obtain ⟨h0, hl, hne, hp, e1⟩ := form_ok h
    rw [h, e1] at c1
    have htb := Tab.cons c1 Tab.nil
    by_cases h5 : to.length = 5
    · have hre : renErr f to = toGo to 5 0 := by unfold renErr; rw [if_neg (by omega), if_neg (by omega)]
      repeat' (first | (with_reducible first | refine SW_seq ?_ | refine SW_block ?_ | refine SThen_n ?_ | refine SThen_r ?_ | refine SThen_e ?_ | refine SIn_n ?_ | refine SIn_r ?_ | refine SIn_eq ?_ | refine SW_skip ?_ | refine SW_exit ?_ | refine SW_ret ?_ | refine SPost_r ?_) | ((with_reducible refine SIn_ne ?_ ?_); focus decide) | ((with_reducible refine SW_true ?_ ?_); focus exact rfl) | ((with_reducible refine SW_false ?_ ?_); focus exact rfl) | ((first | (with_reducible apply SW_run tt_ok hG htb) | ((with_reducible apply SW_draw rfl tt_ok hG htb); (focus kernel_rfl); (focus (simp only [List.range, List.range.loop, List.size_toArray, List.length_cons, List.length_nil, Nat.reduceAdd])))); focus ((repeat' (first | (with_reducible exact runX_nil) | (with_reducible exact runI_nil) | ((first | (with_reducible apply runX_cons) | (with_reducible apply runI_cons)); focus (simp (discharger := omega) only [go_sem, tErr0, h5, simprocAttr]; with_reducible rfl)))); done)))
      clear htb c1
      refine SW_loop (fun mm s => ∃ (i : Nat) (g : Nat → Bool), mm = 5 - i ∧ s = ⟨135, [(0, .t (tForm f)), (1, .t (tInts to)), (8, .bptr 0 0), (31, .t (tInts to)), (32, .t (tInt 5)), (33, .t (tNat i))], [.box [.t (.bool (g 0)), .t (.bool (g 1)), .t (.bool (g 2)), .t (.bool (g 3)), .t (.bool (g 4))]]⟩ ∧ i ≤ 5 ∧ renErr f to = toGo to (5 - i) i ∧ ∀ k : Nat, k < 5 → g k = (to.take i).contains (k : Int)) 5
        ⟨_, Norm.headS (own := []) (keep := [0, 1, 8, 31, 32, 33]) (by refine ⟨?_, ?_⟩; (simp (discharger := omega) only [go_sem, simprocAttr]; with_reducible rfl); refine ⟨?_, ?_, ?_, ?_⟩ <;> (simp only [go_sem, simprocAttr]; with_reducible rfl)), 0, fun _ => false, rfl, rfl, by omega, hre, fun k _ => by simp⟩ ?_
      clear hre
      rintro mm s ⟨i, g, rfl, rfl, hi, hre, hg⟩
      by_cases hlt : i < 5
      · obtain ⟨x, hx⟩ : ∃ x, to[i]! = x := ⟨_, rfl⟩
        have hxD : to.getD i 0 = x := bang_D hx (by omega)
        have cV := variable_snd hG x
        rw [toGo_step hlt] at hre
        have hta : toAt to i = if isVar x = false then 1 else if (to.take i).contains x = true then 6 else 0 := by unfold toAt; rw [hxD]
        cases hv : isVar x with
        | false =>
          rw [hv] at cV
          rw [hta, if_pos hv, if_pos (by decide)] at hre
          rw [hre, bad 1 hre (by decide)]
          have htb := Tab.cons cV Tab.nil
          repeat' (first | (with_reducible first | refine SW_seq ?_ | refine SW_block ?_ | refine SThen_n ?_ | refine SThen_r ?_ | refine SThen_e ?_ | refine SIn_n ?_ | refine SIn_r ?_ | refine SIn_eq ?_ | refine SW_skip ?_ | refine SW_exit ?_ | refine SW_ret ?_ | refine SPost_r ?_) | ((with_reducible refine SIn_ne ?_ ?_); focus decide) | ((with_reducible refine SW_true ?_ ?_); focus exact rfl) | ((with_reducible refine SW_false ?_ ?_); focus exact rfl) | ((first | (with_reducible apply SW_run tt_ok hG htb) | ((with_reducible apply SW_draw rfl tt_ok hG htb); (focus kernel_rfl); (focus (simp only [List.range, List.range.loop, List.size_toArray, List.length_cons, List.length_nil, Nat.reduceAdd])))); focus ((repeat' (first | (with_reducible exact runX_nil) | (with_reducible exact runI_nil) | ((first | (with_reducible apply runX_cons) | (with_reducible apply runI_cons)); focus (simp (discharger := omega) only [go_sem, hx, simprocAttr]; with_reducible rfl)))); done)))
          exact (by simp (discharger := omega) only [go_sem, tErr, simprocAttr])
        | true =>
          rw [hv] at cV
          rw [if_neg (by rw [hv]; decide)] at hta
          have hxb := isVar_bd hv
          have htk := take_next hx (by omega)
          have hg' : ∀ k : Nat, k < 5 → (to.take (i + 1)).contains (k : Int) = (decide (x = (k : Int)) || g k) := fun k hk => by
            rw [htk, List.contains_eq_any_beq, List.any_append, hg k hk, List.contains_eq_any_beq, Bool.or_comm]
            congr 1
            simp only [List.any_cons, List.any_nil, Bool.or_false]
            by_cases e : x = (k : Int)
            · rw [e]; simp
            · rw [decide_eq_false e]; simpa using fun e2 => e e2.symm
          have htb := Tab.cons cV Tab.nil
          have hx5 : x = 0 ∨ x = 1 ∨ x = 2 ∨ x = 3 ∨ x = 4 := by omega
          clear hv
          rcases hx5 with rfl | rfl | rfl | rfl | rfl
          · have hgc := hg 0 (by omega)
            cases hgv : g 0 with
            | true =>
              rw [if_pos (by rw [← hgv]; exact hgc.symm)] at hta
              rw [hta, if_pos (by decide)] at hre
              rw [hre, bad 6 hre (by decide)]
              repeat' (first | (with_reducible first | refine SW_seq ?_ | refine SW_block ?_ | refine SThen_n ?_ | refine SThen_r ?_ | refine SThen_e ?_ | refine SIn_n ?_ | refine SIn_r ?_ | refine SIn_eq ?_ | refine SW_skip ?_ | refine SW_exit ?_ | refine SW_ret ?_ | refine SPost_r ?_) | ((with_reducible refine SIn_ne ?_ ?_); focus decide) | ((with_reducible refine SW_true ?_ ?_); focus exact rfl) | ((with_reducible refine SW_false ?_ ?_); focus exact rfl) | ((first | (with_reducible apply SW_run tt_ok hG htb) | ((with_reducible apply SW_draw rfl tt_ok hG htb); (focus kernel_rfl); (focus (simp only [List.range, List.range.loop, List.size_toArray, List.length_cons, List.length_nil, Nat.reduceAdd])))); focus ((repeat' (first | (with_reducible exact runX_nil) | (with_reducible exact runI_nil) | ((first | (with_reducible apply runX_cons) | (with_reducible apply runI_cons)); focus (simp (discharger := omega) only [go_sem, hx, hgv, simprocAttr]; with_reducible rfl)))); done)))
              exact (by simp (discharger := omega) only [go_sem, tErr, simprocAttr])
            | false =>
              rw [if_neg (by rw [show (to.take i).contains (0 : Int) = false from by rw [← hgv]; exact hgc.symm]; decide)] at hta
              rw [hta, if_neg (by decide)] at hre
              repeat' (first | (with_reducible first | refine SW_seq ?_ | refine SW_block ?_ | refine SThen_n ?_ | refine SThen_r ?_ | refine SThen_e ?_ | refine SIn_n ?_ | refine SIn_r ?_ | refine SIn_eq ?_ | refine SW_skip ?_ | refine SW_exit ?_ | refine SW_ret ?_ | refine SPost_r ?_) | ((with_reducible refine SIn_ne ?_ ?_); focus decide) | ((with_reducible refine SW_true ?_ ?_); focus exact rfl) | ((with_reducible refine SW_false ?_ ?_); focus exact rfl) | ((first | (with_reducible apply SW_run tt_ok hG htb) | ((with_reducible apply SW_draw rfl tt_ok hG htb); (focus kernel_rfl); (focus (simp only [List.range, List.range.loop, List.size_toArray, List.length_cons, List.length_nil, Nat.reduceAdd])))); focus ((repeat' (first | (with_reducible exact runX_nil) | (with_reducible exact runI_nil) | ((first | (with_reducible apply runX_cons) | (with_reducible apply runI_cons)); focus (simp (discharger := omega) only [go_sem, hx, hgv, simprocAttr]; with_reducible rfl)))); done)))
              exact ⟨5 - (i + 1), _, by omega, Norm.headS (own := []) (keep := [0, 1, 8, 31, 32, 33]) (by refine ⟨?_, ?_⟩; (simp (discharger := omega) only [go_sem, simprocAttr]; with_reducible rfl); refine ⟨?_, ?_, ?_, ?_⟩ <;> (simp only [go_sem, simprocAttr]; with_reducible rfl)), i + 1, fun k => if k = 0 then true else g k, rfl, rfl, by omega, hre, fun k hk => by
                rw [hg' k hk]
                dsimp only
                by_cases e : k = 0
                · subst e; simp
                · rw [if_neg e, decide_eq_false (by omega), Bool.false_or]⟩
          · have hgc := hg 1 (by omega)
            cases hgv : g 1 with
            | true =>
              rw [if_pos (by rw [← hgv]; exact hgc.symm)] at hta
              rw [hta, if_pos (by decide)] at hre
              rw [hre, bad 6 hre (by decide)]
              repeat' (first | (with_reducible first | refine SW_seq ?_ | refine SW_block ?_ | refine SThen_n ?_ | refine SThen_r ?_ | refine SThen_e ?_ | refine SIn_n ?_ | refine SIn_r ?_ | refine SIn_eq ?_ | refine SW_skip ?_ | refine SW_exit ?_ | refine SW_ret ?_ | refine SPost_r ?_) | ((with_reducible refine SIn_ne ?_ ?_); focus decide) | ((with_reducible refine SW_true ?_ ?_); focus exact rfl) | ((with_reducible refine SW_false ?_ ?_); focus exact rfl) | ((first | (with_reducible apply SW_run tt_ok hG htb) | ((with_reducible apply SW_draw rfl tt_ok hG htb); (focus kernel_rfl); (focus (simp only [List.range, List.range.loop, List.size_toArray, List.length_cons, List.length_nil, Nat.reduceAdd])))); focus ((repeat' (first | (with_reducible exact runX_nil) | (with_reducible exact runI_nil) | ((first | (with_reducible apply runX_cons) | (with_reducible apply runI_cons)); focus (simp (discharger := omega) only [go_sem, hx, hgv, simprocAttr]; with_reducible rfl)))); done)))
              exact (by simp (discharger := omega) only [go_sem, tErr, simprocAttr])
            | false =>
              rw [if_neg (by rw [show (to.take i).contains (1 : Int) = false from by rw [← hgv]; exact hgc.symm]; decide)] at hta
              rw [hta, if_neg (by decide)] at hre
              repeat' (first | (with_reducible first | refine SW_seq ?_ | refine SW_block ?_ | refine SThen_n ?_ | refine SThen_r ?_ | refine SThen_e ?_ | refine SIn_n ?_ | refine SIn_r ?_ | refine SIn_eq ?_ | refine SW_skip ?_ | refine SW_exit ?_ | refine SW_ret ?_ | refine SPost_r ?_) | ((with_reducible refine SIn_ne ?_ ?_); focus decide) | ((with_reducible refine SW_true ?_ ?_); focus exact rfl) | ((with_reducible refine SW_false ?_ ?_); focus exact rfl) | ((first | (with_reducible apply SW_run tt_ok hG htb) | ((with_reducible apply SW_draw rfl tt_ok hG htb); (focus kernel_rfl); (focus (simp only [List.range, List.range.loop, List.size_toArray, List.length_cons, List.length_nil, Nat.reduceAdd])))); focus ((repeat' (first | (with_reducible exact runX_nil) | (with_reducible exact runI_nil) | ((first | (with_reducible apply runX_cons) | (with_reducible apply runI_cons)); focus (simp (discharger := omega) only [go_sem, hx, hgv, simprocAttr]; with_reducible rfl)))); done)))
              exact ⟨5 - (i + 1), _, by omega, Norm.headS (own := []) (keep := [0, 1, 8, 31, 32, 33]) (by refine ⟨?_, ?_⟩; (simp (discharger := omega) only [go_sem, simprocAttr]; with_reducible rfl); refine ⟨?_, ?_, ?_, ?_⟩ <;> (simp only [go_sem, simprocAttr]; with_reducible rfl)), i + 1, fun k => if k = 1 then true else g k, rfl, rfl, by omega, hre, fun k hk => by
                rw [hg' k hk]
                dsimp only
                by_cases e : k = 1
                · subst e; simp
                · rw [if_neg e, decide_eq_false (by omega), Bool.false_or]⟩
          · have hgc := hg 2 (by omega)
            cases hgv : g 2 with
            | true =>
              rw [if_pos (by rw [← hgv]; exact hgc.symm)] at hta
              rw [hta, if_pos (by decide)] at hre
              rw [hre, bad 6 hre (by decide)]
              repeat' (first | (with_reducible first | refine SW_seq ?_ | refine SW_block ?_ | refine SThen_n ?_ | refine SThen_r ?_ | refine SThen_e ?_ | refine SIn_n ?_ | refine SIn_r ?_ | refine SIn_eq ?_ | refine SW_skip ?_ | refine SW_exit ?_ | refine SW_ret ?_ | refine SPost_r ?_) | ((with_reducible refine SIn_ne ?_ ?_); focus decide) | ((with_reducible refine SW_true ?_ ?_); focus exact rfl) | ((with_reducible refine SW_false ?_ ?_); focus exact rfl) | ((first | (with_reducible apply SW_run tt_ok hG htb) | ((with_reducible apply SW_draw rfl tt_ok hG htb); (focus kernel_rfl); (focus (simp only [List.range, List.range.loop, List.size_toArray, List.length_cons, List.length_nil, Nat.reduceAdd])))); focus ((repeat' (first | (with_reducible exact runX_nil) | (with_reducible exact runI_nil) | ((first | (with_reducible apply runX_cons) | (with_reducible apply runI_cons)); focus (simp (discharger := omega) only [go_sem, hx, hgv, simprocAttr]; with_reducible rfl)))); done)))
              exact (by simp (discharger := omega) only [go_sem, tErr, simprocAttr])
            | false =>
              rw [if_neg (by rw [show (to.take i).contains (2 : Int) = false from by rw [← hgv]; exact hgc.symm]; decide)] at hta
              rw [hta, if_neg (by decide)] at hre
              repeat' (first | (with_reducible first | refine SW_seq ?_ | refine SW_block ?_ | refine SThen_n ?_ | refine SThen_r ?_ | refine SThen_e ?_ | refine SIn_n ?_ | refine SIn_r ?_ | refine SIn_eq ?_ | refine SW_skip ?_ | refine SW_exit ?_ | refine SW_ret ?_ | refine SPost_r ?_) | ((with_reducible refine SIn_ne ?_ ?_); focus decide) | ((with_reducible refine SW_true ?_ ?_); focus exact rfl) | ((with_reducible refine SW_false ?_ ?_); focus exact rfl) | ((first | (with_reducible apply SW_run tt_ok hG htb) | ((with_reducible apply SW_draw rfl tt_ok hG htb); (focus kernel_rfl); (focus (simp only [List.range, List.range.loop, List.size_toArray, List.length_cons, List.length_nil, Nat.reduceAdd])))); focus ((repeat' (first | (with_reducible exact runX_nil) | (with_reducible exact runI_nil) | ((first | (with_reducible apply runX_cons) | (with_reducible apply runI_cons)); focus (simp (discharger := omega) only [go_sem, hx, hgv, simprocAttr]; with_reducible rfl)))); done)))
              exact ⟨5 - (i + 1), _, by omega, Norm.headS (own := []) (keep := [0, 1, 8, 31, 32, 33]) (by refine ⟨?_, ?_⟩; (simp (discharger := omega) only [go_sem, simprocAttr]; with_reducible rfl); refine ⟨?_, ?_, ?_, ?_⟩ <;> (simp only [go_sem, simprocAttr]; with_reducible rfl)), i + 1, fun k => if k = 2 then true else g k, rfl, rfl, by omega, hre, fun k hk => by
                rw [hg' k hk]
                dsimp only
                by_cases e : k = 2
                · subst e; simp
                · rw [if_neg e, decide_eq_false (by omega), Bool.false_or]⟩
          · have hgc := hg 3 (by omega)
            cases hgv : g 3 with
            | true =>
              rw [if_pos (by rw [← hgv]; exact hgc.symm)] at hta
              rw [hta, if_pos (by decide)] at hre
              rw [hre, bad 6 hre (by decide)]
              repeat' (first | (with_reducible first | refine SW_seq ?_ | refine SW_block ?_ | refine SThen_n ?_ | refine SThen_r ?_ | refine SThen_e ?_ | refine SIn_n ?_ | refine SIn_r ?_ | refine SIn_eq ?_ | refine SW_skip ?_ | refine SW_exit ?_ | refine SW_ret ?_ | refine SPost_r ?_) | ((with_reducible refine SIn_ne ?_ ?_); focus decide) | ((with_reducible refine SW_true ?_ ?_); focus exact rfl) | ((with_reducible refine SW_false ?_ ?_); focus exact rfl) | ((first | (with_reducible apply SW_run tt_ok hG htb) | ((with_reducible apply SW_draw rfl tt_ok hG htb); (focus kernel_rfl); (focus (simp only [List.range, List.range.loop, List.size_toArray, List.length_cons, List.length_nil, Nat.reduceAdd])))); focus ((repeat' (first | (with_reducible exact runX_nil) | (with_reducible exact runI_nil) | ((first | (with_reducible apply runX_cons) | (with_reducible apply runI_cons)); focus (simp (discharger := omega) only [go_sem, hx, hgv, simprocAttr]; with_reducible rfl)))); done)))
              exact (by simp (discharger := omega) only [go_sem, tErr, simprocAttr])
            | false =>
              rw [if_neg (by rw [show (to.take i).contains (3 : Int) = false from by rw [← hgv]; exact hgc.symm]; decide)] at hta
              rw [hta, if_neg (by decide)] at hre
              repeat' (first | (with_reducible first | refine SW_seq ?_ | refine SW_block ?_ | refine SThen_n ?_ | refine SThen_r ?_ | refine SThen_e ?_ | refine SIn_n ?_ | refine SIn_r ?_ | refine SIn_eq ?_ | refine SW_skip ?_ | refine SW_exit ?_ | refine SW_ret ?_ | refine SPost_r ?_) | ((with_reducible refine SIn_ne ?_ ?_); focus decide) | ((with_reducible refine SW_true ?_ ?_); focus exact rfl) | ((with_reducible refine SW_false ?_ ?_); focus exact rfl) | ((first | (with_reducible apply SW_run tt_ok hG htb) | ((with_reducible apply SW_draw rfl tt_ok hG htb); (focus kernel_rfl); (focus (simp only [List.range, List.range.loop, List.size_toArray, List.length_cons, List.length_nil, Nat.reduceAdd])))); focus ((repeat' (first | (with_reducible exact runX_nil) | (with_reducible exact runI_nil) | ((first | (with_reducible apply runX_cons) | (with_reducible apply runI_cons)); focus (simp (discharger := omega) only [go_sem, hx, hgv, simprocAttr]; with_reducible rfl)))); done)))
              exact ⟨5 - (i + 1), _, by omega, Norm.headS (own := []) (keep := [0, 1, 8, 31, 32, 33]) (by refine ⟨?_, ?_⟩; (simp (discharger := omega) only [go_sem, simprocAttr]; with_reducible rfl); refine ⟨?_, ?_, ?_, ?_⟩ <;> (simp only [go_sem, simprocAttr]; with_reducible rfl)), i + 1, fun k => if k = 3 then true else g k, rfl, rfl, by omega, hre, fun k hk => by
                rw [hg' k hk]
                dsimp only
                by_cases e : k = 3
                · subst e; simp
                · rw [if_neg e, decide_eq_false (by omega), Bool.false_or]⟩
          · have hgc := hg 4 (by omega)
            cases hgv : g 4 with
            | true =>
              rw [if_pos (by rw [← hgv]; exact hgc.symm)] at hta
              rw [hta, if_pos (by decide)] at hre
              rw [hre, bad 6 hre (by decide)]
              repeat' (first | (with_reducible first | refine SW_seq ?_ | refine SW_block ?_ | refine SThen_n ?_ | refine SThen_r ?_ | refine SThen_e ?_ | refine SIn_n ?_ | refine SIn_r ?_ | refine SIn_eq ?_ | refine SW_skip ?_ | refine SW_exit ?_ | refine SW_ret ?_ | refine SPost_r ?_) | ((with_reducible refine SIn_ne ?_ ?_); focus decide) | ((with_reducible refine SW_true ?_ ?_); focus exact rfl) | ((with_reducible refine SW_false ?_ ?_); focus exact rfl) | ((first | (with_reducible apply SW_run tt_ok hG htb) | ((with_reducible apply SW_draw rfl tt_ok hG htb); (focus kernel_rfl); (focus (simp only [List.range, List.range.loop, List.size_toArray, List.length_cons, List.length_nil, Nat.reduceAdd])))); focus ((repeat' (first | (with_reducible exact runX_nil) | (with_reducible exact runI_nil) | ((first | (with_reducible apply runX_cons) | (with_reducible apply runI_cons)); focus (simp (discharger := omega) only [go_sem, hx, hgv, simprocAttr]; with_reducible rfl)))); done)))
              exact (by simp (discharger := omega) only [go_sem, tErr, simprocAttr])
            | false =>
              rw [if_neg (by rw [show (to.take i).contains (4 : Int) = false from by rw [← hgv]; exact hgc.symm]; decide)] at hta
              rw [hta, if_neg (by decide)] at hre
              repeat' (first | (with_reducible first | refine SW_seq ?_ | refine SW_block ?_ | refine SThen_n ?_ | refine SThen_r ?_ | refine SThen_e ?_ | refine SIn_n ?_ | refine SIn_r ?_ | refine SIn_eq ?_ | refine SW_skip ?_ | refine SW_exit ?_ | refine SW_ret ?_ | refine SPost_r ?_) | ((with_reducible refine SIn_ne ?_ ?_); focus decide) | ((with_reducible refine SW_true ?_ ?_); focus exact rfl) | ((with_reducible refine SW_false ?_ ?_); focus exact rfl) | ((first | (with_reducible apply SW_run tt_ok hG htb) | ((with_reducible apply SW_draw rfl tt_ok hG htb); (focus kernel_rfl); (focus (simp only [List.range, List.range.loop, List.size_toArray, List.length_cons, List.length_nil, Nat.reduceAdd])))); focus ((repeat' (first | (with_reducible exact runX_nil) | (with_reducible exact runI_nil) | ((first | (with_reducible apply runX_cons) | (with_reducible apply runI_cons)); focus (simp (discharger := omega) only [go_sem, hx, hgv, simprocAttr]; with_reducible rfl)))); done)))
              exact ⟨5 - (i + 1), _, by omega, Norm.headS (own := []) (keep := [0, 1, 8, 31, 32, 33]) (by refine ⟨?_, ?_⟩; (simp (discharger := omega) only [go_sem, simprocAttr]; with_reducible rfl); refine ⟨?_, ?_, ?_, ?_⟩ <;> (simp only [go_sem, simprocAttr]; with_reducible rfl)), i + 1, fun k => if k = 4 then true else g k, rfl, rfl, by omega, hre, fun k hk => by
                rw [hg' k hk]
                dsimp only
                by_cases e : k = 4
                · subst e; simp
                · rw [if_neg e, decide_eq_false (by omega), Bool.false_or]⟩
      · obtain rfl : i = 5 := by omega
        have hre : renErr f to = 0 := hre
        have hto : ToOk to := to_ok h5 (by unfold renErr at hre; rw [if_neg (by omega), if_neg (by omega)] at hre; exact hre)
        have hrf : tForm (renF f to) = .list ((f.map (renN to)).map tNode) := by unfold renF; rw [if_pos hre]; rfl
        rw [hre, hrf]
        clear bad hrf hre hg hlt hi
        have htb : Tab.ok Try.prog G [] := Tab.nil
        repeat' (first | (with_reducible first | refine SW_seq ?_ | refine SW_block ?_ | refine SThen_n ?_ | refine SThen_r ?_ | refine SThen_e ?_ | refine SIn_n ?_ | refine SIn_r ?_ | refine SIn_eq ?_ | refine SW_skip ?_ | refine SW_exit ?_ | refine SW_ret ?_ | refine SPost_r ?_) | ((with_reducible refine SIn_ne ?_ ?_); focus decide) | ((with_reducible refine SW_true ?_ ?_); focus exact rfl) | ((with_reducible refine SW_false ?_ ?_); focus exact rfl) | ((first | (with_reducible apply SW_run tt_ok hG htb) | ((with_reducible apply SW_draw rfl tt_ok hG htb); (focus kernel_rfl); (focus (simp only [List.range, List.range.loop, List.size_toArray, List.length_cons, List.length_nil, Nat.reduceAdd])))); focus ((repeat' (first | (with_reducible exact runX_nil) | (with_reducible exact runI_nil) | ((first | (with_reducible apply runX_cons) | (with_reducible apply runI_cons)); focus (simp (discharger := omega) only [go_sem, tForm, simprocAttr]; with_reducible rfl)))); done)))
        refine SW_loop (fun mm s => ∃ (i : Nat) (rt : List T), mm = f.length - i ∧ s = ⟨135, [(1, .t (tInts to)), (11, .sref 0), (51, .t (tForm f)), (52, .t (tInt f.length)), (53, .t (tNat i))], [.row 67 7 true rt]⟩ ∧ i ≤ f.length ∧ rt = ((f.take i).map (renN to)).map tNode ++ List.replicate (f.length - i) tZN) f.length
          ⟨_, Norm.headS (own := [(11, 67, 7, true)]) (keep := [1, 11, 51, 52, 53]) (by refine ⟨?_, ?_⟩; (simp (discharger := omega) only [go_sem, simprocAttr]; with_reducible rfl); refine ⟨?_, ?_, ?_, ?_⟩ <;> (simp only [go_sem, simprocAttr]; with_reducible rfl)), 0, _, rfl, rfl, Nat.zero_le _, by simp [tZN]⟩ ?_
        rintro mm s ⟨i, rt, rfl, rfl, hi, hrt⟩
        have hrl : rt.length = f.length := by rw [hrt]; simp; omega
        by_cases hlt : i < f.length
        · obtain ⟨n, hn⟩ : ∃ n, f[i]! = n := ⟨_, rfl⟩
          have hnm := bang_mem hn hlt
          have hnk := hne n hnm
          have htk := take_next hn hlt
          obtain ⟨hv1, hv2, hv3, hv4⟩ := node_var hnk
          have hc5 := node_coefs hnk
          obtain ⟨ho1, ho9, _, _⟩ := node_ok hnk
          have hnext : ∀ y, y = tNode (renN to n) → rt.set i y = ((f.take (i + 1)).map (renN to)).map tNode ++ List.replicate (f.length - (i + 1)) tZN := fun y hy => by
            rw [hrt, set_next (by simp; omega) (by omega), htk, hy, show f.length - i - 1 = f.length - (i + 1) by omega]
            simp
          clear hnk hnm hrt htk
          obtain ⟨op, var, other, word, word2, num, coefs⟩ := n
          simp only at hv1 hv2 hv3 hv4 hc5 ho1 ho9
          obtain ⟨nv, hnv⟩ : ∃ x, (if op = 3 ∨ op = 4 ∨ op = 8 ∨ op = 9 then to.getD var.toNat 0 else 0) = x := ⟨_, rfl⟩
          obtain ⟨nu, hnu⟩ : ∃ x, (if op = 4 then to.getD other.toNat 0 else 0) = x := ⟨_, rfl⟩
          have hren : renN to ⟨op, var, other, word, word2, num, coefs⟩ = ⟨op, nv, nu, word, word2, num, renC coefs to⟩ := by unfold renN; rw [← hnv, ← hnu]
          rw [hren] at hnext
          clear hren
          repeat' (first | (with_reducible first | refine SW_seq ?_ | refine SW_block ?_ | refine SThen_n ?_ | refine SThen_r ?_ | refine SThen_e ?_ | refine SIn_n ?_ | refine SIn_r ?_ | refine SIn_eq ?_ | refine SW_skip ?_ | refine SW_exit ?_ | refine SW_ret ?_ | refine SPost_r ?_) | ((with_reducible refine SIn_ne ?_ ?_); focus decide) | ((with_reducible refine SW_true ?_ ?_); focus exact rfl) | ((with_reducible refine SW_false ?_ ?_); focus exact rfl) | ((first | (with_reducible apply SW_run tt_ok hG htb) | ((with_reducible apply SW_draw rfl tt_ok hG htb); (focus kernel_rfl); (focus (simp only [List.range, List.range.loop, List.size_toArray, List.length_cons, List.length_nil, Nat.reduceAdd])))); focus ((repeat' (first | (with_reducible exact runX_nil) | (with_reducible exact runI_nil) | ((first | (with_reducible apply runX_cons) | (with_reducible apply runI_cons)); focus (simp (discharger := omega) only [go_sem, tForm, hn, tNode, simprocAttr]; with_reducible rfl)))); done)))
          refine SW_meet2 ⟨135, [(1, .t (tInts to)), (11, .sref 0), (12, .t (tNat i)), (13, .bptr 1 0), (14, .bptr 2 0), (51, .t (tForm f)), (52, .t (tInt f.length)), (53, .t (tNat i))], [.row 67 7 true rt, .box [.t (tInt op), .t (tInt var), .t (tInt other), .t (tInt word), .t (tInt word2), .t (tInt num), .t (tInts coefs)], .box [.t (tInt op), .t (tInt nv), .t (tInt other), .t (tInt word), .t (tInt word2), .t (tInt num), .nil]]⟩ Weak.sw ?_ ?_
          · clear hnext hnu hv2 hv4
            by_cases hq : op = 3 ∨ op = 4 ∨ op = 8 ∨ op = 9
            · rw [if_pos hq] at hnv
              obtain ⟨vn, rfl⟩ := Int.eq_ofNat_of_zero_le (hv1 hq).1
              have hvn : vn < 5 := by have := (hv1 hq).2; omega
              have htv : to[vn]! = nv := by rw [getElem!_pos to vn (by omega), ← hnv, Int.toNat_natCast, getD_lt (by omega)]
              clear hv1 hv3 hnv
              rcases hq with rfl | rfl | rfl | rfl
              · repeat' (first | (with_reducible first | refine SW_seq ?_ | refine SW_block ?_ | refine SThen_n ?_ | refine SThen_r ?_ | refine SThen_e ?_ | refine SIn_n ?_ | refine SIn_r ?_ | refine SIn_eq ?_ | refine SW_skip ?_ | refine SW_exit ?_ | refine SW_ret ?_ | refine SPost_r ?_) | ((with_reducible refine SIn_ne ?_ ?_); focus decide) | ((with_reducible refine SW_true ?_ ?_); focus exact rfl) | ((with_reducible refine SW_false ?_ ?_); focus exact rfl) | ((first | (with_reducible apply SW_run tt_ok hG htb) | ((with_reducible apply SW_draw rfl tt_ok hG htb); (focus kernel_rfl); (focus (simp only [List.range, List.range.loop, List.size_toArray, List.length_cons, List.length_nil, Nat.reduceAdd])))); focus ((repeat' (first | (with_reducible exact runX_nil) | (with_reducible exact runI_nil) | ((first | (with_reducible apply runX_cons) | (with_reducible apply runI_cons)); focus (simp (discharger := omega) only [go_sem, tForm, htv, simprocAttr]; with_reducible rfl)))); done)))
                exact Meet.h ⟨_, Norm.headS (own := [(11, 67, 7, true)]) (keep := [1, 11, 12, 13, 14, 51, 52, 53]) (by refine ⟨?_, ?_⟩; (simp (discharger := omega) only [go_sem, simprocAttr]; with_reducible rfl); refine ⟨?_, ?_, ?_, ?_⟩ <;> (simp only [go_sem, simprocAttr]; with_reducible rfl)), rfl⟩
              · repeat' (first | (with_reducible first | refine SW_seq ?_ | refine SW_block ?_ | refine SThen_n ?_ | refine SThen_r ?_ | refine SThen_e ?_ | refine SIn_n ?_ | refine SIn_r ?_ | refine SIn_eq ?_ | refine SW_skip ?_ | refine SW_exit ?_ | refine SW_ret ?_ | refine SPost_r ?_) | ((with_reducible refine SIn_ne ?_ ?_); focus decide) | ((with_reducible refine SW_true ?_ ?_); focus exact rfl) | ((with_reducible refine SW_false ?_ ?_); focus exact rfl) | ((first | (with_reducible apply SW_run tt_ok hG htb) | ((with_reducible apply SW_draw rfl tt_ok hG htb); (focus kernel_rfl); (focus (simp only [List.range, List.range.loop, List.size_toArray, List.length_cons, List.length_nil, Nat.reduceAdd])))); focus ((repeat' (first | (with_reducible exact runX_nil) | (with_reducible exact runI_nil) | ((first | (with_reducible apply runX_cons) | (with_reducible apply runI_cons)); focus (simp (discharger := omega) only [go_sem, tForm, htv, simprocAttr]; with_reducible rfl)))); done)))
                exact Meet.h ⟨_, Norm.headS (own := [(11, 67, 7, true)]) (keep := [1, 11, 12, 13, 14, 51, 52, 53]) (by refine ⟨?_, ?_⟩; (simp (discharger := omega) only [go_sem, simprocAttr]; with_reducible rfl); refine ⟨?_, ?_, ?_, ?_⟩ <;> (simp only [go_sem, simprocAttr]; with_reducible rfl)), rfl⟩
              · repeat' (first | (with_reducible first | refine SW_seq ?_ | refine SW_block ?_ | refine SThen_n ?_ | refine SThen_r ?_ | refine SThen_e ?_ | refine SIn_n ?_ | refine SIn_r ?_ | refine SIn_eq ?_ | refine SW_skip ?_ | refine SW_exit ?_ | refine SW_ret ?_ | refine SPost_r ?_) | ((with_reducible refine SIn_ne ?_ ?_); focus decide) | ((with_reducible refine SW_true ?_ ?_); focus exact rfl) | ((with_reducible refine SW_false ?_ ?_); focus exact rfl) | ((first | (with_reducible apply SW_run tt_ok hG htb) | ((with_reducible apply SW_draw rfl tt_ok hG htb); (focus kernel_rfl); (focus (simp only [List.range, List.range.loop, List.size_toArray, List.length_cons, List.length_nil, Nat.reduceAdd])))); focus ((repeat' (first | (with_reducible exact runX_nil) | (with_reducible exact runI_nil) | ((first | (with_reducible apply runX_cons) | (with_reducible apply runI_cons)); focus (simp (discharger := omega) only [go_sem, tForm, htv, simprocAttr]; with_reducible rfl)))); done)))
                exact Meet.h ⟨_, Norm.headS (own := [(11, 67, 7, true)]) (keep := [1, 11, 12, 13, 14, 51, 52, 53]) (by refine ⟨?_, ?_⟩; (simp (discharger := omega) only [go_sem, simprocAttr]; with_reducible rfl); refine ⟨?_, ?_, ?_, ?_⟩ <;> (simp only [go_sem, simprocAttr]; with_reducible rfl)), rfl⟩
              · repeat' (first | (with_reducible first | refine SW_seq ?_ | refine SW_block ?_ | refine SThen_n ?_ | refine SThen_r ?_ | refine SThen_e ?_ | refine SIn_n ?_ | refine SIn_r ?_ | refine SIn_eq ?_ | refine SW_skip ?_ | refine SW_exit ?_ | refine SW_ret ?_ | refine SPost_r ?_) | ((with_reducible refine SIn_ne ?_ ?_); focus decide) | ((with_reducible refine SW_true ?_ ?_); focus exact rfl) | ((with_reducible refine SW_false ?_ ?_); focus exact rfl) | ((first | (with_reducible apply SW_run tt_ok hG htb) | ((with_reducible apply SW_draw rfl tt_ok hG htb); (focus kernel_rfl); (focus (simp only [List.range, List.range.loop, List.size_toArray, List.length_cons, List.length_nil, Nat.reduceAdd])))); focus ((repeat' (first | (with_reducible exact runX_nil) | (with_reducible exact runI_nil) | ((first | (with_reducible apply runX_cons) | (with_reducible apply runI_cons)); focus (simp (discharger := omega) only [go_sem, tForm, htv, simprocAttr]; with_reducible rfl)))); done)))
                exact Meet.h ⟨_, Norm.headS (own := [(11, 67, 7, true)]) (keep := [1, 11, 12, 13, 14, 51, 52, 53]) (by refine ⟨?_, ?_⟩; (simp (discharger := omega) only [go_sem, simprocAttr]; with_reducible rfl); refine ⟨?_, ?_, ?_, ?_⟩ <;> (simp only [go_sem, simprocAttr]; with_reducible rfl)), rfl⟩
            · rw [if_neg hq] at hnv
              obtain rfl : var = 0 := hv3 hq
              subst hnv
              have n3 : ¬ op = 3 := by omega
              have n4 : ¬ op = 4 := by omega
              have n8 : ¬ op = 8 := by omega
              have n9 : ¬ op = 9 := by omega
              clear hv1 hv3
              repeat' (first | (with_reducible first | refine SW_seq ?_ | refine SW_block ?_ | refine SThen_n ?_ | refine SThen_r ?_ | refine SThen_e ?_ | refine SIn_n ?_ | refine SIn_r ?_ | refine SIn_eq ?_ | refine SW_skip ?_ | refine SW_exit ?_ | refine SW_ret ?_ | refine SPost_r ?_) | ((with_reducible refine SIn_ne ?_ ?_); focus decide) | ((with_reducible refine SW_true ?_ ?_); focus exact rfl) | ((with_reducible refine SW_false ?_ ?_); focus exact rfl) | ((first | (with_reducible apply SW_run tt_ok hG htb) | ((with_reducible apply SW_draw rfl tt_ok hG htb); (focus kernel_rfl); (focus (simp only [List.range, List.range.loop, List.size_toArray, List.length_cons, List.length_nil, Nat.reduceAdd])))); focus ((repeat' (first | (with_reducible exact runX_nil) | (with_reducible exact runI_nil) | ((first | (with_reducible apply runX_cons) | (with_reducible apply runI_cons)); focus (simp (discharger := omega) only [go_sem, tForm, n3, n4, n8, n9, simprocAttr]; with_reducible rfl)))); done)))
              exact Meet.h ⟨_, Norm.headS (own := [(11, 67, 7, true)]) (keep := [1, 11, 12, 13, 14, 51, 52, 53]) (by refine ⟨?_, ?_⟩; (simp (discharger := omega) only [go_sem, simprocAttr]; with_reducible rfl); refine ⟨?_, ?_, ?_, ?_⟩ <;> (simp only [go_sem, simprocAttr]; with_reducible rfl)), rfl⟩
          · clear hv1 hv3 hnv
            repeat' (first | (with_reducible first | refine SW_seq ?_ | refine SW_block ?_ | refine SThen_n ?_ | refine SThen_r ?_ | refine SThen_e ?_ | refine SIn_n ?_ | refine SIn_r ?_ | refine SIn_eq ?_ | refine SW_skip ?_ | refine SW_exit ?_ | refine SW_ret ?_ | refine SPost_r ?_) | ((with_reducible refine SIn_ne ?_ ?_); focus decide) | ((with_reducible refine SW_true ?_ ?_); focus exact rfl) | ((with_reducible refine SW_false ?_ ?_); focus exact rfl) | ((first | (with_reducible apply SW_run tt_ok hG htb) | ((with_reducible apply SW_draw rfl tt_ok hG htb); (focus kernel_rfl); (focus (simp only [List.range, List.range.loop, List.size_toArray, List.length_cons, List.length_nil, Nat.reduceAdd])))); focus ((repeat' (first | (with_reducible exact runX_nil) | (with_reducible exact runI_nil) | ((first | (with_reducible apply runX_cons) | (with_reducible apply runI_cons)); focus (simp (discharger := omega) only [go_sem, simprocAttr]; with_reducible rfl)))); done)))
            refine SW_meetG ⟨135, [(1, .t (tInts to)), (11, .sref 0), (12, .t (tNat i)), (13, .bptr 1 0), (14, .bptr 2 0), (51, .t (tForm f)), (52, .t (tInt f.length)), (53, .t (tNat i))], [.row 67 7 true rt, .box [.t (tInt op), .t (tInt var), .t (tInt other), .t (tInt word), .t (tInt word2), .t (tInt num), .t (tInts coefs)], .box [.t (tInt op), .t (tInt nv), .t (tInt nu), .t (tInt word), .t (tInt word2), .t (tInt num), .nil]]⟩ Weak.sw (SW_if rfl (fun hq => ?_) (fun hq => ?_)) ?_
            · rw [if_pos hq] at hnu
              obtain ⟨un, rfl⟩ := Int.eq_ofNat_of_zero_le (hv2 hq).1
              have hun : un < 5 := by have := (hv2 hq).2; omega
              have htu : to[un]! = nu := by rw [getElem!_pos to un (by omega), ← hnu, Int.toNat_natCast, getD_lt (by omega)]
              clear hv2 hv4 hnu hnext
              repeat' (first | (with_reducible first | refine SW_seq ?_ | refine SW_block ?_ | refine SThen_n ?_ | refine SThen_r ?_ | refine SThen_e ?_ | refine SIn_n ?_ | refine SIn_r ?_ | refine SIn_eq ?_ | refine SW_skip ?_ | refine SW_exit ?_ | refine SW_ret ?_ | refine SPost_r ?_) | ((with_reducible refine SIn_ne ?_ ?_); focus decide) | ((with_reducible refine SW_true ?_ ?_); focus exact rfl) | ((with_reducible refine SW_false ?_ ?_); focus exact rfl) | ((first | (with_reducible apply SW_run tt_ok hG htb) | ((with_reducible apply SW_draw rfl tt_ok hG htb); (focus kernel_rfl); (focus (simp only [List.range, List.range.loop, List.size_toArray, List.length_cons, List.length_nil, Nat.reduceAdd])))); focus ((repeat' (first | (with_reducible exact runX_nil) | (with_reducible exact runI_nil) | ((first | (with_reducible apply runX_cons) | (with_reducible apply runI_cons)); focus (simp (discharger := omega) only [go_sem, tForm, htu, simprocAttr]; with_reducible rfl)))); done)))
              exact Meet.h ⟨_, Norm.headS (own := [(11, 67, 7, true)]) (keep := [1, 11, 12, 13, 14, 51, 52, 53]) (by refine ⟨?_, ?_⟩; (simp (discharger := omega) only [go_sem, simprocAttr]; with_reducible rfl); refine ⟨?_, ?_, ?_, ?_⟩ <;> (simp only [go_sem, simprocAttr]; with_reducible rfl)), rfl⟩
            · rw [if_neg hq] at hnu
              obtain rfl : other = 0 := hv4 hq
              subst hnu
              clear hv2 hv4 hnext
              repeat' (first | (with_reducible first | refine SW_seq ?_ | refine SW_block ?_ | refine SThen_n ?_ | refine SThen_r ?_ | refine SThen_e ?_ | refine SIn_n ?_ | refine SIn_r ?_ | refine SIn_eq ?_ | refine SW_skip ?_ | refine SW_exit ?_ | refine SW_ret ?_ | refine SPost_r ?_) | ((with_reducible refine SIn_ne ?_ ?_); focus decide) | ((with_reducible refine SW_true ?_ ?_); focus exact rfl) | ((with_reducible refine SW_false ?_ ?_); focus exact rfl) | ((first | (with_reducible apply SW_run tt_ok hG htb) | ((with_reducible apply SW_draw rfl tt_ok hG htb); (focus kernel_rfl); (focus (simp only [List.range, List.range.loop, List.size_toArray, List.length_cons, List.length_nil, Nat.reduceAdd])))); focus ((repeat' (first | (with_reducible exact runX_nil) | (with_reducible exact runI_nil) | ((first | (with_reducible apply runX_cons) | (with_reducible apply runI_cons)); focus (simp (discharger := omega) only [go_sem, tForm, simprocAttr]; with_reducible rfl)))); done)))
              exact Meet.h ⟨_, Norm.headS (own := [(11, 67, 7, true)]) (keep := [1, 11, 12, 13, 14, 51, 52, 53]) (by refine ⟨?_, ?_⟩; (simp (discharger := omega) only [go_sem, simprocAttr]; with_reducible rfl); refine ⟨?_, ?_, ?_, ?_⟩ <;> (simp only [go_sem, simprocAttr]; with_reducible rfl)), rfl⟩
            · clear hv2 hv4 hnu
              by_cases hc0 : coefs.length = 0
              · obtain rfl : coefs = [] := List.length_eq_zero_iff.1 hc0
                repeat' (first | (with_reducible first | refine SW_seq ?_ | refine SW_block ?_ | refine SThen_n ?_ | refine SThen_r ?_ | refine SThen_e ?_ | refine SIn_n ?_ | refine SIn_r ?_ | refine SIn_eq ?_ | refine SW_skip ?_ | refine SW_exit ?_ | refine SW_ret ?_ | refine SPost_r ?_) | ((with_reducible refine SIn_ne ?_ ?_); focus decide) | ((with_reducible refine SW_true ?_ ?_); focus exact rfl) | ((with_reducible refine SW_false ?_ ?_); focus exact rfl) | ((first | (with_reducible apply SW_run tt_ok hG htb) | ((with_reducible apply SW_draw rfl tt_ok hG htb); (focus kernel_rfl); (focus (simp only [List.range, List.range.loop, List.size_toArray, List.length_cons, List.length_nil, Nat.reduceAdd])))); focus ((repeat' (first | (with_reducible exact runX_nil) | (with_reducible exact runI_nil) | ((first | (with_reducible apply runX_cons) | (with_reducible apply runI_cons)); focus (simp (discharger := omega) only [go_sem, hc0, simprocAttr]; with_reducible rfl)))); done)))
                exact ⟨f.length - (i + 1), _, by omega, Norm.headS (own := [(11, 67, 7, true)]) (keep := [1, 11, 51, 52, 53]) (by refine ⟨?_, ?_⟩; (simp (discharger := omega) only [go_sem, simprocAttr]; with_reducible rfl); refine ⟨?_, ?_, ?_, ?_⟩ <;> (simp only [go_sem, simprocAttr]; with_reducible rfl)), i + 1, _, rfl, rfl, by omega, hnext _ rfl⟩
              · have hc1 : 0 < coefs.length := by omega
                repeat' (first | (with_reducible first | refine SW_seq ?_ | refine SW_block ?_ | refine SThen_n ?_ | refine SThen_r ?_ | refine SThen_e ?_ | refine SIn_n ?_ | refine SIn_r ?_ | refine SIn_eq ?_ | refine SW_skip ?_ | refine SW_exit ?_ | refine SW_ret ?_ | refine SPost_r ?_) | ((with_reducible refine SIn_ne ?_ ?_); focus decide) | ((with_reducible refine SW_true ?_ ?_); focus exact rfl) | ((with_reducible refine SW_false ?_ ?_); focus exact rfl) | ((first | (with_reducible apply SW_run tt_ok hG htb) | ((with_reducible apply SW_draw rfl tt_ok hG htb); (focus kernel_rfl); (focus (simp only [List.range, List.range.loop, List.size_toArray, List.length_cons, List.length_nil, Nat.reduceAdd])))); focus ((repeat' (first | (with_reducible exact runX_nil) | (with_reducible exact runI_nil) | ((first | (with_reducible apply runX_cons) | (with_reducible apply runI_cons)); focus (simp (discharger := omega) only [go_sem, hc1, simprocAttr]; with_reducible rfl)))); done)))
                refine SW_loop (fun mm s => ∃ (m : Nat) (r : Nat → Int), mm = coefs.length - m ∧ s = ⟨135, [(1, .t (tInts to)), (11, .sref 0), (12, .t (tNat i)), (13, .bptr 1 0), (14, .bptr 2 0), (15, .bptr 3 0), (51, .t (tForm f)), (52, .t (tInt f.length)), (53, .t (tNat i)), (98, .t (tInts coefs)), (99, .t (tInt coefs.length)), (100, .t (tNat m))], [.row 67 7 true rt, .box [.t (tInt op), .t (tInt var), .t (tInt other), .t (tInt word), .t (tInt word2), .t (tInt num), .t (tInts coefs)], .box [.t (tInt op), .t (tInt nv), .t (tInt nu), .t (tInt word), .t (tInt word2), .t (tInt num), .nil], .box [.t (tInt (r 0)), .t (tInt (r 1)), .t (tInt (r 2)), .t (tInt (r 3)), .t (tInt (r 4))]]⟩ ∧ m ≤ coefs.length ∧ ∀ k : Nat, k < 5 → r k = (rowP coefs to m).getD k 0) coefs.length
                  ⟨_, Norm.headS (own := [(11, 67, 7, true)]) (keep := [1, 11, 12, 13, 14, 15, 51, 52, 53, 98, 99, 100]) (by refine ⟨?_, ?_⟩; (simp (discharger := omega) only [go_sem, simprocAttr]; with_reducible rfl); refine ⟨?_, ?_, ?_, ?_⟩ <;> (simp only [go_sem, simprocAttr]; with_reducible rfl)), 0, fun _ => 0, rfl, rfl, Nat.zero_le _, fun k hk => by
                    have : k = 0 ∨ k = 1 ∨ k = 2 ∨ k = 3 ∨ k = 4 := by omega
                    rcases this with rfl | rfl | rfl | rfl | rfl <;> rfl⟩ ?_
                rintro mm s ⟨m, r, rfl, rfl, hm, hr⟩
                by_cases hmlt : m < coefs.length
                · obtain ⟨c, hc⟩ : ∃ c, coefs[m]! = c := ⟨_, rfl⟩
                  obtain ⟨t, ht⟩ : ∃ t, to[m]! = t := ⟨_, rfl⟩
                  have htD : to.getD m 0 = t := bang_D ht (by omega)
                  have hcD : coefs.getD m 0 = c := bang_D hc hmlt
                  have htb5 := hto.rg m (by omega)
                  rw [htD] at htb5
                  have hrl5 := (row_inv (coefs := coefs) hto m (by omega)).len
                  have hr' : ∀ k : Nat, k < 5 → (rowP coefs to (m + 1)).getD k 0 = if t.toNat = k then c else r k := fun k hk => by
                    rw [rowP, htD, hcD, set_getD (by omega), hr k hk]
                  have ht5 : t = 0 ∨ t = 1 ∨ t = 2 ∨ t = 3 ∨ t = 4 := by omega
                  rcases ht5 with rfl | rfl | rfl | rfl | rfl
                  · repeat' (first | (with_reducible first | refine SW_seq ?_ | refine SW_block ?_ | refine SThen_n ?_ | refine SThen_r ?_ | refine SThen_e ?_ | refine SIn_n ?_ | refine SIn_r ?_ | refine SIn_eq ?_ | refine SW_skip ?_ | refine SW_exit ?_ | refine SW_ret ?_ | refine SPost_r ?_) | ((with_reducible refine SIn_ne ?_ ?_); focus decide) | ((with_reducible refine SW_true ?_ ?_); focus exact rfl) | ((with_reducible refine SW_false ?_ ?_); focus exact rfl) | ((first | (with_reducible apply SW_run tt_ok hG htb) | ((with_reducible apply SW_draw rfl tt_ok hG htb); (focus kernel_rfl); (focus (simp only [List.range, List.range.loop, List.size_toArray, List.length_cons, List.length_nil, Nat.reduceAdd])))); focus ((repeat' (first | (with_reducible exact runX_nil) | (with_reducible exact runI_nil) | ((first | (with_reducible apply runX_cons) | (with_reducible apply runI_cons)); focus (simp (discharger := omega) only [go_sem, ht, hc, simprocAttr]; with_reducible rfl)))); done)))
                    exact ⟨coefs.length - (m + 1), _, by omega, Norm.headS (own := [(11, 67, 7, true)]) (keep := [1, 11, 12, 13, 14, 15, 51, 52, 53, 98, 99, 100]) (by refine ⟨?_, ?_⟩; (simp (discharger := omega) only [go_sem, simprocAttr]; with_reducible rfl); refine ⟨?_, ?_, ?_, ?_⟩ <;> (simp only [go_sem, simprocAttr]; with_reducible rfl)), m + 1, fun k => if k = 0 then c else r k, rfl, rfl, by omega, fun k hk => by
                      rw [hr' k hk]
                      dsimp only
                      by_cases e : k = 0
                      · subst e; rfl
                      · rw [if_neg e, if_neg (by omega)]⟩
                  · repeat' (first | (with_reducible first | refine SW_seq ?_ | refine SW_block ?_ | refine SThen_n ?_ | refine SThen_r ?_ | refine SThen_e ?_ | refine SIn_n ?_ | refine SIn_r ?_ | refine SIn_eq ?_ | refine SW_skip ?_ | refine SW_exit ?_ | refine SW_ret ?_ | refine SPost_r ?_) | ((with_reducible refine SIn_ne ?_ ?_); focus decide) | ((with_reducible refine SW_true ?_ ?_); focus exact rfl) | ((with_reducible refine SW_false ?_ ?_); focus exact rfl) | ((first | (with_reducible apply SW_run tt_ok hG htb) | ((with_reducible apply SW_draw rfl tt_ok hG htb); (focus kernel_rfl); (focus (simp only [List.range, List.range.loop, List.size_toArray, List.length_cons, List.length_nil, Nat.reduceAdd])))); focus ((repeat' (first | (with_reducible exact runX_nil) | (with_reducible exact runI_nil) | ((first | (with_reducible apply runX_cons) | (with_reducible apply runI_cons)); focus (simp (discharger := omega) only [go_sem, ht, hc, simprocAttr]; with_reducible rfl)))); done)))
                    exact ⟨coefs.length - (m + 1), _, by omega, Norm.headS (own := [(11, 67, 7, true)]) (keep := [1, 11, 12, 13, 14, 15, 51, 52, 53, 98, 99, 100]) (by refine ⟨?_, ?_⟩; (simp (discharger := omega) only [go_sem, simprocAttr]; with_reducible rfl); refine ⟨?_, ?_, ?_, ?_⟩ <;> (simp only [go_sem, simprocAttr]; with_reducible rfl)), m + 1, fun k => if k = 1 then c else r k, rfl, rfl, by omega, fun k hk => by
                      rw [hr' k hk]
                      dsimp only
                      by_cases e : k = 1
                      · subst e; rfl
                      · rw [if_neg e, if_neg (by omega)]⟩
                  · repeat' (first | (with_reducible first | refine SW_seq ?_ | refine SW_block ?_ | refine SThen_n ?_ | refine SThen_r ?_ | refine SThen_e ?_ | refine SIn_n ?_ | refine SIn_r ?_ | refine SIn_eq ?_ | refine SW_skip ?_ | refine SW_exit ?_ | refine SW_ret ?_ | refine SPost_r ?_) | ((with_reducible refine SIn_ne ?_ ?_); focus decide) | ((with_reducible refine SW_true ?_ ?_); focus exact rfl) | ((with_reducible refine SW_false ?_ ?_); focus exact rfl) | ((first | (with_reducible apply SW_run tt_ok hG htb) | ((with_reducible apply SW_draw rfl tt_ok hG htb); (focus kernel_rfl); (focus (simp only [List.range, List.range.loop, List.size_toArray, List.length_cons, List.length_nil, Nat.reduceAdd])))); focus ((repeat' (first | (with_reducible exact runX_nil) | (with_reducible exact runI_nil) | ((first | (with_reducible apply runX_cons) | (with_reducible apply runI_cons)); focus (simp (discharger := omega) only [go_sem, ht, hc, simprocAttr]; with_reducible rfl)))); done)))
                    exact ⟨coefs.length - (m + 1), _, by omega, Norm.headS (own := [(11, 67, 7, true)]) (keep := [1, 11, 12, 13, 14, 15, 51, 52, 53, 98, 99, 100]) (by refine ⟨?_, ?_⟩; (simp (discharger := omega) only [go_sem, simprocAttr]; with_reducible rfl); refine ⟨?_, ?_, ?_, ?_⟩ <;> (simp only [go_sem, simprocAttr]; with_reducible rfl)), m + 1, fun k => if k = 2 then c else r k, rfl, rfl, by omega, fun k hk => by
                      rw [hr' k hk]
                      dsimp only
                      by_cases e : k = 2
                      · subst e; rfl
                      · rw [if_neg e, if_neg (by omega)]⟩
                  · repeat' (first | (with_reducible first | refine SW_seq ?_ | refine SW_block ?_ | refine SThen_n ?_ | refine SThen_r ?_ | refine SThen_e ?_ | refine SIn_n ?_ | refine SIn_r ?_ | refine SIn_eq ?_ | refine SW_skip ?_ | refine SW_exit ?_ | refine SW_ret ?_ | refine SPost_r ?_) | ((with_reducible refine SIn_ne ?_ ?_); focus decide) | ((with_reducible refine SW_true ?_ ?_); focus exact rfl) | ((with_reducible refine SW_false ?_ ?_); focus exact rfl) | ((first | (with_reducible apply SW_run tt_ok hG htb) | ((with_reducible apply SW_draw rfl tt_ok hG htb); (focus kernel_rfl); (focus (simp only [List.range, List.range.loop, List.size_toArray, List.length_cons, List.length_nil, Nat.reduceAdd])))); focus ((repeat' (first | (with_reducible exact runX_nil) | (with_reducible exact runI_nil) | ((first | (with_reducible apply runX_cons) | (with_reducible apply runI_cons)); focus (simp (discharger := omega) only [go_sem, ht, hc, simprocAttr]; with_reducible rfl)))); done)))
                    exact ⟨coefs.length - (m + 1), _, by omega, Norm.headS (own := [(11, 67, 7, true)]) (keep := [1, 11, 12, 13, 14, 15, 51, 52, 53, 98, 99, 100]) (by refine ⟨?_, ?_⟩; (simp (discharger := omega) only [go_sem, simprocAttr]; with_reducible rfl); refine ⟨?_, ?_, ?_, ?_⟩ <;> (simp only [go_sem, simprocAttr]; with_reducible rfl)), m + 1, fun k => if k = 3 then c else r k, rfl, rfl, by omega, fun k hk => by
                      rw [hr' k hk]
                      dsimp only
                      by_cases e : k = 3
                      · subst e; rfl
                      · rw [if_neg e, if_neg (by omega)]⟩
                  · repeat' (first | (with_reducible first | refine SW_seq ?_ | refine SW_block ?_ | refine SThen_n ?_ | refine SThen_r ?_ | refine SThen_e ?_ | refine SIn_n ?_ | refine SIn_r ?_ | refine SIn_eq ?_ | refine SW_skip ?_ | refine SW_exit ?_ | refine SW_ret ?_ | refine SPost_r ?_) | ((with_reducible refine SIn_ne ?_ ?_); focus decide) | ((with_reducible refine SW_true ?_ ?_); focus exact rfl) | ((with_reducible refine SW_false ?_ ?_); focus exact rfl) | ((first | (with_reducible apply SW_run tt_ok hG htb) | ((with_reducible apply SW_draw rfl tt_ok hG htb); (focus kernel_rfl); (focus (simp only [List.range, List.range.loop, List.size_toArray, List.length_cons, List.length_nil, Nat.reduceAdd])))); focus ((repeat' (first | (with_reducible exact runX_nil) | (with_reducible exact runI_nil) | ((first | (with_reducible apply runX_cons) | (with_reducible apply runI_cons)); focus (simp (discharger := omega) only [go_sem, ht, hc, simprocAttr]; with_reducible rfl)))); done)))
                    exact ⟨coefs.length - (m + 1), _, by omega, Norm.headS (own := [(11, 67, 7, true)]) (keep := [1, 11, 12, 13, 14, 15, 51, 52, 53, 98, 99, 100]) (by refine ⟨?_, ?_⟩; (simp (discharger := omega) only [go_sem, simprocAttr]; with_reducible rfl); refine ⟨?_, ?_, ?_, ?_⟩ <;> (simp only [go_sem, simprocAttr]; with_reducible rfl)), m + 1, fun k => if k = 4 then c else r k, rfl, rfl, by omega, fun k hk => by
                      rw [hr' k hk]
                      dsimp only
                      by_cases e : k = 4
                      · subst e; rfl
                      · rw [if_neg e, if_neg (by omega)]⟩
                · obtain rfl : m = coefs.length := by omega
                  have htr := trim_last hto hc5
                  have hrl5 := (row_inv (coefs := coefs) hto coefs.length hc5).len
                  have hR : rowP coefs to coefs.length = [r 0, r 1, r 2, r 3, r 4] := by
                    rw [list_five hrl5, ← hr 0 (by omega), ← hr 1 (by omega), ← hr 2 (by omega), ← hr 3 (by omega), ← hr 4 (by omega)]
                  have hrc : ∀ L, trimN [r 0, r 1, r 2, r 3, r 4] 5 = L → renC coefs to = ([r 0, r 1, r 2, r 3, r 4] : List Int).take L := fun L hL => by
                    unfold renC
                    rw [← htr, hR, hL]
                  clear htr hrl5 hR hr hmlt hm
                  repeat' (first | (with_reducible first | refine SW_seq ?_ | refine SW_block ?_ | refine SThen_n ?_ | refine SThen_r ?_ | refine SThen_e ?_ | refine SIn_n ?_ | refine SIn_r ?_ | refine SIn_eq ?_ | refine SW_skip ?_ | refine SW_exit ?_ | refine SW_ret ?_ | refine SPost_r ?_) | ((with_reducible refine SIn_ne ?_ ?_); focus decide) | ((with_reducible refine SW_true ?_ ?_); focus exact rfl) | ((with_reducible refine SW_false ?_ ?_); focus exact rfl) | ((first | (with_reducible apply SW_run tt_ok hG htb) | ((with_reducible apply SW_draw rfl tt_ok hG htb); (focus kernel_rfl); (focus (simp only [List.range, List.range.loop, List.size_toArray, List.length_cons, List.length_nil, Nat.reduceAdd])))); focus ((repeat' (first | (with_reducible exact runX_nil) | (with_reducible exact runI_nil) | ((first | (with_reducible apply runX_cons) | (with_reducible apply runI_cons)); focus (simp (discharger := omega) only [go_sem, simprocAttr]; with_reducible rfl)))); done)))
                  refine SW_loop (fun mm s => ∃ (k : Nat), mm = k ∧ s = ⟨135, [(1, .t (tInts to)), (11, .sref 0), (12, .t (tNat i)), (13, .bptr 1 0), (14, .bptr 2 0), (15, .bptr 3 0), (51, .t (tForm f)), (52, .t (tInt f.length)), (53, .t (tNat i)), (18, .t (tNat k))], [.row 67 7 true rt, .box [.t (tInt op), .t (tInt var), .t (tInt other), .t (tInt word), .t (tInt word2), .t (tInt num), .t (tInts coefs)], .box [.t (tInt op), .t (tInt nv), .t (tInt nu), .t (tInt word), .t (tInt word2), .t (tInt num), .nil], .box [.t (tInt (r 0)), .t (tInt (r 1)), .t (tInt (r 2)), .t (tInt (r 3)), .t (tInt (r 4))]]⟩ ∧ k ≤ 5 ∧ trimN [r 0, r 1, r 2, r 3, r 4] 5 = trimN [r 0, r 1, r 2, r 3, r 4] k) 5
                    ⟨_, Norm.headS (own := [(11, 67, 7, true)]) (keep := [1, 11, 12, 13, 14, 15, 51, 52, 53, 18]) (by refine ⟨?_, ?_⟩; (simp (discharger := omega) only [go_sem, simprocAttr]; with_reducible rfl); refine ⟨?_, ?_, ?_, ?_⟩ <;> (simp only [go_sem, simprocAttr]; with_reducible rfl)), 5, rfl, rfl, by omega, rfl⟩ ?_
                  rintro mm s ⟨k, rfl, rfl, hk, htk⟩
                  have hkc : mm = 0 ∨ mm = 1 ∨ mm = 2 ∨ mm = 3 ∨ mm = 4 ∨ mm = 5 := by omega
                  rcases hkc with rfl | rfl | rfl | rfl | rfl | rfl
                  · repeat' (first | (with_reducible first | refine SW_seq ?_ | refine SW_block ?_ | refine SThen_n ?_ | refine SThen_r ?_ | refine SThen_e ?_ | refine SIn_n ?_ | refine SIn_r ?_ | refine SIn_eq ?_ | refine SW_skip ?_ | refine SW_exit ?_ | refine SW_ret ?_ | refine SPost_r ?_) | ((with_reducible refine SIn_ne ?_ ?_); focus decide) | ((with_reducible refine SW_true ?_ ?_); focus exact rfl) | ((with_reducible refine SW_false ?_ ?_); focus exact rfl) | ((first | (with_reducible apply SW_run tt_ok hG htb) | ((with_reducible apply SW_draw rfl tt_ok hG htb); (focus kernel_rfl); (focus (simp only [List.range, List.range.loop, List.size_toArray, List.length_cons, List.length_nil, Nat.reduceAdd])))); focus ((repeat' (first | (with_reducible exact runX_nil) | (with_reducible exact runI_nil) | ((first | (with_reducible apply runX_cons) | (with_reducible apply runI_cons)); focus (simp (discharger := omega) only [go_sem, simprocAttr]; with_reducible rfl)))); done)))
                    refine SW_norm (Norm.fixBox 3 rfl rfl) ?_
                    repeat' (first | (with_reducible first | refine SW_seq ?_ | refine SW_block ?_ | refine SThen_n ?_ | refine SThen_r ?_ | refine SThen_e ?_ | refine SIn_n ?_ | refine SIn_r ?_ | refine SIn_eq ?_ | refine SW_skip ?_ | refine SW_exit ?_ | refine SW_ret ?_ | refine SPost_r ?_) | ((with_reducible refine SIn_ne ?_ ?_); focus decide) | ((with_reducible refine SW_true ?_ ?_); focus exact rfl) | ((with_reducible refine SW_false ?_ ?_); focus exact rfl) | ((first | (with_reducible apply SW_run tt_ok hG htb) | ((with_reducible apply SW_draw rfl tt_ok hG htb); (focus kernel_rfl); (focus (simp only [List.range, List.range.loop, List.size_toArray, List.length_cons, List.length_nil, Nat.reduceAdd])))); focus ((repeat' (first | (with_reducible exact runX_nil) | (with_reducible exact runI_nil) | ((first | (with_reducible apply runX_cons) | (with_reducible apply runI_cons)); focus (simp (discharger := omega) only [go_sem, simprocAttr]; with_reducible rfl)))); done)))
                    exact ⟨f.length - (i + 1), _, by omega, Norm.headS (own := [(11, 67, 7, true)]) (keep := [1, 11, 51, 52, 53]) (by refine ⟨?_, ?_⟩; (simp (discharger := omega) only [go_sem, simprocAttr]; with_reducible rfl); refine ⟨?_, ?_, ?_, ?_⟩ <;> (simp only [go_sem, simprocAttr]; with_reducible rfl)), i + 1, _, rfl, rfl, by omega, hnext _ (by rw [hrc 0 (by rw [htk]; rfl)]; rfl)⟩
                  · have hk1 : ((1 : Nat) : Int) = 1 := rfl
                    have hs1 : (1 : Int) - 1 = 0 := rfl
                    by_cases hz : r 0 = 0
                    · have hzt := eq_true hz
                      repeat' (first | (with_reducible first | refine SW_seq ?_ | refine SW_block ?_ | refine SThen_n ?_ | refine SThen_r ?_ | refine SThen_e ?_ | refine SIn_n ?_ | refine SIn_r ?_ | refine SIn_eq ?_ | refine SW_skip ?_ | refine SW_exit ?_ | refine SW_ret ?_ | refine SPost_r ?_) | ((with_reducible refine SIn_ne ?_ ?_); focus decide) | ((with_reducible refine SW_true ?_ ?_); focus exact rfl) | ((with_reducible refine SW_false ?_ ?_); focus exact rfl) | ((first | (with_reducible apply SW_run tt_ok hG htb) | ((with_reducible apply SW_draw rfl tt_ok hG htb); (focus kernel_rfl); (focus (simp only [List.range, List.range.loop, List.size_toArray, List.length_cons, List.length_nil, Nat.reduceAdd])))); focus ((repeat' (first | (with_reducible exact runX_nil) | (with_reducible exact runI_nil) | ((first | (with_reducible apply runX_cons) | (with_reducible apply runI_cons)); focus (simp (discharger := omega) only [go_sem, hzt, hk1, hs1, simprocAttr]; with_reducible rfl)))); done)))
                      exact ⟨0, _, by omega, Norm.headS (own := [(11, 67, 7, true)]) (keep := [1, 11, 12, 13, 14, 15, 51, 52, 53, 18]) (by refine ⟨?_, ?_⟩; (simp (discharger := omega) only [go_sem, simprocAttr]; with_reducible rfl); refine ⟨?_, ?_, ?_, ?_⟩ <;> (simp only [go_sem, simprocAttr]; with_reducible rfl)), 0, rfl, rfl, by omega, by rw [htk]; exact if_pos hz⟩
                    · repeat' (first | (with_reducible first | refine SW_seq ?_ | refine SW_block ?_ | refine SThen_n ?_ | refine SThen_r ?_ | refine SThen_e ?_ | refine SIn_n ?_ | refine SIn_r ?_ | refine SIn_eq ?_ | refine SW_skip ?_ | refine SW_exit ?_ | refine SW_ret ?_ | refine SPost_r ?_) | ((with_reducible refine SIn_ne ?_ ?_); focus decide) | ((with_reducible refine SW_true ?_ ?_); focus exact rfl) | ((with_reducible refine SW_false ?_ ?_); focus exact rfl) | ((first | (with_reducible apply SW_run tt_ok hG htb) | ((with_reducible apply SW_draw rfl tt_ok hG htb); (focus kernel_rfl); (focus (simp only [List.range, List.range.loop, List.size_toArray, List.length_cons, List.length_nil, Nat.reduceAdd])))); focus ((repeat' (first | (with_reducible exact runX_nil) | (with_reducible exact runI_nil) | ((first | (with_reducible apply runX_cons) | (with_reducible apply runI_cons)); focus (simp (discharger := omega) only [go_sem, hz, hk1, hs1, simprocAttr]; with_reducible rfl)))); done)))
                      refine SW_norm (Norm.fixBox 3 rfl rfl) ?_
                      repeat' (first | (with_reducible first | refine SW_seq ?_ | refine SW_block ?_ | refine SThen_n ?_ | refine SThen_r ?_ | refine SThen_e ?_ | refine SIn_n ?_ | refine SIn_r ?_ | refine SIn_eq ?_ | refine SW_skip ?_ | refine SW_exit ?_ | refine SW_ret ?_ | refine SPost_r ?_) | ((with_reducible refine SIn_ne ?_ ?_); focus decide) | ((with_reducible refine SW_true ?_ ?_); focus exact rfl) | ((with_reducible refine SW_false ?_ ?_); focus exact rfl) | ((first | (with_reducible apply SW_run tt_ok hG htb) | ((with_reducible apply SW_draw rfl tt_ok hG htb); (focus kernel_rfl); (focus (simp only [List.range, List.range.loop, List.size_toArray, List.length_cons, List.length_nil, Nat.reduceAdd])))); focus ((repeat' (first | (with_reducible exact runX_nil) | (with_reducible exact runI_nil) | ((first | (with_reducible apply runX_cons) | (with_reducible apply runI_cons)); focus (simp (discharger := omega) only [go_sem, simprocAttr]; with_reducible rfl)))); done)))
                      exact ⟨f.length - (i + 1), _, by omega, Norm.headS (own := [(11, 67, 7, true)]) (keep := [1, 11, 51, 52, 53]) (by refine ⟨?_, ?_⟩; (simp (discharger := omega) only [go_sem, simprocAttr]; with_reducible rfl); refine ⟨?_, ?_, ?_, ?_⟩ <;> (simp only [go_sem, simprocAttr]; with_reducible rfl)), i + 1, _, rfl, rfl, by omega, hnext _ (by rw [hrc 1 (by rw [htk]; exact if_neg hz)]; rfl)⟩
                  · have hk1 : ((2 : Nat) : Int) = 2 := rfl
                    have hs1 : (2 : Int) - 1 = 1 := rfl
                    by_cases hz : r 1 = 0
                    · have hzt := eq_true hz
                      repeat' (first | (with_reducible first | refine SW_seq ?_ | refine SW_block ?_ | refine SThen_n ?_ | refine SThen_r ?_ | refine SThen_e ?_ | refine SIn_n ?_ | refine SIn_r ?_ | refine SIn_eq ?_ | refine SW_skip ?_ | refine SW_exit ?_ | refine SW_ret ?_ | refine SPost_r ?_) | ((with_reducible refine SIn_ne ?_ ?_); focus decide) | ((with_reducible refine SW_true ?_ ?_); focus exact rfl) | ((with_reducible refine SW_false ?_ ?_); focus exact rfl) | ((first | (with_reducible apply SW_run tt_ok hG htb) | ((with_reducible apply SW_draw rfl tt_ok hG htb); (focus kernel_rfl); (focus (simp only [List.range, List.range.loop, List.size_toArray, List.length_cons, List.length_nil, Nat.reduceAdd])))); focus ((repeat' (first | (with_reducible exact runX_nil) | (with_reducible exact runI_nil) | ((first | (with_reducible apply runX_cons) | (with_reducible apply runI_cons)); focus (simp (discharger := omega) only [go_sem, hzt, hk1, hs1, simprocAttr]; with_reducible rfl)))); done)))
                      exact ⟨1, _, by omega, Norm.headS (own := [(11, 67, 7, true)]) (keep := [1, 11, 12, 13, 14, 15, 51, 52, 53, 18]) (by refine ⟨?_, ?_⟩; (simp (discharger := omega) only [go_sem, simprocAttr]; with_reducible rfl); refine ⟨?_, ?_, ?_, ?_⟩ <;> (simp only [go_sem, simprocAttr]; with_reducible rfl)), 1, rfl, rfl, by omega, by rw [htk]; exact if_pos hz⟩
                    · repeat' (first | (with_reducible first | refine SW_seq ?_ | refine SW_block ?_ | refine SThen_n ?_ | refine SThen_r ?_ | refine SThen_e ?_ | refine SIn_n ?_ | refine SIn_r ?_ | refine SIn_eq ?_ | refine SW_skip ?_ | refine SW_exit ?_ | refine SW_ret ?_ | refine SPost_r ?_) | ((with_reducible refine SIn_ne ?_ ?_); focus decide) | ((with_reducible refine SW_true ?_ ?_); focus exact rfl) | ((with_reducible refine SW_false ?_ ?_); focus exact rfl) | ((first | (with_reducible apply SW_run tt_ok hG htb) | ((with_reducible apply SW_draw rfl tt_ok hG htb); (focus kernel_rfl); (focus (simp only [List.range, List.range.loop, List.size_toArray, List.length_cons, List.length_nil, Nat.reduceAdd])))); focus ((repeat' (first | (with_reducible exact runX_nil) | (with_reducible exact runI_nil) | ((first | (with_reducible apply runX_cons) | (with_reducible apply runI_cons)); focus (simp (discharger := omega) only [go_sem, hz, hk1, hs1, simprocAttr]; with_reducible rfl)))); done)))
                      refine SW_norm (Norm.fixBox 3 rfl rfl) ?_
                      repeat' (first | (with_reducible first | refine SW_seq ?_ | refine SW_block ?_ | refine SThen_n ?_ | refine SThen_r ?_ | refine SThen_e ?_ | refine SIn_n ?_ | refine SIn_r ?_ | refine SIn_eq ?_ | refine SW_skip ?_ | refine SW_exit ?_ | refine SW_ret ?_ | refine SPost_r ?_) | ((with_reducible refine SIn_ne ?_ ?_); focus decide) | ((with_reducible refine SW_true ?_ ?_); focus exact rfl) | ((with_reducible refine SW_false ?_ ?_); focus exact rfl) | ((first | (with_reducible apply SW_run tt_ok hG htb) | ((with_reducible apply SW_draw rfl tt_ok hG htb); (focus kernel_rfl); (focus (simp only [List.range, List.range.loop, List.size_toArray, List.length_cons, List.length_nil, Nat.reduceAdd])))); focus ((repeat' (first | (with_reducible exact runX_nil) | (with_reducible exact runI_nil) | ((first | (with_reducible apply runX_cons) | (with_reducible apply runI_cons)); focus (simp (discharger := omega) only [go_sem, simprocAttr]; with_reducible rfl)))); done)))
                      exact ⟨f.length - (i + 1), _, by omega, Norm.headS (own := [(11, 67, 7, true)]) (keep := [1, 11, 51, 52, 53]) (by refine ⟨?_, ?_⟩; (simp (discharger := omega) only [go_sem, simprocAttr]; with_reducible rfl); refine ⟨?_, ?_, ?_, ?_⟩ <;> (simp only [go_sem, simprocAttr]; with_reducible rfl)), i + 1, _, rfl, rfl, by omega, hnext _ (by rw [hrc 2 (by rw [htk]; exact if_neg hz)]; rfl)⟩
                  · have hk1 : ((3 : Nat) : Int) = 3 := rfl
                    have hs1 : (3 : Int) - 1 = 2 := rfl
                    by_cases hz : r 2 = 0
                    · have hzt := eq_true hz
                      repeat' (first | (with_reducible first | refine SW_seq ?_ | refine SW_block ?_ | refine SThen_n ?_ | refine SThen_r ?_ | refine SThen_e ?_ | refine SIn_n ?_ | refine SIn_r ?_ | refine SIn_eq ?_ | refine SW_skip ?_ | refine SW_exit ?_ | refine SW_ret ?_ | refine SPost_r ?_) | ((with_reducible refine SIn_ne ?_ ?_); focus decide) | ((with_reducible refine SW_true ?_ ?_); focus exact rfl) | ((with_reducible refine SW_false ?_ ?_); focus exact rfl) | ((first | (with_reducible apply SW_run tt_ok hG htb) | ((with_reducible apply SW_draw rfl tt_ok hG htb); (focus kernel_rfl); (focus (simp only [List.range, List.range.loop, List.size_toArray, List.length_cons, List.length_nil, Nat.reduceAdd])))); focus ((repeat' (first | (with_reducible exact runX_nil) | (with_reducible exact runI_nil) | ((first | (with_reducible apply runX_cons) | (with_reducible apply runI_cons)); focus (simp (discharger := omega) only [go_sem, hzt, hk1, hs1, simprocAttr]; with_reducible rfl)))); done)))
                      exact ⟨2, _, by omega, Norm.headS (own := [(11, 67, 7, true)]) (keep := [1, 11, 12, 13, 14, 15, 51, 52, 53, 18]) (by refine ⟨?_, ?_⟩; (simp (discharger := omega) only [go_sem, simprocAttr]; with_reducible rfl); refine ⟨?_, ?_, ?_, ?_⟩ <;> (simp only [go_sem, simprocAttr]; with_reducible rfl)), 2, rfl, rfl, by omega, by rw [htk]; exact if_pos hz⟩
                    · repeat' (first | (with_reducible first | refine SW_seq ?_ | refine SW_block ?_ | refine SThen_n ?_ | refine SThen_r ?_ | refine SThen_e ?_ | refine SIn_n ?_ | refine SIn_r ?_ | refine SIn_eq ?_ | refine SW_skip ?_ | refine SW_exit ?_ | refine SW_ret ?_ | refine SPost_r ?_) | ((with_reducible refine SIn_ne ?_ ?_); focus decide) | ((with_reducible refine SW_true ?_ ?_); focus exact rfl) | ((with_reducible refine SW_false ?_ ?_); focus exact rfl) | ((first | (with_reducible apply SW_run tt_ok hG htb) | ((with_reducible apply SW_draw rfl tt_ok hG htb); (focus kernel_rfl); (focus (simp only [List.range, List.range.loop, List.size_toArray, List.length_cons, List.length_nil, Nat.reduceAdd])))); focus ((repeat' (first | (with_reducible exact runX_nil) | (with_reducible exact runI_nil) | ((first | (with_reducible apply runX_cons) | (with_reducible apply runI_cons)); focus (simp (discharger := omega) only [go_sem, hz, hk1, hs1, simprocAttr]; with_reducible rfl)))); done)))
                      refine SW_norm (Norm.fixBox 3 rfl rfl) ?_
                      repeat' (first | (with_reducible first | refine SW_seq ?_ | refine SW_block ?_ | refine SThen_n ?_ | refine SThen_r ?_ | refine SThen_e ?_ | refine SIn_n ?_ | refine SIn_r ?_ | refine SIn_eq ?_ | refine SW_skip ?_ | refine SW_exit ?_ | refine SW_ret ?_ | refine SPost_r ?_) | ((with_reducible refine SIn_ne ?_ ?_); focus decide) | ((with_reducible refine SW_true ?_ ?_); focus exact rfl) | ((with_reducible refine SW_false ?_ ?_); focus exact rfl) | ((first | (with_reducible apply SW_run tt_ok hG htb) | ((with_reducible apply SW_draw rfl tt_ok hG htb); (focus kernel_rfl); (focus (simp only [List.range, List.range.loop, List.size_toArray, List.length_cons, List.length_nil, Nat.reduceAdd])))); focus ((repeat' (first | (with_reducible exact runX_nil) | (with_reducible exact runI_nil) | ((first | (with_reducible apply runX_cons) | (with_reducible apply runI_cons)); focus (simp (discharger := omega) only [go_sem, simprocAttr]; with_reducible rfl)))); done)))
                      exact ⟨f.length - (i + 1), _, by omega, Norm.headS (own := [(11, 67, 7, true)]) (keep := [1, 11, 51, 52, 53]) (by refine ⟨?_, ?_⟩; (simp (discharger := omega) only [go_sem, simprocAttr]; with_reducible rfl); refine ⟨?_, ?_, ?_, ?_⟩ <;> (simp only [go_sem, simprocAttr]; with_reducible rfl)), i + 1, _, rfl, rfl, by omega, hnext _ (by rw [hrc 3 (by rw [htk]; exact if_neg hz)]; rfl)⟩
                  · have hk1 : ((4 : Nat) : Int) = 4 := rfl
                    have hs1 : (4 : Int) - 1 = 3 := rfl
                    by_cases hz : r 3 = 0
                    · have hzt := eq_true hz
                      repeat' (first | (with_reducible first | refine SW_seq ?_ | refine SW_block ?_ | refine SThen_n ?_ | refine SThen_r ?_ | refine SThen_e ?_ | refine SIn_n ?_ | refine SIn_r ?_ | refine SIn_eq ?_ | refine SW_skip ?_ | refine SW_exit ?_ | refine SW_ret ?_ | refine SPost_r ?_) | ((with_reducible refine SIn_ne ?_ ?_); focus decide) | ((with_reducible refine SW_true ?_ ?_); focus exact rfl) | ((with_reducible refine SW_false ?_ ?_); focus exact rfl) | ((first | (with_reducible apply SW_run tt_ok hG htb) | ((with_reducible apply SW_draw rfl tt_ok hG htb); (focus kernel_rfl); (focus (simp only [List.range, List.range.loop, List.size_toArray, List.length_cons, List.length_nil, Nat.reduceAdd])))); focus ((repeat' (first | (with_reducible exact runX_nil) | (with_reducible exact runI_nil) | ((first | (with_reducible apply runX_cons) | (with_reducible apply runI_cons)); focus (simp (discharger := omega) only [go_sem, hzt, hk1, hs1, simprocAttr]; with_reducible rfl)))); done)))
                      exact ⟨3, _, by omega, Norm.headS (own := [(11, 67, 7, true)]) (keep := [1, 11, 12, 13, 14, 15, 51, 52, 53, 18]) (by refine ⟨?_, ?_⟩; (simp (discharger := omega) only [go_sem, simprocAttr]; with_reducible rfl); refine ⟨?_, ?_, ?_, ?_⟩ <;> (simp only [go_sem, simprocAttr]; with_reducible rfl)), 3, rfl, rfl, by omega, by rw [htk]; exact if_pos hz⟩
                    · repeat' (first | (with_reducible first | refine SW_seq ?_ | refine SW_block ?_ | refine SThen_n ?_ | refine SThen_r ?_ | refine SThen_e ?_ | refine SIn_n ?_ | refine SIn_r ?_ | refine SIn_eq ?_ | refine SW_skip ?_ | refine SW_exit ?_ | refine SW_ret ?_ | refine SPost_r ?_) | ((with_reducible refine SIn_ne ?_ ?_); focus decide) | ((with_reducible refine SW_true ?_ ?_); focus exact rfl) | ((with_reducible refine SW_false ?_ ?_); focus exact rfl) | ((first | (with_reducible apply SW_run tt_ok hG htb) | ((with_reducible apply SW_draw rfl tt_ok hG htb); (focus kernel_rfl); (focus (simp only [List.range, List.range.loop, List.size_toArray, List.length_cons, List.length_nil, Nat.reduceAdd])))); focus ((repeat' (first | (with_reducible exact runX_nil) | (with_reducible exact runI_nil) | ((first | (with_reducible apply runX_cons) | (with_reducible apply runI_cons)); focus (simp (discharger := omega) only [go_sem, hz, hk1, hs1, simprocAttr]; with_reducible rfl)))); done)))
                      refine SW_norm (Norm.fixBox 3 rfl rfl) ?_
                      repeat' (first | (with_reducible first | refine SW_seq ?_ | refine SW_block ?_ | refine SThen_n ?_ | refine SThen_r ?_ | refine SThen_e ?_ | refine SIn_n ?_ | refine SIn_r ?_ | refine SIn_eq ?_ | refine SW_skip ?_ | refine SW_exit ?_ | refine SW_ret ?_ | refine SPost_r ?_) | ((with_reducible refine SIn_ne ?_ ?_); focus decide) | ((with_reducible refine SW_true ?_ ?_); focus exact rfl) | ((with_reducible refine SW_false ?_ ?_); focus exact rfl) | ((first | (with_reducible apply SW_run tt_ok hG htb) | ((with_reducible apply SW_draw rfl tt_ok hG htb); (focus kernel_rfl); (focus (simp only [List.range, List.range.loop, List.size_toArray, List.length_cons, List.length_nil, Nat.reduceAdd])))); focus ((repeat' (first | (with_reducible exact runX_nil) | (with_reducible exact runI_nil) | ((first | (with_reducible apply runX_cons) | (with_reducible apply runI_cons)); focus (simp (discharger := omega) only [go_sem, simprocAttr]; with_reducible rfl)))); done)))
                      exact ⟨f.length - (i + 1), _, by omega, Norm.headS (own := [(11, 67, 7, true)]) (keep := [1, 11, 51, 52, 53]) (by refine ⟨?_, ?_⟩; (simp (discharger := omega) only [go_sem, simprocAttr]; with_reducible rfl); refine ⟨?_, ?_, ?_, ?_⟩ <;> (simp only [go_sem, simprocAttr]; with_reducible rfl)), i + 1, _, rfl, rfl, by omega, hnext _ (by rw [hrc 4 (by rw [htk]; exact if_neg hz)]; rfl)⟩
                  · have hk1 : ((5 : Nat) : Int) = 5 := rfl
                    have hs1 : (5 : Int) - 1 = 4 := rfl
                    by_cases hz : r 4 = 0
                    · have hzt := eq_true hz
                      repeat' (first | (with_reducible first | refine SW_seq ?_ | refine SW_block ?_ | refine SThen_n ?_ | refine SThen_r ?_ | refine SThen_e ?_ | refine SIn_n ?_ | refine SIn_r ?_ | refine SIn_eq ?_ | refine SW_skip ?_ | refine SW_exit ?_ | refine SW_ret ?_ | refine SPost_r ?_) | ((with_reducible refine SIn_ne ?_ ?_); focus decide) | ((with_reducible refine SW_true ?_ ?_); focus exact rfl) | ((with_reducible refine SW_false ?_ ?_); focus exact rfl) | ((first | (with_reducible apply SW_run tt_ok hG htb) | ((with_reducible apply SW_draw rfl tt_ok hG htb); (focus kernel_rfl); (focus (simp only [List.range, List.range.loop, List.size_toArray, List.length_cons, List.length_nil, Nat.reduceAdd])))); focus ((repeat' (first | (with_reducible exact runX_nil) | (with_reducible exact runI_nil) | ((first | (with_reducible apply runX_cons) | (with_reducible apply runI_cons)); focus (simp (discharger := omega) only [go_sem, hzt, hk1, hs1, simprocAttr]; with_reducible rfl)))); done)))
                      exact ⟨4, _, by omega, Norm.headS (own := [(11, 67, 7, true)]) (keep := [1, 11, 12, 13, 14, 15, 51, 52, 53, 18]) (by refine ⟨?_, ?_⟩; (simp (discharger := omega) only [go_sem, simprocAttr]; with_reducible rfl); refine ⟨?_, ?_, ?_, ?_⟩ <;> (simp only [go_sem, simprocAttr]; with_reducible rfl)), 4, rfl, rfl, by omega, by rw [htk]; exact if_pos hz⟩
                    · repeat' (first | (with_reducible first | refine SW_seq ?_ | refine SW_block ?_ | refine SThen_n ?_ | refine SThen_r ?_ | refine SThen_e ?_ | refine SIn_n ?_ | refine SIn_r ?_ | refine SIn_eq ?_ | refine SW_skip ?_ | refine SW_exit ?_ | refine SW_ret ?_ | refine SPost_r ?_) | ((with_reducible refine SIn_ne ?_ ?_); focus decide) | ((with_reducible refine SW_true ?_ ?_); focus exact rfl) | ((with_reducible refine SW_false ?_ ?_); focus exact rfl) | ((first | (with_reducible apply SW_run tt_ok hG htb) | ((with_reducible apply SW_draw rfl tt_ok hG htb); (focus kernel_rfl); (focus (simp only [List.range, List.range.loop, List.size_toArray, List.length_cons, List.length_nil, Nat.reduceAdd])))); focus ((repeat' (first | (with_reducible exact runX_nil) | (with_reducible exact runI_nil) | ((first | (with_reducible apply runX_cons) | (with_reducible apply runI_cons)); focus (simp (discharger := omega) only [go_sem, hz, hk1, hs1, simprocAttr]; with_reducible rfl)))); done)))
                      refine SW_norm (Norm.fixBox 3 rfl rfl) ?_
                      repeat' (first | (with_reducible first | refine SW_seq ?_ | refine SW_block ?_ | refine SThen_n ?_ | refine SThen_r ?_ | refine SThen_e ?_ | refine SIn_n ?_ | refine SIn_r ?_ | refine SIn_eq ?_ | refine SW_skip ?_ | refine SW_exit ?_ | refine SW_ret ?_ | refine SPost_r ?_) | ((with_reducible refine SIn_ne ?_ ?_); focus decide) | ((with_reducible refine SW_true ?_ ?_); focus exact rfl) | ((with_reducible refine SW_false ?_ ?_); focus exact rfl) | ((first | (with_reducible apply SW_run tt_ok hG htb) | ((with_reducible apply SW_draw rfl tt_ok hG htb); (focus kernel_rfl); (focus (simp only [List.range, List.range.loop, List.size_toArray, List.length_cons, List.length_nil, Nat.reduceAdd])))); focus ((repeat' (first | (with_reducible exact runX_nil) | (with_reducible exact runI_nil) | ((first | (with_reducible apply runX_cons) | (with_reducible apply runI_cons)); focus (simp (discharger := omega) only [go_sem, simprocAttr]; with_reducible rfl)))); done)))
                      exact ⟨f.length - (i + 1), _, by omega, Norm.headS (own := [(11, 67, 7, true)]) (keep := [1, 11, 51, 52, 53]) (by refine ⟨?_, ?_⟩; (simp (discharger := omega) only [go_sem, simprocAttr]; with_reducible rfl); refine ⟨?_, ?_, ?_, ?_⟩ <;> (simp only [go_sem, simprocAttr]; with_reducible rfl)), i + 1, _, rfl, rfl, by omega, hnext _ (by rw [hrc 5 (by rw [htk]; exact if_neg hz)]; rfl)⟩
        · obtain rfl : i = f.length := by omega
          rw [List.take_length, Nat.sub_self, List.replicate_zero, List.append_nil] at hrt
          subst hrt
          repeat' (first | (with_reducible first | refine SW_seq ?_ | refine SW_block ?_ | refine SThen_n ?_ | refine SThen_r ?_ | refine SThen_e ?_ | refine SIn_n ?_ | refine SIn_r ?_ | refine SIn_eq ?_ | refine SW_skip ?_ | refine SW_exit ?_ | refine SW_ret ?_ | refine SPost_r ?_) | ((with_reducible refine SIn_ne ?_ ?_); focus decide) | ((with_reducible refine SW_true ?_ ?_); focus exact rfl) | ((with_reducible refine SW_false ?_ ?_); focus exact rfl) | ((first | (with_reducible apply SW_run tt_ok hG htb) | ((with_reducible apply SW_draw rfl tt_ok hG htb); (focus kernel_rfl); (focus (simp only [List.range, List.range.loop, List.size_toArray, List.length_cons, List.length_nil, Nat.reduceAdd])))); focus ((repeat' (first | (with_reducible exact runX_nil) | (with_reducible exact runI_nil) | ((first | (with_reducible apply runX_cons) | (with_reducible apply runI_cons)); focus (simp (discharger := omega) only [go_sem, simprocAttr]; with_reducible rfl)))); done)))
          exact (by simp (discharger := omega) only [go_sem, tErr0, simprocAttr])
    · have hre : renErr f to = 2 := by unfold renErr; rw [if_neg (by omega), if_pos h5]
      rw [bad 2 hre (by decide), hre]
      repeat' (first | (with_reducible first | refine SW_seq ?_ | refine SW_block ?_ | refine SThen_n ?_ | refine SThen_r ?_ | refine SThen_e ?_ | refine SIn_n ?_ | refine SIn_r ?_ | refine SIn_eq ?_ | refine SW_skip ?_ | refine SW_exit ?_ | refine SW_ret ?_ | refine SPost_r ?_) | ((with_reducible refine SIn_ne ?_ ?_); focus decide) | ((with_reducible refine SW_true ?_ ?_); focus exact rfl) | ((with_reducible refine SW_false ?_ ?_); focus exact rfl) | ((first | (with_reducible apply SW_run tt_ok hG htb) | ((with_reducible apply SW_draw rfl tt_ok hG htb); (focus kernel_rfl); (focus (simp only [List.range, List.range.loop, List.size_toArray, List.length_cons, List.length_nil, Nat.reduceAdd])))); focus ((repeat' (first | (with_reducible exact runX_nil) | (with_reducible exact runI_nil) | ((first | (with_reducible apply runX_cons) | (with_reducible apply runI_cons)); focus (simp (discharger := omega) only [go_sem, tErr0, h5, simprocAttr]; with_reducible rfl)))); done)))
      exact (by simp (discharger := omega) only [go_sem, tErr, simprocAttr])
  · have hre : renErr f to = (formErr f).2 := by unfold renErr; rw [if_pos h]
    rw [bad _ hre h, hre]
    generalize (formErr f).2 = e at *
    generalize (formErr f).1 = a at *
    have htb := Tab.cons c1 Tab.nil
    repeat' (first | (with_reducible first | refine SW_seq ?_ | refine SW_block ?_ | refine SThen_n ?_ | refine SThen_r ?_ | refine SThen_e ?_ | refine SIn_n ?_ | refine SIn_r ?_ | refine SIn_eq ?_ | refine SW_skip ?_ | refine SW_exit ?_ | refine SW_ret ?_ | refine SPost_r ?_) | ((with_reducible refine SIn_ne ?_ ?_); focus decide) | ((with_reducible refine SW_true ?_ ?_); focus exact rfl) | ((with_reducible refine SW_false ?_ ?_); focus exact rfl) | ((first | (with_reducible apply SW_run tt_ok hG htb) | ((with_reducible apply SW_draw rfl tt_ok hG htb); (focus kernel_rfl); (focus (simp only [List.range, List.range.loop, List.size_toArray, List.length_cons, List.length_nil, Nat.reduceAdd])))); focus ((repeat' (first | (with_reducible exact runX_nil) | (with_reducible exact runI_nil) | ((first | (with_reducible apply runX_cons) | (with_reducible apply runI_cons)); focus (simp (discharger := omega) only [go_sem, tErr, h, simprocAttr]; with_reducible rfl)))); done)))
    exact (by simp (discharger := omega) only [go_sem, tErr, h, simprocAttr])
end
end Go.Proofs.Ytfhncnhkeodngaa
namespace Go.Proofs.Ytfhncnhkeodngaa
open Go.RowKit

def pickOf (c n : Int) : Int := (if c < 0 then -(c + 1) else c) % n
section
variable {G : World → Prop} (hG : Lasting G)
include hG
theorem Pick_snd (c n : Int) (hc : I64 c) (hn : 0 < n ∧ n ≤ 1000000) : Snd Try.prog G 9 [tInt c, tInt n] (tInt (pickOf c n)) := by
  have htb : Tab.ok Try.prog G [] := Tab.nil
  refine snd_of_body (n := 13) (tm := [(0, .t (tInt c)), (1, .t (tInt n))]) (rs := [.tmp 4]) tt_ok Try.func9 rfl rfl rfl rfl rfl ?_
  unfold pickOf
  unfold I64 at hc
  by_cases h0 : c < 0
  · have e1 : (0 - (c + 1)).tmod n = -(c + 1) % n := by rw [Int.tmod_eq_emod_of_nonneg (by omega)]; congr 1; omega
    obtain ⟨r, hr⟩ : ∃ r, -(c + 1) % n = r := ⟨_, rfl⟩
    have hr1 : 0 ≤ r ∧ r < n := by rw [← hr]; exact ⟨Int.emod_nonneg _ (by omega), Int.emod_lt_of_pos _ hn.1⟩
    rw [if_pos h0, hr]
    rw [hr] at e1
    repeat' (first | (with_reducible first | refine SW_seq ?_ | refine SW_block ?_ | refine SThen_n ?_ | refine SThen_r ?_ | refine SThen_e ?_ | refine SIn_n ?_ | refine SIn_r ?_ | refine SIn_eq ?_ | refine SW_skip ?_ | refine SW_exit ?_ | refine SW_ret ?_ | refine SPost_r ?_) | ((with_reducible refine SIn_ne ?_ ?_); focus decide) | ((with_reducible refine SW_true ?_ ?_); focus exact rfl) | ((with_reducible refine SW_false ?_ ?_); focus exact rfl) | ((first | (with_reducible apply SW_run tt_ok hG htb) | ((with_reducible apply SW_draw rfl tt_ok hG htb); (focus kernel_rfl); (focus (simp only [List.range, List.range.loop, List.size_toArray, List.length_cons, List.length_nil, Nat.reduceAdd])))); focus ((repeat' (first | (with_reducible exact runX_nil) | (with_reducible exact runI_nil) | ((first | (with_reducible apply runX_cons) | (with_reducible apply runI_cons)); focus (simp (discharger := omega) only [go_sem, e1, simprocAttr]; with_reducible rfl)))); done)))
    exact (by simp (discharger := omega) only [go_sem, e1, simprocAttr])
  · have e1 : c.tmod n = c % n := Int.tmod_eq_emod_of_nonneg (by omega)
    obtain ⟨r, hr⟩ : ∃ r, c % n = r := ⟨_, rfl⟩
    have hr1 : 0 ≤ r ∧ r < n := by rw [← hr]; exact ⟨Int.emod_nonneg _ (by omega), Int.emod_lt_of_pos _ hn.1⟩
    rw [if_neg h0, hr]
    rw [hr] at e1
    repeat' (first | (with_reducible first | refine SW_seq ?_ | refine SW_block ?_ | refine SThen_n ?_ | refine SThen_r ?_ | refine SThen_e ?_ | refine SIn_n ?_ | refine SIn_r ?_ | refine SIn_eq ?_ | refine SW_skip ?_ | refine SW_exit ?_ | refine SW_ret ?_ | refine SPost_r ?_) | ((with_reducible refine SIn_ne ?_ ?_); focus decide) | ((with_reducible refine SW_true ?_ ?_); focus exact rfl) | ((with_reducible refine SW_false ?_ ?_); focus exact rfl) | ((first | (with_reducible apply SW_run tt_ok hG htb) | ((with_reducible apply SW_draw rfl tt_ok hG htb); (focus kernel_rfl); (focus (simp only [List.range, List.range.loop, List.size_toArray, List.length_cons, List.length_nil, Nat.reduceAdd])))); focus ((repeat' (first | (with_reducible exact runX_nil) | (with_reducible exact runI_nil) | ((first | (with_reducible apply runX_cons) | (with_reducible apply runI_cons)); focus (simp (discharger := omega) only [go_sem, e1, simprocAttr]; with_reducible rfl)))); done)))
    exact (by simp (discharger := omega) only [go_sem, e1, simprocAttr])
end
theorem pickOf_bd (c : Int) {n : Int} (hn : 0 < n) : 0 ≤ pickOf c n ∧ pickOf c n < n := ⟨Int.emod_nonneg _ (by omega), Int.emod_lt_of_pos _ hn⟩
end Go.Proofs.Ytfhncnhkeodngaa
namespace Go.Proofs.Ytfhncnhkeodngaa
open Go.ChangeShapes Go.WideShapes Go.ChangeAt Go.RowKit Go.Joins Go.Deep

section
variable {H : Type} {enc : TypeId × Value → H} {w : World} {sp : Nat → Bool} {held : Bool}
/-- One cell that reads as a datum. -/
def OpensT (enc : TypeId × Value → H) (w : World) (sp : Nat → Bool) (held : Bool) (T : TypeId) (Q : Go.Proofs.Ytfhncnhkeodngaa.T → Prop) : Prop :=
  ∀ n v y, DataW.trod enc Try.prog w 0 sp held n T [v] = some y → v.oneCell' = true ∧ ∃ x, Q x ∧ x.cells = [x] ∧ RepT (· < w.heap.size) w x v
theorem flat_cells : ∀ {l : List Go.Proofs.Ytfhncnhkeodngaa.T}, (∀ x ∈ l, x.cells = [x]) → Go.Proofs.Ytfhncnhkeodngaa.flat l = l
  | [], _ => rfl
  | a :: t, h => by
    have := flat_cells fun x hx => h x (List.mem_cons_of_mem a hx)
    simp only [Go.Proofs.Ytfhncnhkeodngaa.flat, List.flatMap_cons] at this ⊢
    rw [this, h a List.mem_cons_self]; rfl
theorem opensT_int {T : TypeId} (ht : Try.prog.underlying T = some (.int .i64)) : OpensT enc w sp held T fun x => ∃ n, x = tInt n ∧ I64 n := by
  intro n v y h
  obtain ⟨a, rfl, h2⟩ := opens_int ht n v y h
  exact ⟨rfl, _, ⟨a, rfl, h2⟩, rfl, .int _ _⟩
theorem opensT_slice {T e : TypeId} {Q : Go.Proofs.Ytfhncnhkeodngaa.T → Prop} (ht : Try.prog.underlying T = some (.slice e)) (hc : Try.prog.cellsOf e = 1) (hE : OpensT enc w sp held e Q) :
    OpensT enc w sp held T fun x => ∃ l, x = .list l ∧ ∀ y ∈ l, Q y := by
  intro n v y h
  rcases open_slice1 ht hc h with ⟨hcs, _⟩ | ⟨a, len, cap, m, n', V, D, Pl, hcs, _, hl, hcap, hm, _, hx⟩
  · obtain rfl : v = .slice none 0 0 := by simpa using hcs
    exact ⟨rfl, _, ⟨[], rfl, fun y hy => by simp at hy⟩, rfl, .list [] none 0 1 (fun _ => undef) (Nat.zero_le _) Nat.one_pos (fun x hx => by simp at hx) (fun h => (h rfl).elim) (fun k hk => by simp at hk) (fun k y hy => by simp [Go.Proofs.Ytfhncnhkeodngaa.flat] at hy) (Nat.le_refl _)⟩
  · obtain rfl : v = .slice (some a) len cap := by simpa using hcs
    have hlm : len ≤ m := by rw [hm]; split <;> omega
    have hall : ∀ i, i < len → (V i).oneCell' = true ∧ ∃ b, Q b ∧ b.cells = [b] ∧ RepT (· < w.heap.size) w b (V i) := fun i hi => hE _ _ _ (hx i (by omega)).2
    have key : ∀ k, k ≤ len → ∃ l : List Go.Proofs.Ytfhncnhkeodngaa.T, l.length = k ∧ ∀ i (hi : i < l.length), Q l[i] ∧ l[i].cells = [l[i]] ∧ RepT (· < w.heap.size) w l[i] (V i) := by
      intro k
      induction k with
      | zero => intro _; exact ⟨[], rfl, fun i hi => absurd hi (by simp)⟩
      | succ k ih =>
        intro hk
        obtain ⟨l, hl1, hl2⟩ := ih (by omega)
        obtain ⟨_, b, hb⟩ := hall k (by omega)
        refine ⟨l ++ [b], by simp [hl1], fun i hi => ?_⟩
        rw [List.getElem_append]
        split
        · exact hl2 i ‹_›
        · obtain rfl : i = k := by simp at hi; omega
          simpa using hb
    obtain ⟨l, hl1, hl2⟩ := key len (Nat.le_refl _)
    subst hl1
    have hcells : ∀ x ∈ l, x.cells = [x] := fun x hx => by obtain ⟨i, hi, rfl⟩ := List.mem_iff_getElem.1 hx; exact (hl2 i hi).2.1
    have hfl := flat_cells hcells
    refine ⟨rfl, _, ⟨l, rfl, fun y hy => by obtain ⟨i, hi, rfl⟩ := List.mem_iff_getElem.1 hy; exact (hl2 i hi).1⟩, rfl, ?_⟩
    refine .list l (some a) cap 1 V (by simp only [maxLen] at hcap ⊢; omega) Nat.one_pos (fun x hx => by rw [hcells x hx]; rfl) (fun hne => ?_) (fun k hk => (hall k (by omega)).1) (fun k y hy => ?_) (by omega)
    · obtain ⟨b, off, spot⟩ := a
      have hpos : 0 < l.length := List.length_pos_iff.2 hne
      have hc1 := (hx 0 (by omega)).1
      have hspot : spot = none := by simpa [Addr.add] using World.cell?_spot hc1
      subst hspot
      have hadd : ∀ i, (⟨b, off, none⟩ : Addr).add i = ⟨b, off + i, none⟩ := fun i => by unfold Addr.add; split <;> simp_all
      refine ⟨b, off, rfl, ?_, fun k hk => ?_⟩
      · rw [hadd] at hc1; exact cell_lt hc1
      · have := (hx k (by omega)).1
        rw [hadd] at this; exact this
    · rw [hfl] at hy
      obtain ⟨hk, rfl⟩ := List.getElem?_eq_some_iff.1 hy
      exact (hl2 k hk).2.2
theorem allMap {α : Type} {f : α → Go.Proofs.Ytfhncnhkeodngaa.T} {Q : α → Prop} : ∀ {l : List Go.Proofs.Ytfhncnhkeodngaa.T}, (∀ y ∈ l, ∃ a, y = f a ∧ Q a) → ∃ q : List α, l = q.map f ∧ ∀ a ∈ q, Q a
  | [], _ => ⟨[], rfl, fun a ha => by simp at ha⟩
  | x :: t, h => by
    obtain ⟨a, rfl, ha⟩ := h x List.mem_cons_self
    obtain ⟨q, rfl, hq⟩ := allMap fun y hy => h y (List.mem_cons_of_mem _ hy)
    exact ⟨a :: q, rfl, fun b hb => by
      rcases List.mem_cons.1 hb with rfl | hb
      · exact ha
      · exact hq b hb⟩
theorem opensT_ints {T : TypeId} (h : OpensT enc w sp held T fun x => ∃ l, x = .list l ∧ ∀ y ∈ l, ∃ n, y = tInt n ∧ I64 n) : OpensT enc w sp held T fun x => ∃ l, x = tInts l ∧ I64s l := fun n v y hy => by
  obtain ⟨h1, x, ⟨l, rfl, hl⟩, h2, h3⟩ := h n v y hy
  obtain ⟨q, rfl, hq⟩ := allMap hl
  exact ⟨h1, _, ⟨q, rfl, hq⟩, rfl, h3⟩
theorem opensIntsT : OpensT enc w sp held 24 fun x => ∃ l, x = tInts l ∧ I64s l := opensT_ints (opensT_slice Try.underlying24 (by kernel_rfl) (opensT_int Try.underlying3))
theorem opensIntssT : OpensT enc w sp held 37 fun x => ∃ l, x = tIntss l ∧ ∀ r ∈ l, I64s r := fun n v y hy => by
  obtain ⟨h1, x, ⟨l, rfl, hl⟩, h2, h3⟩ := opensT_slice Try.underlying37 (by kernel_rfl) opensIntsT n v y hy
  obtain ⟨q, rfl, hq⟩ := allMap hl
  exact ⟨h1, _, ⟨q, rfl, hq⟩, rfl, h3⟩
/-- An argument that reads as a list of numbers. -/
def ReadsInts (w : World) (v : Value) (l : List Int) : Prop := I64s l ∧ RepT (· < w.heap.size) w (tInts l) v
theorem openIntsT {v : Value} (hv : v.cells = #[v]) {d : DataW H} {p : List MemPlace} (hd : DataW.Trod enc Try.prog w 0 sp held 24 v d p) : ∃ l, ReadsInts w v l := by
  obtain ⟨n, hn⟩ := hd
  rw [hv] at hn
  obtain ⟨_, x, ⟨l, rfl, hl⟩, _, h3⟩ := opensIntsT n v _ hn
  exact ⟨l, hl, h3⟩
end
theorem walkN {P : Program} {G : World → Prop} {f : Nat} {xs : List T} {w : World} {vs : Array Value} (h : Snd P G f xs (.bool true)) (hG : G w) (hl : vs.size = xs.length) (hx : ∀ (k : Nat) (y : T) (v : Value), xs[k]? = some y → vs[k]? = some v → RepT (· < w.heap.size) w y v) : Calls P f vs w (Ret (.bool true) w) :=
  (h.calls (· < w.heap.size) w vs hG hl hx).mono fun e w' hq => by obtain ⟨u, h1, h2, h3⟩ := hq; cases h2; exact ⟨h1, h3⟩
end Go.Proofs.Ytfhncnhkeodngaa
namespace Go.Proofs.Ytfhncnhkeodngaa
open Go.ChangeShapes Go.WideShapes Go.ChangeAt Go.RowKit Go.Joins Go.Deep

section
variable {H : Type} {enc : TypeId × Value → H} {w : World} {sp : Nat → Bool} {held : Bool}
/-- Cells that read as a datum of that many cells. -/
def OpensE (enc : TypeId × Value → H) (w : World) (sp : Nat → Bool) (held : Bool) (T : TypeId) (sz : Nat) (Q : Go.Proofs.Ytfhncnhkeodngaa.T → Prop) : Prop :=
  ∀ n cs y, cs.length = sz → DataW.trod enc Try.prog w 0 sp held n T cs = some y → ∃ x, Q x ∧ x.cells.length = sz ∧ ∀ (k : Nat) (z : Go.Proofs.Ytfhncnhkeodngaa.T) (v : Value), x.cells[k]? = some z → cs[k]? = some v → v.oneCell' = true ∧ RepT (· < w.heap.size) w z v
theorem opensE_slice {T e : TypeId} {sz : Nat} {Q : Go.Proofs.Ytfhncnhkeodngaa.T → Prop} (ht : Try.prog.underlying T = some (.slice e)) (hc : Try.prog.cellsOf e = sz) (h0 : 0 < sz) (hE : OpensE enc w sp held e sz Q) :
    OpensT enc w sp held T fun x => ∃ l, x = .list l ∧ ∀ y ∈ l, Q y := by
  intro n v y h
  rcases open_slice ht h with ⟨hcs, _⟩ | ⟨a, len, cap, m, n', D, Pl, hcs, _, hl, hcap, hm, _, hx⟩
  · obtain rfl : v = .slice none 0 0 := by simpa using hcs
    exact ⟨rfl, _, ⟨[], rfl, fun y hy => by simp at hy⟩, rfl, .list [] none 0 1 (fun _ => undef) (Nat.zero_le _) Nat.one_pos (fun x hx => by simp at hx) (fun h => (h rfl).elim) (fun k hk => by simp at hk) (fun k y hy => by simp [Go.Proofs.Ytfhncnhkeodngaa.flat] at hy) (Nat.le_refl _)⟩
  · obtain rfl : v = .slice (some a) len cap := by simpa using hcs
    have hlm : len ≤ m := by rw [hm]; split <;> omega
    rw [hc] at hx
    obtain ⟨q, hq⟩ := choose_lt (α := List Value × Go.Proofs.Ytfhncnhkeodngaa.T) (n := len) (p := fun i q => w.cells? 0 (a.add (i * sz)) sz = some q.1 ∧ Q q.2 ∧ q.2.cells.length = sz ∧ ∀ (k : Nat) (z : Go.Proofs.Ytfhncnhkeodngaa.T) (v : Value), q.2.cells[k]? = some z → q.1[k]? = some v → v.oneCell' = true ∧ RepT (· < w.heap.size) w z v) (fun i hi => by
      obtain ⟨cs', h1, h2⟩ := hx i (by omega)
      obtain ⟨_, hlen, _⟩ := World.cells?_some h1
      obtain ⟨x, x1, x2, x3⟩ := hE _ _ _ hlen h2
      exact ⟨(cs', x), h1, x1, x2, x3⟩)
    have hll : ((List.range len).map fun i => (q i).2).length = len := by simp
    have hat : ∀ i, i < len → ((List.range len).map fun i => (q i).2)[i]? = some (q i).2 := fun i hi => by simp [hi]
    have hsz : ∀ x ∈ (List.range len).map fun i => (q i).2, x.cells.length = sz := fun x hx => by
      obtain ⟨i, hi, rfl⟩ := List.mem_map.1 hx
      exact (hq i (List.mem_range.1 hi)).2.2.1
    have hQ : ∀ x ∈ (List.range len).map fun i => (q i).2, Q x := fun x hx => by
      obtain ⟨i, hi, rfl⟩ := List.mem_map.1 hx
      exact (hq i (List.mem_range.1 hi)).2.1
    generalize hL : ((List.range len).map fun i => (q i).2) = L at *
    subst hll
    refine ⟨rfl, _, ⟨L, rfl, hQ⟩, rfl, ?_⟩
    have hdiv : ∀ k, k < L.length * sz → k / sz < L.length ∧ k % sz < sz ∧ k / sz * sz + k % sz = k := fun k hk =>
      ⟨(Nat.div_lt_iff_lt_mul h0).2 hk, Nat.mod_lt _ h0, by rw [Nat.mul_comm]; exact Nat.div_add_mod k sz⟩
    have hcell : ∀ k, k < L.length * sz → ∃ v, (q (k / sz)).1[k % sz]? = some v ∧ w.cell? ((a.add (k / sz * sz)).add (k % sz)) = some v ∧ ∃ z, (flat L)[k]? = some z ∧ v.oneCell' = true ∧ RepT (· < w.heap.size) w z v := fun k hk => by
      obtain ⟨d1, d2, d3⟩ := hdiv k hk
      obtain ⟨g1, g2, g3, g4⟩ := hq _ d1
      obtain ⟨_, hlen, hcc⟩ := World.cells?_some g1
      have hv := List.getElem?_eq_getElem (l := (q (k / sz)).1) (i := k % sz) (by omega)
      have hz := List.getElem?_eq_getElem (l := (q (k / sz)).2.cells) (i := k % sz) (by omega)
      refine ⟨_, hv, by rw [hcc _ d2, hv], _, ?_, g4 _ _ _ hz hv⟩
      have := flat_get hsz (hat _ d1) hz
      rwa [d3] at this
    refine .list L (some a) cap sz (fun k => ((q (k / sz)).1[k % sz]?).getD undef) (by simp only [maxLen] at hcap ⊢; omega) h0 hsz (fun hne => ?_) (fun k hk => ?_) (fun k y hy => ?_) (by omega)
    · obtain ⟨b, off, spot⟩ := a
      have hpos : 0 < L.length := List.length_pos_iff.2 hne
      have hp : 0 < L.length * sz := Nat.mul_pos hpos h0
      obtain ⟨v, _, hc1, _⟩ := hcell 0 hp
      rw [add_add] at hc1
      have hspot : spot = none := by simpa [Addr.add] using World.cell?_spot hc1
      subst hspot
      have hadd : ∀ i, (⟨b, off, none⟩ : Addr).add i = ⟨b, off + i, none⟩ := fun i => by unfold Addr.add; split <;> simp_all
      refine ⟨b, off, rfl, ?_, fun k hk => ?_⟩
      · rw [hadd] at hc1; exact cell_lt hc1
      · obtain ⟨v, hv, hc2, _⟩ := hcell k hk
        rw [add_add, (hdiv k hk).2.2, hadd] at hc2
        rw [hc2, hv]; rfl
    · obtain ⟨v, hv, _, _, _, h1, _⟩ := hcell k hk
      rw [hv]; exact h1
    · have hk : k < L.length * sz := by
        have := (List.getElem?_eq_some_iff.1 hy).1
        rwa [flat_length hsz] at this
      obtain ⟨v, hv, _, z, hz, _, h2⟩ := hcell k hk
      rw [hz] at hy
      cases hy
      rw [hv]; exact h2
end
end Go.Proofs.Ytfhncnhkeodngaa
namespace Go.Proofs.Ytfhncnhkeodngaa
open Go.ChangeShapes Go.WideShapes Go.ChangeAt Go.RowKit Go.Joins Go.Deep

section
variable {H : Type} {enc : TypeId × Value → H} {w : World} {sp : Nat → Bool} {held : Bool}
def I64N (n : GNode) : Prop := I64 n.op ∧ I64 n.var ∧ I64 n.other ∧ I64 n.word ∧ I64 n.word2 ∧ I64 n.num ∧ I64s n.coefs
def ReadsForm (w : World) (v : Value) (f : List GNode) : Prop := (∀ n ∈ f, I64N n) ∧ RepT (· < w.heap.size) w (tForm f) v
theorem seven {cs : List Value} (h : cs.length = 7) : ∃ c0 c1 c2 c3 c4 c5 c6, cs = [c0, c1, c2, c3, c4, c5, c6] := by
  match cs, h with
  | [c0, c1, c2, c3, c4, c5, c6], _ => exact ⟨c0, c1, c2, c3, c4, c5, c6, rfl⟩
theorem seven' {α : Type} {cs : List α} (h : cs.length = 7) : ∃ c0 c1 c2 c3 c4 c5 c6, cs = [c0, c1, c2, c3, c4, c5, c6] := by
  match cs, h with
  | [c0, c1, c2, c3, c4, c5, c6], _ => exact ⟨c0, c1, c2, c3, c4, c5, c6, rfl⟩
set_option maxRecDepth 100000 in
theorem opensNode : OpensE enc w sp held 67 7 fun x => ∃ n, x = tNode n ∧ I64N n := by
  intro fuel cs y hlen h
  obtain ⟨xs, k, _, _, _, hxl, hf⟩ := DataW.trod_struct Try.underlying67 h
  obtain ⟨c0, c1, c2, c3, c4, c5, c6, rfl⟩ := seven hlen
  obtain ⟨y0, y1, y2, y3, y4, y5, y6, rfl⟩ := seven' hxl
  have ci : Try.prog.cellsOf 3 = 1 := by kernel_rfl
  have cl : Try.prog.cellsOf 24 = 1 := by kernel_rfl
  have t0 : DataW.trod enc Try.prog w 0 sp held k 3 (([c0, c1, c2, c3, c4, c5, c6].drop 0).take (Try.prog.cellsOf 3)) = [y0, y1, y2, y3, y4, y5, y6][0]? := hf 0 _ rfl
  rw [ci] at t0
  have g0 : DataW.trod enc Try.prog w 0 sp held k 3 [c0] = some y0 := t0
  have t1 : DataW.trod enc Try.prog w 0 sp held k 3 (([c0, c1, c2, c3, c4, c5, c6].drop 1).take (Try.prog.cellsOf 3)) = [y0, y1, y2, y3, y4, y5, y6][1]? := hf 1 _ rfl
  rw [ci] at t1
  have g1 : DataW.trod enc Try.prog w 0 sp held k 3 [c1] = some y1 := t1
  have t2 : DataW.trod enc Try.prog w 0 sp held k 3 (([c0, c1, c2, c3, c4, c5, c6].drop 2).take (Try.prog.cellsOf 3)) = [y0, y1, y2, y3, y4, y5, y6][2]? := hf 2 _ rfl
  rw [ci] at t2
  have g2 : DataW.trod enc Try.prog w 0 sp held k 3 [c2] = some y2 := t2
  have t3 : DataW.trod enc Try.prog w 0 sp held k 3 (([c0, c1, c2, c3, c4, c5, c6].drop 3).take (Try.prog.cellsOf 3)) = [y0, y1, y2, y3, y4, y5, y6][3]? := hf 3 _ rfl
  rw [ci] at t3
  have g3 : DataW.trod enc Try.prog w 0 sp held k 3 [c3] = some y3 := t3
  have t4 : DataW.trod enc Try.prog w 0 sp held k 3 (([c0, c1, c2, c3, c4, c5, c6].drop 4).take (Try.prog.cellsOf 3)) = [y0, y1, y2, y3, y4, y5, y6][4]? := hf 4 _ rfl
  rw [ci] at t4
  have g4 : DataW.trod enc Try.prog w 0 sp held k 3 [c4] = some y4 := t4
  have t5 : DataW.trod enc Try.prog w 0 sp held k 3 (([c0, c1, c2, c3, c4, c5, c6].drop 5).take (Try.prog.cellsOf 3)) = [y0, y1, y2, y3, y4, y5, y6][5]? := hf 5 _ rfl
  rw [ci] at t5
  have g5 : DataW.trod enc Try.prog w 0 sp held k 3 [c5] = some y5 := t5
  have t6 : DataW.trod enc Try.prog w 0 sp held k 24 (([c0, c1, c2, c3, c4, c5, c6].drop 6).take (Try.prog.cellsOf 24)) = [y0, y1, y2, y3, y4, y5, y6][6]? := hf 6 _ rfl
  rw [cl] at t6
  have g6 : DataW.trod enc Try.prog w 0 sp held k 24 [c6] = some y6 := t6
  obtain ⟨a0, rfl, i0⟩ := opens_int Try.underlying3 _ _ _ g0
  obtain ⟨a1, rfl, i1⟩ := opens_int Try.underlying3 _ _ _ g1
  obtain ⟨a2, rfl, i2⟩ := opens_int Try.underlying3 _ _ _ g2
  obtain ⟨a3, rfl, i3⟩ := opens_int Try.underlying3 _ _ _ g3
  obtain ⟨a4, rfl, i4⟩ := opens_int Try.underlying3 _ _ _ g4
  obtain ⟨a5, rfl, i5⟩ := opens_int Try.underlying3 _ _ _ g5
  obtain ⟨o6, x6, ⟨a6, rfl, i6⟩, _, h6⟩ := opensIntsT _ _ _ g6
  refine ⟨_, ⟨⟨a0, a1, a2, a3, a4, a5, a6⟩, rfl, i0, i1, i2, i3, i4, i5, i6⟩, rfl, fun k z v hz hv => ?_⟩
  match k, hz, hv with
  | 0, hz, hv => cases hz; cases hv; exact ⟨rfl, .int _ _⟩
  | 1, hz, hv => cases hz; cases hv; exact ⟨rfl, .int _ _⟩
  | 2, hz, hv => cases hz; cases hv; exact ⟨rfl, .int _ _⟩
  | 3, hz, hv => cases hz; cases hv; exact ⟨rfl, .int _ _⟩
  | 4, hz, hv => cases hz; cases hv; exact ⟨rfl, .int _ _⟩
  | 5, hz, hv => cases hz; cases hv; exact ⟨rfl, .int _ _⟩
  | 6, hz, hv => cases hz; cases hv; exact ⟨o6, h6⟩
theorem openFormT {v : Value} (hv : v.cells = #[v]) {d : DataW H} {p : List MemPlace} (hd : DataW.Trod enc Try.prog w 0 sp held 22 v d p) : ∃ f, ReadsForm w v f := by
  obtain ⟨n, hn⟩ := hd
  rw [hv] at hn
  obtain ⟨_, x, ⟨l, rfl, hl⟩, _, h3⟩ := opensE_slice Try.underlying22 (by kernel_rfl) (by decide) opensNode n v _ hn
  obtain ⟨q, rfl, hq⟩ := allMap hl
  exact ⟨q, hq, h3⟩
end
end Go.Proofs.Ytfhncnhkeodngaa
namespace Go.Proofs.Ytfhncnhkeodngaa
open Go.ChangeShapes Go.WideShapes Go.ChangeAt Go.RowKit Go.Joins Go.Deep

section
variable {H : Type} {enc : TypeId × Value → H} {w : World} {sp : Nat → Bool} {held : Bool}
end
end Go.Proofs.Ytfhncnhkeodngaa
namespace Go.Proofs.Ytfhncnhkeodngaa
open Go.ChangeShapes Go.WideShapes Go.ChangeAt Go.RowKit Go.Joins Go.Deep

section
variable {H : Type} {enc : TypeId × Value → H} {w : World} {sp : Nat → Bool} {held : Bool}
end
end Go.Proofs.Ytfhncnhkeodngaa
namespace Go.Proofs.Ytfhncnhkeodngaa
open Go.ChangeShapes Go.WideShapes Go.ChangeAt Go.RowKit Go.Joins Go.Deep

section
variable {H : Type} {enc : TypeId × Value → H} {w : World} {sp : Nat → Bool} {held : Bool}
def tOuts (ws : List GOut) : T := .list (ws.map tOut)
def ReadsOuts (w : World) (v : Value) (ws : List GOut) : Prop := RepT (· < w.heap.size) w (tOuts ws) v
theorem three {α : Type} {cs : List α} (h : cs.length = 3) : ∃ c0 c1 c2, cs = [c0, c1, c2] := by
  match cs, h with
  | [c0, c1, c2], _ => exact ⟨c0, c1, c2, rfl⟩
set_option maxRecDepth 100000 in
theorem opensOut : OpensE enc w sp held 39 3 fun x => ∃ o, x = tOut o ∧ True := by
  intro fuel cs y hlen h
  obtain ⟨xs, k, _, _, _, hxl, hf⟩ := DataW.trod_struct Try.underlying39 h
  obtain ⟨c0, c1, c2, rfl⟩ := three hlen
  obtain ⟨y0, y1, y2, rfl⟩ := three hxl
  have ci : Try.prog.cellsOf 3 = 1 := by kernel_rfl
  have cl : Try.prog.cellsOf 24 = 1 := by kernel_rfl
  have cll : Try.prog.cellsOf 37 = 1 := by kernel_rfl
  have t0 : DataW.trod enc Try.prog w 0 sp held k 3 (([c0, c1, c2].drop 0).take (Try.prog.cellsOf 3)) = [y0, y1, y2][0]? := hf 0 _ rfl
  rw [ci] at t0
  have g0 : DataW.trod enc Try.prog w 0 sp held k 3 [c0] = some y0 := t0
  have t1 : DataW.trod enc Try.prog w 0 sp held k 37 (([c0, c1, c2].drop 1).take (Try.prog.cellsOf 37)) = [y0, y1, y2][1]? := hf 1 _ rfl
  rw [cll] at t1
  have g1 : DataW.trod enc Try.prog w 0 sp held k 37 [c1] = some y1 := t1
  have t2 : DataW.trod enc Try.prog w 0 sp held k 24 (([c0, c1, c2].drop 2).take (Try.prog.cellsOf 24)) = [y0, y1, y2][2]? := hf 2 _ rfl
  rw [cl] at t2
  have g2 : DataW.trod enc Try.prog w 0 sp held k 24 [c2] = some y2 := t2
  obtain ⟨a0, rfl, i0⟩ := opens_int Try.underlying3 _ _ _ g0
  obtain ⟨o1, x1, ⟨a1, rfl, i1⟩, _, h1⟩ := opensIntssT _ _ _ g1
  obtain ⟨o2, x2, ⟨a2, rfl, i2⟩, _, h2⟩ := opensIntsT _ _ _ g2
  refine ⟨_, ⟨⟨a0, a1, a2⟩, rfl, trivial⟩, rfl, fun k z v hz hv => ?_⟩
  match k, hz, hv with
  | 0, hz, hv => cases hz; cases hv; exact ⟨rfl, .int _ _⟩
  | 1, hz, hv => cases hz; cases hv; exact ⟨o1, h1⟩
  | 2, hz, hv => cases hz; cases hv; exact ⟨o2, h2⟩
theorem openOutsT {v : Value} (hv : v.cells = #[v]) {d : DataW H} {p : List MemPlace} (hd : DataW.Trod enc Try.prog w 0 sp held 23 v d p) : ∃ ws, ReadsOuts w v ws := by
  obtain ⟨n, hn⟩ := hd
  rw [hv] at hn
  obtain ⟨_, x, ⟨l, rfl, hl⟩, _, h3⟩ := opensE_slice Try.underlying23 (by kernel_rfl) (by decide) opensOut n v _ hn
  obtain ⟨q, rfl, hq⟩ := allMap (Q := fun _ => True) hl
  exact ⟨q, h3⟩
end
end Go.Proofs.Ytfhncnhkeodngaa
